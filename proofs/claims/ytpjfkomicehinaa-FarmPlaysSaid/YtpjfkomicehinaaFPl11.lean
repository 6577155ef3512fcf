/- What the row of farmPlays_holds needs: part 11. -/
import Derived.Test.YtpjfkomicehinaaFPl10
/- Law 20: what the reference tells; lists compared. -/
namespace Go.Proofs.Ytpjfkomicehinaa
theorem neSI {a : Int} : Value.bool (!decide (a = a)) = .bool false := by simp
theorem neSA {a : Adr} : Value.bool (!decide (a = a)) = .bool false := by simp
theorem neSB {a : Bk} : Value.bool (!decide (a = a)) = .bool false := by simp
theorem neSS {a : Int × Int} : Value.bool (!decide (a = a)) = .bool false := by simp
theorem adc_ok (a : Adr) : FOk (adc a) := .one1 rfl (.bytes a.len .nil)
theorem intsV_at {l : List Int} {i : Nat} {x : Int} (h : l[i]? = some x) : (intsV l)[i]? = some (.int .i64 x) := by unfold intsV; rw [List.getElem?_map, h]; rfl
theorem doorS_at {L : List SX} {i : Nat} {f : SX} {d : Dr} (hf : L[i]? = some f) (hd : f.s.door = d) (hno : ∀ j g, j < i → L[j]? = some g → g.s.door ≠ d) : doorS (L.map SX.sb) d = some f.sb := by
  unfold doorS
  obtain ⟨hl, he⟩ := List.getElem?_eq_some_iff.1 hf
  rw [List.find?_eq_some_iff_getElem]
  refine ⟨by simpa using hd, i, by rw [List.length_map]; exact hl, by rw [List.getElem_map, he], fun j hj => ?_⟩
  have := hno j (L[j]'(by omega)) hj (List.getElem?_eq_getElem (by omega))
  rw [List.getElem_map]
  simpa using this
theorem doorS_no {L : List SX} {d : Dr} (hno : ∀ (j : Nat) g, L[j]? = some g → g.s.door ≠ d) : doorS (L.map SX.sb) d = none := by
  unfold doorS
  rw [List.find?_eq_none]
  intro y hy
  obtain ⟨x, hx, rfl⟩ := List.mem_map.1 hy
  obtain ⟨j, hj⟩ := List.getElem?_of_mem hx
  simpa using hno j x hj
def matchR (L : List Sb) (d : Dr) : Int := match doorS L d with | some y => y.s.id | none => -1
open Go.RowKit
set_option linter.unusedSimpArgs false
set_option linter.unusedVariables false
set_option maxRecDepth 20000
set_option maxHeartbeats 4000000
attribute [local irreducible] WPc WPl WPq ReadR OpT BinR HasS bx rdN rowN Take Takes Prov Triple ResF BuildP Done ag Int.decLt Int.decLe Int.instDecidableEq
theorem BinR.adN {a b : Adr} : BinR Try.prog .neq 30 (ag (adc a)) (ag (adc b)) (.bool (!decide (a = b))) := by
  have l1 := a.len
  have l2 := b.len
  rw [← ad_eqb]
  exact BinR.neqA eqcA
theorem bk_eqb (a b : Bk) : (decide (a.id = b.id) && (a.ad.six == b.ad.six && (decide (a.ad.b = b.ad.b) && (decide ((a.port : Int) = (b.port : Int)) && (decide (a.wt = b.wt) && (a.dr == b.dr && true)))))) = decide (a = b) := by
  rw [Bool.eq_iff_iff]
  simp only [Bool.and_true, Bool.and_eq_true, beq_iff_eq, decide_eq_true_eq]
  constructor
  · rintro ⟨h1, h2, h3, h4, h5, h6⟩
    have h7 := Adr.ext h2 h3
    have h8 : a.port = b.port := by omega
    cases a; cases b
    dsimp only at h1 h7 h8 h5 h6
    subst h1 h7 h8 h5 h6
    rfl
  · rintro rfl; exact ⟨rfl, rfl, rfl, rfl, rfl, rfl⟩
theorem BinR.bkE {a b : Bk} : BinR Try.prog .eql 36 (ag (bkC a)) (ag (bkC b)) (.bool (decide (a = b))) := by
  have l1 := a.ad.len
  have l2 := b.ad.len
  rw [← bk_eqb]
  exact BinR.eqlA eqcA
theorem BinR.bkN {a b : Bk} : BinR Try.prog .neq 36 (ag (bkC a)) (ag (bkC b)) (.bool (!decide (a = b))) := by
  have l1 := a.ad.len
  have l2 := b.ad.len
  rw [← bk_eqb]
  exact BinR.neqA eqcA
theorem shr_eqb (a b : Int × Int) : (decide (a.1 = b.1) && (decide (a.2 = b.2) && true)) = decide (a = b) := by
  rw [Bool.eq_iff_iff]
  simp only [Bool.and_true, Bool.and_eq_true, decide_eq_true_eq]
  exact ⟨fun h => Prod.ext h.1 h.2, fun h => by rw [h]; exact ⟨rfl, rfl⟩⟩
theorem BinR.shareN {a b : Int × Int} : BinR Try.prog .neq 79 (ag (shrC a)) (ag (shrC b)) (.bool (!decide (a = b))) := by
  rw [← shr_eqb]
  exact BinR.neqA eqcA
attribute [local irreducible] mp rmp rg rgo mput mget mfind mdel gbag bks ies svs lbB hasB findS doorS mpe intsV shrs sharesB
/-! ### What is alike -/
theorem rsame_t (s : Sh) (va vb : Value) (ha : va.oneCell' = true) (hb : vb.oneCell' = true) (l : List Bk) (hl : l.length ≤ 1000) : Triple Try.prog 38 #[ag (shC s va), ag (shC s vb)] [rdN va l.length (bks l), rdN vb l.length (bks l)] (RVal (.bool true)) := by
  have hfa := shC_ok (s := s) ha
  have hfb := shC_ok (s := s) hb
  have hal := s.ad.len
  have hL := bks_len (l := l)
  refine Triple.enter Try.func38 rfl Try.ntmps38 rfl (fun W => ?_)
  dsimp only [argsF, Nat.reduceAdd]
  repeat' (first
   | refine WPl.nil ?_ | refine WPq.then ?_ | refine WPq.thenR ?_ | refine WPq.thenE ?_ | refine WPq.blockN ?_ | refine WPq.blockR ?_ | refine WPq.blockE ?_ | refine WPq.blockO rfl ?_ | refine WPc.seq ?_ | refine WPc.block ?_ | refine WPc.ret ?_ | refine WPc.exit ?_ | refine WPc.skip ?_ | refine WPc.region ?_
   | (refine isCond ?_; first | refine WPc.cT ?_ | refine WPc.cF ?_ | (refine WPc.cQ (fun hc => ?_) (fun hc => ?_) <;> try first | exact prA | (exfalso; first | omega)))
   | (refine isD 2 ?_; first | (refine isAl ?_; refine WPl.nw fun g2 => ?_) | (refine isBx ?_; refine WPl.nw fun g2 => ?_))
   | (refine isD 3 ?_; first | (refine isAl ?_; refine WPl.nw fun g3 => ?_) | (refine isBx ?_; refine WPl.nw fun g3 => ?_))
   | (refine isD 10 ?_; refine WPl.rdX (ReadR.binE rfl rfl BinR.neq neSI) ?_)
   | (refine isD 16 ?_; refine WPl.rdX (ReadR.binE rfl rfl BinR.adN neSA) ?_)
   | (refine isD 23 ?_; refine WPl.rdX (ReadR.binE rfl rfl BinR.neq neSI) ?_)
   | (refine isD 30 ?_; refine WPl.rdX (ReadR.binE rfl rfl BinR.neq neSI) ?_)
   | (refine isD 37 ?_; refine WPl.rdX (ReadR.binE rfl rfl BinR.neq neSI) ?_)
   | (refine isD 44 ?_; refine WPl.rdX (ReadR.binE rfl rfl BinR.neq neSI) ?_)
   | (refine isD 53 ?_; refine WPl.rdX (ReadR.binE rfl rfl BinR.neq neSI) ?_)
   | (refine isOp ?_; first | refine WPl.rd ?_ | refine WPl.sk ?_ | refine WPl.rdB ?_)
   | (refine isBx ?_; refine WPl.nw fun g => ?_)
   | (show WPl _ _ _ _ _ _ _ (⟨_, .indexAddr _ _ _, _, _, _, _⟩ :: _) _; refine WPl.rdX (ReadR.indexE rfl rfl hasA (by first | assumption | omega)) ?_)
   | (show WPl _ _ _ _ _ _ _ (⟨_, .fieldAddr _ _ _, _, _, _, _⟩ :: _) _; refine WPl.rdX (ReadR.fieldE rfl hasA (by first | assumption | omega)) ?_)
   | (show WPl _ _ _ _ _ _ _ (⟨_, .load _ _, _, _, _, _⟩ :: _) _; first | refine WPl.rdX (ReadR.loadE rfl hasA (by assumption)) ?_ | refine WPl.rdX (ReadR.loadES (by assumption) (by first | assumption | omega) rfl hasA) ?_)
   | (show WPl _ _ _ _ _ _ _ (⟨_, .slice _ _ _ _ _, _, _, _, _⟩ :: _) _; first | refine WPl.rdX (ReadR.sliceH rfl rfl hasA (by omega)) ?_ | refine WPl.rdX (ReadR.sliceL rfl rfl hasA (by omega)) ?_ | refine WPl.rdX (ReadR.sliceLH rfl rfl rfl hasA (by omega) (by omega)) ?_)
   | (refine WPl.spQ (fun hc => ?_) (fun hc => ?_) <;> try first | exact prA | (exfalso; first | omega))
   | fail)
  first | refine WPc.loop (σ := Nat) (fun st => st ≤ l.length) (fun st => [bx g2 33 (shC s va), bx g3 33 (shC s vb), rdN va l.length (bks l), rdN vb l.length (bks l)]) (fun st => [(2, hF g2), (3, hF g3), (5, .int .i64 (st : Int))]) (fun st => l.length - st) (0) ?_ takesA frsA (fun st km hx hk => ?_)
  · exact Nat.zero_le _
  obtain ⟨i, rfl⟩ : ∃ i, i = st := ⟨_, rfl⟩
  have hkm : km = l.length - i := hk
  clear hk
  by_cases hlt : i < l.length
  · obtain ⟨f, hf⟩ : ∃ f, l[i]? = some f := ⟨_, List.getElem?_eq_getElem hlt⟩
    have hlt' : (i : Int) < (l.length : Int) := by omega
    have hfc := bks_at hf
    have hfl := f.ad.len
    repeat' (first
     | refine WPl.nil ?_ | refine WPq.then ?_ | refine WPq.thenR ?_ | refine WPq.thenE ?_ | refine WPq.blockN ?_ | refine WPq.blockR ?_ | refine WPq.blockE ?_ | refine WPq.blockO rfl ?_ | refine WPc.seq ?_ | refine WPc.block ?_ | refine WPc.ret ?_ | refine WPc.exit ?_ | refine WPc.skip ?_ | refine WPc.region ?_
     | (refine isReg 6 ?_; refine WPc.drA [([], [64, 67, 68, 69, 70, 71]), ([0], [62, 64, 67, 68, 69, 70, 71]), ([], [62, 63, 67, 68, 69, 70, 71]), ([0, 1, 2], [62, 63, 64, 67, 68, 69, 70, 71]), ([0, 1, 2, 3], [62, 63, 64, 65, 67, 68, 69, 70, 71]), ([], [62, 63, 64, 65, 66, 69]), ([5], [62, 63, 64, 65, 66, 67, 69]), ([], [62, 63, 64, 65, 66, 67, 68]), ([5, 6, 7], [62, 63, 64, 65, 66, 67, 68, 69]), ([5, 6, 7, 8], [62, 63, 64, 65, 66, 67, 68, 69, 70]), ([0, 1, 2, 3, 4, 5, 6, 7, 8, 9], [62, 63, 64, 65, 66, 67, 68, 69, 70, 71])] [] (Γx := []) ?_; dsimp only [prev0, List.length_nil, List.length_cons])
     | (refine gAny ?_; first | (refine gD 59 ?_; refine RGl.rdX (fun e hk => by (try dsimp only [bndR, ensR, oksR, fcutR, List.append_nil, List.nil_append, List.cons_append, List.append_assoc] at hk ⊢); exact ReadR.binE rfl rfl BinR.lss (congrArg Value.bool (decide_eq_true hlt'))) ?_) | (refine gD 65 ?_; refine RGl.rdX (fun e hk => by (try dsimp only [bndR, ensR, oksR, fcutR, List.append_nil, List.nil_append, List.cons_append, List.append_assoc] at hk ⊢); exact ReadR.indexE (i := i) rfl rfl hasA hlt) ?_) | (refine gD 66 ?_; refine RGl.rdX (fun e hk => by (try dsimp only [bndR, ensR, oksR, fcutR, List.append_nil, List.nil_append, List.cons_append, List.append_assoc] at hk ⊢); exact ReadR.loadES (cs := bkC f) hfc (by omega) rfl hasA) ?_) | (refine gD 70 ?_; refine RGl.rdX (fun e hk => by (try dsimp only [bndR, ensR, oksR, fcutR, List.append_nil, List.nil_append, List.cons_append, List.append_assoc] at hk ⊢); exact ReadR.indexE (i := i) rfl rfl hasA hlt) ?_) | (refine gD 71 ?_; refine RGl.rdX (fun e hk => by (try dsimp only [bndR, ensR, oksR, fcutR, List.append_nil, List.nil_append, List.cons_append, List.append_assoc] at hk ⊢); exact ReadR.loadES (cs := bkC f) hfc (by omega) rfl hasA) ?_) | (refine gD 72 ?_; refine RGl.rdX (fun e hk => by (try dsimp only [bndR, ensR, oksR, fcutR, List.append_nil, List.nil_append, List.cons_append, List.append_assoc] at hk ⊢); exact ReadR.binE rfl rfl BinR.bkN neSB) ?_) | (refine gOp ?_; first | refine RGl.rdA ?_ | refine RGl.rdX (fun e hk => by (try dsimp only [bndR, ensR, oksR, fcutR, List.append_nil, List.nil_append, List.cons_append, List.append_assoc] at hk ⊢); exact readB) ?_) | (refine RGl.fin (fun e hk => ?_); (try dsimp only [bndA, ensAR, oksA, List.append_nil, List.nil_append, List.cons_append, List.append_assoc] at hk ⊢); (repeat (obtain ⟨hk1, hk⟩ := hk))) | fail)
     | (refine isCond ?_; first | refine WPc.cT ?_ | refine WPc.cF ?_ | (refine WPc.cQ (fun hc => ?_) (fun hc => ?_) <;> try first | exact prA | (exfalso; first | omega)))
     | (refine isD 59 ?_; refine WPl.rdX (ReadR.binE rfl rfl BinR.lss (congrArg Value.bool (decide_eq_true hlt'))) ?_)
     | (refine isD 65 ?_; refine WPl.rdX (ReadR.indexE (i := i) rfl rfl hasA hlt) ?_)
     | (refine isD 66 ?_; refine WPl.rdX (ReadR.loadES (cs := bkC f) hfc (by omega) rfl hasA) ?_)
     | (refine isD 70 ?_; refine WPl.rdX (ReadR.indexE (i := i) rfl rfl hasA hlt) ?_)
     | (refine isD 71 ?_; refine WPl.rdX (ReadR.loadES (cs := bkC f) hfc (by omega) rfl hasA) ?_)
     | (refine isD 72 ?_; refine WPl.rdX (ReadR.binE rfl rfl BinR.bkN neSB) ?_)
     | (refine isOp ?_; first | refine WPl.rd ?_ | refine WPl.sk ?_ | refine WPl.rdB ?_)
     | (refine isBx ?_; refine WPl.nw fun g => ?_)
     | (show WPl _ _ _ _ _ _ _ (⟨_, .indexAddr _ _ _, _, _, _, _⟩ :: _) _; refine WPl.rdX (ReadR.indexE rfl rfl hasA (by first | assumption | omega)) ?_)
     | (show WPl _ _ _ _ _ _ _ (⟨_, .fieldAddr _ _ _, _, _, _, _⟩ :: _) _; refine WPl.rdX (ReadR.fieldE rfl hasA (by first | assumption | omega)) ?_)
     | (show WPl _ _ _ _ _ _ _ (⟨_, .load _ _, _, _, _, _⟩ :: _) _; first | refine WPl.rdX (ReadR.loadE rfl hasA (by assumption)) ?_ | refine WPl.rdX (ReadR.loadES (by assumption) (by first | assumption | omega) rfl hasA) ?_)
     | (show WPl _ _ _ _ _ _ _ (⟨_, .slice _ _ _ _ _, _, _, _, _⟩ :: _) _; first | refine WPl.rdX (ReadR.sliceH rfl rfl hasA (by omega)) ?_ | refine WPl.rdX (ReadR.sliceL rfl rfl hasA (by omega)) ?_ | refine WPl.rdX (ReadR.sliceLH rfl rfl rfl hasA (by omega) (by omega)) ?_)
     | (refine WPl.spQ (fun hc => ?_) (fun hc => ?_) <;> try first | exact prA | (exfalso; first | omega))
     | fail)
    exact WPq.rnd (i + 1) (by omega) (by omega)
  · have hlt' : ¬ (i : Int) < (l.length : Int) := by omega
    repeat' (first
     | refine WPl.nil ?_ | refine WPq.then ?_ | refine WPq.thenR ?_ | refine WPq.thenE ?_ | refine WPq.blockN ?_ | refine WPq.blockR ?_ | refine WPq.blockE ?_ | refine WPq.blockO rfl ?_ | refine WPc.seq ?_ | refine WPc.block ?_ | refine WPc.ret ?_ | refine WPc.exit ?_ | refine WPc.skip ?_ | refine WPc.region ?_
     | (refine isCond ?_; first | refine WPc.cT ?_ | refine WPc.cF ?_ | (refine WPc.cQ (fun hc => ?_) (fun hc => ?_) <;> try first | exact prA | (exfalso; first | omega)))
     | (refine isD 59 ?_; refine WPl.rdX (ReadR.binE rfl rfl BinR.lss (congrArg Value.bool (decide_eq_false hlt'))) ?_)
     | (refine isOp ?_; first | refine WPl.rd ?_ | refine WPl.sk ?_ | refine WPl.rdB ?_)
     | (refine isBx ?_; refine WPl.nw fun g => ?_)
     | (show WPl _ _ _ _ _ _ _ (⟨_, .indexAddr _ _ _, _, _, _, _⟩ :: _) _; refine WPl.rdX (ReadR.indexE rfl rfl hasA (by first | assumption | omega)) ?_)
     | (show WPl _ _ _ _ _ _ _ (⟨_, .fieldAddr _ _ _, _, _, _, _⟩ :: _) _; refine WPl.rdX (ReadR.fieldE rfl hasA (by first | assumption | omega)) ?_)
     | (show WPl _ _ _ _ _ _ _ (⟨_, .load _ _, _, _, _, _⟩ :: _) _; first | refine WPl.rdX (ReadR.loadE rfl hasA (by assumption)) ?_ | refine WPl.rdX (ReadR.loadES (by assumption) (by first | assumption | omega) rfl hasA) ?_)
     | (show WPl _ _ _ _ _ _ _ (⟨_, .slice _ _ _ _ _, _, _, _, _⟩ :: _) _; first | refine WPl.rdX (ReadR.sliceH rfl rfl hasA (by omega)) ?_ | refine WPl.rdX (ReadR.sliceL rfl rfl hasA (by omega)) ?_ | refine WPl.rdX (ReadR.sliceLH rfl rfl rfl hasA (by omega) (by omega)) ?_)
     | (refine WPl.spQ (fun hc => ?_) (fun hc => ?_) <;> try first | exact prA | (exfalso; first | omega))
     | fail)
    exact WPq.dV
theorem rshared_t (va vb : Value) (l : List (Int × Int)) (hl : l.length ≤ 1000) : Triple Try.prog 43 #[va, vb] [rdN va l.length (shrs l), rdN vb l.length (shrs l)] (RVal (.bool true)) := by
  have hL := shrs_len (l := l)
  refine Triple.enter Try.func43 rfl Try.ntmps43 rfl (fun W => ?_)
  dsimp only [argsF, Nat.reduceAdd]
  repeat' (first
   | refine WPl.nil ?_ | refine WPq.then ?_ | refine WPq.thenR ?_ | refine WPq.thenE ?_ | refine WPq.blockN ?_ | refine WPq.blockR ?_ | refine WPq.blockE ?_ | refine WPq.blockO rfl ?_ | refine WPc.seq ?_ | refine WPc.block ?_ | refine WPc.ret ?_ | refine WPc.exit ?_ | refine WPc.skip ?_ | refine WPc.region ?_
   | (refine isCond ?_; first | refine WPc.cT ?_ | refine WPc.cF ?_ | (refine WPc.cQ (fun hc => ?_) (fun hc => ?_) <;> try first | exact prA | (exfalso; first | omega)))
   | (refine isD 10 ?_; refine WPl.rdX (ReadR.binE rfl rfl BinR.neq neSI) ?_)
   | (refine isOp ?_; first | refine WPl.rd ?_ | refine WPl.sk ?_ | refine WPl.rdB ?_)
   | (show WPl _ _ _ _ _ _ _ (⟨_, .indexAddr _ _ _, _, _, _, _⟩ :: _) _; refine WPl.rdX (ReadR.indexE rfl rfl hasA (by first | assumption | omega)) ?_)
   | (show WPl _ _ _ _ _ _ _ (⟨_, .fieldAddr _ _ _, _, _, _, _⟩ :: _) _; refine WPl.rdX (ReadR.fieldE rfl hasA (by first | assumption | omega)) ?_)
   | (show WPl _ _ _ _ _ _ _ (⟨_, .load _ _, _, _, _, _⟩ :: _) _; first | refine WPl.rdX (ReadR.loadE rfl hasA (by assumption)) ?_ | refine WPl.rdX (ReadR.loadES (by assumption) (by first | assumption | omega) rfl hasA) ?_)
   | (show WPl _ _ _ _ _ _ _ (⟨_, .slice _ _ _ _ _, _, _, _, _⟩ :: _) _; first | refine WPl.rdX (ReadR.sliceH rfl rfl hasA (by omega)) ?_ | refine WPl.rdX (ReadR.sliceL rfl rfl hasA (by omega)) ?_ | refine WPl.rdX (ReadR.sliceLH rfl rfl rfl hasA (by omega) (by omega)) ?_)
   | (refine WPl.spQ (fun hc => ?_) (fun hc => ?_) <;> try first | exact prA | (exfalso; first | omega))
   | fail)
  first | refine WPc.loop (σ := Nat) (fun st => st ≤ l.length) (fun st => [rdN va l.length (shrs l), rdN vb l.length (shrs l)]) (fun st => [(0, va), (1, vb), (5, .int .i64 (st : Int))]) (fun st => l.length - st) (0) ?_ takesA frsA (fun st km hx hk => ?_)
  · exact Nat.zero_le _
  obtain ⟨i, rfl⟩ : ∃ i, i = st := ⟨_, rfl⟩
  have hkm : km = l.length - i := hk
  clear hk
  by_cases hlt : i < l.length
  · obtain ⟨f, hf⟩ : ∃ f, l[i]? = some f := ⟨_, List.getElem?_eq_getElem hlt⟩
    have hlt' : (i : Int) < (l.length : Int) := by omega
    have hfc := shrs_at hf
    repeat' (first
     | refine WPl.nil ?_ | refine WPq.then ?_ | refine WPq.thenR ?_ | refine WPq.thenE ?_ | refine WPq.blockN ?_ | refine WPq.blockR ?_ | refine WPq.blockE ?_ | refine WPq.blockO rfl ?_ | refine WPc.seq ?_ | refine WPc.block ?_ | refine WPc.ret ?_ | refine WPc.exit ?_ | refine WPc.skip ?_ | refine WPc.region ?_
     | (refine isReg 6 ?_; refine WPc.drA [([], [18, 21, 22, 23, 24]), ([], [17, 21, 22, 23, 24]), ([0, 1], [17, 18, 21, 22, 23, 24]), ([0, 1, 2], [17, 18, 19, 21, 22, 23, 24]), ([], [17, 18, 19, 20, 22]), ([], [17, 18, 19, 20, 21]), ([4, 5], [17, 18, 19, 20, 21, 22]), ([4, 5, 6], [17, 18, 19, 20, 21, 22, 23]), ([0, 1, 2, 3, 4, 5, 6, 7], [17, 18, 19, 20, 21, 22, 23, 24])] [] (Γx := []) ?_; dsimp only [prev0, List.length_nil, List.length_cons])
     | (refine gAny ?_; first | (refine gD 14 ?_; refine RGl.rdX (fun e hk => by (try dsimp only [bndR, ensR, oksR, fcutR, List.append_nil, List.nil_append, List.cons_append, List.append_assoc] at hk ⊢); exact ReadR.binE rfl rfl BinR.lss (congrArg Value.bool (decide_eq_true hlt'))) ?_) | (refine gD 19 ?_; refine RGl.rdX (fun e hk => by (try dsimp only [bndR, ensR, oksR, fcutR, List.append_nil, List.nil_append, List.cons_append, List.append_assoc] at hk ⊢); exact ReadR.indexE (i := i) rfl rfl hasA hlt) ?_) | (refine gD 20 ?_; refine RGl.rdX (fun e hk => by (try dsimp only [bndR, ensR, oksR, fcutR, List.append_nil, List.nil_append, List.cons_append, List.append_assoc] at hk ⊢); exact ReadR.loadES (cs := shrC f) hfc (by omega) rfl hasA) ?_) | (refine gD 23 ?_; refine RGl.rdX (fun e hk => by (try dsimp only [bndR, ensR, oksR, fcutR, List.append_nil, List.nil_append, List.cons_append, List.append_assoc] at hk ⊢); exact ReadR.indexE (i := i) rfl rfl hasA hlt) ?_) | (refine gD 24 ?_; refine RGl.rdX (fun e hk => by (try dsimp only [bndR, ensR, oksR, fcutR, List.append_nil, List.nil_append, List.cons_append, List.append_assoc] at hk ⊢); exact ReadR.loadES (cs := shrC f) hfc (by omega) rfl hasA) ?_) | (refine gD 25 ?_; refine RGl.rdX (fun e hk => by (try dsimp only [bndR, ensR, oksR, fcutR, List.append_nil, List.nil_append, List.cons_append, List.append_assoc] at hk ⊢); exact ReadR.binE rfl rfl BinR.shareN neSS) ?_) | (refine gOp ?_; first | refine RGl.rdA ?_ | refine RGl.rdX (fun e hk => by (try dsimp only [bndR, ensR, oksR, fcutR, List.append_nil, List.nil_append, List.cons_append, List.append_assoc] at hk ⊢); exact readB) ?_) | (refine RGl.fin (fun e hk => ?_); (try dsimp only [bndA, ensAR, oksA, List.append_nil, List.nil_append, List.cons_append, List.append_assoc] at hk ⊢); (repeat (obtain ⟨hk1, hk⟩ := hk))) | fail)
     | (refine isCond ?_; first | refine WPc.cT ?_ | refine WPc.cF ?_ | (refine WPc.cQ (fun hc => ?_) (fun hc => ?_) <;> try first | exact prA | (exfalso; first | omega)))
     | (refine isD 14 ?_; refine WPl.rdX (ReadR.binE rfl rfl BinR.lss (congrArg Value.bool (decide_eq_true hlt'))) ?_)
     | (refine isD 19 ?_; refine WPl.rdX (ReadR.indexE (i := i) rfl rfl hasA hlt) ?_)
     | (refine isD 20 ?_; refine WPl.rdX (ReadR.loadES (cs := shrC f) hfc (by omega) rfl hasA) ?_)
     | (refine isD 23 ?_; refine WPl.rdX (ReadR.indexE (i := i) rfl rfl hasA hlt) ?_)
     | (refine isD 24 ?_; refine WPl.rdX (ReadR.loadES (cs := shrC f) hfc (by omega) rfl hasA) ?_)
     | (refine isD 25 ?_; refine WPl.rdX (ReadR.binE rfl rfl BinR.shareN neSS) ?_)
     | (refine isOp ?_; first | refine WPl.rd ?_ | refine WPl.sk ?_ | refine WPl.rdB ?_)
     | (show WPl _ _ _ _ _ _ _ (⟨_, .indexAddr _ _ _, _, _, _, _⟩ :: _) _; refine WPl.rdX (ReadR.indexE rfl rfl hasA (by first | assumption | omega)) ?_)
     | (show WPl _ _ _ _ _ _ _ (⟨_, .fieldAddr _ _ _, _, _, _, _⟩ :: _) _; refine WPl.rdX (ReadR.fieldE rfl hasA (by first | assumption | omega)) ?_)
     | (show WPl _ _ _ _ _ _ _ (⟨_, .load _ _, _, _, _, _⟩ :: _) _; first | refine WPl.rdX (ReadR.loadE rfl hasA (by assumption)) ?_ | refine WPl.rdX (ReadR.loadES (by assumption) (by first | assumption | omega) rfl hasA) ?_)
     | (show WPl _ _ _ _ _ _ _ (⟨_, .slice _ _ _ _ _, _, _, _, _⟩ :: _) _; first | refine WPl.rdX (ReadR.sliceH rfl rfl hasA (by omega)) ?_ | refine WPl.rdX (ReadR.sliceL rfl rfl hasA (by omega)) ?_ | refine WPl.rdX (ReadR.sliceLH rfl rfl rfl hasA (by omega) (by omega)) ?_)
     | (refine WPl.spQ (fun hc => ?_) (fun hc => ?_) <;> try first | exact prA | (exfalso; first | omega))
     | fail)
    exact WPq.rnd (i + 1) (by omega) (by omega)
  · have hlt' : ¬ (i : Int) < (l.length : Int) := by omega
    repeat' (first
     | refine WPl.nil ?_ | refine WPq.then ?_ | refine WPq.thenR ?_ | refine WPq.thenE ?_ | refine WPq.blockN ?_ | refine WPq.blockR ?_ | refine WPq.blockE ?_ | refine WPq.blockO rfl ?_ | refine WPc.seq ?_ | refine WPc.block ?_ | refine WPc.ret ?_ | refine WPc.exit ?_ | refine WPc.skip ?_ | refine WPc.region ?_
     | (refine isCond ?_; first | refine WPc.cT ?_ | refine WPc.cF ?_ | (refine WPc.cQ (fun hc => ?_) (fun hc => ?_) <;> try first | exact prA | (exfalso; first | omega)))
     | (refine isD 14 ?_; refine WPl.rdX (ReadR.binE rfl rfl BinR.lss (congrArg Value.bool (decide_eq_false hlt'))) ?_)
     | (refine isOp ?_; first | refine WPl.rd ?_ | refine WPl.sk ?_ | refine WPl.rdB ?_)
     | (show WPl _ _ _ _ _ _ _ (⟨_, .indexAddr _ _ _, _, _, _, _⟩ :: _) _; refine WPl.rdX (ReadR.indexE rfl rfl hasA (by first | assumption | omega)) ?_)
     | (show WPl _ _ _ _ _ _ _ (⟨_, .fieldAddr _ _ _, _, _, _, _⟩ :: _) _; refine WPl.rdX (ReadR.fieldE rfl hasA (by first | assumption | omega)) ?_)
     | (show WPl _ _ _ _ _ _ _ (⟨_, .load _ _, _, _, _, _⟩ :: _) _; first | refine WPl.rdX (ReadR.loadE rfl hasA (by assumption)) ?_ | refine WPl.rdX (ReadR.loadES (by assumption) (by first | assumption | omega) rfl hasA) ?_)
     | (show WPl _ _ _ _ _ _ _ (⟨_, .slice _ _ _ _ _, _, _, _, _⟩ :: _) _; first | refine WPl.rdX (ReadR.sliceH rfl rfl hasA (by omega)) ?_ | refine WPl.rdX (ReadR.sliceL rfl rfl hasA (by omega)) ?_ | refine WPl.rdX (ReadR.sliceLH rfl rfl rfl hasA (by omega) (by omega)) ?_)
     | (refine WPl.spQ (fun hc => ?_) (fun hc => ?_) <;> try first | exact prA | (exfalso; first | omega))
     | fail)
    exact WPq.dV
theorem rints_t (va vb : Value) (l : List Int) (hl : l.length ≤ 1000) : Triple Try.prog 42 #[va, vb] [rdN va l.length (intsV l), rdN vb l.length (intsV l)] (RVal (.bool true)) := by
  have hL : (intsV l).length = l.length := by with_unfolding_all simp [intsV]
  refine Triple.enter Try.func42 rfl Try.ntmps42 rfl (fun W => ?_)
  dsimp only [argsF, Nat.reduceAdd]
  repeat' (first
   | refine WPl.nil ?_ | refine WPq.then ?_ | refine WPq.thenR ?_ | refine WPq.thenE ?_ | refine WPq.blockN ?_ | refine WPq.blockR ?_ | refine WPq.blockE ?_ | refine WPq.blockO rfl ?_ | refine WPc.seq ?_ | refine WPc.block ?_ | refine WPc.ret ?_ | refine WPc.exit ?_ | refine WPc.skip ?_ | refine WPc.region ?_
   | (refine isCond ?_; first | refine WPc.cT ?_ | refine WPc.cF ?_ | (refine WPc.cQ (fun hc => ?_) (fun hc => ?_) <;> try first | exact prA | (exfalso; first | omega)))
   | (refine isD 10 ?_; refine WPl.rdX (ReadR.binE rfl rfl BinR.neq neSI) ?_)
   | (refine isOp ?_; first | refine WPl.rd ?_ | refine WPl.sk ?_ | refine WPl.rdB ?_)
   | (show WPl _ _ _ _ _ _ _ (⟨_, .indexAddr _ _ _, _, _, _, _⟩ :: _) _; refine WPl.rdX (ReadR.indexE rfl rfl hasA (by first | assumption | omega)) ?_)
   | (show WPl _ _ _ _ _ _ _ (⟨_, .fieldAddr _ _ _, _, _, _, _⟩ :: _) _; refine WPl.rdX (ReadR.fieldE rfl hasA (by first | assumption | omega)) ?_)
   | (show WPl _ _ _ _ _ _ _ (⟨_, .load _ _, _, _, _, _⟩ :: _) _; first | refine WPl.rdX (ReadR.loadE rfl hasA (by assumption)) ?_ | refine WPl.rdX (ReadR.loadES (by assumption) (by first | assumption | omega) rfl hasA) ?_)
   | (show WPl _ _ _ _ _ _ _ (⟨_, .slice _ _ _ _ _, _, _, _, _⟩ :: _) _; first | refine WPl.rdX (ReadR.sliceH rfl rfl hasA (by omega)) ?_ | refine WPl.rdX (ReadR.sliceL rfl rfl hasA (by omega)) ?_ | refine WPl.rdX (ReadR.sliceLH rfl rfl rfl hasA (by omega) (by omega)) ?_)
   | (refine WPl.spQ (fun hc => ?_) (fun hc => ?_) <;> try first | exact prA | (exfalso; first | omega))
   | fail)
  first | refine WPc.loop (σ := Nat) (fun st => st ≤ l.length) (fun st => [rdN va l.length (intsV l), rdN vb l.length (intsV l)]) (fun st => [(0, va), (1, vb), (5, .int .i64 (st : Int))]) (fun st => l.length - st) (0) ?_ takesA frsA (fun st km hx hk => ?_)
  · exact Nat.zero_le _
  obtain ⟨i, rfl⟩ : ∃ i, i = st := ⟨_, rfl⟩
  have hkm : km = l.length - i := hk
  clear hk
  by_cases hlt : i < l.length
  · obtain ⟨f, hf⟩ : ∃ f, l[i]? = some f := ⟨_, List.getElem?_eq_getElem hlt⟩
    have hlt' : (i : Int) < (l.length : Int) := by omega
    have hfc := intsV_at hf
    repeat' (first
     | refine WPl.nil ?_ | refine WPq.then ?_ | refine WPq.thenR ?_ | refine WPq.thenE ?_ | refine WPq.blockN ?_ | refine WPq.blockR ?_ | refine WPq.blockE ?_ | refine WPq.blockO rfl ?_ | refine WPc.seq ?_ | refine WPc.block ?_ | refine WPc.ret ?_ | refine WPc.exit ?_ | refine WPc.skip ?_ | refine WPc.region ?_
     | (refine isReg 6 ?_; refine WPc.drA [([], [18, 21, 22, 23, 24]), ([], [17, 21, 22, 23, 24]), ([0, 1], [17, 18, 21, 22, 23, 24]), ([0, 1, 2], [17, 18, 19, 21, 22, 23, 24]), ([], [17, 18, 19, 20, 22]), ([], [17, 18, 19, 20, 21]), ([4, 5], [17, 18, 19, 20, 21, 22]), ([4, 5, 6], [17, 18, 19, 20, 21, 22, 23]), ([0, 1, 2, 3, 4, 5, 6, 7], [17, 18, 19, 20, 21, 22, 23, 24])] [] (Γx := []) ?_; dsimp only [prev0, List.length_nil, List.length_cons])
     | (refine gAny ?_; first | (refine gD 14 ?_; refine RGl.rdX (fun e hk => by (try dsimp only [bndR, ensR, oksR, fcutR, List.append_nil, List.nil_append, List.cons_append, List.append_assoc] at hk ⊢); exact ReadR.binE rfl rfl BinR.lss (congrArg Value.bool (decide_eq_true hlt'))) ?_) | (refine gD 19 ?_; refine RGl.rdX (fun e hk => by (try dsimp only [bndR, ensR, oksR, fcutR, List.append_nil, List.nil_append, List.cons_append, List.append_assoc] at hk ⊢); exact ReadR.indexE1 (i := i) rfl rfl hasA hlt) ?_) | (refine gD 20 ?_; refine RGl.rdX (fun e hk => by (try dsimp only [bndR, ensR, oksR, fcutR, List.append_nil, List.nil_append, List.cons_append, List.append_assoc] at hk ⊢); exact ReadR.loadE rfl hasA hfc) ?_) | (refine gD 23 ?_; refine RGl.rdX (fun e hk => by (try dsimp only [bndR, ensR, oksR, fcutR, List.append_nil, List.nil_append, List.cons_append, List.append_assoc] at hk ⊢); exact ReadR.indexE1 (i := i) rfl rfl hasA hlt) ?_) | (refine gD 24 ?_; refine RGl.rdX (fun e hk => by (try dsimp only [bndR, ensR, oksR, fcutR, List.append_nil, List.nil_append, List.cons_append, List.append_assoc] at hk ⊢); exact ReadR.loadE rfl hasA hfc) ?_) | (refine gD 25 ?_; refine RGl.rdX (fun e hk => by (try dsimp only [bndR, ensR, oksR, fcutR, List.append_nil, List.nil_append, List.cons_append, List.append_assoc] at hk ⊢); exact ReadR.binE rfl rfl BinR.neq neSI) ?_) | (refine gOp ?_; first | refine RGl.rdA ?_ | refine RGl.rdX (fun e hk => by (try dsimp only [bndR, ensR, oksR, fcutR, List.append_nil, List.nil_append, List.cons_append, List.append_assoc] at hk ⊢); exact readB) ?_) | (refine RGl.fin (fun e hk => ?_); (try dsimp only [bndA, ensAR, oksA, List.append_nil, List.nil_append, List.cons_append, List.append_assoc] at hk ⊢); (repeat (obtain ⟨hk1, hk⟩ := hk))) | fail)
     | (refine isCond ?_; first | refine WPc.cT ?_ | refine WPc.cF ?_ | (refine WPc.cQ (fun hc => ?_) (fun hc => ?_) <;> try first | exact prA | (exfalso; first | omega)))
     | (refine isD 14 ?_; refine WPl.rdX (ReadR.binE rfl rfl BinR.lss (congrArg Value.bool (decide_eq_true hlt'))) ?_)
     | (refine isD 19 ?_; refine WPl.rdX (ReadR.indexE1 (i := i) rfl rfl hasA hlt) ?_)
     | (refine isD 20 ?_; refine WPl.rdX (ReadR.loadE rfl hasA hfc) ?_)
     | (refine isD 23 ?_; refine WPl.rdX (ReadR.indexE1 (i := i) rfl rfl hasA hlt) ?_)
     | (refine isD 24 ?_; refine WPl.rdX (ReadR.loadE rfl hasA hfc) ?_)
     | (refine isD 25 ?_; refine WPl.rdX (ReadR.binE rfl rfl BinR.neq neSI) ?_)
     | (refine isOp ?_; first | refine WPl.rd ?_ | refine WPl.sk ?_ | refine WPl.rdB ?_)
     | (show WPl _ _ _ _ _ _ _ (⟨_, .indexAddr _ _ _, _, _, _, _⟩ :: _) _; refine WPl.rdX (ReadR.indexE rfl rfl hasA (by first | assumption | omega)) ?_)
     | (show WPl _ _ _ _ _ _ _ (⟨_, .fieldAddr _ _ _, _, _, _, _⟩ :: _) _; refine WPl.rdX (ReadR.fieldE rfl hasA (by first | assumption | omega)) ?_)
     | (show WPl _ _ _ _ _ _ _ (⟨_, .load _ _, _, _, _, _⟩ :: _) _; first | refine WPl.rdX (ReadR.loadE rfl hasA (by assumption)) ?_ | refine WPl.rdX (ReadR.loadES (by assumption) (by first | assumption | omega) rfl hasA) ?_)
     | (show WPl _ _ _ _ _ _ _ (⟨_, .slice _ _ _ _ _, _, _, _, _⟩ :: _) _; first | refine WPl.rdX (ReadR.sliceH rfl rfl hasA (by omega)) ?_ | refine WPl.rdX (ReadR.sliceL rfl rfl hasA (by omega)) ?_ | refine WPl.rdX (ReadR.sliceLH rfl rfl rfl hasA (by omega) (by omega)) ?_)
     | (refine WPl.spQ (fun hc => ?_) (fun hc => ?_) <;> try first | exact prA | (exfalso; first | omega))
     | fail)
    exact WPq.rnd (i + 1) (by omega) (by omega)
  · have hlt' : ¬ (i : Int) < (l.length : Int) := by omega
    repeat' (first
     | refine WPl.nil ?_ | refine WPq.then ?_ | refine WPq.thenR ?_ | refine WPq.thenE ?_ | refine WPq.blockN ?_ | refine WPq.blockR ?_ | refine WPq.blockE ?_ | refine WPq.blockO rfl ?_ | refine WPc.seq ?_ | refine WPc.block ?_ | refine WPc.ret ?_ | refine WPc.exit ?_ | refine WPc.skip ?_ | refine WPc.region ?_
     | (refine isCond ?_; first | refine WPc.cT ?_ | refine WPc.cF ?_ | (refine WPc.cQ (fun hc => ?_) (fun hc => ?_) <;> try first | exact prA | (exfalso; first | omega)))
     | (refine isD 14 ?_; refine WPl.rdX (ReadR.binE rfl rfl BinR.lss (congrArg Value.bool (decide_eq_false hlt'))) ?_)
     | (refine isOp ?_; first | refine WPl.rd ?_ | refine WPl.sk ?_ | refine WPl.rdB ?_)
     | (show WPl _ _ _ _ _ _ _ (⟨_, .indexAddr _ _ _, _, _, _, _⟩ :: _) _; refine WPl.rdX (ReadR.indexE rfl rfl hasA (by first | assumption | omega)) ?_)
     | (show WPl _ _ _ _ _ _ _ (⟨_, .fieldAddr _ _ _, _, _, _, _⟩ :: _) _; refine WPl.rdX (ReadR.fieldE rfl hasA (by first | assumption | omega)) ?_)
     | (show WPl _ _ _ _ _ _ _ (⟨_, .load _ _, _, _, _, _⟩ :: _) _; first | refine WPl.rdX (ReadR.loadE rfl hasA (by assumption)) ?_ | refine WPl.rdX (ReadR.loadES (by assumption) (by first | assumption | omega) rfl hasA) ?_)
     | (show WPl _ _ _ _ _ _ _ (⟨_, .slice _ _ _ _ _, _, _, _, _⟩ :: _) _; first | refine WPl.rdX (ReadR.sliceH rfl rfl hasA (by omega)) ?_ | refine WPl.rdX (ReadR.sliceL rfl rfl hasA (by omega)) ?_ | refine WPl.rdX (ReadR.sliceLH rfl rfl rfl hasA (by omega) (by omega)) ?_)
     | (refine WPl.spQ (fun hc => ?_) (fun hc => ?_) <;> try first | exact prA | (exfalso; first | omega))
     | fail)
    exact WPq.dV
section
variable (gX : Nat) (vL : Value) (L : List SX) (hm : L.length ≤ 1000)
include hm
theorem rmatch_t (a : Adr) (port : Nat) (proto : UInt8) : Triple Try.prog 39 #[hF gX, ag (adc a), .int .u16 (port : Int), .int .u8 ((proto.toNat : Nat) : Int)] [rbx gX 49 (rfc vL), rdN vL L.length (svs L)] (RVal (.int .i64 (matchR (L.map SX.sb) ⟨a, port, proto⟩))) := by
  have hL := svs_len (l := L)
  have hfa := adc_ok a
  have hal := a.len
  refine Triple.enter Try.func39 rfl Try.ntmps39 rfl (fun W => ?_)
  dsimp only [argsF, Nat.reduceAdd]
  repeat' (first
   | refine WPl.nil ?_ | refine WPq.then ?_ | refine WPq.thenR ?_ | refine WPq.thenE ?_ | refine WPq.blockN ?_ | refine WPq.blockR ?_ | refine WPq.blockE ?_ | refine WPq.blockO rfl ?_ | refine WPc.seq ?_ | refine WPc.block ?_ | refine WPc.ret ?_ | refine WPc.exit ?_ | refine WPc.skip ?_ | refine WPc.region ?_
   | (refine isCond ?_; first | refine WPc.cT ?_ | refine WPc.cF ?_ | (refine WPc.cQ (fun hc => ?_) (fun hc => ?_) <;> try exact prA))
   | (refine isD 5 ?_; first | (refine isAl ?_; refine WPl.nw fun g5 => ?_) | (refine isBx ?_; refine WPl.nw fun g5 => ?_))
   | (refine isOp ?_; first | refine WPl.rd ?_ | refine WPl.sk ?_ | refine WPl.rdB ?_)
   | (refine isBx ?_; refine WPl.nw fun g => ?_)
   | (show WPl _ _ _ _ _ _ _ (⟨_, .indexAddr _ _ _, _, _, _, _⟩ :: _) _; refine WPl.rdX (ReadR.indexE rfl rfl hasA (by first | assumption | omega)) ?_)
   | (show WPl _ _ _ _ _ _ _ (⟨_, .fieldAddr _ _ _, _, _, _, _⟩ :: _) _; refine WPl.rdX (ReadR.fieldE rfl hasA (by first | assumption | omega)) ?_)
   | (show WPl _ _ _ _ _ _ _ (⟨_, .load _ _, _, _, _, _⟩ :: _) _; first | refine WPl.rdX (ReadR.loadE rfl hasA (by assumption)) ?_ | refine WPl.rdX (ReadR.loadES (by assumption) (by first | assumption | omega) rfl hasA) ?_)
   | (show WPl _ _ _ _ _ _ _ (⟨_, .slice _ _ _ _ _, _, _, _, _⟩ :: _) _; first | refine WPl.rdX (ReadR.sliceH rfl rfl hasA (by omega)) ?_ | refine WPl.rdX (ReadR.sliceL rfl rfl hasA (by omega)) ?_ | refine WPl.rdX (ReadR.sliceLH rfl rfl rfl hasA (by omega) (by omega)) ?_)
   | (refine WPl.spQ (fun hc => ?_) (fun hc => ?_) <;> try exact prA)
   | fail)
  first | refine WPc.loop (σ := Nat) (fun st => st ≤ L.length ∧ ∀ j f, j < st → L[j]? = some f → f.s.door ≠ ⟨a, port, proto⟩) (fun st => [bx g5 30 (adc a), rbx gX 49 (rfc vL), rdN vL L.length (svs L)]) (fun st => [(0, hF gX), (5, hF g5), (2, .int .u16 (port : Int)), (3, .int .u8 ((proto.toNat : Nat) : Int)), (9, .int .i64 (st : Int))]) (fun st => L.length - st) (0) ?_ takesA frsA (fun st km hx hk => ?_)
  · exact ⟨Nat.zero_le _, fun j f hj => absurd hj (Nat.not_lt_zero _)⟩
  obtain ⟨i, rfl⟩ : ∃ i, i = st := ⟨_, rfl⟩
  obtain ⟨hi, hno⟩ := hx
  have hkm : km = L.length - i := hk
  clear hk
  by_cases hlt : i < L.length
  · obtain ⟨f, hf⟩ : ∃ f, L[i]? = some f := ⟨_, List.getElem?_eq_getElem hlt⟩
    have hlt' : (i : Int) < (L.length : Int) := by omega
    have hfa1 := svs_ad hf
    have hf18 := (svs_cell hf (o := 18) (by omega)).trans sh_18
    have hf19 := (svs_cell hf (o := 19) (by omega)).trans sh_19
    have hf0 : (svs L)[i * 23 + 0]? = some (.int .i64 f.s.id) := svs_cell hf (by omega)
    have hfl := f.s.ad.len
    have hnx : f.s.door ≠ ⟨a, port, proto⟩ → i + 1 ≤ L.length ∧ ∀ j g, j < i + 1 → L[j]? = some g → g.s.door ≠ ⟨a, port, proto⟩ := fun hn => ⟨hlt, fun j g hj hg => by
      by_cases e : j = i
      · subst e; rw [hf] at hg; cases hg; exact hn
      · exact hno j g (by omega) hg⟩
    by_cases had : f.s.ad = a
    · by_cases hpo : (f.s.port : Int) = (port : Int)
      · by_cases hpr : ((f.s.proto.toNat : Nat) : Int) = ((proto.toNat : Nat) : Int)
        · have hd : f.s.door = ⟨a, port, proto⟩ := by unfold Sh.door; rw [had, show f.s.port = port by omega, show f.s.proto = proto from UInt8.toNat_inj.1 (by omega)]
          have hr : matchR (L.map SX.sb) ⟨a, port, proto⟩ = f.s.id := by unfold matchR; rw [doorS_at hf hd hno]
          rw [hr]
          repeat' (first
           | refine WPl.nil ?_ | refine WPq.then ?_ | refine WPq.thenR ?_ | refine WPq.thenE ?_ | refine WPq.blockN ?_ | refine WPq.blockR ?_ | refine WPq.blockE ?_ | refine WPq.blockO rfl ?_ | refine WPc.seq ?_ | refine WPc.block ?_ | refine WPc.ret ?_ | refine WPc.exit ?_ | refine WPc.skip ?_ | refine WPc.region ?_
           | (refine isReg 4 ?_; refine WPc.drA [([], [23, 27]), ([0], [19, 23, 27]), ([0, 1], [19, 20, 23, 27]), ([0, 1, 2], [19, 20, 21, 23, 27]), ([], [19, 20, 21, 22, 27]), ([0, 1, 2, 3, 4], [19, 20, 21, 22, 23, 27]), ([0, 1, 2, 3, 4, 5], [19, 20, 21, 22, 23, 24, 27]), ([0, 1, 2, 3, 4, 5, 6], [19, 20, 21, 22, 23, 24, 25, 27]), ([], [19, 20, 21, 22, 23, 24, 25, 26]), ([0, 1, 2, 3, 4, 5, 6, 7, 8], [19, 20, 21, 22, 23, 24, 25, 26, 27]), ([0, 1, 2, 3, 4, 5, 6, 7, 8, 9], [19, 20, 21, 22, 23, 24, 25, 26, 27, 28]), ([0, 1, 2, 3, 4, 5, 6, 7, 8, 9, 10], [19, 20, 21, 22, 23, 24, 25, 26, 27, 28, 29, 34, 38]), ([0, 1, 2, 3, 4, 5, 6, 7, 8, 9, 10, 11], [19, 20, 21, 22, 23, 24, 25, 26, 27, 28, 29, 30, 34, 38]), ([0, 1, 2, 3, 4, 5, 6, 7, 8, 9, 10, 11, 12], [19, 20, 21, 22, 23, 24, 25, 26, 27, 28, 29, 30, 31, 34, 38]), ([0, 1, 2, 3, 4, 5, 6, 7, 8, 9, 10, 11, 12, 13], [19, 20, 21, 22, 23, 24, 25, 26, 27, 28, 29, 30, 31, 32, 34, 38]), ([0, 1, 2, 3, 4, 5, 6, 7, 8, 9, 10], [19, 20, 21, 22, 23, 24, 25, 26, 27, 28, 29, 30, 31, 32, 33, 38]), ([0, 1, 2, 3, 4, 5, 6, 7, 8, 9, 10, 11, 12, 13, 14, 15], [19, 20, 21, 22, 23, 24, 25, 26, 27, 28, 29, 30, 31, 32, 33, 34, 38]), ([0, 1, 2, 3, 4, 5, 6, 7, 8, 9, 10, 11, 12, 13, 14, 15, 16], [19, 20, 21, 22, 23, 24, 25, 26, 27, 28, 29, 30, 31, 32, 33, 34, 35, 38]), ([0, 1, 2, 3, 4, 5, 6, 7, 8, 9, 10, 11, 12, 13, 14, 15, 16, 17], [19, 20, 21, 22, 23, 24, 25, 26, 27, 28, 29, 30, 31, 32, 33, 34, 35, 36, 38]), ([0, 1, 2, 3, 4, 5, 6, 7, 8, 9, 10], [19, 20, 21, 22, 23, 24, 25, 26, 27, 28, 29, 30, 31, 32, 33, 34, 35, 36, 37]), ([0, 1, 2, 3, 4, 5, 6, 7, 8, 9, 10, 11, 12, 13, 14, 15, 16, 17, 18, 19], [19, 20, 21, 22, 23, 24, 25, 26, 27, 28, 29, 30, 31, 32, 33, 34, 35, 36, 37, 38]), ([0, 1, 2, 3, 4, 5, 6, 7, 8, 9, 10, 11, 12, 13, 14, 15, 16, 17, 18, 19, 20], [19, 20, 21, 22, 23, 24, 25, 26, 27, 28, 29, 30, 31, 32, 33, 34, 35, 36, 37, 38, 39]), ([0, 1, 2, 3, 4, 5, 6, 7, 8, 9, 10, 11, 12, 13, 14, 15, 16, 17, 18, 19, 20, 21], [19, 20, 21, 22, 23, 24, 25, 26, 27, 28, 29, 30, 31, 32, 33, 34, 35, 36, 37, 38, 39, 40]), ([0, 1, 2, 3, 4, 5, 6, 7, 8, 9, 10, 11, 12, 13, 14, 15, 16, 17, 18, 19, 20, 21, 22], [19, 20, 21, 22, 23, 24, 25, 26, 27, 28, 29, 30, 31, 32, 33, 34, 35, 36, 37, 38, 39, 40, 41, 46, 50]), ([0, 1, 2, 3, 4, 5, 6, 7, 8, 9, 10, 11, 12, 13, 14, 15, 16, 17, 18, 19, 20, 21, 22, 23], [19, 20, 21, 22, 23, 24, 25, 26, 27, 28, 29, 30, 31, 32, 33, 34, 35, 36, 37, 38, 39, 40, 41, 42, 46, 50]), ([0, 1, 2, 3, 4, 5, 6, 7, 8, 9, 10, 11, 12, 13, 14, 15, 16, 17, 18, 19, 20, 21, 22, 23, 24], [19, 20, 21, 22, 23, 24, 25, 26, 27, 28, 29, 30, 31, 32, 33, 34, 35, 36, 37, 38, 39, 40, 41, 42, 43, 46, 50]), ([0, 1, 2, 3, 4, 5, 6, 7, 8, 9, 10, 11, 12, 13, 14, 15, 16, 17, 18, 19, 20, 21, 22, 23, 24, 25], [19, 20, 21, 22, 23, 24, 25, 26, 27, 28, 29, 30, 31, 32, 33, 34, 35, 36, 37, 38, 39, 40, 41, 42, 43, 44, 46, 50]), ([0, 1, 2, 3, 4, 5, 6, 7, 8, 9, 10, 11, 12, 13, 14, 15, 16, 17, 18, 19, 20, 21, 22], [19, 20, 21, 22, 23, 24, 25, 26, 27, 28, 29, 30, 31, 32, 33, 34, 35, 36, 37, 38, 39, 40, 41, 42, 43, 44, 45, 50]), ([0, 1, 2, 3, 4, 5, 6, 7, 8, 9, 10, 11, 12, 13, 14, 15, 16, 17, 18, 19, 20, 21, 22, 23, 24, 25, 26, 27], [19, 20, 21, 22, 23, 24, 25, 26, 27, 28, 29, 30, 31, 32, 33, 34, 35, 36, 37, 38, 39, 40, 41, 42, 43, 44, 45, 46, 50]), ([0, 1, 2, 3, 4, 5, 6, 7, 8, 9, 10, 11, 12, 13, 14, 15, 16, 17, 18, 19, 20, 21, 22, 23, 24, 25, 26, 27, 28], [19, 20, 21, 22, 23, 24, 25, 26, 27, 28, 29, 30, 31, 32, 33, 34, 35, 36, 37, 38, 39, 40, 41, 42, 43, 44, 45, 46, 47, 50]), ([0, 1, 2, 3, 4, 5, 6, 7, 8, 9, 10, 11, 12, 13, 14, 15, 16, 17, 18, 19, 20, 21, 22, 23, 24, 25, 26, 27, 28, 29], [19, 20, 21, 22, 23, 24, 25, 26, 27, 28, 29, 30, 31, 32, 33, 34, 35, 36, 37, 38, 39, 40, 41, 42, 43, 44, 45, 46, 47, 48, 50]), ([0, 1, 2, 3, 4, 5, 6, 7, 8, 9, 10, 11, 12, 13, 14, 15, 16, 17, 18, 19, 20, 21, 22], [19, 20, 21, 22, 23, 24, 25, 26, 27, 28, 29, 30, 31, 32, 33, 34, 35, 36, 37, 38, 39, 40, 41, 42, 43, 44, 45, 46, 47, 48, 49]), ([0, 1, 2, 3, 4, 5, 6, 7, 8, 9, 10, 11, 12, 13, 14, 15, 16, 17, 18, 19, 20, 21, 22, 23, 24, 25, 26, 27, 28, 29, 30, 31], [19, 20, 21, 22, 23, 24, 25, 26, 27, 28, 29, 30, 31, 32, 33, 34, 35, 36, 37, 38, 39, 40, 41, 42, 43, 44, 45, 46, 47, 48, 49, 50]), ([0, 1, 2, 3, 4, 5, 6, 7, 8, 9, 10, 11, 12, 13, 14, 15, 16, 17, 18, 19, 20, 21, 22, 23, 24, 25, 26, 27, 28, 29, 30, 31, 32], [19, 20, 21, 22, 23, 24, 25, 26, 27, 28, 29, 30, 31, 32, 33, 34, 35, 36, 37, 38, 39, 40, 41, 42, 43, 44, 45, 46, 47, 48, 49, 50, 51])] [] (Γx := []) ?_; dsimp only [prev0, List.length_nil, List.length_cons])
           | (refine gAny ?_; first | (refine gGd ?_; refine RGl.skp ?_) | (refine gD 14 ?_; refine RGl.rdX (fun e hk => by (try dsimp only [bndR, ensR, oksR, fcutR, List.append_nil, List.nil_append, List.cons_append, List.append_assoc] at hk ⊢); exact ReadR.loadO memA rfl rfl) ?_) | (refine gD 56 ?_; refine RGl.rdX (fun e hk => by (try dsimp only [bndR, ensR, oksR, fcutR, List.append_nil, List.nil_append, List.cons_append, List.append_assoc] at hk ⊢); exact ReadR.loadO memA rfl rfl) ?_) | (refine gD 16 ?_; refine RGl.rdX (fun e hk => by (try dsimp only [bndR, ensR, oksR, fcutR, List.append_nil, List.nil_append, List.cons_append, List.append_assoc] at hk ⊢); exact ReadR.binE rfl rfl BinR.lss (congrArg Value.bool (decide_eq_true hlt'))) ?_) | (refine gD 22 ?_; refine RGl.rdX (fun e hk => by (try dsimp only [bndR, ensR, oksR, fcutR, List.append_nil, List.nil_append, List.cons_append, List.append_assoc] at hk ⊢); exact ReadR.loadO memA rfl rfl) ?_) | (refine gD 24 ?_; refine RGl.rdX (fun e hk => by (try dsimp only [bndR, ensR, oksR, fcutR, List.append_nil, List.nil_append, List.cons_append, List.append_assoc] at hk ⊢); exact ReadR.indexE (i := i) rfl rfl hasA hlt) ?_) | (refine gD 25 ?_; refine RGl.rdX (fun e hk => by (try dsimp only [bndR, ensR, oksR, fcutR, List.append_nil, List.nil_append, List.cons_append, List.append_assoc] at hk ⊢); exact ReadR.fieldE rfl hasA (by omega)) ?_) | (refine gD 26 ?_; refine RGl.rdX (fun e hk => by (try dsimp only [bndR, ensR, oksR, fcutR, List.append_nil, List.nil_append, List.cons_append, List.append_assoc] at hk ⊢); exact ReadR.loadES (cs := adc f.s.ad) hfa1 (by omega) rfl hasA) ?_) | (refine gD 33 ?_; refine RGl.rdX (fun e hk => by (try dsimp only [bndR, ensR, oksR, fcutR, List.append_nil, List.nil_append, List.cons_append, List.append_assoc] at hk ⊢); exact ReadR.loadO memA rfl rfl) ?_) | (refine gD 35 ?_; refine RGl.rdX (fun e hk => by (try dsimp only [bndR, ensR, oksR, fcutR, List.append_nil, List.nil_append, List.cons_append, List.append_assoc] at hk ⊢); exact ReadR.indexE (i := i) rfl rfl hasA hlt) ?_) | (refine gD 36 ?_; refine RGl.rdX (fun e hk => by (try dsimp only [bndR, ensR, oksR, fcutR, List.append_nil, List.nil_append, List.cons_append, List.append_assoc] at hk ⊢); exact ReadR.fieldE rfl hasA (by omega)) ?_) | (refine gD 37 ?_; refine RGl.rdX (fun e hk => by (try dsimp only [bndR, ensR, oksR, fcutR, List.append_nil, List.nil_append, List.cons_append, List.append_assoc] at hk ⊢); exact ReadR.loadE rfl hasA hf18) ?_) | (refine gD 45 ?_; refine RGl.rdX (fun e hk => by (try dsimp only [bndR, ensR, oksR, fcutR, List.append_nil, List.nil_append, List.cons_append, List.append_assoc] at hk ⊢); exact ReadR.loadO memA rfl rfl) ?_) | (refine gD 47 ?_; refine RGl.rdX (fun e hk => by (try dsimp only [bndR, ensR, oksR, fcutR, List.append_nil, List.nil_append, List.cons_append, List.append_assoc] at hk ⊢); exact ReadR.indexE (i := i) rfl rfl hasA hlt) ?_) | (refine gD 48 ?_; refine RGl.rdX (fun e hk => by (try dsimp only [bndR, ensR, oksR, fcutR, List.append_nil, List.nil_append, List.cons_append, List.append_assoc] at hk ⊢); exact ReadR.fieldE rfl hasA (by omega)) ?_) | (refine gD 49 ?_; refine RGl.rdX (fun e hk => by (try dsimp only [bndR, ensR, oksR, fcutR, List.append_nil, List.nil_append, List.cons_append, List.append_assoc] at hk ⊢); exact ReadR.loadE rfl hasA hf19) ?_) | (refine gD 28 ?_; refine RGl.rdX (fun e hk => by (try dsimp only [bndR, ensR, oksR, fcutR, List.append_nil, List.nil_append, List.cons_append, List.append_assoc] at hk ⊢); exact ReadR.binE rfl rfl BinR.adE (congrArg Value.bool (decide_eq_true had))) ?_) | (refine gD 39 ?_; refine RGl.rdX (fun e hk => by (try dsimp only [bndR, ensR, oksR, fcutR, List.append_nil, List.nil_append, List.cons_append, List.append_assoc] at hk ⊢); exact ReadR.binE rfl rfl BinR.eql (congrArg Value.bool (decide_eq_true hpo))) ?_) | (refine gD 51 ?_; refine RGl.rdX (fun e hk => by (try dsimp only [bndR, ensR, oksR, fcutR, List.append_nil, List.nil_append, List.cons_append, List.append_assoc] at hk ⊢); exact ReadR.binE rfl rfl BinR.eql (congrArg Value.bool (decide_eq_true hpr))) ?_) | (refine gD 58 ?_; refine RGl.rdX (fun e hk => by (try dsimp only [bndR, ensR, oksR, fcutR, List.append_nil, List.nil_append, List.cons_append, List.append_assoc] at hk ⊢); exact ReadR.indexE (i := i) rfl rfl hasA hlt) ?_) | (refine gD 59 ?_; refine RGl.rdX (fun e hk => by (try dsimp only [bndR, ensR, oksR, fcutR, List.append_nil, List.nil_append, List.cons_append, List.append_assoc] at hk ⊢); exact ReadR.fieldE rfl hasA (by omega)) ?_) | (refine gD 60 ?_; refine RGl.rdX (fun e hk => by (try dsimp only [bndR, ensR, oksR, fcutR, List.append_nil, List.nil_append, List.cons_append, List.append_assoc] at hk ⊢); exact ReadR.loadE rfl hasA hf0) ?_) | (refine gOp ?_; first | refine RGl.rdA ?_ | refine RGl.rdX (fun e hk => by (try dsimp only [bndR, ensR, oksR, fcutR, List.append_nil, List.nil_append, List.cons_append, List.append_assoc] at hk ⊢); exact readB) ?_) | (refine RGl.fin (fun e hk => ?_); (try dsimp only [bndA, ensAR, oksA, List.append_nil, List.nil_append, List.cons_append, List.append_assoc] at hk ⊢); (repeat (obtain ⟨hk1, hk⟩ := hk))) | fail)
           | (refine isCond ?_; first | refine WPc.cT ?_ | refine WPc.cF ?_ | (refine WPc.cQ (fun hc => ?_) (fun hc => ?_) <;> try first | exact prA | (exfalso; first | omega)))
           | (refine isD 14 ?_; refine WPl.rdX (ReadR.loadO memA rfl rfl) ?_)
           | (refine isD 56 ?_; refine WPl.rdX (ReadR.loadO memA rfl rfl) ?_)
           | (refine isD 16 ?_; refine WPl.rdX (ReadR.binE rfl rfl BinR.lss (congrArg Value.bool (decide_eq_true hlt'))) ?_)
           | (refine isD 22 ?_; refine WPl.rdX (ReadR.loadO memA rfl rfl) ?_)
           | (refine isD 24 ?_; refine WPl.rdX (ReadR.indexE (i := i) rfl rfl hasA hlt) ?_)
           | (refine isD 25 ?_; refine WPl.rdX (ReadR.fieldE rfl hasA (by omega)) ?_)
           | (refine isD 26 ?_; refine WPl.rdX (ReadR.loadES (cs := adc f.s.ad) hfa1 (by omega) rfl hasA) ?_)
           | (refine isD 33 ?_; refine WPl.rdX (ReadR.loadO memA rfl rfl) ?_)
           | (refine isD 35 ?_; refine WPl.rdX (ReadR.indexE (i := i) rfl rfl hasA hlt) ?_)
           | (refine isD 36 ?_; refine WPl.rdX (ReadR.fieldE rfl hasA (by omega)) ?_)
           | (refine isD 37 ?_; refine WPl.rdX (ReadR.loadE rfl hasA hf18) ?_)
           | (refine isD 45 ?_; refine WPl.rdX (ReadR.loadO memA rfl rfl) ?_)
           | (refine isD 47 ?_; refine WPl.rdX (ReadR.indexE (i := i) rfl rfl hasA hlt) ?_)
           | (refine isD 48 ?_; refine WPl.rdX (ReadR.fieldE rfl hasA (by omega)) ?_)
           | (refine isD 49 ?_; refine WPl.rdX (ReadR.loadE rfl hasA hf19) ?_)
           | (refine isD 28 ?_; refine WPl.rdX (ReadR.binE rfl rfl BinR.adE (congrArg Value.bool (decide_eq_true had))) ?_)
           | (refine isD 39 ?_; refine WPl.rdX (ReadR.binE rfl rfl BinR.eql (congrArg Value.bool (decide_eq_true hpo))) ?_)
           | (refine isD 51 ?_; refine WPl.rdX (ReadR.binE rfl rfl BinR.eql (congrArg Value.bool (decide_eq_true hpr))) ?_)
           | (refine isD 58 ?_; refine WPl.rdX (ReadR.indexE (i := i) rfl rfl hasA hlt) ?_)
           | (refine isD 59 ?_; refine WPl.rdX (ReadR.fieldE rfl hasA (by omega)) ?_)
           | (refine isD 60 ?_; refine WPl.rdX (ReadR.loadE rfl hasA hf0) ?_)
           | (refine isOp ?_; first | refine WPl.rd ?_ | refine WPl.sk ?_ | refine WPl.rdB ?_)
           | (refine isBx ?_; refine WPl.nw fun g => ?_)
           | (show WPl _ _ _ _ _ _ _ (⟨_, .indexAddr _ _ _, _, _, _, _⟩ :: _) _; refine WPl.rdX (ReadR.indexE rfl rfl hasA (by first | assumption | omega)) ?_)
           | (show WPl _ _ _ _ _ _ _ (⟨_, .fieldAddr _ _ _, _, _, _, _⟩ :: _) _; refine WPl.rdX (ReadR.fieldE rfl hasA (by first | assumption | omega)) ?_)
           | (show WPl _ _ _ _ _ _ _ (⟨_, .load _ _, _, _, _, _⟩ :: _) _; first | refine WPl.rdX (ReadR.loadE rfl hasA (by assumption)) ?_ | refine WPl.rdX (ReadR.loadES (by assumption) (by first | assumption | omega) rfl hasA) ?_)
           | (show WPl _ _ _ _ _ _ _ (⟨_, .slice _ _ _ _ _, _, _, _, _⟩ :: _) _; first | refine WPl.rdX (ReadR.sliceH rfl rfl hasA (by omega)) ?_ | refine WPl.rdX (ReadR.sliceL rfl rfl hasA (by omega)) ?_ | refine WPl.rdX (ReadR.sliceLH rfl rfl rfl hasA (by omega) (by omega)) ?_)
           | (refine WPl.spQ (fun hc => ?_) (fun hc => ?_) <;> try first | exact prA | (exfalso; first | omega))
           | fail)
          exact WPq.dV
        · have hn : f.s.door ≠ ⟨a, port, proto⟩ := fun e => hpr (by rw [show f.s.proto = proto from congrArg Dr.proto e])
          repeat' (first
           | refine WPl.nil ?_ | refine WPq.then ?_ | refine WPq.thenR ?_ | refine WPq.thenE ?_ | refine WPq.blockN ?_ | refine WPq.blockR ?_ | refine WPq.blockE ?_ | refine WPq.blockO rfl ?_ | refine WPc.seq ?_ | refine WPc.block ?_ | refine WPc.ret ?_ | refine WPc.exit ?_ | refine WPc.skip ?_ | refine WPc.region ?_
           | (refine isReg 4 ?_; refine WPc.drA [([], [23, 27]), ([0], [19, 23, 27]), ([0, 1], [19, 20, 23, 27]), ([0, 1, 2], [19, 20, 21, 23, 27]), ([], [19, 20, 21, 22, 27]), ([0, 1, 2, 3, 4], [19, 20, 21, 22, 23, 27]), ([0, 1, 2, 3, 4, 5], [19, 20, 21, 22, 23, 24, 27]), ([0, 1, 2, 3, 4, 5, 6], [19, 20, 21, 22, 23, 24, 25, 27]), ([], [19, 20, 21, 22, 23, 24, 25, 26]), ([0, 1, 2, 3, 4, 5, 6, 7, 8], [19, 20, 21, 22, 23, 24, 25, 26, 27]), ([0, 1, 2, 3, 4, 5, 6, 7, 8, 9], [19, 20, 21, 22, 23, 24, 25, 26, 27, 28]), ([0, 1, 2, 3, 4, 5, 6, 7, 8, 9, 10], [19, 20, 21, 22, 23, 24, 25, 26, 27, 28, 29, 34, 38]), ([0, 1, 2, 3, 4, 5, 6, 7, 8, 9, 10, 11], [19, 20, 21, 22, 23, 24, 25, 26, 27, 28, 29, 30, 34, 38]), ([0, 1, 2, 3, 4, 5, 6, 7, 8, 9, 10, 11, 12], [19, 20, 21, 22, 23, 24, 25, 26, 27, 28, 29, 30, 31, 34, 38]), ([0, 1, 2, 3, 4, 5, 6, 7, 8, 9, 10, 11, 12, 13], [19, 20, 21, 22, 23, 24, 25, 26, 27, 28, 29, 30, 31, 32, 34, 38]), ([0, 1, 2, 3, 4, 5, 6, 7, 8, 9, 10], [19, 20, 21, 22, 23, 24, 25, 26, 27, 28, 29, 30, 31, 32, 33, 38]), ([0, 1, 2, 3, 4, 5, 6, 7, 8, 9, 10, 11, 12, 13, 14, 15], [19, 20, 21, 22, 23, 24, 25, 26, 27, 28, 29, 30, 31, 32, 33, 34, 38]), ([0, 1, 2, 3, 4, 5, 6, 7, 8, 9, 10, 11, 12, 13, 14, 15, 16], [19, 20, 21, 22, 23, 24, 25, 26, 27, 28, 29, 30, 31, 32, 33, 34, 35, 38]), ([0, 1, 2, 3, 4, 5, 6, 7, 8, 9, 10, 11, 12, 13, 14, 15, 16, 17], [19, 20, 21, 22, 23, 24, 25, 26, 27, 28, 29, 30, 31, 32, 33, 34, 35, 36, 38]), ([0, 1, 2, 3, 4, 5, 6, 7, 8, 9, 10], [19, 20, 21, 22, 23, 24, 25, 26, 27, 28, 29, 30, 31, 32, 33, 34, 35, 36, 37]), ([0, 1, 2, 3, 4, 5, 6, 7, 8, 9, 10, 11, 12, 13, 14, 15, 16, 17, 18, 19], [19, 20, 21, 22, 23, 24, 25, 26, 27, 28, 29, 30, 31, 32, 33, 34, 35, 36, 37, 38]), ([0, 1, 2, 3, 4, 5, 6, 7, 8, 9, 10, 11, 12, 13, 14, 15, 16, 17, 18, 19, 20], [19, 20, 21, 22, 23, 24, 25, 26, 27, 28, 29, 30, 31, 32, 33, 34, 35, 36, 37, 38, 39]), ([0, 1, 2, 3, 4, 5, 6, 7, 8, 9, 10, 11, 12, 13, 14, 15, 16, 17, 18, 19, 20, 21], [19, 20, 21, 22, 23, 24, 25, 26, 27, 28, 29, 30, 31, 32, 33, 34, 35, 36, 37, 38, 39, 40]), ([0, 1, 2, 3, 4, 5, 6, 7, 8, 9, 10, 11, 12, 13, 14, 15, 16, 17, 18, 19, 20, 21, 22], [19, 20, 21, 22, 23, 24, 25, 26, 27, 28, 29, 30, 31, 32, 33, 34, 35, 36, 37, 38, 39, 40, 41, 46, 50]), ([0, 1, 2, 3, 4, 5, 6, 7, 8, 9, 10, 11, 12, 13, 14, 15, 16, 17, 18, 19, 20, 21, 22, 23], [19, 20, 21, 22, 23, 24, 25, 26, 27, 28, 29, 30, 31, 32, 33, 34, 35, 36, 37, 38, 39, 40, 41, 42, 46, 50]), ([0, 1, 2, 3, 4, 5, 6, 7, 8, 9, 10, 11, 12, 13, 14, 15, 16, 17, 18, 19, 20, 21, 22, 23, 24], [19, 20, 21, 22, 23, 24, 25, 26, 27, 28, 29, 30, 31, 32, 33, 34, 35, 36, 37, 38, 39, 40, 41, 42, 43, 46, 50]), ([0, 1, 2, 3, 4, 5, 6, 7, 8, 9, 10, 11, 12, 13, 14, 15, 16, 17, 18, 19, 20, 21, 22, 23, 24, 25], [19, 20, 21, 22, 23, 24, 25, 26, 27, 28, 29, 30, 31, 32, 33, 34, 35, 36, 37, 38, 39, 40, 41, 42, 43, 44, 46, 50]), ([0, 1, 2, 3, 4, 5, 6, 7, 8, 9, 10, 11, 12, 13, 14, 15, 16, 17, 18, 19, 20, 21, 22], [19, 20, 21, 22, 23, 24, 25, 26, 27, 28, 29, 30, 31, 32, 33, 34, 35, 36, 37, 38, 39, 40, 41, 42, 43, 44, 45, 50]), ([0, 1, 2, 3, 4, 5, 6, 7, 8, 9, 10, 11, 12, 13, 14, 15, 16, 17, 18, 19, 20, 21, 22, 23, 24, 25, 26, 27], [19, 20, 21, 22, 23, 24, 25, 26, 27, 28, 29, 30, 31, 32, 33, 34, 35, 36, 37, 38, 39, 40, 41, 42, 43, 44, 45, 46, 50]), ([0, 1, 2, 3, 4, 5, 6, 7, 8, 9, 10, 11, 12, 13, 14, 15, 16, 17, 18, 19, 20, 21, 22, 23, 24, 25, 26, 27, 28], [19, 20, 21, 22, 23, 24, 25, 26, 27, 28, 29, 30, 31, 32, 33, 34, 35, 36, 37, 38, 39, 40, 41, 42, 43, 44, 45, 46, 47, 50]), ([0, 1, 2, 3, 4, 5, 6, 7, 8, 9, 10, 11, 12, 13, 14, 15, 16, 17, 18, 19, 20, 21, 22, 23, 24, 25, 26, 27, 28, 29], [19, 20, 21, 22, 23, 24, 25, 26, 27, 28, 29, 30, 31, 32, 33, 34, 35, 36, 37, 38, 39, 40, 41, 42, 43, 44, 45, 46, 47, 48, 50]), ([0, 1, 2, 3, 4, 5, 6, 7, 8, 9, 10, 11, 12, 13, 14, 15, 16, 17, 18, 19, 20, 21, 22], [19, 20, 21, 22, 23, 24, 25, 26, 27, 28, 29, 30, 31, 32, 33, 34, 35, 36, 37, 38, 39, 40, 41, 42, 43, 44, 45, 46, 47, 48, 49]), ([0, 1, 2, 3, 4, 5, 6, 7, 8, 9, 10, 11, 12, 13, 14, 15, 16, 17, 18, 19, 20, 21, 22, 23, 24, 25, 26, 27, 28, 29, 30, 31], [19, 20, 21, 22, 23, 24, 25, 26, 27, 28, 29, 30, 31, 32, 33, 34, 35, 36, 37, 38, 39, 40, 41, 42, 43, 44, 45, 46, 47, 48, 49, 50]), ([0, 1, 2, 3, 4, 5, 6, 7, 8, 9, 10, 11, 12, 13, 14, 15, 16, 17, 18, 19, 20, 21, 22, 23, 24, 25, 26, 27, 28, 29, 30, 31, 32], [19, 20, 21, 22, 23, 24, 25, 26, 27, 28, 29, 30, 31, 32, 33, 34, 35, 36, 37, 38, 39, 40, 41, 42, 43, 44, 45, 46, 47, 48, 49, 50, 51])] [] (Γx := []) ?_; dsimp only [prev0, List.length_nil, List.length_cons])
           | (refine gAny ?_; first | (refine gGd ?_; refine RGl.skp ?_) | (refine gD 14 ?_; refine RGl.rdX (fun e hk => by (try dsimp only [bndR, ensR, oksR, fcutR, List.append_nil, List.nil_append, List.cons_append, List.append_assoc] at hk ⊢); exact ReadR.loadO memA rfl rfl) ?_) | (refine gD 56 ?_; refine RGl.rdX (fun e hk => by (try dsimp only [bndR, ensR, oksR, fcutR, List.append_nil, List.nil_append, List.cons_append, List.append_assoc] at hk ⊢); exact ReadR.loadO memA rfl rfl) ?_) | (refine gD 16 ?_; refine RGl.rdX (fun e hk => by (try dsimp only [bndR, ensR, oksR, fcutR, List.append_nil, List.nil_append, List.cons_append, List.append_assoc] at hk ⊢); exact ReadR.binE rfl rfl BinR.lss (congrArg Value.bool (decide_eq_true hlt'))) ?_) | (refine gD 22 ?_; refine RGl.rdX (fun e hk => by (try dsimp only [bndR, ensR, oksR, fcutR, List.append_nil, List.nil_append, List.cons_append, List.append_assoc] at hk ⊢); exact ReadR.loadO memA rfl rfl) ?_) | (refine gD 24 ?_; refine RGl.rdX (fun e hk => by (try dsimp only [bndR, ensR, oksR, fcutR, List.append_nil, List.nil_append, List.cons_append, List.append_assoc] at hk ⊢); exact ReadR.indexE (i := i) rfl rfl hasA hlt) ?_) | (refine gD 25 ?_; refine RGl.rdX (fun e hk => by (try dsimp only [bndR, ensR, oksR, fcutR, List.append_nil, List.nil_append, List.cons_append, List.append_assoc] at hk ⊢); exact ReadR.fieldE rfl hasA (by omega)) ?_) | (refine gD 26 ?_; refine RGl.rdX (fun e hk => by (try dsimp only [bndR, ensR, oksR, fcutR, List.append_nil, List.nil_append, List.cons_append, List.append_assoc] at hk ⊢); exact ReadR.loadES (cs := adc f.s.ad) hfa1 (by omega) rfl hasA) ?_) | (refine gD 33 ?_; refine RGl.rdX (fun e hk => by (try dsimp only [bndR, ensR, oksR, fcutR, List.append_nil, List.nil_append, List.cons_append, List.append_assoc] at hk ⊢); exact ReadR.loadO memA rfl rfl) ?_) | (refine gD 35 ?_; refine RGl.rdX (fun e hk => by (try dsimp only [bndR, ensR, oksR, fcutR, List.append_nil, List.nil_append, List.cons_append, List.append_assoc] at hk ⊢); exact ReadR.indexE (i := i) rfl rfl hasA hlt) ?_) | (refine gD 36 ?_; refine RGl.rdX (fun e hk => by (try dsimp only [bndR, ensR, oksR, fcutR, List.append_nil, List.nil_append, List.cons_append, List.append_assoc] at hk ⊢); exact ReadR.fieldE rfl hasA (by omega)) ?_) | (refine gD 37 ?_; refine RGl.rdX (fun e hk => by (try dsimp only [bndR, ensR, oksR, fcutR, List.append_nil, List.nil_append, List.cons_append, List.append_assoc] at hk ⊢); exact ReadR.loadE rfl hasA hf18) ?_) | (refine gD 45 ?_; refine RGl.rdX (fun e hk => by (try dsimp only [bndR, ensR, oksR, fcutR, List.append_nil, List.nil_append, List.cons_append, List.append_assoc] at hk ⊢); exact ReadR.loadO memA rfl rfl) ?_) | (refine gD 47 ?_; refine RGl.rdX (fun e hk => by (try dsimp only [bndR, ensR, oksR, fcutR, List.append_nil, List.nil_append, List.cons_append, List.append_assoc] at hk ⊢); exact ReadR.indexE (i := i) rfl rfl hasA hlt) ?_) | (refine gD 48 ?_; refine RGl.rdX (fun e hk => by (try dsimp only [bndR, ensR, oksR, fcutR, List.append_nil, List.nil_append, List.cons_append, List.append_assoc] at hk ⊢); exact ReadR.fieldE rfl hasA (by omega)) ?_) | (refine gD 49 ?_; refine RGl.rdX (fun e hk => by (try dsimp only [bndR, ensR, oksR, fcutR, List.append_nil, List.nil_append, List.cons_append, List.append_assoc] at hk ⊢); exact ReadR.loadE rfl hasA hf19) ?_) | (refine gD 28 ?_; refine RGl.rdX (fun e hk => by (try dsimp only [bndR, ensR, oksR, fcutR, List.append_nil, List.nil_append, List.cons_append, List.append_assoc] at hk ⊢); exact ReadR.binE rfl rfl BinR.adE (congrArg Value.bool (decide_eq_true had))) ?_) | (refine gD 39 ?_; refine RGl.rdX (fun e hk => by (try dsimp only [bndR, ensR, oksR, fcutR, List.append_nil, List.nil_append, List.cons_append, List.append_assoc] at hk ⊢); exact ReadR.binE rfl rfl BinR.eql (congrArg Value.bool (decide_eq_true hpo))) ?_) | (refine gD 51 ?_; refine RGl.rdX (fun e hk => by (try dsimp only [bndR, ensR, oksR, fcutR, List.append_nil, List.nil_append, List.cons_append, List.append_assoc] at hk ⊢); exact ReadR.binE rfl rfl BinR.eql (congrArg Value.bool (decide_eq_false hpr))) ?_) | (refine gOp ?_; first | refine RGl.rdA ?_ | refine RGl.rdX (fun e hk => by (try dsimp only [bndR, ensR, oksR, fcutR, List.append_nil, List.nil_append, List.cons_append, List.append_assoc] at hk ⊢); exact readB) ?_) | (refine RGl.fin (fun e hk => ?_); (try dsimp only [bndA, ensAR, oksA, List.append_nil, List.nil_append, List.cons_append, List.append_assoc] at hk ⊢); (repeat (obtain ⟨hk1, hk⟩ := hk))) | fail)
           | (refine isCond ?_; first | refine WPc.cT ?_ | refine WPc.cF ?_ | (refine WPc.cQ (fun hc => ?_) (fun hc => ?_) <;> try first | exact prA | (exfalso; first | omega)))
           | (refine isD 14 ?_; refine WPl.rdX (ReadR.loadO memA rfl rfl) ?_)
           | (refine isD 56 ?_; refine WPl.rdX (ReadR.loadO memA rfl rfl) ?_)
           | (refine isD 16 ?_; refine WPl.rdX (ReadR.binE rfl rfl BinR.lss (congrArg Value.bool (decide_eq_true hlt'))) ?_)
           | (refine isD 22 ?_; refine WPl.rdX (ReadR.loadO memA rfl rfl) ?_)
           | (refine isD 24 ?_; refine WPl.rdX (ReadR.indexE (i := i) rfl rfl hasA hlt) ?_)
           | (refine isD 25 ?_; refine WPl.rdX (ReadR.fieldE rfl hasA (by omega)) ?_)
           | (refine isD 26 ?_; refine WPl.rdX (ReadR.loadES (cs := adc f.s.ad) hfa1 (by omega) rfl hasA) ?_)
           | (refine isD 33 ?_; refine WPl.rdX (ReadR.loadO memA rfl rfl) ?_)
           | (refine isD 35 ?_; refine WPl.rdX (ReadR.indexE (i := i) rfl rfl hasA hlt) ?_)
           | (refine isD 36 ?_; refine WPl.rdX (ReadR.fieldE rfl hasA (by omega)) ?_)
           | (refine isD 37 ?_; refine WPl.rdX (ReadR.loadE rfl hasA hf18) ?_)
           | (refine isD 45 ?_; refine WPl.rdX (ReadR.loadO memA rfl rfl) ?_)
           | (refine isD 47 ?_; refine WPl.rdX (ReadR.indexE (i := i) rfl rfl hasA hlt) ?_)
           | (refine isD 48 ?_; refine WPl.rdX (ReadR.fieldE rfl hasA (by omega)) ?_)
           | (refine isD 49 ?_; refine WPl.rdX (ReadR.loadE rfl hasA hf19) ?_)
           | (refine isD 28 ?_; refine WPl.rdX (ReadR.binE rfl rfl BinR.adE (congrArg Value.bool (decide_eq_true had))) ?_)
           | (refine isD 39 ?_; refine WPl.rdX (ReadR.binE rfl rfl BinR.eql (congrArg Value.bool (decide_eq_true hpo))) ?_)
           | (refine isD 51 ?_; refine WPl.rdX (ReadR.binE rfl rfl BinR.eql (congrArg Value.bool (decide_eq_false hpr))) ?_)
           | (refine isOp ?_; first | refine WPl.rd ?_ | refine WPl.sk ?_ | refine WPl.rdB ?_)
           | (refine isBx ?_; refine WPl.nw fun g => ?_)
           | (show WPl _ _ _ _ _ _ _ (⟨_, .indexAddr _ _ _, _, _, _, _⟩ :: _) _; refine WPl.rdX (ReadR.indexE rfl rfl hasA (by first | assumption | omega)) ?_)
           | (show WPl _ _ _ _ _ _ _ (⟨_, .fieldAddr _ _ _, _, _, _, _⟩ :: _) _; refine WPl.rdX (ReadR.fieldE rfl hasA (by first | assumption | omega)) ?_)
           | (show WPl _ _ _ _ _ _ _ (⟨_, .load _ _, _, _, _, _⟩ :: _) _; first | refine WPl.rdX (ReadR.loadE rfl hasA (by assumption)) ?_ | refine WPl.rdX (ReadR.loadES (by assumption) (by first | assumption | omega) rfl hasA) ?_)
           | (show WPl _ _ _ _ _ _ _ (⟨_, .slice _ _ _ _ _, _, _, _, _⟩ :: _) _; first | refine WPl.rdX (ReadR.sliceH rfl rfl hasA (by omega)) ?_ | refine WPl.rdX (ReadR.sliceL rfl rfl hasA (by omega)) ?_ | refine WPl.rdX (ReadR.sliceLH rfl rfl rfl hasA (by omega) (by omega)) ?_)
           | (refine WPl.spQ (fun hc => ?_) (fun hc => ?_) <;> try first | exact prA | (exfalso; first | omega))
           | fail)
          exact WPq.rnd (i + 1) (hnx hn) (by omega)
      · have hn : f.s.door ≠ ⟨a, port, proto⟩ := fun e => hpo (by rw [show f.s.port = port from congrArg Dr.port e])
        repeat' (first
         | refine WPl.nil ?_ | refine WPq.then ?_ | refine WPq.thenR ?_ | refine WPq.thenE ?_ | refine WPq.blockN ?_ | refine WPq.blockR ?_ | refine WPq.blockE ?_ | refine WPq.blockO rfl ?_ | refine WPc.seq ?_ | refine WPc.block ?_ | refine WPc.ret ?_ | refine WPc.exit ?_ | refine WPc.skip ?_ | refine WPc.region ?_
         | (refine isReg 4 ?_; refine WPc.drA [([], [23, 27]), ([0], [19, 23, 27]), ([0, 1], [19, 20, 23, 27]), ([0, 1, 2], [19, 20, 21, 23, 27]), ([], [19, 20, 21, 22, 27]), ([0, 1, 2, 3, 4], [19, 20, 21, 22, 23, 27]), ([0, 1, 2, 3, 4, 5], [19, 20, 21, 22, 23, 24, 27]), ([0, 1, 2, 3, 4, 5, 6], [19, 20, 21, 22, 23, 24, 25, 27]), ([], [19, 20, 21, 22, 23, 24, 25, 26]), ([0, 1, 2, 3, 4, 5, 6, 7, 8], [19, 20, 21, 22, 23, 24, 25, 26, 27]), ([0, 1, 2, 3, 4, 5, 6, 7, 8, 9], [19, 20, 21, 22, 23, 24, 25, 26, 27, 28]), ([0, 1, 2, 3, 4, 5, 6, 7, 8, 9, 10], [19, 20, 21, 22, 23, 24, 25, 26, 27, 28, 29, 34, 38]), ([0, 1, 2, 3, 4, 5, 6, 7, 8, 9, 10, 11], [19, 20, 21, 22, 23, 24, 25, 26, 27, 28, 29, 30, 34, 38]), ([0, 1, 2, 3, 4, 5, 6, 7, 8, 9, 10, 11, 12], [19, 20, 21, 22, 23, 24, 25, 26, 27, 28, 29, 30, 31, 34, 38]), ([0, 1, 2, 3, 4, 5, 6, 7, 8, 9, 10, 11, 12, 13], [19, 20, 21, 22, 23, 24, 25, 26, 27, 28, 29, 30, 31, 32, 34, 38]), ([0, 1, 2, 3, 4, 5, 6, 7, 8, 9, 10], [19, 20, 21, 22, 23, 24, 25, 26, 27, 28, 29, 30, 31, 32, 33, 38]), ([0, 1, 2, 3, 4, 5, 6, 7, 8, 9, 10, 11, 12, 13, 14, 15], [19, 20, 21, 22, 23, 24, 25, 26, 27, 28, 29, 30, 31, 32, 33, 34, 38]), ([0, 1, 2, 3, 4, 5, 6, 7, 8, 9, 10, 11, 12, 13, 14, 15, 16], [19, 20, 21, 22, 23, 24, 25, 26, 27, 28, 29, 30, 31, 32, 33, 34, 35, 38]), ([0, 1, 2, 3, 4, 5, 6, 7, 8, 9, 10, 11, 12, 13, 14, 15, 16, 17], [19, 20, 21, 22, 23, 24, 25, 26, 27, 28, 29, 30, 31, 32, 33, 34, 35, 36, 38]), ([0, 1, 2, 3, 4, 5, 6, 7, 8, 9, 10], [19, 20, 21, 22, 23, 24, 25, 26, 27, 28, 29, 30, 31, 32, 33, 34, 35, 36, 37]), ([0, 1, 2, 3, 4, 5, 6, 7, 8, 9, 10, 11, 12, 13, 14, 15, 16, 17, 18, 19], [19, 20, 21, 22, 23, 24, 25, 26, 27, 28, 29, 30, 31, 32, 33, 34, 35, 36, 37, 38]), ([0, 1, 2, 3, 4, 5, 6, 7, 8, 9, 10, 11, 12, 13, 14, 15, 16, 17, 18, 19, 20], [19, 20, 21, 22, 23, 24, 25, 26, 27, 28, 29, 30, 31, 32, 33, 34, 35, 36, 37, 38, 39]), ([0, 1, 2, 3, 4, 5, 6, 7, 8, 9, 10, 11, 12, 13, 14, 15, 16, 17, 18, 19, 20, 21], [19, 20, 21, 22, 23, 24, 25, 26, 27, 28, 29, 30, 31, 32, 33, 34, 35, 36, 37, 38, 39, 40]), ([0, 1, 2, 3, 4, 5, 6, 7, 8, 9, 10, 11, 12, 13, 14, 15, 16, 17, 18, 19, 20, 21, 22], [19, 20, 21, 22, 23, 24, 25, 26, 27, 28, 29, 30, 31, 32, 33, 34, 35, 36, 37, 38, 39, 40, 41, 46, 50]), ([0, 1, 2, 3, 4, 5, 6, 7, 8, 9, 10, 11, 12, 13, 14, 15, 16, 17, 18, 19, 20, 21, 22, 23], [19, 20, 21, 22, 23, 24, 25, 26, 27, 28, 29, 30, 31, 32, 33, 34, 35, 36, 37, 38, 39, 40, 41, 42, 46, 50]), ([0, 1, 2, 3, 4, 5, 6, 7, 8, 9, 10, 11, 12, 13, 14, 15, 16, 17, 18, 19, 20, 21, 22, 23, 24], [19, 20, 21, 22, 23, 24, 25, 26, 27, 28, 29, 30, 31, 32, 33, 34, 35, 36, 37, 38, 39, 40, 41, 42, 43, 46, 50]), ([0, 1, 2, 3, 4, 5, 6, 7, 8, 9, 10, 11, 12, 13, 14, 15, 16, 17, 18, 19, 20, 21, 22, 23, 24, 25], [19, 20, 21, 22, 23, 24, 25, 26, 27, 28, 29, 30, 31, 32, 33, 34, 35, 36, 37, 38, 39, 40, 41, 42, 43, 44, 46, 50]), ([0, 1, 2, 3, 4, 5, 6, 7, 8, 9, 10, 11, 12, 13, 14, 15, 16, 17, 18, 19, 20, 21, 22], [19, 20, 21, 22, 23, 24, 25, 26, 27, 28, 29, 30, 31, 32, 33, 34, 35, 36, 37, 38, 39, 40, 41, 42, 43, 44, 45, 50]), ([0, 1, 2, 3, 4, 5, 6, 7, 8, 9, 10, 11, 12, 13, 14, 15, 16, 17, 18, 19, 20, 21, 22, 23, 24, 25, 26, 27], [19, 20, 21, 22, 23, 24, 25, 26, 27, 28, 29, 30, 31, 32, 33, 34, 35, 36, 37, 38, 39, 40, 41, 42, 43, 44, 45, 46, 50]), ([0, 1, 2, 3, 4, 5, 6, 7, 8, 9, 10, 11, 12, 13, 14, 15, 16, 17, 18, 19, 20, 21, 22, 23, 24, 25, 26, 27, 28], [19, 20, 21, 22, 23, 24, 25, 26, 27, 28, 29, 30, 31, 32, 33, 34, 35, 36, 37, 38, 39, 40, 41, 42, 43, 44, 45, 46, 47, 50]), ([0, 1, 2, 3, 4, 5, 6, 7, 8, 9, 10, 11, 12, 13, 14, 15, 16, 17, 18, 19, 20, 21, 22, 23, 24, 25, 26, 27, 28, 29], [19, 20, 21, 22, 23, 24, 25, 26, 27, 28, 29, 30, 31, 32, 33, 34, 35, 36, 37, 38, 39, 40, 41, 42, 43, 44, 45, 46, 47, 48, 50]), ([0, 1, 2, 3, 4, 5, 6, 7, 8, 9, 10, 11, 12, 13, 14, 15, 16, 17, 18, 19, 20, 21, 22], [19, 20, 21, 22, 23, 24, 25, 26, 27, 28, 29, 30, 31, 32, 33, 34, 35, 36, 37, 38, 39, 40, 41, 42, 43, 44, 45, 46, 47, 48, 49]), ([0, 1, 2, 3, 4, 5, 6, 7, 8, 9, 10, 11, 12, 13, 14, 15, 16, 17, 18, 19, 20, 21, 22, 23, 24, 25, 26, 27, 28, 29, 30, 31], [19, 20, 21, 22, 23, 24, 25, 26, 27, 28, 29, 30, 31, 32, 33, 34, 35, 36, 37, 38, 39, 40, 41, 42, 43, 44, 45, 46, 47, 48, 49, 50]), ([0, 1, 2, 3, 4, 5, 6, 7, 8, 9, 10, 11, 12, 13, 14, 15, 16, 17, 18, 19, 20, 21, 22, 23, 24, 25, 26, 27, 28, 29, 30, 31, 32], [19, 20, 21, 22, 23, 24, 25, 26, 27, 28, 29, 30, 31, 32, 33, 34, 35, 36, 37, 38, 39, 40, 41, 42, 43, 44, 45, 46, 47, 48, 49, 50, 51])] [] (Γx := []) ?_; dsimp only [prev0, List.length_nil, List.length_cons])
         | (refine gAny ?_; first | (refine gGd ?_; refine RGl.skp ?_) | (refine gD 14 ?_; refine RGl.rdX (fun e hk => by (try dsimp only [bndR, ensR, oksR, fcutR, List.append_nil, List.nil_append, List.cons_append, List.append_assoc] at hk ⊢); exact ReadR.loadO memA rfl rfl) ?_) | (refine gD 56 ?_; refine RGl.rdX (fun e hk => by (try dsimp only [bndR, ensR, oksR, fcutR, List.append_nil, List.nil_append, List.cons_append, List.append_assoc] at hk ⊢); exact ReadR.loadO memA rfl rfl) ?_) | (refine gD 16 ?_; refine RGl.rdX (fun e hk => by (try dsimp only [bndR, ensR, oksR, fcutR, List.append_nil, List.nil_append, List.cons_append, List.append_assoc] at hk ⊢); exact ReadR.binE rfl rfl BinR.lss (congrArg Value.bool (decide_eq_true hlt'))) ?_) | (refine gD 22 ?_; refine RGl.rdX (fun e hk => by (try dsimp only [bndR, ensR, oksR, fcutR, List.append_nil, List.nil_append, List.cons_append, List.append_assoc] at hk ⊢); exact ReadR.loadO memA rfl rfl) ?_) | (refine gD 24 ?_; refine RGl.rdX (fun e hk => by (try dsimp only [bndR, ensR, oksR, fcutR, List.append_nil, List.nil_append, List.cons_append, List.append_assoc] at hk ⊢); exact ReadR.indexE (i := i) rfl rfl hasA hlt) ?_) | (refine gD 25 ?_; refine RGl.rdX (fun e hk => by (try dsimp only [bndR, ensR, oksR, fcutR, List.append_nil, List.nil_append, List.cons_append, List.append_assoc] at hk ⊢); exact ReadR.fieldE rfl hasA (by omega)) ?_) | (refine gD 26 ?_; refine RGl.rdX (fun e hk => by (try dsimp only [bndR, ensR, oksR, fcutR, List.append_nil, List.nil_append, List.cons_append, List.append_assoc] at hk ⊢); exact ReadR.loadES (cs := adc f.s.ad) hfa1 (by omega) rfl hasA) ?_) | (refine gD 33 ?_; refine RGl.rdX (fun e hk => by (try dsimp only [bndR, ensR, oksR, fcutR, List.append_nil, List.nil_append, List.cons_append, List.append_assoc] at hk ⊢); exact ReadR.loadO memA rfl rfl) ?_) | (refine gD 35 ?_; refine RGl.rdX (fun e hk => by (try dsimp only [bndR, ensR, oksR, fcutR, List.append_nil, List.nil_append, List.cons_append, List.append_assoc] at hk ⊢); exact ReadR.indexE (i := i) rfl rfl hasA hlt) ?_) | (refine gD 36 ?_; refine RGl.rdX (fun e hk => by (try dsimp only [bndR, ensR, oksR, fcutR, List.append_nil, List.nil_append, List.cons_append, List.append_assoc] at hk ⊢); exact ReadR.fieldE rfl hasA (by omega)) ?_) | (refine gD 37 ?_; refine RGl.rdX (fun e hk => by (try dsimp only [bndR, ensR, oksR, fcutR, List.append_nil, List.nil_append, List.cons_append, List.append_assoc] at hk ⊢); exact ReadR.loadE rfl hasA hf18) ?_) | (refine gD 28 ?_; refine RGl.rdX (fun e hk => by (try dsimp only [bndR, ensR, oksR, fcutR, List.append_nil, List.nil_append, List.cons_append, List.append_assoc] at hk ⊢); exact ReadR.binE rfl rfl BinR.adE (congrArg Value.bool (decide_eq_true had))) ?_) | (refine gD 39 ?_; refine RGl.rdX (fun e hk => by (try dsimp only [bndR, ensR, oksR, fcutR, List.append_nil, List.nil_append, List.cons_append, List.append_assoc] at hk ⊢); exact ReadR.binE rfl rfl BinR.eql (congrArg Value.bool (decide_eq_false hpo))) ?_) | (refine gOp ?_; first | refine RGl.rdA ?_ | refine RGl.rdX (fun e hk => by (try dsimp only [bndR, ensR, oksR, fcutR, List.append_nil, List.nil_append, List.cons_append, List.append_assoc] at hk ⊢); exact readB) ?_) | (refine RGl.fin (fun e hk => ?_); (try dsimp only [bndA, ensAR, oksA, List.append_nil, List.nil_append, List.cons_append, List.append_assoc] at hk ⊢); (repeat (obtain ⟨hk1, hk⟩ := hk))) | fail)
         | (refine isCond ?_; first | refine WPc.cT ?_ | refine WPc.cF ?_ | (refine WPc.cQ (fun hc => ?_) (fun hc => ?_) <;> try first | exact prA | (exfalso; first | omega)))
         | (refine isD 14 ?_; refine WPl.rdX (ReadR.loadO memA rfl rfl) ?_)
         | (refine isD 56 ?_; refine WPl.rdX (ReadR.loadO memA rfl rfl) ?_)
         | (refine isD 16 ?_; refine WPl.rdX (ReadR.binE rfl rfl BinR.lss (congrArg Value.bool (decide_eq_true hlt'))) ?_)
         | (refine isD 22 ?_; refine WPl.rdX (ReadR.loadO memA rfl rfl) ?_)
         | (refine isD 24 ?_; refine WPl.rdX (ReadR.indexE (i := i) rfl rfl hasA hlt) ?_)
         | (refine isD 25 ?_; refine WPl.rdX (ReadR.fieldE rfl hasA (by omega)) ?_)
         | (refine isD 26 ?_; refine WPl.rdX (ReadR.loadES (cs := adc f.s.ad) hfa1 (by omega) rfl hasA) ?_)
         | (refine isD 33 ?_; refine WPl.rdX (ReadR.loadO memA rfl rfl) ?_)
         | (refine isD 35 ?_; refine WPl.rdX (ReadR.indexE (i := i) rfl rfl hasA hlt) ?_)
         | (refine isD 36 ?_; refine WPl.rdX (ReadR.fieldE rfl hasA (by omega)) ?_)
         | (refine isD 37 ?_; refine WPl.rdX (ReadR.loadE rfl hasA hf18) ?_)
         | (refine isD 28 ?_; refine WPl.rdX (ReadR.binE rfl rfl BinR.adE (congrArg Value.bool (decide_eq_true had))) ?_)
         | (refine isD 39 ?_; refine WPl.rdX (ReadR.binE rfl rfl BinR.eql (congrArg Value.bool (decide_eq_false hpo))) ?_)
         | (refine isOp ?_; first | refine WPl.rd ?_ | refine WPl.sk ?_ | refine WPl.rdB ?_)
         | (refine isBx ?_; refine WPl.nw fun g => ?_)
         | (show WPl _ _ _ _ _ _ _ (⟨_, .indexAddr _ _ _, _, _, _, _⟩ :: _) _; refine WPl.rdX (ReadR.indexE rfl rfl hasA (by first | assumption | omega)) ?_)
         | (show WPl _ _ _ _ _ _ _ (⟨_, .fieldAddr _ _ _, _, _, _, _⟩ :: _) _; refine WPl.rdX (ReadR.fieldE rfl hasA (by first | assumption | omega)) ?_)
         | (show WPl _ _ _ _ _ _ _ (⟨_, .load _ _, _, _, _, _⟩ :: _) _; first | refine WPl.rdX (ReadR.loadE rfl hasA (by assumption)) ?_ | refine WPl.rdX (ReadR.loadES (by assumption) (by first | assumption | omega) rfl hasA) ?_)
         | (show WPl _ _ _ _ _ _ _ (⟨_, .slice _ _ _ _ _, _, _, _, _⟩ :: _) _; first | refine WPl.rdX (ReadR.sliceH rfl rfl hasA (by omega)) ?_ | refine WPl.rdX (ReadR.sliceL rfl rfl hasA (by omega)) ?_ | refine WPl.rdX (ReadR.sliceLH rfl rfl rfl hasA (by omega) (by omega)) ?_)
         | (refine WPl.spQ (fun hc => ?_) (fun hc => ?_) <;> try first | exact prA | (exfalso; first | omega))
         | fail)
        exact WPq.rnd (i + 1) (hnx hn) (by omega)
    · have hn : f.s.door ≠ ⟨a, port, proto⟩ := fun e => had (congrArg Dr.ad e)
      repeat' (first
       | refine WPl.nil ?_ | refine WPq.then ?_ | refine WPq.thenR ?_ | refine WPq.thenE ?_ | refine WPq.blockN ?_ | refine WPq.blockR ?_ | refine WPq.blockE ?_ | refine WPq.blockO rfl ?_ | refine WPc.seq ?_ | refine WPc.block ?_ | refine WPc.ret ?_ | refine WPc.exit ?_ | refine WPc.skip ?_ | refine WPc.region ?_
       | (refine isReg 4 ?_; refine WPc.drA [([], [23, 27]), ([0], [19, 23, 27]), ([0, 1], [19, 20, 23, 27]), ([0, 1, 2], [19, 20, 21, 23, 27]), ([], [19, 20, 21, 22, 27]), ([0, 1, 2, 3, 4], [19, 20, 21, 22, 23, 27]), ([0, 1, 2, 3, 4, 5], [19, 20, 21, 22, 23, 24, 27]), ([0, 1, 2, 3, 4, 5, 6], [19, 20, 21, 22, 23, 24, 25, 27]), ([], [19, 20, 21, 22, 23, 24, 25, 26]), ([0, 1, 2, 3, 4, 5, 6, 7, 8], [19, 20, 21, 22, 23, 24, 25, 26, 27]), ([0, 1, 2, 3, 4, 5, 6, 7, 8, 9], [19, 20, 21, 22, 23, 24, 25, 26, 27, 28]), ([0, 1, 2, 3, 4, 5, 6, 7, 8, 9, 10], [19, 20, 21, 22, 23, 24, 25, 26, 27, 28, 29, 34, 38]), ([0, 1, 2, 3, 4, 5, 6, 7, 8, 9, 10, 11], [19, 20, 21, 22, 23, 24, 25, 26, 27, 28, 29, 30, 34, 38]), ([0, 1, 2, 3, 4, 5, 6, 7, 8, 9, 10, 11, 12], [19, 20, 21, 22, 23, 24, 25, 26, 27, 28, 29, 30, 31, 34, 38]), ([0, 1, 2, 3, 4, 5, 6, 7, 8, 9, 10, 11, 12, 13], [19, 20, 21, 22, 23, 24, 25, 26, 27, 28, 29, 30, 31, 32, 34, 38]), ([0, 1, 2, 3, 4, 5, 6, 7, 8, 9, 10], [19, 20, 21, 22, 23, 24, 25, 26, 27, 28, 29, 30, 31, 32, 33, 38]), ([0, 1, 2, 3, 4, 5, 6, 7, 8, 9, 10, 11, 12, 13, 14, 15], [19, 20, 21, 22, 23, 24, 25, 26, 27, 28, 29, 30, 31, 32, 33, 34, 38]), ([0, 1, 2, 3, 4, 5, 6, 7, 8, 9, 10, 11, 12, 13, 14, 15, 16], [19, 20, 21, 22, 23, 24, 25, 26, 27, 28, 29, 30, 31, 32, 33, 34, 35, 38]), ([0, 1, 2, 3, 4, 5, 6, 7, 8, 9, 10, 11, 12, 13, 14, 15, 16, 17], [19, 20, 21, 22, 23, 24, 25, 26, 27, 28, 29, 30, 31, 32, 33, 34, 35, 36, 38]), ([0, 1, 2, 3, 4, 5, 6, 7, 8, 9, 10], [19, 20, 21, 22, 23, 24, 25, 26, 27, 28, 29, 30, 31, 32, 33, 34, 35, 36, 37]), ([0, 1, 2, 3, 4, 5, 6, 7, 8, 9, 10, 11, 12, 13, 14, 15, 16, 17, 18, 19], [19, 20, 21, 22, 23, 24, 25, 26, 27, 28, 29, 30, 31, 32, 33, 34, 35, 36, 37, 38]), ([0, 1, 2, 3, 4, 5, 6, 7, 8, 9, 10, 11, 12, 13, 14, 15, 16, 17, 18, 19, 20], [19, 20, 21, 22, 23, 24, 25, 26, 27, 28, 29, 30, 31, 32, 33, 34, 35, 36, 37, 38, 39]), ([0, 1, 2, 3, 4, 5, 6, 7, 8, 9, 10, 11, 12, 13, 14, 15, 16, 17, 18, 19, 20, 21], [19, 20, 21, 22, 23, 24, 25, 26, 27, 28, 29, 30, 31, 32, 33, 34, 35, 36, 37, 38, 39, 40]), ([0, 1, 2, 3, 4, 5, 6, 7, 8, 9, 10, 11, 12, 13, 14, 15, 16, 17, 18, 19, 20, 21, 22], [19, 20, 21, 22, 23, 24, 25, 26, 27, 28, 29, 30, 31, 32, 33, 34, 35, 36, 37, 38, 39, 40, 41, 46, 50]), ([0, 1, 2, 3, 4, 5, 6, 7, 8, 9, 10, 11, 12, 13, 14, 15, 16, 17, 18, 19, 20, 21, 22, 23], [19, 20, 21, 22, 23, 24, 25, 26, 27, 28, 29, 30, 31, 32, 33, 34, 35, 36, 37, 38, 39, 40, 41, 42, 46, 50]), ([0, 1, 2, 3, 4, 5, 6, 7, 8, 9, 10, 11, 12, 13, 14, 15, 16, 17, 18, 19, 20, 21, 22, 23, 24], [19, 20, 21, 22, 23, 24, 25, 26, 27, 28, 29, 30, 31, 32, 33, 34, 35, 36, 37, 38, 39, 40, 41, 42, 43, 46, 50]), ([0, 1, 2, 3, 4, 5, 6, 7, 8, 9, 10, 11, 12, 13, 14, 15, 16, 17, 18, 19, 20, 21, 22, 23, 24, 25], [19, 20, 21, 22, 23, 24, 25, 26, 27, 28, 29, 30, 31, 32, 33, 34, 35, 36, 37, 38, 39, 40, 41, 42, 43, 44, 46, 50]), ([0, 1, 2, 3, 4, 5, 6, 7, 8, 9, 10, 11, 12, 13, 14, 15, 16, 17, 18, 19, 20, 21, 22], [19, 20, 21, 22, 23, 24, 25, 26, 27, 28, 29, 30, 31, 32, 33, 34, 35, 36, 37, 38, 39, 40, 41, 42, 43, 44, 45, 50]), ([0, 1, 2, 3, 4, 5, 6, 7, 8, 9, 10, 11, 12, 13, 14, 15, 16, 17, 18, 19, 20, 21, 22, 23, 24, 25, 26, 27], [19, 20, 21, 22, 23, 24, 25, 26, 27, 28, 29, 30, 31, 32, 33, 34, 35, 36, 37, 38, 39, 40, 41, 42, 43, 44, 45, 46, 50]), ([0, 1, 2, 3, 4, 5, 6, 7, 8, 9, 10, 11, 12, 13, 14, 15, 16, 17, 18, 19, 20, 21, 22, 23, 24, 25, 26, 27, 28], [19, 20, 21, 22, 23, 24, 25, 26, 27, 28, 29, 30, 31, 32, 33, 34, 35, 36, 37, 38, 39, 40, 41, 42, 43, 44, 45, 46, 47, 50]), ([0, 1, 2, 3, 4, 5, 6, 7, 8, 9, 10, 11, 12, 13, 14, 15, 16, 17, 18, 19, 20, 21, 22, 23, 24, 25, 26, 27, 28, 29], [19, 20, 21, 22, 23, 24, 25, 26, 27, 28, 29, 30, 31, 32, 33, 34, 35, 36, 37, 38, 39, 40, 41, 42, 43, 44, 45, 46, 47, 48, 50]), ([0, 1, 2, 3, 4, 5, 6, 7, 8, 9, 10, 11, 12, 13, 14, 15, 16, 17, 18, 19, 20, 21, 22], [19, 20, 21, 22, 23, 24, 25, 26, 27, 28, 29, 30, 31, 32, 33, 34, 35, 36, 37, 38, 39, 40, 41, 42, 43, 44, 45, 46, 47, 48, 49]), ([0, 1, 2, 3, 4, 5, 6, 7, 8, 9, 10, 11, 12, 13, 14, 15, 16, 17, 18, 19, 20, 21, 22, 23, 24, 25, 26, 27, 28, 29, 30, 31], [19, 20, 21, 22, 23, 24, 25, 26, 27, 28, 29, 30, 31, 32, 33, 34, 35, 36, 37, 38, 39, 40, 41, 42, 43, 44, 45, 46, 47, 48, 49, 50]), ([0, 1, 2, 3, 4, 5, 6, 7, 8, 9, 10, 11, 12, 13, 14, 15, 16, 17, 18, 19, 20, 21, 22, 23, 24, 25, 26, 27, 28, 29, 30, 31, 32], [19, 20, 21, 22, 23, 24, 25, 26, 27, 28, 29, 30, 31, 32, 33, 34, 35, 36, 37, 38, 39, 40, 41, 42, 43, 44, 45, 46, 47, 48, 49, 50, 51])] [] (Γx := []) ?_; dsimp only [prev0, List.length_nil, List.length_cons])
       | (refine gAny ?_; first | (refine gGd ?_; refine RGl.skp ?_) | (refine gD 14 ?_; refine RGl.rdX (fun e hk => by (try dsimp only [bndR, ensR, oksR, fcutR, List.append_nil, List.nil_append, List.cons_append, List.append_assoc] at hk ⊢); exact ReadR.loadO memA rfl rfl) ?_) | (refine gD 56 ?_; refine RGl.rdX (fun e hk => by (try dsimp only [bndR, ensR, oksR, fcutR, List.append_nil, List.nil_append, List.cons_append, List.append_assoc] at hk ⊢); exact ReadR.loadO memA rfl rfl) ?_) | (refine gD 16 ?_; refine RGl.rdX (fun e hk => by (try dsimp only [bndR, ensR, oksR, fcutR, List.append_nil, List.nil_append, List.cons_append, List.append_assoc] at hk ⊢); exact ReadR.binE rfl rfl BinR.lss (congrArg Value.bool (decide_eq_true hlt'))) ?_) | (refine gD 22 ?_; refine RGl.rdX (fun e hk => by (try dsimp only [bndR, ensR, oksR, fcutR, List.append_nil, List.nil_append, List.cons_append, List.append_assoc] at hk ⊢); exact ReadR.loadO memA rfl rfl) ?_) | (refine gD 24 ?_; refine RGl.rdX (fun e hk => by (try dsimp only [bndR, ensR, oksR, fcutR, List.append_nil, List.nil_append, List.cons_append, List.append_assoc] at hk ⊢); exact ReadR.indexE (i := i) rfl rfl hasA hlt) ?_) | (refine gD 25 ?_; refine RGl.rdX (fun e hk => by (try dsimp only [bndR, ensR, oksR, fcutR, List.append_nil, List.nil_append, List.cons_append, List.append_assoc] at hk ⊢); exact ReadR.fieldE rfl hasA (by omega)) ?_) | (refine gD 26 ?_; refine RGl.rdX (fun e hk => by (try dsimp only [bndR, ensR, oksR, fcutR, List.append_nil, List.nil_append, List.cons_append, List.append_assoc] at hk ⊢); exact ReadR.loadES (cs := adc f.s.ad) hfa1 (by omega) rfl hasA) ?_) | (refine gD 28 ?_; refine RGl.rdX (fun e hk => by (try dsimp only [bndR, ensR, oksR, fcutR, List.append_nil, List.nil_append, List.cons_append, List.append_assoc] at hk ⊢); exact ReadR.binE rfl rfl BinR.adE (congrArg Value.bool (decide_eq_false had))) ?_) | (refine gOp ?_; first | refine RGl.rdA ?_ | refine RGl.rdX (fun e hk => by (try dsimp only [bndR, ensR, oksR, fcutR, List.append_nil, List.nil_append, List.cons_append, List.append_assoc] at hk ⊢); exact readB) ?_) | (refine RGl.fin (fun e hk => ?_); (try dsimp only [bndA, ensAR, oksA, List.append_nil, List.nil_append, List.cons_append, List.append_assoc] at hk ⊢); (repeat (obtain ⟨hk1, hk⟩ := hk))) | fail)
       | (refine isCond ?_; first | refine WPc.cT ?_ | refine WPc.cF ?_ | (refine WPc.cQ (fun hc => ?_) (fun hc => ?_) <;> try first | exact prA | (exfalso; first | omega)))
       | (refine isD 14 ?_; refine WPl.rdX (ReadR.loadO memA rfl rfl) ?_)
       | (refine isD 56 ?_; refine WPl.rdX (ReadR.loadO memA rfl rfl) ?_)
       | (refine isD 16 ?_; refine WPl.rdX (ReadR.binE rfl rfl BinR.lss (congrArg Value.bool (decide_eq_true hlt'))) ?_)
       | (refine isD 22 ?_; refine WPl.rdX (ReadR.loadO memA rfl rfl) ?_)
       | (refine isD 24 ?_; refine WPl.rdX (ReadR.indexE (i := i) rfl rfl hasA hlt) ?_)
       | (refine isD 25 ?_; refine WPl.rdX (ReadR.fieldE rfl hasA (by omega)) ?_)
       | (refine isD 26 ?_; refine WPl.rdX (ReadR.loadES (cs := adc f.s.ad) hfa1 (by omega) rfl hasA) ?_)
       | (refine isD 28 ?_; refine WPl.rdX (ReadR.binE rfl rfl BinR.adE (congrArg Value.bool (decide_eq_false had))) ?_)
       | (refine isOp ?_; first | refine WPl.rd ?_ | refine WPl.sk ?_ | refine WPl.rdB ?_)
       | (refine isBx ?_; refine WPl.nw fun g => ?_)
       | (show WPl _ _ _ _ _ _ _ (⟨_, .indexAddr _ _ _, _, _, _, _⟩ :: _) _; refine WPl.rdX (ReadR.indexE rfl rfl hasA (by first | assumption | omega)) ?_)
       | (show WPl _ _ _ _ _ _ _ (⟨_, .fieldAddr _ _ _, _, _, _, _⟩ :: _) _; refine WPl.rdX (ReadR.fieldE rfl hasA (by first | assumption | omega)) ?_)
       | (show WPl _ _ _ _ _ _ _ (⟨_, .load _ _, _, _, _, _⟩ :: _) _; first | refine WPl.rdX (ReadR.loadE rfl hasA (by assumption)) ?_ | refine WPl.rdX (ReadR.loadES (by assumption) (by first | assumption | omega) rfl hasA) ?_)
       | (show WPl _ _ _ _ _ _ _ (⟨_, .slice _ _ _ _ _, _, _, _, _⟩ :: _) _; first | refine WPl.rdX (ReadR.sliceH rfl rfl hasA (by omega)) ?_ | refine WPl.rdX (ReadR.sliceL rfl rfl hasA (by omega)) ?_ | refine WPl.rdX (ReadR.sliceLH rfl rfl rfl hasA (by omega) (by omega)) ?_)
       | (refine WPl.spQ (fun hc => ?_) (fun hc => ?_) <;> try first | exact prA | (exfalso; first | omega))
       | fail)
      exact WPq.rnd (i + 1) (hnx hn) (by omega)
  · have hlt' : ¬ (i : Int) < (L.length : Int) := by omega
    have hr : matchR (L.map SX.sb) ⟨a, port, proto⟩ = -1 := by unfold matchR; rw [doorS_no fun j g hg => hno j g (by have := (List.getElem?_eq_some_iff.1 hg).1; omega) hg]
    rw [hr]
    repeat' (first
     | refine WPl.nil ?_ | refine WPq.then ?_ | refine WPq.thenR ?_ | refine WPq.thenE ?_ | refine WPq.blockN ?_ | refine WPq.blockR ?_ | refine WPq.blockE ?_ | refine WPq.blockO rfl ?_ | refine WPc.seq ?_ | refine WPc.block ?_ | refine WPc.ret ?_ | refine WPc.exit ?_ | refine WPc.skip ?_ | refine WPc.region ?_
     | (refine isCond ?_; first | refine WPc.cT ?_ | refine WPc.cF ?_ | (refine WPc.cQ (fun hc => ?_) (fun hc => ?_) <;> try first | exact prA | (exfalso; first | omega)))
     | (refine isD 14 ?_; refine WPl.rdX (ReadR.loadO memA rfl rfl) ?_)
     | (refine isD 56 ?_; refine WPl.rdX (ReadR.loadO memA rfl rfl) ?_)
     | (refine isD 16 ?_; refine WPl.rdX (ReadR.binE rfl rfl BinR.lss (congrArg Value.bool (decide_eq_false hlt'))) ?_)
     | (refine isOp ?_; first | refine WPl.rd ?_ | refine WPl.sk ?_ | refine WPl.rdB ?_)
     | (refine isBx ?_; refine WPl.nw fun g => ?_)
     | (show WPl _ _ _ _ _ _ _ (⟨_, .indexAddr _ _ _, _, _, _, _⟩ :: _) _; refine WPl.rdX (ReadR.indexE rfl rfl hasA (by first | assumption | omega)) ?_)
     | (show WPl _ _ _ _ _ _ _ (⟨_, .fieldAddr _ _ _, _, _, _, _⟩ :: _) _; refine WPl.rdX (ReadR.fieldE rfl hasA (by first | assumption | omega)) ?_)
     | (show WPl _ _ _ _ _ _ _ (⟨_, .load _ _, _, _, _, _⟩ :: _) _; first | refine WPl.rdX (ReadR.loadE rfl hasA (by assumption)) ?_ | refine WPl.rdX (ReadR.loadES (by assumption) (by first | assumption | omega) rfl hasA) ?_)
     | (show WPl _ _ _ _ _ _ _ (⟨_, .slice _ _ _ _ _, _, _, _, _⟩ :: _) _; first | refine WPl.rdX (ReadR.sliceH rfl rfl hasA (by omega)) ?_ | refine WPl.rdX (ReadR.sliceL rfl rfl hasA (by omega)) ?_ | refine WPl.rdX (ReadR.sliceLH rfl rfl rfl hasA (by omega) (by omega)) ?_)
     | (refine WPl.spQ (fun hc => ?_) (fun hc => ?_) <;> try first | exact prA | (exfalso; first | omega))
     | fail)
    exact WPq.dV
theorem rshares0_t (id : Int) (vd : Value) (hat : atR L id = none) : Triple Try.prog 44 #[hF gX, .int .i64 id, vd] [rbx gX 49 (rfc vL), rdN vL L.length (svs L)] (RRow 79 2 0 []) := by
  have c16 := rat20_t gX vL L hm id
  rw [hat] at c16
  have c16 : Triple Try.prog 40 #[hF gX, .int .i64 id] [rbx gX 49 (rfc vL), rdN vL L.length (svs L)] (RVal (.int .i64 (-1))) := c16
  refine Triple.enter Try.func44 rfl Try.ntmps44 rfl (fun W => ?_)
  dsimp only [argsF, Nat.reduceAdd]
  repeat' (first
   | refine WPl.nil ?_ | refine WPq.then ?_ | refine WPq.thenR ?_ | refine WPq.thenE ?_ | refine WPq.blockN ?_ | refine WPq.blockR ?_ | refine WPq.blockE ?_ | refine WPq.blockO rfl ?_ | refine WPc.seq ?_ | refine WPc.block ?_ | refine WPc.ret ?_ | refine WPc.exit ?_ | refine WPc.skip ?_ | refine WPc.region ?_
   | (refine isCond ?_; first | refine WPc.cT ?_ | refine WPc.cF ?_ | (refine WPc.cQ (fun hc => ?_) (fun hc => ?_) <;> try exact prA))
   | (refine isD 13 ?_; refine WPl.litS0 fun v13 hv13 => ?_)
   | (refine isC 16 ?_; refine WPl.cV c16 ?_ (hΔ := provsX))
   | (refine isD 18 ?_; refine WPl.rdX (ReadR.binE rfl rfl BinR.lss (congrArg Value.bool (decide_eq_true (show (-1 : Int) < 0 by decide)))) ?_)
   | (refine isOp ?_; first | refine WPl.rd ?_ | refine WPl.sk ?_ | refine WPl.rdB ?_)
   | (refine isAl ?_; refine WPl.nw fun g => ?_)
   | (refine isSt ?_; first | refine WPl.st1 ?_ | refine WPl.stA ?_ | refine WPl.stEB ?_ | refine WPl.stRB ?_)
   | (show WPl _ _ _ _ _ _ _ (⟨_, .indexAddr _ _ _, _, _, _, _⟩ :: _) _; refine WPl.rdX (ReadR.indexE rfl rfl hasA (by first | assumption | omega)) ?_)
   | (show WPl _ _ _ _ _ _ _ (⟨_, .fieldAddr _ _ _, _, _, _, _⟩ :: _) _; refine WPl.rdX (ReadR.fieldE rfl hasA (by first | assumption | omega)) ?_)
   | (show WPl _ _ _ _ _ _ _ (⟨_, .load _ _, _, _, _, _⟩ :: _) _; first | refine WPl.rdX (ReadR.loadE rfl hasA (by assumption)) ?_ | refine WPl.rdX (ReadR.loadES (by assumption) (by first | assumption | omega) rfl hasA) ?_)
   | (show WPl _ _ _ _ _ _ _ (⟨_, .slice _ _ _ _ _, _, _, _, _⟩ :: _) _; first | refine WPl.rdX (ReadR.sliceH rfl rfl hasA (by omega)) ?_ | refine WPl.rdX (ReadR.sliceL rfl rfl hasA (by omega)) ?_ | refine WPl.rdX (ReadR.sliceLH rfl rfl rfl hasA (by omega) (by omega)) ?_)
   | (refine WPl.spQ (fun hc => ?_) (fun hc => ?_) <;> try exact prA)
   | fail)
  exact WPq.dR
theorem rshares1_t (id : Int) (vd : Value) (down : List Int) (hd : down.length ≤ 1000) (i : Nat) (hat : atR L id = some i) (x : SX) (hx : L[i]? = some x) (hxl : x.bs.length ≤ 16) : Triple Try.prog 44 #[hF gX, .int .i64 id, vd] [rbx gX 49 (rfc vL), rdN vL L.length (svs L), rdN vd down.length (intsV down), rdN x.v x.bs.length (bks x.bs)] (RRow 79 2 (sharesB x.bs down).length (shrs (sharesB x.bs down))) := by
  have c16 := rat20_t gX vL L hm id
  rw [hat] at c16
  have c16 : Triple Try.prog 40 #[hF gX, .int .i64 id] [rbx gX 49 (rfc vL), rdN vL L.length (svs L)] (RVal (.int .i64 (i : Int))) := c16
  have hi0 : ¬ (i : Int) < 0 := by omega
  have hil := (List.getElem?_eq_some_iff.1 hx).1
  have hxv : (svs L)[i * 23 + 22]? = some x.v := (svs_cell hx (o := 22) (by omega)).trans sh22
  have hcl := svs_len (l := L)
  have hL := bks_len (l := x.bs)
  have hdl : (intsV down).length = down.length := by with_unfolding_all simp [intsV]
  have e1 : ∀ v, rowN 79 2 v 0 [] = rowN 79 2 v (sharesB (x.bs.take 0) down).length (shrs (sharesB (x.bs.take 0) down)) := fun v => by with_unfolding_all rfl
  refine Triple.enter Try.func44 rfl Try.ntmps44 rfl (fun W => ?_)
  dsimp only [argsF, Nat.reduceAdd]
  repeat' (first
   | refine WPl.nil ?_ | refine WPq.then ?_ | refine WPq.thenR ?_ | refine WPq.thenE ?_ | refine WPq.blockN ?_ | refine WPq.blockR ?_ | refine WPq.blockE ?_ | refine WPq.blockO rfl ?_ | refine WPc.seq ?_ | refine WPc.block ?_ | refine WPc.ret ?_ | refine WPc.exit ?_ | refine WPc.skip ?_ | refine WPc.region ?_
   | (refine isCond ?_; first | refine WPc.cT ?_ | refine WPc.cF ?_ | (refine WPc.cQ (fun hc => ?_) (fun hc => ?_) <;> try exact prA))
   | (refine isD 13 ?_; refine WPl.litS0 fun v13 hv13 => ?_)
   | (refine isC 16 ?_; refine WPl.cV c16 ?_ (hΔ := provsX))
   | (refine isD 18 ?_; refine WPl.rdX (ReadR.binE rfl rfl BinR.lss (congrArg Value.bool (decide_eq_false hi0))) ?_)
   | (refine isOp ?_; first | refine WPl.rd ?_ | refine WPl.sk ?_ | refine WPl.rdB ?_)
   | (refine isAl ?_; refine WPl.nw fun g => ?_)
   | (refine isSt ?_; first | refine WPl.st1 ?_ | refine WPl.stA ?_ | refine WPl.stEB ?_ | refine WPl.stRB ?_)
   | (show WPl _ _ _ _ _ _ _ (⟨_, .indexAddr _ _ _, _, _, _, _⟩ :: _) _; refine WPl.rdX (ReadR.indexE rfl rfl hasA (by first | assumption | omega)) ?_)
   | (show WPl _ _ _ _ _ _ _ (⟨_, .fieldAddr _ _ _, _, _, _, _⟩ :: _) _; refine WPl.rdX (ReadR.fieldE rfl hasA (by first | assumption | omega)) ?_)
   | (show WPl _ _ _ _ _ _ _ (⟨_, .load _ _, _, _, _, _⟩ :: _) _; first | refine WPl.rdX (ReadR.loadE rfl hasA (by assumption)) ?_ | refine WPl.rdX (ReadR.loadES (by assumption) (by first | assumption | omega) rfl hasA) ?_)
   | (show WPl _ _ _ _ _ _ _ (⟨_, .slice _ _ _ _ _, _, _, _, _⟩ :: _) _; first | refine WPl.rdX (ReadR.sliceH rfl rfl hasA (by omega)) ?_ | refine WPl.rdX (ReadR.sliceL rfl rfl hasA (by omega)) ?_ | refine WPl.rdX (ReadR.sliceLH rfl rfl rfl hasA (by omega) (by omega)) ?_)
   | (refine WPl.spQ (fun hc => ?_) (fun hc => ?_) <;> try exact prA)
   | fail)
  rw [e1]
  first | refine WPc.loop (σ := Nat × Value) (fun st => st.1 ≤ x.bs.length ∧ st.2.oneCell' = true) (fun st => [rbx gX 49 (rfc vL), rdN vL L.length (svs L), rdN vd down.length (intsV down), rdN x.v x.bs.length (bks x.bs), rowN 79 2 st.2 (sharesB (x.bs.take st.1) down).length (shrs (sharesB (x.bs.take st.1) down))]) (fun st => [(0, hF gX), (2, vd), (7, st.2), (8, .int .i64 (i : Int)), (9, .int .i64 (st.1 : Int))]) (fun st => x.bs.length - st.1) ((0, v13)) ?_ takesA frsA (fun st km hx hk => ?_)
  · exact ⟨Nat.zero_le _, hv13⟩
  obtain ⟨k, vo⟩ := st
  obtain ⟨hk2, hvo⟩ := hx
  dsimp only at hk2 hvo hk ⊢
  have hkm : km = x.bs.length - k := hk
  clear hk
  by_cases hlt : k < x.bs.length
  · obtain ⟨y, hy⟩ : ∃ y, x.bs[k]? = some y := ⟨_, List.getElem?_eq_getElem hlt⟩
    have hlt' : (k : Int) < (x.bs.length : Int) := by omega
    have hyc := bks_at hy
    have hyl := y.ad.len
    have hfb := bkC_ok y
    have hnx := sharesB_next (down := down) hy
    have hle := sharesB_len (bs := x.bs.take k) (down := down)
    rw [List.length_take] at hle
    have hLo := shrs_len (l := sharesB (x.bs.take k) down)
    obtain ⟨cur, hcur⟩ : ∃ cur, cur = sharesB (x.bs.take k) down := ⟨_, rfl⟩
    rw [← hcur] at hnx hle hLo ⊢
    have hrow : takesB down y = true → ∀ v2, rowN 79 2 v2 (cur.length + 1) (shrs cur ++ flat (shrC (y.id, y.wt))) = rowN 79 2 v2 (sharesB (x.bs.take (k + 1)) down).length (shrs (sharesB (x.bs.take (k + 1)) down)) := fun hq v2 => by
      rw [hnx, if_pos hq, shrs_app, shrs_one, List.length_append]; rfl
    have hno : takesB down y = false → cur = sharesB (x.bs.take (k + 1)) down := fun hq => by rw [hnx, if_neg (by rw [hq]; simp), List.append_nil]
    repeat' (first
     | refine WPl.nil ?_ | refine WPq.then ?_ | refine WPq.thenR ?_ | refine WPq.thenE ?_ | refine WPq.blockN ?_ | refine WPq.blockR ?_ | refine WPq.blockE ?_ | refine WPq.blockO rfl ?_ | refine WPc.seq ?_ | refine WPc.block ?_ | refine WPc.ret ?_ | refine WPc.exit ?_ | refine WPc.skip ?_ | refine WPc.region ?_
     | (refine isCond ?_; first | refine WPc.cT ?_ | refine WPc.cF ?_ | (refine WPc.cQ (fun hc => ?_) (fun hc => ?_) <;> try first | exact prA | (exfalso; first | omega)))
     | (refine isD 24 ?_; refine WPl.rdX (ReadR.loadO memA rfl rfl) ?_)
     | (refine isD 26 ?_; refine WPl.rdX (ReadR.indexE (i := i) rfl rfl hasA hil) ?_)
     | (refine isD 27 ?_; refine WPl.rdX (ReadR.fieldE rfl hasA (by omega)) ?_)
     | (refine isD 28 ?_; refine WPl.rdX (ReadR.loadE rfl hasA hxv) ?_)
     | (refine isD 30 ?_; refine WPl.rdX (ReadR.binE rfl rfl BinR.lss (congrArg Value.bool (decide_eq_true hlt'))) ?_)
     | (refine isD 36 ?_; refine WPl.rdX (ReadR.loadO memA rfl rfl) ?_)
     | (refine isD 38 ?_; refine WPl.rdX (ReadR.indexE (i := i) rfl rfl hasA hil) ?_)
     | (refine isD 39 ?_; refine WPl.rdX (ReadR.fieldE rfl hasA (by omega)) ?_)
     | (refine isD 40 ?_; refine WPl.rdX (ReadR.loadE rfl hasA hxv) ?_)
     | (refine isD 42 ?_; refine WPl.rdX (ReadR.indexE (i := k) rfl rfl hasA hlt) ?_)
     | (refine isD 43 ?_; refine WPl.rdX (ReadR.loadES (cs := bkC y) hyc (by omega) rfl hasA) ?_)
     | (refine isD 10 ?_; first | (refine isAl ?_; refine WPl.nw fun g10 => ?_) | (refine isBx ?_; refine WPl.nw fun g10 => ?_))
     | (show WPl _ _ _ _ _ _ _ (⟨_, .store _ (.tmp 10) _, _, _, _, _⟩ :: _) _; refine WPl.stA (new := bkC y) ?_ (hn := hfb))
     | (refine isOp ?_; first | refine WPl.rd ?_ | refine WPl.sk ?_ | refine WPl.rdB ?_)
     | (refine isAl ?_; refine WPl.nw fun g => ?_)
     | (refine isSt ?_; first | refine WPl.st1 ?_ | refine WPl.stA ?_ | refine WPl.stEB ?_ | refine WPl.stRB ?_)
     | (show WPl _ _ _ _ _ _ _ (⟨_, .indexAddr _ _ _, _, _, _, _⟩ :: _) _; refine WPl.rdX (ReadR.indexE rfl rfl hasA (by first | assumption | omega)) ?_)
     | (show WPl _ _ _ _ _ _ _ (⟨_, .fieldAddr _ _ _, _, _, _, _⟩ :: _) _; refine WPl.rdX (ReadR.fieldE rfl hasA (by first | assumption | omega)) ?_)
     | (show WPl _ _ _ _ _ _ _ (⟨_, .load _ _, _, _, _, _⟩ :: _) _; first | refine WPl.rdX (ReadR.loadE rfl hasA (by assumption)) ?_ | refine WPl.rdX (ReadR.loadES (by assumption) (by first | assumption | omega) rfl hasA) ?_)
     | (show WPl _ _ _ _ _ _ _ (⟨_, .slice _ _ _ _ _, _, _, _, _⟩ :: _) _; first | refine WPl.rdX (ReadR.sliceH rfl rfl hasA (by omega)) ?_ | refine WPl.rdX (ReadR.sliceL rfl rfl hasA (by omega)) ?_ | refine WPl.rdX (ReadR.sliceLH rfl rfl rfl hasA (by omega) (by omega)) ?_)
     | (refine WPl.spQ (fun hc => ?_) (fun hc => ?_) <;> try first | exact prA | (exfalso; first | omega))
     | fail)
    first | refine WPc.loop (σ := Nat) (fun st => st ≤ down.length) (fun st => [rbx gX 49 (rfc vL), rdN vL L.length (svs L), rdN vd down.length (intsV down), rdN x.v x.bs.length (bks x.bs), rowN 79 2 vo cur.length (shrs cur), bx g10 36 (bkC y)]) (fun st => [(0, hF gX), (2, vd), (7, vo), (8, .int .i64 (i : Int)), (9, .int .i64 (k : Int)), (10, hF g10), (11, .bool (decide (y.id ∈ down.take st))), (12, .int .i64 (st : Int))]) (fun st => down.length - st) (0) ?_ takesA frsA (fun st km hx hk => ?_)
    · exact Nat.zero_le _
    obtain ⟨n, rfl⟩ : ∃ n, n = st := ⟨_, rfl⟩
    have hn : n ≤ down.length := hx
    have hkm2 : km = down.length - n := hk
    clear hk
    by_cases hnl : n < down.length
    · obtain ⟨d, hd1⟩ : ∃ d, down[n]? = some d := ⟨_, List.getElem?_eq_getElem hnl⟩
      have hnl' : (n : Int) < (down.length : Int) := by omega
      have hdc := intsV_at hd1
      have hstep : decide (y.id ∈ down.take (n + 1)) = (decide (y.id ∈ down.take n) || decide (d = y.id)) := by
        rw [List.take_add_one, hd1, Bool.eq_iff_iff]
        simp only [Option.toList_some, List.mem_append, List.mem_singleton, Bool.or_eq_true, decide_eq_true_eq]
        exact or_congr Iff.rfl eq_comm
      cases hin : decide (y.id ∈ down.take n) with
      | true =>
        rw [hin] at hstep
        have hstep : decide (y.id ∈ down.take (n + 1)) = true := by rw [hstep]; rfl
        repeat' (first
         | refine WPl.nil ?_ | refine WPq.then ?_ | refine WPq.thenR ?_ | refine WPq.thenE ?_ | refine WPq.blockN ?_ | refine WPq.blockR ?_ | refine WPq.blockE ?_ | refine WPq.blockO rfl ?_ | refine WPc.seq ?_ | refine WPc.block ?_ | refine WPc.ret ?_ | refine WPc.exit ?_ | refine WPc.skip ?_ | refine WPc.region ?_
         | (refine isReg 11 ?_; refine WPc.drA [([], []), ([0], [50]), ([0, 1], [50, 51, 53, 56, 57]), ([0, 1], [50, 51, 52, 56, 57]), ([0, 1, 2, 3], [50, 51, 52, 53, 56, 57]), ([0, 1, 2, 3, 4], [50, 51, 52, 53, 54, 56, 57]), ([0, 1], [50, 51, 52, 53, 54, 55]), ([0, 1, 6], [50, 51, 52, 53, 54, 55, 56]), ([0, 1, 2, 3, 4, 5, 6, 7], [50, 51, 52, 53, 54, 55, 56, 57]), ([0, 1, 2, 3, 4, 5, 6, 7, 8], [50, 51, 52, 53, 54, 55, 56, 57, 58]), ([0, 1, 2, 3, 4, 5, 6, 7, 8, 9], [50, 51, 52, 53, 54, 55, 56, 57, 58, 59])] [] (Γx := []) ?_; dsimp only [prev0, List.length_nil, List.length_cons])
         | (refine gAny ?_; first | (refine gGd ?_; refine RGl.skp ?_) | (refine gD 47 ?_; refine RGl.rdX (fun e hk => by (try dsimp only [bndR, ensR, oksR, fcutR, List.append_nil, List.nil_append, List.cons_append, List.append_assoc] at hk ⊢); exact ReadR.binE rfl rfl BinR.lss (congrArg Value.bool (decide_eq_true hnl'))) ?_) | (refine gOp ?_; first | refine RGl.rdA ?_ | refine RGl.rdX (fun e hk => by (try dsimp only [bndR, ensR, oksR, fcutR, List.append_nil, List.nil_append, List.cons_append, List.append_assoc] at hk ⊢); exact readB) ?_) | (refine RGl.fin (fun e hk => ?_); (try dsimp only [bndA, ensAR, oksA, List.append_nil, List.nil_append, List.cons_append, List.append_assoc] at hk ⊢); (repeat (obtain ⟨hk1, hk⟩ := hk))) | fail)
         | (refine isCond ?_; first | refine WPc.cT ?_ | refine WPc.cF ?_ | (refine WPc.cQ (fun hc => ?_) (fun hc => ?_) <;> try first | exact prA | (exfalso; first | omega)))
         | (refine isD 47 ?_; refine WPl.rdX (ReadR.binE rfl rfl BinR.lss (congrArg Value.bool (decide_eq_true hnl'))) ?_)
         | (refine isOp ?_; first | refine WPl.rd ?_ | refine WPl.sk ?_ | refine WPl.rdB ?_)
         | (refine isAl ?_; refine WPl.nw fun g => ?_)
         | (refine isSt ?_; first | refine WPl.st1 ?_ | refine WPl.stA ?_ | refine WPl.stEB ?_ | refine WPl.stRB ?_)
         | (show WPl _ _ _ _ _ _ _ (⟨_, .indexAddr _ _ _, _, _, _, _⟩ :: _) _; refine WPl.rdX (ReadR.indexE rfl rfl hasA (by first | assumption | omega)) ?_)
         | (show WPl _ _ _ _ _ _ _ (⟨_, .fieldAddr _ _ _, _, _, _, _⟩ :: _) _; refine WPl.rdX (ReadR.fieldE rfl hasA (by first | assumption | omega)) ?_)
         | (show WPl _ _ _ _ _ _ _ (⟨_, .load _ _, _, _, _, _⟩ :: _) _; first | refine WPl.rdX (ReadR.loadE rfl hasA (by assumption)) ?_ | refine WPl.rdX (ReadR.loadES (by assumption) (by first | assumption | omega) rfl hasA) ?_)
         | (show WPl _ _ _ _ _ _ _ (⟨_, .slice _ _ _ _ _, _, _, _, _⟩ :: _) _; first | refine WPl.rdX (ReadR.sliceH rfl rfl hasA (by omega)) ?_ | refine WPl.rdX (ReadR.sliceL rfl rfl hasA (by omega)) ?_ | refine WPl.rdX (ReadR.sliceLH rfl rfl rfl hasA (by omega) (by omega)) ?_)
         | (refine WPl.spQ (fun hc => ?_) (fun hc => ?_) <;> try first | exact prA | (exfalso; first | omega))
         | fail)
        exact WPq.rnd (n + 1) (by omega) (by omega) (hF := by rw [hstep]; exact frsA)
      | false =>
        rw [hin] at hstep
        have hstep : decide (y.id ∈ down.take (n + 1)) = decide (d = y.id) := by rw [hstep]; rfl
        repeat' (first
         | refine WPl.nil ?_ | refine WPq.then ?_ | refine WPq.thenR ?_ | refine WPq.thenE ?_ | refine WPq.blockN ?_ | refine WPq.blockR ?_ | refine WPq.blockE ?_ | refine WPq.blockO rfl ?_ | refine WPc.seq ?_ | refine WPc.block ?_ | refine WPc.ret ?_ | refine WPc.exit ?_ | refine WPc.skip ?_ | refine WPc.region ?_
         | (refine isReg 11 ?_; refine WPc.drA [([], []), ([0], [50]), ([0, 1], [50, 51, 53, 56, 57]), ([0, 1], [50, 51, 52, 56, 57]), ([0, 1, 2, 3], [50, 51, 52, 53, 56, 57]), ([0, 1, 2, 3, 4], [50, 51, 52, 53, 54, 56, 57]), ([0, 1], [50, 51, 52, 53, 54, 55]), ([0, 1, 6], [50, 51, 52, 53, 54, 55, 56]), ([0, 1, 2, 3, 4, 5, 6, 7], [50, 51, 52, 53, 54, 55, 56, 57]), ([0, 1, 2, 3, 4, 5, 6, 7, 8], [50, 51, 52, 53, 54, 55, 56, 57, 58]), ([0, 1, 2, 3, 4, 5, 6, 7, 8, 9], [50, 51, 52, 53, 54, 55, 56, 57, 58, 59])] [] (Γx := []) ?_; dsimp only [prev0, List.length_nil, List.length_cons])
         | (refine gAny ?_; first | (refine gGd ?_; refine RGl.skp ?_) | (refine gD 47 ?_; refine RGl.rdX (fun e hk => by (try dsimp only [bndR, ensR, oksR, fcutR, List.append_nil, List.nil_append, List.cons_append, List.append_assoc] at hk ⊢); exact ReadR.binE rfl rfl BinR.lss (congrArg Value.bool (decide_eq_true hnl'))) ?_) | (refine gD 54 ?_; refine RGl.rdX (fun e hk => by (try dsimp only [bndR, ensR, oksR, fcutR, List.append_nil, List.nil_append, List.cons_append, List.append_assoc] at hk ⊢); exact ReadR.indexE1 (i := n) rfl rfl hasA hnl) ?_) | (refine gD 55 ?_; refine RGl.rdX (fun e hk => by (try dsimp only [bndR, ensR, oksR, fcutR, List.append_nil, List.nil_append, List.cons_append, List.append_assoc] at hk ⊢); exact ReadR.loadE rfl hasA hdc) ?_) | (refine gD 58 ?_; refine RGl.rdX (fun e hk => by (try dsimp only [bndR, ensR, oksR, fcutR, List.append_nil, List.nil_append, List.cons_append, List.append_assoc] at hk ⊢); exact ReadR.binE rfl rfl BinR.eql rfl) ?_) | (refine gOp ?_; first | refine RGl.rdA ?_ | refine RGl.rdX (fun e hk => by (try dsimp only [bndR, ensR, oksR, fcutR, List.append_nil, List.nil_append, List.cons_append, List.append_assoc] at hk ⊢); exact readB) ?_) | (refine RGl.fin (fun e hk => ?_); (try dsimp only [bndA, ensAR, oksA, List.append_nil, List.nil_append, List.cons_append, List.append_assoc] at hk ⊢); (repeat (obtain ⟨hk1, hk⟩ := hk))) | fail)
         | (refine isCond ?_; first | refine WPc.cT ?_ | refine WPc.cF ?_ | (refine WPc.cQ (fun hc => ?_) (fun hc => ?_) <;> try first | exact prA | (exfalso; first | omega)))
         | (refine isD 47 ?_; refine WPl.rdX (ReadR.binE rfl rfl BinR.lss (congrArg Value.bool (decide_eq_true hnl'))) ?_)
         | (refine isD 54 ?_; refine WPl.rdX (ReadR.indexE1 (i := n) rfl rfl hasA hnl) ?_)
         | (refine isD 55 ?_; refine WPl.rdX (ReadR.loadE rfl hasA hdc) ?_)
         | (refine isD 58 ?_; refine WPl.rdX (ReadR.binE rfl rfl BinR.eql rfl) ?_)
         | (refine isOp ?_; first | refine WPl.rd ?_ | refine WPl.sk ?_ | refine WPl.rdB ?_)
         | (refine isAl ?_; refine WPl.nw fun g => ?_)
         | (refine isSt ?_; first | refine WPl.st1 ?_ | refine WPl.stA ?_ | refine WPl.stEB ?_ | refine WPl.stRB ?_)
         | (show WPl _ _ _ _ _ _ _ (⟨_, .indexAddr _ _ _, _, _, _, _⟩ :: _) _; refine WPl.rdX (ReadR.indexE rfl rfl hasA (by first | assumption | omega)) ?_)
         | (show WPl _ _ _ _ _ _ _ (⟨_, .fieldAddr _ _ _, _, _, _, _⟩ :: _) _; refine WPl.rdX (ReadR.fieldE rfl hasA (by first | assumption | omega)) ?_)
         | (show WPl _ _ _ _ _ _ _ (⟨_, .load _ _, _, _, _, _⟩ :: _) _; first | refine WPl.rdX (ReadR.loadE rfl hasA (by assumption)) ?_ | refine WPl.rdX (ReadR.loadES (by assumption) (by first | assumption | omega) rfl hasA) ?_)
         | (show WPl _ _ _ _ _ _ _ (⟨_, .slice _ _ _ _ _, _, _, _, _⟩ :: _) _; first | refine WPl.rdX (ReadR.sliceH rfl rfl hasA (by omega)) ?_ | refine WPl.rdX (ReadR.sliceL rfl rfl hasA (by omega)) ?_ | refine WPl.rdX (ReadR.sliceLH rfl rfl rfl hasA (by omega) (by omega)) ?_)
         | (refine WPl.spQ (fun hc => ?_) (fun hc => ?_) <;> try first | exact prA | (exfalso; first | omega))
         | fail)
        exact WPq.rnd (n + 1) (by omega) (by omega) (hF := by rw [hstep]; exact frsA)
    · have hnl' : ¬ (n : Int) < (down.length : Int) := by omega
      have hnn : n = down.length := by omega
      subst hnn
      rw [List.take_of_length_le (Nat.le_refl _)]
      cases hdr : y.dr with
      | true =>
        have hq : takesB down y = false := by unfold takesB; rw [hdr]; rfl
        cases hin : decide (y.id ∈ down) with
        | true =>
          repeat' (first
           | refine WPl.nil ?_ | refine WPq.then ?_ | refine WPq.thenR ?_ | refine WPq.thenE ?_ | refine WPq.blockN ?_ | refine WPq.blockR ?_ | refine WPq.blockE ?_ | refine WPq.blockO rfl ?_ | refine WPc.seq ?_ | refine WPc.block ?_ | refine WPc.ret ?_ | refine WPc.exit ?_ | refine WPc.skip ?_ | refine WPc.region ?_
           | (refine isCond ?_; first | refine WPc.cT ?_ | refine WPc.cF ?_ | (refine WPc.cQ (fun hc => ?_) (fun hc => ?_) <;> try first | exact prA | (exfalso; first | omega)))
           | (refine isD 47 ?_; refine WPl.rdX (ReadR.binE rfl rfl BinR.lss (congrArg Value.bool (decide_eq_false hnl'))) ?_)
           | (refine isOp ?_; first | refine WPl.rd ?_ | refine WPl.sk ?_ | refine WPl.rdB ?_)
           | (refine isAl ?_; refine WPl.nw fun g => ?_)
           | (refine isSt ?_; first | refine WPl.st1 ?_ | refine WPl.stA ?_ | refine WPl.stEB ?_ | refine WPl.stRB ?_)
           | (show WPl _ _ _ _ _ _ _ (⟨_, .indexAddr _ _ _, _, _, _, _⟩ :: _) _; refine WPl.rdX (ReadR.indexE rfl rfl hasA (by first | assumption | omega)) ?_)
           | (show WPl _ _ _ _ _ _ _ (⟨_, .fieldAddr _ _ _, _, _, _, _⟩ :: _) _; refine WPl.rdX (ReadR.fieldE rfl hasA (by first | assumption | omega)) ?_)
           | (show WPl _ _ _ _ _ _ _ (⟨_, .load _ _, _, _, _, _⟩ :: _) _; first | refine WPl.rdX (ReadR.loadE rfl hasA (by assumption)) ?_ | refine WPl.rdX (ReadR.loadES (by assumption) (by first | assumption | omega) rfl hasA) ?_)
           | (show WPl _ _ _ _ _ _ _ (⟨_, .slice _ _ _ _ _, _, _, _, _⟩ :: _) _; first | refine WPl.rdX (ReadR.sliceH rfl rfl hasA (by omega)) ?_ | refine WPl.rdX (ReadR.sliceL rfl rfl hasA (by omega)) ?_ | refine WPl.rdX (ReadR.sliceLH rfl rfl rfl hasA (by omega) (by omega)) ?_)
           | (refine WPl.spQ (fun hc => ?_) (fun hc => ?_) <;> try first | exact prA | (exfalso; first | omega))
           | fail)
          rw [hno hq]
          exact WPq.rnd (k + 1, vo) ⟨hlt, hvo⟩ (by dsimp only; omega)
        | false =>
          repeat' (first
           | refine WPl.nil ?_ | refine WPq.then ?_ | refine WPq.thenR ?_ | refine WPq.thenE ?_ | refine WPq.blockN ?_ | refine WPq.blockR ?_ | refine WPq.blockE ?_ | refine WPq.blockO rfl ?_ | refine WPc.seq ?_ | refine WPc.block ?_ | refine WPc.ret ?_ | refine WPc.exit ?_ | refine WPc.skip ?_ | refine WPc.region ?_
           | (refine isCond ?_; first | refine WPc.cT ?_ | refine WPc.cF ?_ | (refine WPc.cQ (fun hc => ?_) (fun hc => ?_) <;> try first | exact prA | (exfalso; first | omega)))
           | (refine isD 47 ?_; refine WPl.rdX (ReadR.binE rfl rfl BinR.lss (congrArg Value.bool (decide_eq_false hnl'))) ?_)
           | (refine isOp ?_; first | refine WPl.rd ?_ | refine WPl.sk ?_ | refine WPl.rdB ?_)
           | (refine isAl ?_; refine WPl.nw fun g => ?_)
           | (refine isSt ?_; first | refine WPl.st1 ?_ | refine WPl.stA ?_ | refine WPl.stEB ?_ | refine WPl.stRB ?_)
           | (show WPl _ _ _ _ _ _ _ (⟨_, .indexAddr _ _ _, _, _, _, _⟩ :: _) _; refine WPl.rdX (ReadR.indexE rfl rfl hasA (by first | assumption | omega)) ?_)
           | (show WPl _ _ _ _ _ _ _ (⟨_, .fieldAddr _ _ _, _, _, _, _⟩ :: _) _; refine WPl.rdX (ReadR.fieldE rfl hasA (by first | assumption | omega)) ?_)
           | (show WPl _ _ _ _ _ _ _ (⟨_, .load _ _, _, _, _, _⟩ :: _) _; first | refine WPl.rdX (ReadR.loadE rfl hasA (by assumption)) ?_ | refine WPl.rdX (ReadR.loadES (by assumption) (by first | assumption | omega) rfl hasA) ?_)
           | (show WPl _ _ _ _ _ _ _ (⟨_, .slice _ _ _ _ _, _, _, _, _⟩ :: _) _; first | refine WPl.rdX (ReadR.sliceH rfl rfl hasA (by omega)) ?_ | refine WPl.rdX (ReadR.sliceL rfl rfl hasA (by omega)) ?_ | refine WPl.rdX (ReadR.sliceLH rfl rfl rfl hasA (by omega) (by omega)) ?_)
           | (refine WPl.spQ (fun hc => ?_) (fun hc => ?_) <;> try first | exact prA | (exfalso; first | omega))
           | fail)
          rw [hno hq]
          exact WPq.rnd (k + 1, vo) ⟨hlt, hvo⟩ (by dsimp only; omega)
      | false =>
        cases hin : decide (y.id ∈ down) with
        | true =>
          have hq : takesB down y = false := by unfold takesB; rw [hdr, hin]; rfl
          repeat' (first
           | refine WPl.nil ?_ | refine WPq.then ?_ | refine WPq.thenR ?_ | refine WPq.thenE ?_ | refine WPq.blockN ?_ | refine WPq.blockR ?_ | refine WPq.blockE ?_ | refine WPq.blockO rfl ?_ | refine WPc.seq ?_ | refine WPc.block ?_ | refine WPc.ret ?_ | refine WPc.exit ?_ | refine WPc.skip ?_ | refine WPc.region ?_
           | (refine isCond ?_; first | refine WPc.cT ?_ | refine WPc.cF ?_ | (refine WPc.cQ (fun hc => ?_) (fun hc => ?_) <;> try first | exact prA | (exfalso; first | omega)))
           | (refine isD 47 ?_; refine WPl.rdX (ReadR.binE rfl rfl BinR.lss (congrArg Value.bool (decide_eq_false hnl'))) ?_)
           | (refine isOp ?_; first | refine WPl.rd ?_ | refine WPl.sk ?_ | refine WPl.rdB ?_)
           | (refine isAl ?_; refine WPl.nw fun g => ?_)
           | (refine isSt ?_; first | refine WPl.st1 ?_ | refine WPl.stA ?_ | refine WPl.stEB ?_ | refine WPl.stRB ?_)
           | (show WPl _ _ _ _ _ _ _ (⟨_, .indexAddr _ _ _, _, _, _, _⟩ :: _) _; refine WPl.rdX (ReadR.indexE rfl rfl hasA (by first | assumption | omega)) ?_)
           | (show WPl _ _ _ _ _ _ _ (⟨_, .fieldAddr _ _ _, _, _, _, _⟩ :: _) _; refine WPl.rdX (ReadR.fieldE rfl hasA (by first | assumption | omega)) ?_)
           | (show WPl _ _ _ _ _ _ _ (⟨_, .load _ _, _, _, _, _⟩ :: _) _; first | refine WPl.rdX (ReadR.loadE rfl hasA (by assumption)) ?_ | refine WPl.rdX (ReadR.loadES (by assumption) (by first | assumption | omega) rfl hasA) ?_)
           | (show WPl _ _ _ _ _ _ _ (⟨_, .slice _ _ _ _ _, _, _, _, _⟩ :: _) _; first | refine WPl.rdX (ReadR.sliceH rfl rfl hasA (by omega)) ?_ | refine WPl.rdX (ReadR.sliceL rfl rfl hasA (by omega)) ?_ | refine WPl.rdX (ReadR.sliceLH rfl rfl rfl hasA (by omega) (by omega)) ?_)
           | (refine WPl.spQ (fun hc => ?_) (fun hc => ?_) <;> try first | exact prA | (exfalso; first | omega))
           | fail)
          rw [hno hq]
          exact WPq.rnd (k + 1, vo) ⟨hlt, hvo⟩ (by dsimp only; omega)
        | false =>
          have hq : takesB down y = true := by unfold takesB; rw [hdr, hin]; rfl
          repeat' (first
           | refine WPl.nil ?_ | refine WPq.then ?_ | refine WPq.thenR ?_ | refine WPq.thenE ?_ | refine WPq.blockN ?_ | refine WPq.blockR ?_ | refine WPq.blockE ?_ | refine WPq.blockO rfl ?_ | refine WPc.seq ?_ | refine WPc.block ?_ | refine WPc.ret ?_ | refine WPc.exit ?_ | refine WPc.skip ?_ | refine WPc.region ?_
           | (refine isCond ?_; first | refine WPc.cT ?_ | refine WPc.cF ?_ | (refine WPc.cQ (fun hc => ?_) (fun hc => ?_) <;> try first | exact prA | (exfalso; first | omega)))
           | (refine isD 47 ?_; refine WPl.rdX (ReadR.binE rfl rfl BinR.lss (congrArg Value.bool (decide_eq_false hnl'))) ?_)
           | (refine isD 72 ?_; refine WPl.rdX (ReadR.build (cs' := shrC (y.id, y.wt)) buildA) ?_)
           | (refine isD 73 ?_; refine WPl.litS1 fun w73 hw73 => ?_)
           | (refine isD 74 ?_; refine WPl.appN (m := cur.length) (m2 := 1) (xs := shrs cur) (ys := flat (shrC (y.id, y.wt))) rfl (shrC_ok (y.id, y.wt)).one (by omega) fun v74 hv74 => ?_)
           | (refine isOp ?_; first | refine WPl.rd ?_ | refine WPl.sk ?_ | refine WPl.rdB ?_)
           | (refine isAl ?_; refine WPl.nw fun g => ?_)
           | (refine isSt ?_; first | refine WPl.st1 ?_ | refine WPl.stA ?_ | refine WPl.stEB ?_ | refine WPl.stRB ?_)
           | (show WPl _ _ _ _ _ _ _ (⟨_, .indexAddr _ _ _, _, _, _, _⟩ :: _) _; refine WPl.rdX (ReadR.indexE rfl rfl hasA (by first | assumption | omega)) ?_)
           | (show WPl _ _ _ _ _ _ _ (⟨_, .fieldAddr _ _ _, _, _, _, _⟩ :: _) _; refine WPl.rdX (ReadR.fieldE rfl hasA (by first | assumption | omega)) ?_)
           | (show WPl _ _ _ _ _ _ _ (⟨_, .load _ _, _, _, _, _⟩ :: _) _; first | refine WPl.rdX (ReadR.loadE rfl hasA (by assumption)) ?_ | refine WPl.rdX (ReadR.loadES (by assumption) (by first | assumption | omega) rfl hasA) ?_)
           | (show WPl _ _ _ _ _ _ _ (⟨_, .slice _ _ _ _ _, _, _, _, _⟩ :: _) _; first | refine WPl.rdX (ReadR.sliceH rfl rfl hasA (by omega)) ?_ | refine WPl.rdX (ReadR.sliceL rfl rfl hasA (by omega)) ?_ | refine WPl.rdX (ReadR.sliceLH rfl rfl rfl hasA (by omega) (by omega)) ?_)
           | (refine WPl.spQ (fun hc => ?_) (fun hc => ?_) <;> try first | exact prA | (exfalso; first | omega))
           | fail)
          rw [hrow hq]
          exact WPq.rnd (k + 1, v74) ⟨hlt, hv74⟩ (by dsimp only; omega)
  · have hkk : x.bs.take k = x.bs := List.take_of_length_le (by omega)
    rw [hkk]
    have hlt' : ¬ (k : Int) < (x.bs.length : Int) := by omega
    repeat' (first
     | refine WPl.nil ?_ | refine WPq.then ?_ | refine WPq.thenR ?_ | refine WPq.thenE ?_ | refine WPq.blockN ?_ | refine WPq.blockR ?_ | refine WPq.blockE ?_ | refine WPq.blockO rfl ?_ | refine WPc.seq ?_ | refine WPc.block ?_ | refine WPc.ret ?_ | refine WPc.exit ?_ | refine WPc.skip ?_ | refine WPc.region ?_
     | (refine isCond ?_; first | refine WPc.cT ?_ | refine WPc.cF ?_ | (refine WPc.cQ (fun hc => ?_) (fun hc => ?_) <;> try first | exact prA | (exfalso; first | omega)))
     | (refine isD 24 ?_; refine WPl.rdX (ReadR.loadO memA rfl rfl) ?_)
     | (refine isD 26 ?_; refine WPl.rdX (ReadR.indexE (i := i) rfl rfl hasA hil) ?_)
     | (refine isD 27 ?_; refine WPl.rdX (ReadR.fieldE rfl hasA (by omega)) ?_)
     | (refine isD 28 ?_; refine WPl.rdX (ReadR.loadE rfl hasA hxv) ?_)
     | (refine isD 30 ?_; refine WPl.rdX (ReadR.binE rfl rfl BinR.lss (congrArg Value.bool (decide_eq_false hlt'))) ?_)
     | (refine isOp ?_; first | refine WPl.rd ?_ | refine WPl.sk ?_ | refine WPl.rdB ?_)
     | (refine isAl ?_; refine WPl.nw fun g => ?_)
     | (refine isSt ?_; first | refine WPl.st1 ?_ | refine WPl.stA ?_ | refine WPl.stEB ?_ | refine WPl.stRB ?_)
     | (show WPl _ _ _ _ _ _ _ (⟨_, .indexAddr _ _ _, _, _, _, _⟩ :: _) _; refine WPl.rdX (ReadR.indexE rfl rfl hasA (by first | assumption | omega)) ?_)
     | (show WPl _ _ _ _ _ _ _ (⟨_, .fieldAddr _ _ _, _, _, _, _⟩ :: _) _; refine WPl.rdX (ReadR.fieldE rfl hasA (by first | assumption | omega)) ?_)
     | (show WPl _ _ _ _ _ _ _ (⟨_, .load _ _, _, _, _, _⟩ :: _) _; first | refine WPl.rdX (ReadR.loadE rfl hasA (by assumption)) ?_ | refine WPl.rdX (ReadR.loadES (by assumption) (by first | assumption | omega) rfl hasA) ?_)
     | (show WPl _ _ _ _ _ _ _ (⟨_, .slice _ _ _ _ _, _, _, _, _⟩ :: _) _; first | refine WPl.rdX (ReadR.sliceH rfl rfl hasA (by omega)) ?_ | refine WPl.rdX (ReadR.sliceL rfl rfl hasA (by omega)) ?_ | refine WPl.rdX (ReadR.sliceLH rfl rfl rfl hasA (by omega) (by omega)) ?_)
     | (refine WPl.spQ (fun hc => ?_) (fun hc => ?_) <;> try first | exact prA | (exfalso; first | omega))
     | fail)
    exact WPq.dR
end
end Go.Proofs.Ytpjfkomicehinaa
