/- FlowsOne: no two flows that are kept have one reply. -/
import Derived.Test.YtncgponcedkihaaFv
namespace Go.Proofs.Ytncgponcedkihaa
open Go.RowKit
set_option linter.unusedSimpArgs false
set_option linter.unusedVariables false
set_option maxRecDepth 20000
set_option maxHeartbeats 4000000
attribute [local irreducible] WPc WPl WPq ReadR OpT BinR HasS bx rdN rowN Take Takes Prov Triple ResF BuildP Done ag Int.decLt Int.decLe Int.instDecidableEq
attribute [local irreducible] fds mp rg mpe mget mfind mput mdel pickG fcs getV getE
theorem flowsOne_t (cu : UInt8) (vr : Value) (l : List Fc) (hl : ∀ x ∈ l, fcW x) :
    Triple Try.prog 8 #[.int .u8 ((cu.toNat : Nat) : Int), vr] [rdN vr l.length (l.map fun x => flat (fcC x)).flatten] (RVal (.bool true)) := by
  have e0 : (l.map fun x => flat (fcC x)).flatten = fcs l := by unfold fcs; rfl
  rw [e0]
  have hlive := flives_t
  have hcu := cu.toNat_lt
  obtain ⟨n, hn⟩ : ∃ n : Nat, n = 1 + cu.toNat % 12 := ⟨_, rfl⟩
  have hN : 1 + ((cu.toNat : Nat) : Int) % 12 = ((n : Nat) : Int) := by omega
  have hn12 : 1 ≤ n ∧ n ≤ 12 := by omega
  have c0 := fnew_t ((n : Nat) : Int) (by omega) (by omega)
  have hcl := fcs_len (l := l)
  have ef : fds ([] : LL) = [] := by unfold fds; rfl
  have c48 := fun gT m1 m2 gX L R h1 h2 x h3 => do_t gT m1 m2 gX ((n : Nat) : Int) (.slice none 0 0) L [] R h1 h2 (by simp) rfl x h3 (by simp) (by omega) (.inr rfl)
  rw [ef] at c48
  clear hn e0 ef
  refine Triple.enter Try.func8 rfl Try.ntmps8 rfl (fun W => ?_)
  dsimp only [argsF, Nat.reduceAdd]
  repeat' (first
   | refine WPl.nil ?_ | refine WPq.then ?_ | refine WPq.thenR ?_ | refine WPq.thenE ?_ | refine WPq.blockN ?_ | refine WPq.blockR ?_ | refine WPq.blockE ?_ | refine WPq.blockO rfl ?_ | refine WPc.seq ?_ | refine WPc.block ?_ | refine WPc.ret ?_ | refine WPc.exit ?_ | refine WPc.skip ?_ | refine WPc.region ?_
   | (refine isCond ?_; first | refine WPc.cT ?_ | refine WPc.cF ?_ | (refine WPc.cQ (fun hc => ?_) (fun hc => ?_) <;> try exact prA))
   | (refine isD 18 ?_; refine WPl.rdX (ReadR.binE rfl rfl (BinR.addK (by simp only [kmin]; omega) (by simp only [kmax]; omega)) (congrArg (Value.int .i64) hN)) ?_)
   | (refine isC 21 ?_; refine WPl.cXs (c0) fun v Γ1 hR => ?_; obtain ⟨gT, m1, m2, rfl, rfl⟩ := hR; (try dsimp only [putF, List.cons_append, List.nil_append]))
   | (refine isD 25 ?_; refine WPl.rdX (readP) ?_)
   | (refine isOp ?_; first | refine WPl.rd ?_ | refine WPl.sk ?_ | refine WPl.rdB ?_)
   | (refine isAl ?_; refine WPl.nw fun g => ?_)
   | (refine isBx ?_; refine WPl.nw fun g => ?_)
   | (refine isSt ?_; first | refine WPl.st1 ?_ | refine WPl.stA ?_ | refine WPl.stEB ?_ | refine WPl.stRB ?_)
   | (show WPl _ _ _ _ _ _ _ (⟨_, .indexAddr _ _ _, _, _, _, _⟩ :: _) _; refine WPl.rdX (ReadR.indexE rfl rfl hasA (by first | assumption | omega)) ?_)
   | (show WPl _ _ _ _ _ _ _ (⟨_, .fieldAddr _ _ _, _, _, _, _⟩ :: _) _; refine WPl.rdX (ReadR.fieldE rfl hasA (by first | assumption | omega)) ?_)
   | (show WPl _ _ _ _ _ _ _ (⟨_, .load _ _, _, _, _, _⟩ :: _) _; first | refine WPl.rdX (ReadR.loadE rfl hasA (by assumption)) ?_ | refine WPl.rdX (ReadR.loadES (by assumption) (by first | assumption | omega) rfl hasA) ?_)
   | (show WPl _ _ _ _ _ _ _ (⟨_, .slice _ _ _ _ _, _, _, _, _⟩ :: _) _; first | refine WPl.rdX (ReadR.sliceH rfl rfl hasA (by omega)) ?_ | refine WPl.rdX (ReadR.sliceL rfl rfl hasA (by omega)) ?_ | refine WPl.rdX (ReadR.sliceLH rfl rfl rfl hasA (by omega) (by omega)) ?_)
   | (refine WPl.spQ (fun hc => ?_) (fun hc => ?_) <;> try exact prA)
   | fail)
  first | refine WPc.loop (σ := Nat × LL × RR) (fun st => st.1 ≤ 80 ∧ lkd st.2.1 st.2.2 ∧ (st.2.1.length : Int) ≤ (n : Int)) (fun st => [rdN vr l.length (fcs l), bx gT 141 (fxc ((n : Nat) : Int) m1 m2), mp flM m1 st.2.1, mp rpM m2 st.2.2]) (fun st => [(1, vr), (5, .int .i64 ((n : Nat) : Int)), (6, hPf gT), (8, .int .i64 (st.1 : Int))]) (fun st => 80 - st.1) ((0, [], [])) ?_ takesA frsA (fun st km hx hk => ?_)
  · exact ⟨Nat.zero_le _, lkd.nil, by simp⟩
  obtain ⟨i, L, R⟩ := st
  obtain ⟨hi, hk0, hLn⟩ := hx
  dsimp only at hi hk0 hLn hk ⊢
  have hkm : km = 80 - i := hk
  clear hk
  by_cases hin : i < l.length ∧ i < 80
  · obtain ⟨hil, hi80⟩ := hin
    obtain ⟨x, hx⟩ : ∃ x, l[i]? = some x := ⟨_, List.getElem?_eq_getElem hil⟩
    have hxw := hl x (List.mem_of_getElem? hx)
    have hxp := fcs_at hx
    have lx1 := x.f.src.len
    have lx2 := x.f.dst.len
    have lx3 := x.a.ad.len
    have hil' : (i : Int) < (l.length : Int) := by omega
    have hi80' : (i : Int) < 80 := by omega
    refine WPc.nilRowN 75 59 ?_
    repeat' (first
     | refine WPl.nil ?_ | refine WPq.then ?_ | refine WPq.thenR ?_ | refine WPq.thenE ?_ | refine WPq.blockN ?_ | refine WPq.blockR ?_ | refine WPq.blockE ?_ | refine WPq.blockO rfl ?_ | refine WPc.seq ?_ | refine WPc.block ?_ | refine WPc.ret ?_ | refine WPc.exit ?_ | refine WPc.skip ?_ | refine WPc.region ?_
     | (refine isCond ?_; first | refine WPc.cT ?_ | refine WPc.cF ?_ | (refine WPc.cQ (fun hc => ?_) (fun hc => ?_) <;> try exact prA))
     | (refine isD 43 ?_; first | (refine isAl ?_; refine WPl.nw fun g43 => ?_) | (refine isBx ?_; refine WPl.nw fun g43 => ?_))
     | (refine isD 33 ?_; refine WPl.rdX (ReadR.binE rfl rfl BinR.lss (congrArg Value.bool (decide_eq_true hil'))) ?_)
     | (refine isD 36 ?_; refine WPl.rdX (ReadR.binE rfl rfl BinR.lss (congrArg Value.bool (decide_eq_true hi80'))) ?_)
     | (refine isD 46 ?_; refine WPl.rdX (ReadR.indexE (i := i) rfl rfl hasA hil) ?_)
     | (refine isD 47 ?_; refine WPl.rdX (ReadR.loadES (cs := fcC x) hxp (by omega) rfl hasA) ?_)
     | (refine isC 48 ?_; refine WPl.cXs (c48 gT m1 m2 g43 L R hk0 (by omega) x hxw) fun v Γ1 hR => ?_; obtain ⟨b48, L', R', v48, D', rfl, hv48, rfl, hk2, hle2, _⟩ := hR; have hLn2 := hle2 hLn; (try dsimp only [putF, List.cons_append, List.nil_append]))
     | (refine isC 50 ?_; refine WPl.cXs (flist_t gT m1 m2 ((n : Nat) : Int) L' (by omega)) fun w9 Γ1 hR => ?_; obtain ⟨o, hw9, rfl, hpo, hso⟩ := hR; have hol : (o.length : Int) ≤ (n : Int) := (by have := hpo.length_eq; omega); (try dsimp only [putF, List.cons_append, List.nil_append]))
     | (refine isD 54 ?_; refine WPl.rdX (ReadR.binE rfl rfl BinR.gtr (congrArg Value.bool (decide_eq_false (show ¬ (o.length : Int) > (n : Int) by omega)))) ?_)
     | (refine isOp ?_; first | refine WPl.rd ?_ | refine WPl.sk ?_ | refine WPl.rdB ?_)
     | (refine isAl ?_; refine WPl.nw fun g => ?_)
     | (refine isBx ?_; refine WPl.nw fun g => ?_)
     | (refine isSt ?_; first | refine WPl.st1 ?_ | refine WPl.stA ?_ | refine WPl.stEB ?_ | refine WPl.stRB ?_)
     | (show WPl _ _ _ _ _ _ _ (⟨_, .indexAddr _ _ _, _, _, _, _⟩ :: _) _; refine WPl.rdX (ReadR.indexE rfl rfl hasA (by first | assumption | omega)) ?_)
     | (show WPl _ _ _ _ _ _ _ (⟨_, .fieldAddr _ _ _, _, _, _, _⟩ :: _) _; refine WPl.rdX (ReadR.fieldE rfl hasA (by first | assumption | omega)) ?_)
     | (show WPl _ _ _ _ _ _ _ (⟨_, .load _ _, _, _, _, _⟩ :: _) _; first | refine WPl.rdX (ReadR.loadE rfl hasA (by assumption)) ?_ | refine WPl.rdX (ReadR.loadES (by assumption) (by first | assumption | omega) rfl hasA) ?_)
     | (show WPl _ _ _ _ _ _ _ (⟨_, .slice _ _ _ _ _, _, _, _, _⟩ :: _) _; first | refine WPl.rdX (ReadR.sliceH rfl rfl hasA (by omega)) ?_ | refine WPl.rdX (ReadR.sliceL rfl rfl hasA (by omega)) ?_ | refine WPl.rdX (ReadR.sliceLH rfl rfl rfl hasA (by omega) (by omega)) ?_)
     | (refine WPl.spQ (fun hc => ?_) (fun hc => ?_) <;> try exact prA)
     | fail)
    have hfo := fds_len (l := o)
    first | refine WPc.loop (σ := Nat) (fun st => st ≤ o.length) (fun st => [rdN vr l.length (fcs l), bx gT 141 (fxc ((n : Nat) : Int) m1 m2), mp flM m1 L', mp rpM m2 R', rowN 75 59 w9 o.length (fds o)]) (fun st => [(1, vr), (5, .int .i64 ((n : Nat) : Int)), (6, hPf gT), (8, .int .i64 (i : Int)), (9, w9), (10, .int .i64 (st : Int))]) (fun st => o.length - st) (0) ?_ takesA frsA (fun st km hx hk => ?_)
    · exact Nat.zero_le _
    obtain ⟨k, rfl⟩ : ∃ i, i = st := ⟨_, rfl⟩
    have hko : k ≤ o.length := hx
    have hkm2 : km = o.length - k := hk
    clear hk
    by_cases hkl : k < o.length
    · obtain ⟨xk, hxk⟩ : ∃ x, o[k]? = some x := ⟨_, List.getElem?_eq_getElem hkl⟩
      have hkp := fds_drop hxk
      have hkf := fds_f hxk
      have k1 := xk.1.src.len
      have k2 := xk.1.dst.len
      have k3 := xk.2.ad.len
      obtain ⟨r, hr⟩ : ∃ r, r = replyE xk := ⟨_, rfl⟩
      have c70 := rreply_t xk
      rw [← hr] at c70
      have k4 := r.src.len
      have k5 := r.dst.len
      have hkl' : (k : Int) < (o.length : Int) := by omega
      repeat' (first
       | refine WPl.nil ?_ | refine WPq.then ?_ | refine WPq.thenR ?_ | refine WPq.thenE ?_ | refine WPq.blockN ?_ | refine WPq.blockR ?_ | refine WPq.blockE ?_ | refine WPq.blockO rfl ?_ | refine WPc.seq ?_ | refine WPc.block ?_ | refine WPc.ret ?_ | refine WPc.exit ?_ | refine WPc.skip ?_ | refine WPc.region ?_
       | (refine isCond ?_; first | refine WPc.cT ?_ | refine WPc.cF ?_ | (refine WPc.cQ (fun hc => ?_) (fun hc => ?_) <;> try exact prA))
       | (refine isD 58 ?_; refine WPl.rdX (ReadR.binE rfl rfl BinR.lss (congrArg Value.bool (decide_eq_true hkl'))) ?_)
       | (refine isOp ?_; first | refine WPl.rd ?_ | refine WPl.sk ?_ | refine WPl.rdB ?_)
       | (refine isAl ?_; refine WPl.nw fun g => ?_)
       | (refine isBx ?_; refine WPl.nw fun g => ?_)
       | (refine isSt ?_; first | refine WPl.st1 ?_ | refine WPl.stA ?_ | refine WPl.stEB ?_ | refine WPl.stRB ?_)
       | (show WPl _ _ _ _ _ _ _ (⟨_, .indexAddr _ _ _, _, _, _, _⟩ :: _) _; refine WPl.rdX (ReadR.indexE rfl rfl hasA (by first | assumption | omega)) ?_)
       | (show WPl _ _ _ _ _ _ _ (⟨_, .fieldAddr _ _ _, _, _, _, _⟩ :: _) _; refine WPl.rdX (ReadR.fieldE rfl hasA (by first | assumption | omega)) ?_)
       | (show WPl _ _ _ _ _ _ _ (⟨_, .load _ _, _, _, _, _⟩ :: _) _; first | refine WPl.rdX (ReadR.loadE rfl hasA (by assumption)) ?_ | refine WPl.rdX (ReadR.loadES (by assumption) (by first | assumption | omega) rfl hasA) ?_)
       | (show WPl _ _ _ _ _ _ _ (⟨_, .slice _ _ _ _ _, _, _, _, _⟩ :: _) _; first | refine WPl.rdX (ReadR.sliceH rfl rfl hasA (by omega)) ?_ | refine WPl.rdX (ReadR.sliceL rfl rfl hasA (by omega)) ?_ | refine WPl.rdX (ReadR.sliceLH rfl rfl rfl hasA (by omega) (by omega)) ?_)
       | (refine WPl.spQ (fun hc => ?_) (fun hc => ?_) <;> try exact prA)
       | fail)
      first | refine WPc.loop (σ := Nat) (fun st => st ≤ k) (fun st => [rdN vr l.length (fcs l), bx gT 141 (fxc ((n : Nat) : Int) m1 m2), mp flM m1 L', mp rpM m2 R', rowN 75 59 w9 o.length (fds o)]) (fun st => [(1, vr), (5, .int .i64 ((n : Nat) : Int)), (6, hPf gT), (8, .int .i64 (i : Int)), (9, w9), (10, .int .i64 (k : Int)), (11, .int .i64 (st : Int))]) (fun st => k - st) (0) ?_ takesA frsA (fun st km hx hk => ?_)
      · exact Nat.zero_le _
      obtain ⟨m, rfl⟩ : ∃ i, i = st := ⟨_, rfl⟩
      have hmk : m ≤ k := hx
      have hkm3 : km = k - m := hk
      clear hk
      by_cases hmk2 : m < k
      · obtain ⟨xm, hxm⟩ : ∃ x, o[m]? = some x := ⟨_, List.getElem?_eq_getElem (by omega)⟩
        have hmp := fds_drop hxm
        have hmf := fds_f hxm
        have h1 := xm.1.src.len
        have h2 := xm.1.dst.len
        have h3 := xm.2.ad.len
        have c75 := rreply_t xm
        obtain ⟨hne1, hne2⟩ := fl_apart hk2 hpo hxk hxm hmk2
        rw [← hr] at hne1
        obtain ⟨rm, hrm⟩ : ∃ r, r = replyE xm := ⟨_, rfl⟩
        rw [← hrm] at c75 hne1
        have h4 := rm.src.len
        have h5 := rm.dst.len
        have hmk' : (m : Int) < (k : Int) := by omega
        have hml : m < o.length := by omega
        repeat' (first
         | refine WPl.nil ?_ | refine WPq.then ?_ | refine WPq.thenR ?_ | refine WPq.thenE ?_ | refine WPq.blockN ?_ | refine WPq.blockR ?_ | refine WPq.blockE ?_ | refine WPq.blockO rfl ?_ | refine WPc.seq ?_ | refine WPc.block ?_ | refine WPc.ret ?_ | refine WPc.exit ?_ | refine WPc.skip ?_ | refine WPc.region ?_
         | (refine isReg 18 ?_; refine WPc.drA [([], [67, 71, 72, 73, 74]), ([], [66, 71, 72, 73, 74]), ([0, 1], [66, 67, 71, 72, 73, 74]), ([0, 1, 2], [66, 67, 68, 71, 72, 73, 74]), ([0, 1, 2, 3], [66, 67, 68, 69, 71, 72, 73, 74]), ([], [66, 67, 68, 69, 70, 72]), ([], [66, 67, 68, 69, 70, 71]), ([5, 6], [66, 67, 68, 69, 70, 71, 72]), ([5, 6, 7], [66, 67, 68, 69, 70, 71, 72, 73]), ([0, 1, 2, 3, 4, 5, 6, 7, 8], [66, 67, 68, 69, 70, 71, 72, 73, 74]), ([0, 1, 2, 3, 4, 5, 6, 7, 8, 9], [66, 67, 68, 69, 70, 71, 72, 73, 74, 75]), ([0, 1, 2, 3, 4, 5, 6, 7, 8, 9, 10], [66, 67, 68, 69, 70, 71, 72, 73, 74, 75, 76]), ([0, 1, 2, 3, 4, 5, 6, 7, 8, 9, 10, 11], [66, 67, 68, 69, 70, 71, 72, 73, 74, 75, 76, 77, 79, 83, 84, 85, 86, 87]), ([0, 1, 2, 3, 4, 5, 6, 7, 8, 9, 10, 11], [66, 67, 68, 69, 70, 71, 72, 73, 74, 75, 76, 77, 78, 83, 84, 85, 86, 87]), ([0, 1, 2, 3, 4, 5, 6, 7, 8, 9, 10, 11, 12, 13], [66, 67, 68, 69, 70, 71, 72, 73, 74, 75, 76, 77, 78, 79, 83, 84, 85, 86, 87]), ([0, 1, 2, 3, 4, 5, 6, 7, 8, 9, 10, 11, 12, 13, 14], [66, 67, 68, 69, 70, 71, 72, 73, 74, 75, 76, 77, 78, 79, 80, 83, 84, 85, 86, 87]), ([0, 1, 2, 3, 4, 5, 6, 7, 8, 9, 10, 11, 12, 13, 14, 15], [66, 67, 68, 69, 70, 71, 72, 73, 74, 75, 76, 77, 78, 79, 80, 81, 83, 84, 85, 86, 87]), ([0, 1, 2, 3, 4, 5, 6, 7, 8, 9, 10, 11], [66, 67, 68, 69, 70, 71, 72, 73, 74, 75, 76, 77, 78, 79, 80, 81, 82, 84]), ([0, 1, 2, 3, 4, 5, 6, 7, 8, 9, 10, 11], [66, 67, 68, 69, 70, 71, 72, 73, 74, 75, 76, 77, 78, 79, 80, 81, 82, 83]), ([0, 1, 2, 3, 4, 5, 6, 7, 8, 9, 10, 11, 17, 18], [66, 67, 68, 69, 70, 71, 72, 73, 74, 75, 76, 77, 78, 79, 80, 81, 82, 83, 84]), ([0, 1, 2, 3, 4, 5, 6, 7, 8, 9, 10, 11, 17, 18, 19], [66, 67, 68, 69, 70, 71, 72, 73, 74, 75, 76, 77, 78, 79, 80, 81, 82, 83, 84, 85]), ([0, 1, 2, 3, 4, 5, 6, 7, 8, 9, 10, 11, 17, 18, 19, 20], [66, 67, 68, 69, 70, 71, 72, 73, 74, 75, 76, 77, 78, 79, 80, 81, 82, 83, 84, 85, 86]), ([0, 1, 2, 3, 4, 5, 6, 7, 8, 9, 10, 11, 12, 13, 14, 15, 16, 17, 18, 19, 20, 21], [66, 67, 68, 69, 70, 71, 72, 73, 74, 75, 76, 77, 78, 79, 80, 81, 82, 83, 84, 85, 86, 87]), ([0, 1, 2, 3, 4, 5, 6, 7, 8, 9, 10, 11, 12, 13, 14, 15, 16, 17, 18, 19, 20, 21, 22], [66, 67, 68, 69, 70, 71, 72, 73, 74, 75, 76, 77, 78, 79, 80, 81, 82, 83, 84, 85, 86, 87, 88])] [] (Γx := []) ?_; dsimp only [prev0, List.length_nil, List.length_cons])
         | (refine gAny ?_; first | (refine gGd ?_; refine RGl.skp ?_) | (refine gC 70 ?_; refine RGl.vl (fun e hk => OpT.callN (c70)) ?_) | (refine gC 75 ?_; refine RGl.vl (fun e hk => OpT.callN (c75)) ?_) | (refine gD 63 ?_; refine RGl.rdX (fun e hk => by (try dsimp only [bndR, ensR, oksR, fcutR, List.append_nil, List.nil_append, List.cons_append, List.append_assoc] at hk ⊢); exact ReadR.binE rfl rfl BinR.lss (congrArg Value.bool (decide_eq_true hmk'))) ?_) | (refine gD 68 ?_; refine RGl.rdX (fun e hk => by (try dsimp only [bndR, ensR, oksR, fcutR, List.append_nil, List.nil_append, List.cons_append, List.append_assoc] at hk ⊢); exact ReadR.indexE (i := k) rfl rfl hasA hkl) ?_) | (refine gD 69 ?_; refine RGl.rdX (fun e hk => by (try dsimp only [bndR, ensR, oksR, fcutR, List.append_nil, List.nil_append, List.cons_append, List.append_assoc] at hk ⊢); exact ReadR.loadES (cs := hdE xk) hkp (by omega) rfl hasA) ?_) | (refine gD 73 ?_; refine RGl.rdX (fun e hk => by (try dsimp only [bndR, ensR, oksR, fcutR, List.append_nil, List.nil_append, List.cons_append, List.append_assoc] at hk ⊢); exact ReadR.indexE (i := m) rfl rfl hasA hml) ?_) | (refine gD 74 ?_; refine RGl.rdX (fun e hk => by (try dsimp only [bndR, ensR, oksR, fcutR, List.append_nil, List.nil_append, List.cons_append, List.append_assoc] at hk ⊢); exact ReadR.loadES (cs := hdE xm) hmp (by omega) rfl hasA) ?_) | (refine gD 76 ?_; refine RGl.rdX (fun e hk => by (try dsimp only [bndR, ensR, oksR, fcutR, List.append_nil, List.nil_append, List.cons_append, List.append_assoc] at hk ⊢); exact ReadR.binE rfl rfl BinR.flE (congrArg Value.bool (decide_eq_false hne1))) ?_) | (refine gD 80 ?_; refine RGl.rdX (fun e hk => by (try dsimp only [bndR, ensR, oksR, fcutR, List.append_nil, List.nil_append, List.cons_append, List.append_assoc] at hk ⊢); exact ReadR.indexE (i := k) rfl rfl hasA hkl) ?_) | (refine gD 81 ?_; refine RGl.rdX (fun e hk => by (try dsimp only [bndR, ensR, oksR, fcutR, List.append_nil, List.nil_append, List.cons_append, List.append_assoc] at hk ⊢); exact ReadR.fieldE rfl hasA (by omega)) ?_) | (refine gD 82 ?_; refine RGl.rdX (fun e hk => by (try dsimp only [bndR, ensR, oksR, fcutR, List.append_nil, List.nil_append, List.cons_append, List.append_assoc] at hk ⊢); exact ReadR.loadES (cs := flc xk.1) hkf (by omega) rfl hasA) ?_) | (refine gD 85 ?_; refine RGl.rdX (fun e hk => by (try dsimp only [bndR, ensR, oksR, fcutR, List.append_nil, List.nil_append, List.cons_append, List.append_assoc] at hk ⊢); exact ReadR.indexE (i := m) rfl rfl hasA hml) ?_) | (refine gD 86 ?_; refine RGl.rdX (fun e hk => by (try dsimp only [bndR, ensR, oksR, fcutR, List.append_nil, List.nil_append, List.cons_append, List.append_assoc] at hk ⊢); exact ReadR.fieldE rfl hasA (by omega)) ?_) | (refine gD 87 ?_; refine RGl.rdX (fun e hk => by (try dsimp only [bndR, ensR, oksR, fcutR, List.append_nil, List.nil_append, List.cons_append, List.append_assoc] at hk ⊢); exact ReadR.loadES (cs := flc xm.1) hmf (by omega) rfl hasA) ?_) | (refine gD 88 ?_; refine RGl.rdX (fun e hk => by (try dsimp only [bndR, ensR, oksR, fcutR, List.append_nil, List.nil_append, List.cons_append, List.append_assoc] at hk ⊢); exact ReadR.binE rfl rfl BinR.flE (congrArg Value.bool (decide_eq_false hne2))) ?_) | (refine gOp ?_; first | refine RGl.rdA ?_ | refine RGl.rdX (fun e hk => by (try dsimp only [bndR, ensR, oksR, fcutR, List.append_nil, List.nil_append, List.cons_append, List.append_assoc] at hk ⊢); exact readB) ?_) | (refine RGl.fin (fun e hk => ?_); (try dsimp only [bndA, ensAR, oksA, List.append_nil, List.nil_append, List.cons_append, List.append_assoc] at hk ⊢); (repeat (obtain ⟨hk1, hk⟩ := hk))) | fail)
         | (refine isCond ?_; first | refine WPc.cT ?_ | refine WPc.cF ?_ | (refine WPc.cQ (fun hc => ?_) (fun hc => ?_) <;> try exact prA))
         | (refine isD 63 ?_; refine WPl.rdX (ReadR.binE rfl rfl BinR.lss (congrArg Value.bool (decide_eq_true hmk'))) ?_)
         | (refine isD 68 ?_; refine WPl.rdX (ReadR.indexE (i := k) rfl rfl hasA hkl) ?_)
         | (refine isD 69 ?_; refine WPl.rdX (ReadR.loadES (cs := hdE xk) hkp (by omega) rfl hasA) ?_)
         | (refine isC 70 ?_; refine WPl.cV (c70) ?_)
         | (refine isD 73 ?_; refine WPl.rdX (ReadR.indexE (i := m) rfl rfl hasA hml) ?_)
         | (refine isD 74 ?_; refine WPl.rdX (ReadR.loadES (cs := hdE xm) hmp (by omega) rfl hasA) ?_)
         | (refine isC 75 ?_; refine WPl.cV (c75) ?_)
         | (refine isD 76 ?_; refine WPl.rdX (ReadR.binE rfl rfl BinR.flE (congrArg Value.bool (decide_eq_false hne1))) ?_)
         | (refine isD 80 ?_; refine WPl.rdX (ReadR.indexE (i := k) rfl rfl hasA hkl) ?_)
         | (refine isD 81 ?_; refine WPl.rdX (ReadR.fieldE rfl hasA (by omega)) ?_)
         | (refine isD 82 ?_; refine WPl.rdX (ReadR.loadES (cs := flc xk.1) hkf (by omega) rfl hasA) ?_)
         | (refine isD 85 ?_; refine WPl.rdX (ReadR.indexE (i := m) rfl rfl hasA hml) ?_)
         | (refine isD 86 ?_; refine WPl.rdX (ReadR.fieldE rfl hasA (by omega)) ?_)
         | (refine isD 87 ?_; refine WPl.rdX (ReadR.loadES (cs := flc xm.1) hmf (by omega) rfl hasA) ?_)
         | (refine isD 88 ?_; refine WPl.rdX (ReadR.binE rfl rfl BinR.flE (congrArg Value.bool (decide_eq_false hne2))) ?_)
         | (refine isOp ?_; first | refine WPl.rd ?_ | refine WPl.sk ?_ | refine WPl.rdB ?_)
         | (refine isAl ?_; refine WPl.nw fun g => ?_)
         | (refine isBx ?_; refine WPl.nw fun g => ?_)
         | (refine isSt ?_; first | refine WPl.st1 ?_ | refine WPl.stA ?_ | refine WPl.stEB ?_ | refine WPl.stRB ?_)
         | (show WPl _ _ _ _ _ _ _ (⟨_, .indexAddr _ _ _, _, _, _, _⟩ :: _) _; refine WPl.rdX (ReadR.indexE rfl rfl hasA (by first | assumption | omega)) ?_)
         | (show WPl _ _ _ _ _ _ _ (⟨_, .fieldAddr _ _ _, _, _, _, _⟩ :: _) _; refine WPl.rdX (ReadR.fieldE rfl hasA (by first | assumption | omega)) ?_)
         | (show WPl _ _ _ _ _ _ _ (⟨_, .load _ _, _, _, _, _⟩ :: _) _; first | refine WPl.rdX (ReadR.loadE rfl hasA (by assumption)) ?_ | refine WPl.rdX (ReadR.loadES (by assumption) (by first | assumption | omega) rfl hasA) ?_)
         | (show WPl _ _ _ _ _ _ _ (⟨_, .slice _ _ _ _ _, _, _, _, _⟩ :: _) _; first | refine WPl.rdX (ReadR.sliceH rfl rfl hasA (by omega)) ?_ | refine WPl.rdX (ReadR.sliceL rfl rfl hasA (by omega)) ?_ | refine WPl.rdX (ReadR.sliceLH rfl rfl rfl hasA (by omega) (by omega)) ?_)
         | (refine WPl.spQ (fun hc => ?_) (fun hc => ?_) <;> try exact prA)
         | fail)
        exact WPq.rnd (m + 1) (by omega) (by omega)
      · have hmk' : ¬ (m : Int) < (k : Int) := by omega
        obtain ⟨g1, g2, g3, g4, g5⟩ := fl_own hk2 hpo hxk
        rw [← hr] at g1 g2 g4
        have c97 := fReply_t gT m1 m2 ((n : Nat) : Int) L' R' r xk.1 0 g4 g3 g1
        rw [g2, g5 0, Bool.true_and] at c97
        have hku := fds_u hxk
        have hkt : (fds o)[k * 59 + 37 + 21]? = some (.int .u64 xk.2.til) := by
          have h9 := congrArg (fun q : List Value => q[0]?) hku
          simpa [List.getElem?_take, List.getElem?_drop, flat_eq] using h9
        by_cases h0 : 0 < xk.2.til
        · rw [decide_eq_true h0, if_pos rfl, if_pos rfl] at c97
          obtain ⟨ee, hee⟩ : ∃ e, e = getE L' xk.1 0 := ⟨_, rfl⟩
          rw [← hee] at c97
          have h1 := ee.ad.len
          have h0' : xk.2.til > 0 := h0
          repeat' (first
           | refine WPl.nil ?_ | refine WPq.then ?_ | refine WPq.thenR ?_ | refine WPq.thenE ?_ | refine WPq.blockN ?_ | refine WPq.blockR ?_ | refine WPq.blockE ?_ | refine WPq.blockO rfl ?_ | refine WPc.seq ?_ | refine WPc.block ?_ | refine WPc.ret ?_ | refine WPc.exit ?_ | refine WPc.skip ?_ | refine WPc.region ?_
           | (refine isReg 21 ?_; refine WPc.drA [([], [102, 103, 104, 105, 106, 107, 108]), ([], [101, 103]), ([], [101, 102]), ([1, 2], [101, 102, 103]), ([1, 2, 3], [101, 102, 103, 104]), ([1, 2, 3, 4], [101, 102, 103, 104, 105]), ([1, 2, 3, 4, 5], [101, 102, 103, 104, 105, 106]), ([1, 2, 3, 4, 5, 6], [101, 102, 103, 104, 105, 106, 107]), ([0, 1, 2, 3, 4, 5, 6, 7], [101, 102, 103, 104, 105, 106, 107, 108]), ([0, 1, 2, 3, 4, 5, 6, 7, 8], [101, 102, 103, 104, 105, 106, 107, 108, 109]), ([0, 1, 2, 3, 4, 5, 6, 7, 8, 9], [101, 102, 103, 104, 105, 106, 107, 108, 109, 110]), ([0, 1, 2, 3, 4, 5, 6, 7, 8, 9, 10], [101, 102, 103, 104, 105, 106, 107, 108, 109, 110, 111]), ([0, 1, 2, 3, 4, 5, 6, 7, 8, 9, 10, 11], [101, 102, 103, 104, 105, 106, 107, 108, 109, 110, 111, 112, 114, 115, 116, 117, 118]), ([0, 1, 2, 3, 4, 5, 6, 7, 8, 9, 10, 11], [101, 102, 103, 104, 105, 106, 107, 108, 109, 110, 111, 112, 113, 115]), ([0, 1, 2, 3, 4, 5, 6, 7, 8, 9, 10, 11], [101, 102, 103, 104, 105, 106, 107, 108, 109, 110, 111, 112, 113, 114]), ([0, 1, 2, 3, 4, 5, 6, 7, 8, 9, 10, 11, 13, 14], [101, 102, 103, 104, 105, 106, 107, 108, 109, 110, 111, 112, 113, 114, 115]), ([0, 1, 2, 3, 4, 5, 6, 7, 8, 9, 10, 11, 13, 14, 15], [101, 102, 103, 104, 105, 106, 107, 108, 109, 110, 111, 112, 113, 114, 115, 116]), ([0, 1, 2, 3, 4, 5, 6, 7, 8, 9, 10, 11, 13, 14, 15, 16], [101, 102, 103, 104, 105, 106, 107, 108, 109, 110, 111, 112, 113, 114, 115, 116, 117]), ([0, 1, 2, 3, 4, 5, 6, 7, 8, 9, 10, 11, 12, 13, 14, 15, 16, 17], [101, 102, 103, 104, 105, 106, 107, 108, 109, 110, 111, 112, 113, 114, 115, 116, 117, 118]), ([0, 1, 2, 3, 4, 5, 6, 7, 8, 9, 10, 11, 12, 13, 14, 15, 16, 17, 18], [101, 102, 103, 104, 105, 106, 107, 108, 109, 110, 111, 112, 113, 114, 115, 116, 117, 118, 119]), ([0, 1, 2, 3, 4, 5, 6, 7, 8, 9, 10, 11, 12, 13, 14, 15, 16, 17, 18, 19], [101, 102, 103, 104, 105, 106, 107, 108, 109, 110, 111, 112, 113, 114, 115, 116, 117, 118, 119, 120])] [] (Γx := []) ?_; dsimp only [prev0, List.length_nil, List.length_cons])
           | (refine gAny ?_; first | (refine gGd ?_; refine RGl.skp ?_) | (refine gC 96 ?_; refine RGl.vl (fun e hk => OpT.callN (c70)) ?_) | (refine gC 97 ?_; refine RGl.turns (fun e hk => by (try dsimp only [bndR, ensR, oksR, fcutR, List.append_nil, List.nil_append, List.cons_append, List.append_assoc] at hk ⊢); exact OpT.callTs (c97)) ?_) | (refine gD 63 ?_; refine RGl.rdX (fun e hk => by (try dsimp only [bndR, ensR, oksR, fcutR, List.append_nil, List.nil_append, List.cons_append, List.append_assoc] at hk ⊢); exact ReadR.binE rfl rfl BinR.lss (congrArg Value.bool (decide_eq_false hmk'))) ?_) | (refine gD 94 ?_; refine RGl.rdX (fun e hk => by (try dsimp only [bndR, ensR, oksR, fcutR, List.append_nil, List.nil_append, List.cons_append, List.append_assoc] at hk ⊢); exact ReadR.indexE (i := k) rfl rfl hasA hkl) ?_) | (refine gD 95 ?_; refine RGl.rdX (fun e hk => by (try dsimp only [bndR, ensR, oksR, fcutR, List.append_nil, List.nil_append, List.cons_append, List.append_assoc] at hk ⊢); exact ReadR.loadES (cs := hdE xk) hkp (by omega) rfl hasA) ?_) | (refine gD 104 ?_; refine RGl.rdX (fun e hk => by (try dsimp only [bndR, ensR, oksR, fcutR, List.append_nil, List.nil_append, List.cons_append, List.append_assoc] at hk ⊢); exact ReadR.indexE (i := k) rfl rfl hasA hkl) ?_) | (refine gD 105 ?_; refine RGl.rdX (fun e hk => by (try dsimp only [bndR, ensR, oksR, fcutR, List.append_nil, List.nil_append, List.cons_append, List.append_assoc] at hk ⊢); exact ReadR.fieldE rfl hasA (by omega)) ?_) | (refine gD 106 ?_; refine RGl.rdX (fun e hk => by (try dsimp only [bndR, ensR, oksR, fcutR, List.append_nil, List.nil_append, List.cons_append, List.append_assoc] at hk ⊢); exact ReadR.fieldE rfl hasA (by omega)) ?_) | (refine gD 107 ?_; refine RGl.rdX (fun e hk => by (try dsimp only [bndR, ensR, oksR, fcutR, List.append_nil, List.nil_append, List.cons_append, List.append_assoc] at hk ⊢); exact ReadR.loadE rfl hasA hkt) ?_) | (refine gD 108 ?_; refine RGl.rdX (fun e hk => by (try dsimp only [bndR, ensR, oksR, fcutR, List.append_nil, List.nil_append, List.cons_append, List.append_assoc] at hk ⊢); exact ReadR.binE rfl rfl BinR.gtr (congrArg Value.bool (decide_eq_true h0'))) ?_) | (refine gD 109 ?_; refine RGl.rdX (fun e hk => by (try dsimp only [bndR, ensR, oksR, fcutR, List.append_nil, List.nil_append, List.cons_append, List.append_assoc] at hk ⊢); exact ReadR.binE rfl rfl (BinR.neqB (by kernel_rfl)) (show Value.bool (!(true == true)) = Value.bool false from rfl)) ?_) | (refine gD 116 ?_; refine RGl.rdX (fun e hk => by (try dsimp only [bndR, ensR, oksR, fcutR, List.append_nil, List.nil_append, List.cons_append, List.append_assoc] at hk ⊢); exact ReadR.indexE (i := k) rfl rfl hasA hkl) ?_) | (refine gD 117 ?_; refine RGl.rdX (fun e hk => by (try dsimp only [bndR, ensR, oksR, fcutR, List.append_nil, List.nil_append, List.cons_append, List.append_assoc] at hk ⊢); exact ReadR.fieldE rfl hasA (by omega)) ?_) | (refine gD 118 ?_; refine RGl.rdX (fun e hk => by (try dsimp only [bndR, ensR, oksR, fcutR, List.append_nil, List.nil_append, List.cons_append, List.append_assoc] at hk ⊢); exact ReadR.loadES (cs := flc xk.1) hkf (by omega) rfl hasA) ?_) | (refine gD 119 ?_; refine RGl.rdX (fun e hk => by (try dsimp only [bndR, ensR, oksR, fcutR, List.append_nil, List.nil_append, List.cons_append, List.append_assoc] at hk ⊢); exact ReadR.binE rfl rfl BinR.flN (congrArg (fun q => Value.bool (!q)) (decide_eq_true rfl))) ?_) | (refine gOp ?_; first | refine RGl.rdA ?_ | refine RGl.rdX (fun e hk => by (try dsimp only [bndR, ensR, oksR, fcutR, List.append_nil, List.nil_append, List.cons_append, List.append_assoc] at hk ⊢); exact readB) ?_) | (refine RGl.fin (fun e hk => ?_); (try dsimp only [bndA, ensAR, oksA, List.append_nil, List.nil_append, List.cons_append, List.append_assoc] at hk ⊢); (repeat (obtain ⟨hk1, hk⟩ := hk))) | fail)
           | (refine isCond ?_; first | refine WPc.cT ?_ | refine WPc.cF ?_ | (refine WPc.cQ (fun hc => ?_) (fun hc => ?_) <;> try exact prA))
           | (refine isD 63 ?_; refine WPl.rdX (ReadR.binE rfl rfl BinR.lss (congrArg Value.bool (decide_eq_false hmk'))) ?_)
           | (refine isD 94 ?_; refine WPl.rdX (ReadR.indexE (i := k) rfl rfl hasA hkl) ?_)
           | (refine isD 95 ?_; refine WPl.rdX (ReadR.loadES (cs := hdE xk) hkp (by omega) rfl hasA) ?_)
           | (refine isC 96 ?_; refine WPl.cV (c70) ?_)
           | (refine isC 97 ?_; refine WPl.cTs (c97) ?_; (try dsimp only [putF, List.cons_append, List.nil_append]))
           | (refine isD 12 ?_; first | (refine isAl ?_; refine WPl.nw fun g12 => ?_) | (refine isBx ?_; refine WPl.nw fun g12 => ?_))
           | (refine isD 13 ?_; first | (refine isAl ?_; refine WPl.nw fun g13 => ?_) | (refine isBx ?_; refine WPl.nw fun g13 => ?_))
           | (refine isD 104 ?_; refine WPl.rdX (ReadR.indexE (i := k) rfl rfl hasA hkl) ?_)
           | (refine isD 105 ?_; refine WPl.rdX (ReadR.fieldE rfl hasA (by omega)) ?_)
           | (refine isD 106 ?_; refine WPl.rdX (ReadR.fieldE rfl hasA (by omega)) ?_)
           | (refine isD 107 ?_; refine WPl.rdX (ReadR.loadE rfl hasA hkt) ?_)
           | (refine isD 108 ?_; refine WPl.rdX (ReadR.binE rfl rfl BinR.gtr (congrArg Value.bool (decide_eq_true h0'))) ?_)
           | (refine isD 109 ?_; refine WPl.rdX (ReadR.binE rfl rfl (BinR.neqB (by kernel_rfl)) (show Value.bool (!(true == true)) = Value.bool false from rfl)) ?_)
           | (refine isD 116 ?_; refine WPl.rdX (ReadR.indexE (i := k) rfl rfl hasA hkl) ?_)
           | (refine isD 117 ?_; refine WPl.rdX (ReadR.fieldE rfl hasA (by omega)) ?_)
           | (refine isD 118 ?_; refine WPl.rdX (ReadR.loadES (cs := flc xk.1) hkf (by omega) rfl hasA) ?_)
           | (refine isD 119 ?_; refine WPl.rdX (ReadR.binE rfl rfl BinR.flN (congrArg (fun q => Value.bool (!q)) (decide_eq_true rfl))) ?_)
           | (refine isOp ?_; first | refine WPl.rd ?_ | refine WPl.sk ?_ | refine WPl.rdB ?_)
           | (refine isAl ?_; refine WPl.nw fun g => ?_)
           | (refine isBx ?_; refine WPl.nw fun g => ?_)
           | (refine isSt ?_; first | refine WPl.st1 ?_ | refine WPl.stA ?_ | refine WPl.stEB ?_ | refine WPl.stRB ?_)
           | (show WPl _ _ _ _ _ _ _ (⟨_, .indexAddr _ _ _, _, _, _, _⟩ :: _) _; refine WPl.rdX (ReadR.indexE rfl rfl hasA (by first | assumption | omega)) ?_)
           | (show WPl _ _ _ _ _ _ _ (⟨_, .fieldAddr _ _ _, _, _, _, _⟩ :: _) _; refine WPl.rdX (ReadR.fieldE rfl hasA (by first | assumption | omega)) ?_)
           | (show WPl _ _ _ _ _ _ _ (⟨_, .load _ _, _, _, _, _⟩ :: _) _; first | refine WPl.rdX (ReadR.loadE rfl hasA (by assumption)) ?_ | refine WPl.rdX (ReadR.loadES (by assumption) (by first | assumption | omega) rfl hasA) ?_)
           | (show WPl _ _ _ _ _ _ _ (⟨_, .slice _ _ _ _ _, _, _, _, _⟩ :: _) _; first | refine WPl.rdX (ReadR.sliceH rfl rfl hasA (by omega)) ?_ | refine WPl.rdX (ReadR.sliceL rfl rfl hasA (by omega)) ?_ | refine WPl.rdX (ReadR.sliceLH rfl rfl rfl hasA (by omega) (by omega)) ?_)
           | (refine WPl.spQ (fun hc => ?_) (fun hc => ?_) <;> try exact prA)
           | fail)
          exact WPq.rnd (k + 1) (by omega) (by omega)
        · rw [decide_eq_false h0, if_neg (by simp), if_neg (by simp)] at c97
          have h0' : ¬ xk.2.til > 0 := h0
          repeat' (first
           | refine WPl.nil ?_ | refine WPq.then ?_ | refine WPq.thenR ?_ | refine WPq.thenE ?_ | refine WPq.blockN ?_ | refine WPq.blockR ?_ | refine WPq.blockE ?_ | refine WPq.blockO rfl ?_ | refine WPc.seq ?_ | refine WPc.block ?_ | refine WPc.ret ?_ | refine WPc.exit ?_ | refine WPc.skip ?_ | refine WPc.region ?_
           | (refine isReg 21 ?_; refine WPc.drA [([], [102, 103, 104, 105, 106, 107, 108]), ([], [101, 103]), ([], [101, 102]), ([1, 2], [101, 102, 103]), ([1, 2, 3], [101, 102, 103, 104]), ([1, 2, 3, 4], [101, 102, 103, 104, 105]), ([1, 2, 3, 4, 5], [101, 102, 103, 104, 105, 106]), ([1, 2, 3, 4, 5, 6], [101, 102, 103, 104, 105, 106, 107]), ([0, 1, 2, 3, 4, 5, 6, 7], [101, 102, 103, 104, 105, 106, 107, 108]), ([0, 1, 2, 3, 4, 5, 6, 7, 8], [101, 102, 103, 104, 105, 106, 107, 108, 109]), ([0, 1, 2, 3, 4, 5, 6, 7, 8, 9], [101, 102, 103, 104, 105, 106, 107, 108, 109, 110]), ([0, 1, 2, 3, 4, 5, 6, 7, 8, 9, 10], [101, 102, 103, 104, 105, 106, 107, 108, 109, 110, 111]), ([0, 1, 2, 3, 4, 5, 6, 7, 8, 9, 10, 11], [101, 102, 103, 104, 105, 106, 107, 108, 109, 110, 111, 112, 114, 115, 116, 117, 118]), ([0, 1, 2, 3, 4, 5, 6, 7, 8, 9, 10, 11], [101, 102, 103, 104, 105, 106, 107, 108, 109, 110, 111, 112, 113, 115]), ([0, 1, 2, 3, 4, 5, 6, 7, 8, 9, 10, 11], [101, 102, 103, 104, 105, 106, 107, 108, 109, 110, 111, 112, 113, 114]), ([0, 1, 2, 3, 4, 5, 6, 7, 8, 9, 10, 11, 13, 14], [101, 102, 103, 104, 105, 106, 107, 108, 109, 110, 111, 112, 113, 114, 115]), ([0, 1, 2, 3, 4, 5, 6, 7, 8, 9, 10, 11, 13, 14, 15], [101, 102, 103, 104, 105, 106, 107, 108, 109, 110, 111, 112, 113, 114, 115, 116]), ([0, 1, 2, 3, 4, 5, 6, 7, 8, 9, 10, 11, 13, 14, 15, 16], [101, 102, 103, 104, 105, 106, 107, 108, 109, 110, 111, 112, 113, 114, 115, 116, 117]), ([0, 1, 2, 3, 4, 5, 6, 7, 8, 9, 10, 11, 12, 13, 14, 15, 16, 17], [101, 102, 103, 104, 105, 106, 107, 108, 109, 110, 111, 112, 113, 114, 115, 116, 117, 118]), ([0, 1, 2, 3, 4, 5, 6, 7, 8, 9, 10, 11, 12, 13, 14, 15, 16, 17, 18], [101, 102, 103, 104, 105, 106, 107, 108, 109, 110, 111, 112, 113, 114, 115, 116, 117, 118, 119]), ([0, 1, 2, 3, 4, 5, 6, 7, 8, 9, 10, 11, 12, 13, 14, 15, 16, 17, 18, 19], [101, 102, 103, 104, 105, 106, 107, 108, 109, 110, 111, 112, 113, 114, 115, 116, 117, 118, 119, 120])] [] (Γx := []) ?_; dsimp only [prev0, List.length_nil, List.length_cons])
           | (refine gAny ?_; first | (refine gGd ?_; refine RGl.skp ?_) | (refine gC 96 ?_; refine RGl.vl (fun e hk => OpT.callN (c70)) ?_) | (refine gC 97 ?_; refine RGl.turns (fun e hk => by (try dsimp only [bndR, ensR, oksR, fcutR, List.append_nil, List.nil_append, List.cons_append, List.append_assoc] at hk ⊢); exact OpT.callTs (c97)) ?_) | (refine gD 63 ?_; refine RGl.rdX (fun e hk => by (try dsimp only [bndR, ensR, oksR, fcutR, List.append_nil, List.nil_append, List.cons_append, List.append_assoc] at hk ⊢); exact ReadR.binE rfl rfl BinR.lss (congrArg Value.bool (decide_eq_false hmk'))) ?_) | (refine gD 94 ?_; refine RGl.rdX (fun e hk => by (try dsimp only [bndR, ensR, oksR, fcutR, List.append_nil, List.nil_append, List.cons_append, List.append_assoc] at hk ⊢); exact ReadR.indexE (i := k) rfl rfl hasA hkl) ?_) | (refine gD 95 ?_; refine RGl.rdX (fun e hk => by (try dsimp only [bndR, ensR, oksR, fcutR, List.append_nil, List.nil_append, List.cons_append, List.append_assoc] at hk ⊢); exact ReadR.loadES (cs := hdE xk) hkp (by omega) rfl hasA) ?_) | (refine gD 104 ?_; refine RGl.rdX (fun e hk => by (try dsimp only [bndR, ensR, oksR, fcutR, List.append_nil, List.nil_append, List.cons_append, List.append_assoc] at hk ⊢); exact ReadR.indexE (i := k) rfl rfl hasA hkl) ?_) | (refine gD 105 ?_; refine RGl.rdX (fun e hk => by (try dsimp only [bndR, ensR, oksR, fcutR, List.append_nil, List.nil_append, List.cons_append, List.append_assoc] at hk ⊢); exact ReadR.fieldE rfl hasA (by omega)) ?_) | (refine gD 106 ?_; refine RGl.rdX (fun e hk => by (try dsimp only [bndR, ensR, oksR, fcutR, List.append_nil, List.nil_append, List.cons_append, List.append_assoc] at hk ⊢); exact ReadR.fieldE rfl hasA (by omega)) ?_) | (refine gD 107 ?_; refine RGl.rdX (fun e hk => by (try dsimp only [bndR, ensR, oksR, fcutR, List.append_nil, List.nil_append, List.cons_append, List.append_assoc] at hk ⊢); exact ReadR.loadE rfl hasA hkt) ?_) | (refine gD 108 ?_; refine RGl.rdX (fun e hk => by (try dsimp only [bndR, ensR, oksR, fcutR, List.append_nil, List.nil_append, List.cons_append, List.append_assoc] at hk ⊢); exact ReadR.binE rfl rfl BinR.gtr (congrArg Value.bool (decide_eq_false h0'))) ?_) | (refine gD 109 ?_; refine RGl.rdX (fun e hk => by (try dsimp only [bndR, ensR, oksR, fcutR, List.append_nil, List.nil_append, List.cons_append, List.append_assoc] at hk ⊢); exact ReadR.binE rfl rfl (BinR.neqB (by kernel_rfl)) (show Value.bool (!(false == false)) = Value.bool false from rfl)) ?_) | (refine gOp ?_; first | refine RGl.rdA ?_ | refine RGl.rdX (fun e hk => by (try dsimp only [bndR, ensR, oksR, fcutR, List.append_nil, List.nil_append, List.cons_append, List.append_assoc] at hk ⊢); exact readB) ?_) | (refine RGl.fin (fun e hk => ?_); (try dsimp only [bndA, ensAR, oksA, List.append_nil, List.nil_append, List.cons_append, List.append_assoc] at hk ⊢); (repeat (obtain ⟨hk1, hk⟩ := hk))) | fail)
           | (refine isCond ?_; first | refine WPc.cT ?_ | refine WPc.cF ?_ | (refine WPc.cQ (fun hc => ?_) (fun hc => ?_) <;> try exact prA))
           | (refine isD 63 ?_; refine WPl.rdX (ReadR.binE rfl rfl BinR.lss (congrArg Value.bool (decide_eq_false hmk'))) ?_)
           | (refine isD 94 ?_; refine WPl.rdX (ReadR.indexE (i := k) rfl rfl hasA hkl) ?_)
           | (refine isD 95 ?_; refine WPl.rdX (ReadR.loadES (cs := hdE xk) hkp (by omega) rfl hasA) ?_)
           | (refine isC 96 ?_; refine WPl.cV (c70) ?_)
           | (refine isC 97 ?_; refine WPl.cTs (c97) ?_; (try dsimp only [putF, List.cons_append, List.nil_append]))
           | (refine isD 12 ?_; first | (refine isAl ?_; refine WPl.nw fun g12 => ?_) | (refine isBx ?_; refine WPl.nw fun g12 => ?_))
           | (refine isD 13 ?_; first | (refine isAl ?_; refine WPl.nw fun g13 => ?_) | (refine isBx ?_; refine WPl.nw fun g13 => ?_))
           | (refine isD 104 ?_; refine WPl.rdX (ReadR.indexE (i := k) rfl rfl hasA hkl) ?_)
           | (refine isD 105 ?_; refine WPl.rdX (ReadR.fieldE rfl hasA (by omega)) ?_)
           | (refine isD 106 ?_; refine WPl.rdX (ReadR.fieldE rfl hasA (by omega)) ?_)
           | (refine isD 107 ?_; refine WPl.rdX (ReadR.loadE rfl hasA hkt) ?_)
           | (refine isD 108 ?_; refine WPl.rdX (ReadR.binE rfl rfl BinR.gtr (congrArg Value.bool (decide_eq_false h0'))) ?_)
           | (refine isD 109 ?_; refine WPl.rdX (ReadR.binE rfl rfl (BinR.neqB (by kernel_rfl)) (show Value.bool (!(false == false)) = Value.bool false from rfl)) ?_)
           | (refine isOp ?_; first | refine WPl.rd ?_ | refine WPl.sk ?_ | refine WPl.rdB ?_)
           | (refine isAl ?_; refine WPl.nw fun g => ?_)
           | (refine isBx ?_; refine WPl.nw fun g => ?_)
           | (refine isSt ?_; first | refine WPl.st1 ?_ | refine WPl.stA ?_ | refine WPl.stEB ?_ | refine WPl.stRB ?_)
           | (show WPl _ _ _ _ _ _ _ (⟨_, .indexAddr _ _ _, _, _, _, _⟩ :: _) _; refine WPl.rdX (ReadR.indexE rfl rfl hasA (by first | assumption | omega)) ?_)
           | (show WPl _ _ _ _ _ _ _ (⟨_, .fieldAddr _ _ _, _, _, _, _⟩ :: _) _; refine WPl.rdX (ReadR.fieldE rfl hasA (by first | assumption | omega)) ?_)
           | (show WPl _ _ _ _ _ _ _ (⟨_, .load _ _, _, _, _, _⟩ :: _) _; first | refine WPl.rdX (ReadR.loadE rfl hasA (by assumption)) ?_ | refine WPl.rdX (ReadR.loadES (by assumption) (by first | assumption | omega) rfl hasA) ?_)
           | (show WPl _ _ _ _ _ _ _ (⟨_, .slice _ _ _ _ _, _, _, _, _⟩ :: _) _; first | refine WPl.rdX (ReadR.sliceH rfl rfl hasA (by omega)) ?_ | refine WPl.rdX (ReadR.sliceL rfl rfl hasA (by omega)) ?_ | refine WPl.rdX (ReadR.sliceLH rfl rfl rfl hasA (by omega) (by omega)) ?_)
           | (refine WPl.spQ (fun hc => ?_) (fun hc => ?_) <;> try exact prA)
           | fail)
          exact WPq.rnd (k + 1) (by omega) (by omega)
    · have hkl' : ¬ (k : Int) < (o.length : Int) := by omega
      repeat' (first
       | refine WPl.nil ?_ | refine WPq.then ?_ | refine WPq.thenR ?_ | refine WPq.thenE ?_ | refine WPq.blockN ?_ | refine WPq.blockR ?_ | refine WPq.blockE ?_ | refine WPq.blockO rfl ?_ | refine WPc.seq ?_ | refine WPc.block ?_ | refine WPc.ret ?_ | refine WPc.exit ?_ | refine WPc.skip ?_ | refine WPc.region ?_
       | (refine isCond ?_; first | refine WPc.cT ?_ | refine WPc.cF ?_ | (refine WPc.cQ (fun hc => ?_) (fun hc => ?_) <;> try exact prA))
       | (refine isD 58 ?_; refine WPl.rdX (ReadR.binE rfl rfl BinR.lss (congrArg Value.bool (decide_eq_false hkl'))) ?_)
       | (refine isOp ?_; first | refine WPl.rd ?_ | refine WPl.sk ?_ | refine WPl.rdB ?_)
       | (refine isAl ?_; refine WPl.nw fun g => ?_)
       | (refine isBx ?_; refine WPl.nw fun g => ?_)
       | (refine isSt ?_; first | refine WPl.st1 ?_ | refine WPl.stA ?_ | refine WPl.stEB ?_ | refine WPl.stRB ?_)
       | (show WPl _ _ _ _ _ _ _ (⟨_, .indexAddr _ _ _, _, _, _, _⟩ :: _) _; refine WPl.rdX (ReadR.indexE rfl rfl hasA (by first | assumption | omega)) ?_)
       | (show WPl _ _ _ _ _ _ _ (⟨_, .fieldAddr _ _ _, _, _, _, _⟩ :: _) _; refine WPl.rdX (ReadR.fieldE rfl hasA (by first | assumption | omega)) ?_)
       | (show WPl _ _ _ _ _ _ _ (⟨_, .load _ _, _, _, _, _⟩ :: _) _; first | refine WPl.rdX (ReadR.loadE rfl hasA (by assumption)) ?_ | refine WPl.rdX (ReadR.loadES (by assumption) (by first | assumption | omega) rfl hasA) ?_)
       | (show WPl _ _ _ _ _ _ _ (⟨_, .slice _ _ _ _ _, _, _, _, _⟩ :: _) _; first | refine WPl.rdX (ReadR.sliceH rfl rfl hasA (by omega)) ?_ | refine WPl.rdX (ReadR.sliceL rfl rfl hasA (by omega)) ?_ | refine WPl.rdX (ReadR.sliceLH rfl rfl rfl hasA (by omega) (by omega)) ?_)
       | (refine WPl.spQ (fun hc => ?_) (fun hc => ?_) <;> try exact prA)
       | fail)
      exact WPq.rnd (i + 1, L', R') ⟨by dsimp only; omega, hk2, hLn2⟩ (by dsimp only; omega)
  · by_cases hil : i < l.length
    · have hil' : (i : Int) < (l.length : Int) := by omega
      have hi80' : ¬ (i : Int) < 80 := by omega
      repeat' (first
       | refine WPl.nil ?_ | refine WPq.then ?_ | refine WPq.thenR ?_ | refine WPq.thenE ?_ | refine WPq.blockN ?_ | refine WPq.blockR ?_ | refine WPq.blockE ?_ | refine WPq.blockO rfl ?_ | refine WPc.seq ?_ | refine WPc.block ?_ | refine WPc.ret ?_ | refine WPc.exit ?_ | refine WPc.skip ?_ | refine WPc.region ?_
       | (refine isCond ?_; first | refine WPc.cT ?_ | refine WPc.cF ?_ | (refine WPc.cQ (fun hc => ?_) (fun hc => ?_) <;> try exact prA))
       | (refine isD 33 ?_; refine WPl.rdX (ReadR.binE rfl rfl BinR.lss (congrArg Value.bool (decide_eq_true hil'))) ?_)
       | (refine isD 36 ?_; refine WPl.rdX (ReadR.binE rfl rfl BinR.lss (congrArg Value.bool (decide_eq_false hi80'))) ?_)
       | (refine isC 122 ?_; refine WPl.cV (hlive) ?_)
       | (refine isOp ?_; first | refine WPl.rd ?_ | refine WPl.sk ?_ | refine WPl.rdB ?_)
       | (refine isAl ?_; refine WPl.nw fun g => ?_)
       | (refine isBx ?_; refine WPl.nw fun g => ?_)
       | (refine isSt ?_; first | refine WPl.st1 ?_ | refine WPl.stA ?_ | refine WPl.stEB ?_ | refine WPl.stRB ?_)
       | (show WPl _ _ _ _ _ _ _ (⟨_, .indexAddr _ _ _, _, _, _, _⟩ :: _) _; refine WPl.rdX (ReadR.indexE rfl rfl hasA (by first | assumption | omega)) ?_)
       | (show WPl _ _ _ _ _ _ _ (⟨_, .fieldAddr _ _ _, _, _, _, _⟩ :: _) _; refine WPl.rdX (ReadR.fieldE rfl hasA (by first | assumption | omega)) ?_)
       | (show WPl _ _ _ _ _ _ _ (⟨_, .load _ _, _, _, _, _⟩ :: _) _; first | refine WPl.rdX (ReadR.loadE rfl hasA (by assumption)) ?_ | refine WPl.rdX (ReadR.loadES (by assumption) (by first | assumption | omega) rfl hasA) ?_)
       | (show WPl _ _ _ _ _ _ _ (⟨_, .slice _ _ _ _ _, _, _, _, _⟩ :: _) _; first | refine WPl.rdX (ReadR.sliceH rfl rfl hasA (by omega)) ?_ | refine WPl.rdX (ReadR.sliceL rfl rfl hasA (by omega)) ?_ | refine WPl.rdX (ReadR.sliceLH rfl rfl rfl hasA (by omega) (by omega)) ?_)
       | (refine WPl.spQ (fun hc => ?_) (fun hc => ?_) <;> try exact prA)
       | fail)
      exact WPq.dV
    · have hil' : ¬ (i : Int) < (l.length : Int) := by omega
      repeat' (first
       | refine WPl.nil ?_ | refine WPq.then ?_ | refine WPq.thenR ?_ | refine WPq.thenE ?_ | refine WPq.blockN ?_ | refine WPq.blockR ?_ | refine WPq.blockE ?_ | refine WPq.blockO rfl ?_ | refine WPc.seq ?_ | refine WPc.block ?_ | refine WPc.ret ?_ | refine WPc.exit ?_ | refine WPc.skip ?_ | refine WPc.region ?_
       | (refine isCond ?_; first | refine WPc.cT ?_ | refine WPc.cF ?_ | (refine WPc.cQ (fun hc => ?_) (fun hc => ?_) <;> try exact prA))
       | (refine isD 33 ?_; refine WPl.rdX (ReadR.binE rfl rfl BinR.lss (congrArg Value.bool (decide_eq_false hil'))) ?_)
       | (refine isC 122 ?_; refine WPl.cV (hlive) ?_)
       | (refine isOp ?_; first | refine WPl.rd ?_ | refine WPl.sk ?_ | refine WPl.rdB ?_)
       | (refine isAl ?_; refine WPl.nw fun g => ?_)
       | (refine isBx ?_; refine WPl.nw fun g => ?_)
       | (refine isSt ?_; first | refine WPl.st1 ?_ | refine WPl.stA ?_ | refine WPl.stEB ?_ | refine WPl.stRB ?_)
       | (show WPl _ _ _ _ _ _ _ (⟨_, .indexAddr _ _ _, _, _, _, _⟩ :: _) _; refine WPl.rdX (ReadR.indexE rfl rfl hasA (by first | assumption | omega)) ?_)
       | (show WPl _ _ _ _ _ _ _ (⟨_, .fieldAddr _ _ _, _, _, _, _⟩ :: _) _; refine WPl.rdX (ReadR.fieldE rfl hasA (by first | assumption | omega)) ?_)
       | (show WPl _ _ _ _ _ _ _ (⟨_, .load _ _, _, _, _, _⟩ :: _) _; first | refine WPl.rdX (ReadR.loadE rfl hasA (by assumption)) ?_ | refine WPl.rdX (ReadR.loadES (by assumption) (by first | assumption | omega) rfl hasA) ?_)
       | (show WPl _ _ _ _ _ _ _ (⟨_, .slice _ _ _ _ _, _, _, _, _⟩ :: _) _; first | refine WPl.rdX (ReadR.sliceH rfl rfl hasA (by omega)) ?_ | refine WPl.rdX (ReadR.sliceL rfl rfl hasA (by omega)) ?_ | refine WPl.rdX (ReadR.sliceLH rfl rfl rfl hasA (by omega) (by omega)) ?_)
       | (refine WPl.spQ (fun hc => ?_) (fun hc => ?_) <;> try exact prA)
       | fail)
      exact WPq.dV
end Go.Proofs.Ytncgponcedkihaa
