/- DevFlushed: what was there at a Flush lasts, whatever is lost, in each sector that was not written since. -/
import Derived.Test.YtepmikgjnmjheaaDf
namespace Go.Proofs.Ytepmikgjnmjheaa
open Go.RowKit
set_option linter.unusedSimpArgs false
set_option linter.unusedVariables false
set_option maxRecDepth 20000
set_option maxHeartbeats 4000000
attribute [local irreducible] WPc WPl WPq ReadR OpT BinR HasS bx rdN rowN Take Takes Prov Triple ResF BuildP Done ag Int.decLt Int.decLe Int.instDecidableEq
attribute [local irreducible] mp rmp rg rgo bag vrow secs mput mget mfind mdel intsV skeys pickG crashT das wasI w0 nowAll
def ls20 : List Sec := List.replicate 20 (secF 0)
theorem ls20_len : ls20.length = 20 := by with_unfolding_all rfl
theorem das_s {l : List DA} {i : Nat} {x : DA} (h : l[i]? = some x) : (das l)[i * 5 + 1]? = some (.int .i64 x.s) ∧ (das l)[i * 5 + 3]? = some (.int .u8 ((x.b.toNat : Nat) : Int)) := by
  have h1 := das_at h
  have h2 : (flat (daC x))[1]? = some (.int .i64 x.s) := rfl
  have h3 : (flat (daC x))[3]? = some (.int .u8 ((x.b.toNat : Nat) : Int)) := rfl
  rw [← h1] at h2 h3
  rw [List.getElem?_take_of_lt (by omega), List.getElem?_drop] at h2 h3
  exact ⟨h2, h3⟩
abbrev GW (gV mD : Nat) (vd : Value) (ls : List Sec) (s : List (Int × Vs) × Int) : List Asn := [bx gV 79 (dvc f4 vd mD s.2), rowN 81 256 vd 20 (secs ls), mp secM mD s.1, bag s.1]
def RW20 (gV mD : Nat) (vd : Value) (ls : List Sec) (es : List (Int × Vs)) (cn i : Int) (b : UInt8) : Value → List Asn → Prop := fun v Γ => v = .int .i64 (if wok 20 i then 0 else 1) ∧ ∃ s : List (Int × Vs) × Int, Γ = GW gV mD vd ls s ∧ WStep 20 es cn i b s.1 s.2
theorem wr20_t (gV mD : Nat) (vd : Value) (cn : Int) (ls : List Sec) (es : List (Int × Vs)) (k : Nat) (i : Int) (b : UInt8) (bv : Value) (hk : k ≤ 100000) (hn : ls.length = 20) (hd : DOk 20 k es cn) :
    Triple Try.prog 13 #[hD gV, .int .i64 i, bv] ([ob bv (List.replicate 256 b)] ++ [bx gV 79 (dvc f4 vd mD cn), rowN 81 256 vd 20 (secs ls), mp secM mD es, bag es]) (RW20 gV mD vd ls es cn i b) := by
  have := wr_t gV mD vd cn ls es k i b bv hk (by omega) (by rw [hn]; exact hd)
  unfold RWr at this
  rw [hn] at this
  refine Triple.mono (Triple.permΓ (List.perm_append_comm (l₁ := [ob bv (List.replicate 256 b)])) this) ?_
  rintro v Γ' ⟨es', cn', h1, h2, h3⟩
  exact ⟨h1, (es', cn'), h3, h2⟩
noncomputable abbrev SW (gV mD : Nat) (vd : Value) (ls : List Sec) (es : List (Int × Vs)) (cn i : Int) (b : UInt8) (e : Env) : List (Int × Vs) × Int := pickG (GW gV mD vd ls) (fun s => WStep 20 es cn i b s.1 s.2) (e 12).2
theorem map_set_true {dl : List Bool} {j : Nat} : ((20, dl.map Value.bool).fst, (dl.map Value.bool).set j (Value.bool true)) = ((20 : Nat), (dl.set j true).map Value.bool) := by rw [List.map_set]
theorem intsV_take {l : List Int} {k : Nat} : intsV (l.take k) = (intsV l).take k := by with_unfolding_all exact List.map_take
theorem devFlushed_t (v1 : Value) (l : List DA) (v2 : Value) (more : List DA) (v3 : Value) (lost0 : List Int) (hl1 : ∀ x ∈ l, daW x) (hl2 : ∀ x ∈ more, daW x) (hl3 : ∀ y ∈ lost0, in64 y) :
    Triple Try.prog 3 #[v1, v2, v3] [rdN v1 l.length (das l), rdN v2 more.length (das more), rdN v3 lost0.length (lost0.map (Value.int .i64))] (RVal (.bool true)) := by
  have e3 : lost0.map (Value.int .i64) = intsV lost0 := by with_unfolding_all rfl
  rw [e3]
  have c21 := new_t 20 (by omega) (by omega)
  unfold RNewD at c21
  rw [show List.replicate 20 (secF 0) = ls20 from rfl, ls20_len] at c21
  have clv := lives_t
  have hL1 := das_len (l := l)
  have hL2 := das_len (l := more)
  refine Triple.enter Try.func3 rfl Try.ntmps3 rfl (fun W => ?_)
  dsimp only [argsF, Nat.reduceAdd]
  repeat' (first
   | (refine isSeqR 4 ?_; refine WPc.join (σ := List (Int × Vs) × Int) (fun st => ∃ k, k ≤ 30 ∧ DOk 20 k st.1 st.2) (fun st => [rdN v1 l.length (das l), rdN v2 more.length (das more), rdN v3 lost0.length (intsV lost0), bx gV 79 (dvc f4 vd mD st.2), rowN 81 256 vd 20 (secs ls20), mp secM mD st.1, bag st.1]) (fun st => [(0, v1), (1, v2), (2, v3), (7, hD gV)]) ?_ (fun st hx => ?_))
   | refine WPl.nil ?_ | refine WPq.then ?_ | refine WPq.thenR ?_ | refine WPq.thenE ?_ | refine WPq.blockN ?_ | refine WPq.blockR ?_ | refine WPq.blockE ?_ | refine WPq.blockO rfl ?_ | refine WPc.seq ?_ | refine WPc.block ?_ | refine WPc.ret ?_ | refine WPc.exit ?_ | refine WPc.skip ?_ | refine WPc.region ?_
   | (refine isCond ?_; first | refine WPc.cT ?_ | refine WPc.cF ?_ | (refine WPc.cQ (fun hc => ?_) (fun hc => ?_) <;> try exact prA))
   | (refine isC 21 ?_; refine WPl.cXs (c21) fun v Γ1 hR => ?_; obtain ⟨gV, mD, vd, rfl, hvd, rfl⟩ := hR; (try dsimp only [putF, List.cons_append, List.nil_append]))
   | (refine isD 25 ?_; refine WPl.rdX (readP) ?_)
   | (refine isOp ?_; first | refine WPl.rd ?_ | refine WPl.sk ?_ | refine WPl.rdB ?_)
   | (refine isAl ?_; refine WPl.nw fun g => ?_)
   | (refine isSt ?_; first | refine WPl.st1 ?_ | refine WPl.stA ?_ | refine WPl.stEB ?_ | refine WPl.stRB ?_)
   | (show WPl _ _ _ _ _ _ _ (⟨_, .indexAddr _ _ _, _, _, _, _⟩ :: _) _; refine WPl.rdX (ReadR.indexE rfl rfl hasA (by first | assumption | omega)) ?_)
   | (show WPl _ _ _ _ _ _ _ (⟨_, .fieldAddr _ _ _, _, _, _, _⟩ :: _) _; refine WPl.rdX (ReadR.fieldE rfl hasA (by first | assumption | omega)) ?_)
   | (show WPl _ _ _ _ _ _ _ (⟨_, .load _ _, _, _, _, _⟩ :: _) _; first | refine WPl.rdX (ReadR.loadE rfl hasA (by assumption)) ?_ | refine WPl.rdX (ReadR.loadES (by assumption) (by first | assumption | omega) rfl hasA) ?_)
   | (show WPl _ _ _ _ _ _ _ (⟨_, .slice _ _ _ _ _, _, _, _, _⟩ :: _) _; first | refine WPl.rdX (ReadR.sliceH rfl rfl hasA (by omega)) ?_ | refine WPl.rdX (ReadR.sliceL rfl rfl hasA (by omega)) ?_ | refine WPl.rdX (ReadR.sliceLH rfl rfl rfl hasA (by omega) (by omega)) ?_)
   | (refine WPl.spQ (fun hc => ?_) (fun hc => ?_) <;> try exact prA)
   | fail)
  · skip
    first | refine WPc.loop (σ := Nat × List (Int × Vs) × Int) (fun st => st.1 ≤ 30 ∧ DOk 20 st.1 st.2.1 st.2.2) (fun st => [rdN v1 l.length (das l), rdN v2 more.length (das more), rdN v3 lost0.length (intsV lost0), bx gV 79 (dvc f4 vd mD st.2.2), rowN 81 256 vd 20 (secs ls20), mp secM mD st.2.1, bag st.2.1]) (fun st => [(0, v1), (1, v2), (2, v3), (7, hD gV), (9, .int .i64 (st.1 : Int))]) (fun st => 30 - st.1) ((0, [], 0)) ?_ takesA frsA (fun st km hx hk => ?_)
    · exact ⟨Nat.zero_le _, .nil (by dsimp only; omega) (by dsimp only; omega)⟩
    obtain ⟨i, es, cn⟩ := st
    obtain ⟨hi, hd⟩ := hx
    dsimp only at hi hd hk ⊢
    have hkm : km = 30 - i := hk
    clear hk
    by_cases hin : i < l.length ∧ i < 30
    · obtain ⟨hil, hi30⟩ := hin
      obtain ⟨x, hx⟩ : ∃ x, l[i]? = some x := ⟨_, List.getElem?_eq_getElem hil⟩
      obtain ⟨f1, f2⟩ := das_s hx
      have hil' : (i : Int) < (l.length : Int) := by omega
      have hi30' : (i : Int) < 30 := by omega
      have c52 := fun bv => wr20_t gV mD vd cn ls20 es i x.s x.b bv (by omega) ls20_len hd
      have hv52 : ∀ v Γ', RW20 gV mD vd ls20 es cn x.s x.b v Γ' → v = .int .i64 (if wok 20 x.s then 0 else 1) ∧ ∃ s, Γ' = GW gV mD vd ls20 s ∧ WStep 20 es cn x.s x.b s.1 s.2 := fun _ _ h => h
      repeat' (first
       | refine WPl.nil ?_ | refine WPq.then ?_ | refine WPq.thenR ?_ | refine WPq.thenE ?_ | refine WPq.blockN ?_ | refine WPq.blockR ?_ | refine WPq.blockE ?_ | refine WPq.blockO rfl ?_ | refine WPc.seq ?_ | refine WPc.block ?_ | refine WPc.ret ?_ | refine WPc.exit ?_ | refine WPc.skip ?_ | refine WPc.region ?_
       | (refine isReg 7 ?_; refine WPc.drA [([13, 14, 15, 16], [41, 42, 43, 44, 45, 46, 47, 48, 49, 50, 51]), ([13, 14, 15, 16], [40, 42, 46, 47, 48, 49, 50, 51]), ([13, 14, 15, 16], [40, 41, 46, 47, 48, 49, 50, 51]), ([1, 2, 13, 14, 15, 16], [40, 41, 42, 46, 47, 48, 49, 50, 51]), ([1, 2, 3, 13, 14, 15, 16], [40, 41, 42, 43, 46, 47, 48, 49, 50, 51]), ([1, 2, 3, 4, 13, 14, 15, 16], [40, 41, 42, 43, 44, 46, 47, 48, 49, 50, 51]), ([13, 14, 15, 16], [40, 41, 42, 43, 44, 45, 47]), ([13, 14, 15, 16], [40, 41, 42, 43, 44, 45, 46]), ([6, 7, 13, 14, 15, 16], [40, 41, 42, 43, 44, 45, 46, 47]), ([6, 7, 8, 13, 14, 15, 16], [40, 41, 42, 43, 44, 45, 46, 47, 48]), ([6, 7, 8, 9, 13, 14, 15, 16], [40, 41, 42, 43, 44, 45, 46, 47, 48, 49]), ([6, 7, 8, 9, 10, 13, 14, 15, 16], [40, 41, 42, 43, 44, 45, 46, 47, 48, 49, 50]), ([0, 1, 2, 3, 4, 5, 6, 7, 8, 9, 10, 11, 13, 14, 15, 16], [40, 41, 42, 43, 44, 45, 46, 47, 48, 49, 50, 51])] [(13, 12), (14, 12), (15, 12), (16, 12), (11, 12), (13, 0), (13, 1), (13, 2), (13, 3), (13, 4), (13, 5), (13, 6), (13, 7), (13, 8), (13, 9), (13, 10), (13, 11), (14, 0), (14, 1), (14, 2), (14, 3), (14, 4), (14, 5), (14, 6), (14, 7), (14, 8), (14, 9), (14, 10), (14, 11), (15, 0), (15, 1), (15, 2), (15, 3), (15, 4), (15, 5), (15, 6), (15, 7), (15, 8), (15, 9), (15, 10), (15, 11), (16, 0), (16, 1), (16, 2), (16, 3), (16, 4), (16, 5), (16, 6), (16, 7), (16, 8), (16, 9), (16, 10), (16, 11)] (Γx := [bx gV 79 (dvc f4 vd mD cn), rowN 81 256 vd 20 (secs ls20), mp secM mD es, bag es]) (hox := ownsV) ?_; dsimp only [prev0, List.length_nil, List.length_cons])
       | (refine gAny ?_; first | (refine gC 51 ?_; refine RGl.row (Γ1 := fun _ => []) (fun e hk => OpT.callN (full_t x.b)) ?_) | (refine gC 52 ?_; refine RGl.relG (.int .i64 (if wok 20 x.s then 0 else 1)) (GW gV mD vd ls20) (fun s => WStep 20 es cn x.s x.b s.1 s.2) (hv52) (fun e hk => by (try dsimp only [bndR, ensR, oksR, fcutR, List.append_nil, List.nil_append, List.cons_append, List.append_assoc] at hk ⊢); exact OpT.callTs (c52 (e 11).1)) ?_) | (refine gD 33 ?_; refine RGl.rdX (fun e hk => by (try dsimp only [bndR, ensR, oksR, fcutR, List.append_nil, List.nil_append, List.cons_append, List.append_assoc] at hk ⊢); exact ReadR.binE rfl rfl BinR.lss (congrArg Value.bool (decide_eq_true hil'))) ?_) | (refine gD 36 ?_; refine RGl.rdX (fun e hk => by (try dsimp only [bndR, ensR, oksR, fcutR, List.append_nil, List.nil_append, List.cons_append, List.append_assoc] at hk ⊢); exact ReadR.binE rfl rfl BinR.lss (congrArg Value.bool (decide_eq_true hi30'))) ?_) | (refine gD 43 ?_; refine RGl.rdX (fun e hk => by (try dsimp only [bndR, ensR, oksR, fcutR, List.append_nil, List.nil_append, List.cons_append, List.append_assoc] at hk ⊢); exact ReadR.indexE (i := i) rfl rfl hasA hil) ?_) | (refine gD 44 ?_; refine RGl.rdX (fun e hk => by (try dsimp only [bndR, ensR, oksR, fcutR, List.append_nil, List.nil_append, List.cons_append, List.append_assoc] at hk ⊢); exact ReadR.fieldE rfl hasA (by omega)) ?_) | (refine gD 45 ?_; refine RGl.rdX (fun e hk => by (try dsimp only [bndR, ensR, oksR, fcutR, List.append_nil, List.nil_append, List.cons_append, List.append_assoc] at hk ⊢); exact ReadR.loadE rfl hasA f1) ?_) | (refine gD 48 ?_; refine RGl.rdX (fun e hk => by (try dsimp only [bndR, ensR, oksR, fcutR, List.append_nil, List.nil_append, List.cons_append, List.append_assoc] at hk ⊢); exact ReadR.indexE (i := i) rfl rfl hasA hil) ?_) | (refine gD 49 ?_; refine RGl.rdX (fun e hk => by (try dsimp only [bndR, ensR, oksR, fcutR, List.append_nil, List.nil_append, List.cons_append, List.append_assoc] at hk ⊢); exact ReadR.fieldE rfl hasA (by omega)) ?_) | (refine gD 50 ?_; refine RGl.rdX (fun e hk => by (try dsimp only [bndR, ensR, oksR, fcutR, List.append_nil, List.nil_append, List.cons_append, List.append_assoc] at hk ⊢); exact ReadR.loadE rfl hasA f2) ?_) | (refine gOp ?_; first | refine RGl.rdA ?_ | refine RGl.rdX (fun e hk => by (try dsimp only [bndR, ensR, oksR, fcutR, List.append_nil, List.nil_append, List.cons_append, List.append_assoc] at hk ⊢); exact readB) ?_) | (refine RGl.fin (fun e hk => ?_); (try dsimp only [bndA, ensAR, oksA, List.append_nil, List.nil_append, List.cons_append, List.append_assoc] at hk ⊢); (repeat (obtain ⟨hk1, hk⟩ := hk))) | fail)
       | (refine isCond ?_; first | refine WPc.cT ?_ | refine WPc.cF ?_ | (refine WPc.cQ (fun hc => ?_) (fun hc => ?_) <;> try first | exact prA | (exfalso; first | omega)))
       | (refine isD 33 ?_; refine WPl.rdX (ReadR.binE rfl rfl BinR.lss (congrArg Value.bool (decide_eq_true hil'))) ?_)
       | (refine isD 36 ?_; refine WPl.rdX (ReadR.binE rfl rfl BinR.lss (congrArg Value.bool (decide_eq_true hi30'))) ?_)
       | (refine isC 51 ?_; refine WPl.cR (full_t x.b) fun v hv => ?_)
       | (refine isOp ?_; first | refine WPl.rd ?_ | refine WPl.sk ?_ | refine WPl.rdB ?_)
       | (refine isAl ?_; refine WPl.nw fun g => ?_)
       | (refine isSt ?_; first | refine WPl.st1 ?_ | refine WPl.stA ?_ | refine WPl.stEB ?_ | refine WPl.stRB ?_)
       | (show WPl _ _ _ _ _ _ _ (⟨_, .indexAddr _ _ _, _, _, _, _⟩ :: _) _; refine WPl.rdX (ReadR.indexE rfl rfl hasA (by first | assumption | omega)) ?_)
       | (show WPl _ _ _ _ _ _ _ (⟨_, .fieldAddr _ _ _, _, _, _, _⟩ :: _) _; refine WPl.rdX (ReadR.fieldE rfl hasA (by first | assumption | omega)) ?_)
       | (show WPl _ _ _ _ _ _ _ (⟨_, .load _ _, _, _, _, _⟩ :: _) _; first | refine WPl.rdX (ReadR.loadE rfl hasA (by assumption)) ?_ | refine WPl.rdX (ReadR.loadES (by assumption) (by first | assumption | omega) rfl hasA) ?_)
       | (show WPl _ _ _ _ _ _ _ (⟨_, .slice _ _ _ _ _, _, _, _, _⟩ :: _) _; first | refine WPl.rdX (ReadR.sliceH rfl rfl hasA (by omega)) ?_ | refine WPl.rdX (ReadR.sliceL rfl rfl hasA (by omega)) ?_ | refine WPl.rdX (ReadR.sliceLH rfl rfl rfl hasA (by omega) (by omega)) ?_)
       | (refine WPl.spQ (fun hc => ?_) (fun hc => ?_) <;> try first | exact prA | (exfalso; first | omega))
       | fail)
      have hA : WStep 20 es cn x.s x.b (SW gV mD vd ls20 es cn x.s x.b e).1 (SW gV mD vd ls20 es cn x.s x.b e).2 := by assumption
      exact WPq.rnd (i + 1, (SW gV mD vd ls20 es cn x.s x.b e).1, (SW gV mD vd ls20 es cn x.s x.b e).2) ⟨hi30, hd.step hA⟩ (by dsimp only; omega)
    · by_cases hil : i < l.length
      · have hil' : (i : Int) < (l.length : Int) := by omega
        have hi30' : ¬ (i : Int) < 30 := by omega
        repeat' (first
         | refine WPl.nil ?_ | refine WPq.then ?_ | refine WPq.thenR ?_ | refine WPq.thenE ?_ | refine WPq.blockN ?_ | refine WPq.blockR ?_ | refine WPq.blockE ?_ | refine WPq.blockO rfl ?_ | refine WPc.seq ?_ | refine WPc.block ?_ | refine WPc.ret ?_ | refine WPc.exit ?_ | refine WPc.skip ?_ | refine WPc.region ?_
         | (refine isCond ?_; first | refine WPc.cT ?_ | refine WPc.cF ?_ | (refine WPc.cQ (fun hc => ?_) (fun hc => ?_) <;> try exact prA))
         | (refine isD 33 ?_; refine WPl.rdX (ReadR.binE rfl rfl BinR.lss (congrArg Value.bool (decide_eq_true hil'))) ?_)
         | (refine isD 36 ?_; refine WPl.rdX (ReadR.binE rfl rfl BinR.lss (congrArg Value.bool (decide_eq_false hi30'))) ?_)
         | (refine isOp ?_; first | refine WPl.rd ?_ | refine WPl.sk ?_ | refine WPl.rdB ?_)
         | (refine isAl ?_; refine WPl.nw fun g => ?_)
         | (refine isSt ?_; first | refine WPl.st1 ?_ | refine WPl.stA ?_ | refine WPl.stEB ?_ | refine WPl.stRB ?_)
         | (show WPl _ _ _ _ _ _ _ (⟨_, .indexAddr _ _ _, _, _, _, _⟩ :: _) _; refine WPl.rdX (ReadR.indexE rfl rfl hasA (by first | assumption | omega)) ?_)
         | (show WPl _ _ _ _ _ _ _ (⟨_, .fieldAddr _ _ _, _, _, _, _⟩ :: _) _; refine WPl.rdX (ReadR.fieldE rfl hasA (by first | assumption | omega)) ?_)
         | (show WPl _ _ _ _ _ _ _ (⟨_, .load _ _, _, _, _, _⟩ :: _) _; first | refine WPl.rdX (ReadR.loadE rfl hasA (by assumption)) ?_ | refine WPl.rdX (ReadR.loadES (by assumption) (by first | assumption | omega) rfl hasA) ?_)
         | (show WPl _ _ _ _ _ _ _ (⟨_, .slice _ _ _ _ _, _, _, _, _⟩ :: _) _; first | refine WPl.rdX (ReadR.sliceH rfl rfl hasA (by omega)) ?_ | refine WPl.rdX (ReadR.sliceL rfl rfl hasA (by omega)) ?_ | refine WPl.rdX (ReadR.sliceLH rfl rfl rfl hasA (by omega) (by omega)) ?_)
         | (refine WPl.spQ (fun hc => ?_) (fun hc => ?_) <;> try exact prA)
         | fail)
        exact WPq.join (es, cn) ⟨i, hi, hd⟩
      · have hil' : ¬ (i : Int) < (l.length : Int) := by omega
        repeat' (first
         | refine WPl.nil ?_ | refine WPq.then ?_ | refine WPq.thenR ?_ | refine WPq.thenE ?_ | refine WPq.blockN ?_ | refine WPq.blockR ?_ | refine WPq.blockE ?_ | refine WPq.blockO rfl ?_ | refine WPc.seq ?_ | refine WPc.block ?_ | refine WPc.ret ?_ | refine WPc.exit ?_ | refine WPc.skip ?_ | refine WPc.region ?_
         | (refine isCond ?_; first | refine WPc.cT ?_ | refine WPc.cF ?_ | (refine WPc.cQ (fun hc => ?_) (fun hc => ?_) <;> try exact prA))
         | (refine isD 33 ?_; refine WPl.rdX (ReadR.binE rfl rfl BinR.lss (congrArg Value.bool (decide_eq_false hil'))) ?_)
         | (refine isOp ?_; first | refine WPl.rd ?_ | refine WPl.sk ?_ | refine WPl.rdB ?_)
         | (refine isAl ?_; refine WPl.nw fun g => ?_)
         | (refine isSt ?_; first | refine WPl.st1 ?_ | refine WPl.stA ?_ | refine WPl.stEB ?_ | refine WPl.stRB ?_)
         | (show WPl _ _ _ _ _ _ _ (⟨_, .indexAddr _ _ _, _, _, _, _⟩ :: _) _; refine WPl.rdX (ReadR.indexE rfl rfl hasA (by first | assumption | omega)) ?_)
         | (show WPl _ _ _ _ _ _ _ (⟨_, .fieldAddr _ _ _, _, _, _, _⟩ :: _) _; refine WPl.rdX (ReadR.fieldE rfl hasA (by first | assumption | omega)) ?_)
         | (show WPl _ _ _ _ _ _ _ (⟨_, .load _ _, _, _, _, _⟩ :: _) _; first | refine WPl.rdX (ReadR.loadE rfl hasA (by assumption)) ?_ | refine WPl.rdX (ReadR.loadES (by assumption) (by first | assumption | omega) rfl hasA) ?_)
         | (show WPl _ _ _ _ _ _ _ (⟨_, .slice _ _ _ _ _, _, _, _, _⟩ :: _) _; first | refine WPl.rdX (ReadR.sliceH rfl rfl hasA (by omega)) ?_ | refine WPl.rdX (ReadR.sliceL rfl rfl hasA (by omega)) ?_ | refine WPl.rdX (ReadR.sliceLH rfl rfl rfl hasA (by omega) (by omega)) ?_)
         | (refine WPl.spQ (fun hc => ?_) (fun hc => ?_) <;> try exact prA)
         | fail)
        exact WPq.join (es, cn) ⟨i, hi, hd⟩
  obtain ⟨es0, cn0⟩ := st
  obtain ⟨k0, hk0, hd0⟩ := hx
  dsimp only at hd0 ⊢
  have c54 := fl4_t gV mD vd cn0 ls20 es0 k0 (by omega) (by rw [ls20_len]; omega) (by rw [ls20_len]; exact hd0)
  obtain ⟨ls, hls⟩ : ∃ ls, ls = nowAll ls20 es0 := ⟨_, rfl⟩
  have hlen : ls.length = 20 := by rw [hls, nowAll_len, ls20_len]
  rw [← hls, ls20_len] at c54
  clear hls
  have hc0 := hd0.c0
  have hc1 := hd0.c1
  clear hd0
  have hfb : FOk [(20, List.replicate 20 (Value.bool false))] := FOk.seg (by simp) (fun v h => by rw [List.eq_of_mem_replicate h]; rfl) .nil
  repeat' (first
   | refine WPl.nil ?_ | refine WPq.then ?_ | refine WPq.thenR ?_ | refine WPq.thenE ?_ | refine WPq.blockN ?_ | refine WPq.blockR ?_ | refine WPq.blockE ?_ | refine WPq.blockO rfl ?_ | refine WPc.seq ?_ | refine WPc.block ?_ | refine WPc.ret ?_ | refine WPc.exit ?_ | refine WPc.skip ?_ | refine WPc.region ?_
   | (refine isCond ?_; first | refine WPc.cT ?_ | refine WPc.cF ?_ | (refine WPc.cQ (fun hc => ?_) (fun hc => ?_) <;> try exact prA))
   | (refine isC 54 ?_; refine WPl.cTs (c54) ?_; (try dsimp only [putF, List.cons_append, List.nil_append]))
   | (refine isD 10 ?_; first | (refine isAl ?_; refine WPl.nw fun g10 => ?_) | (refine isBx ?_; refine WPl.nw fun g10 => ?_))
   | (refine isD 11 ?_; first | (refine isAl ?_; refine WPl.nw fun g11 => ?_) | (refine isBx ?_; refine WPl.nw fun g11 => ?_))
   | (show WPl _ _ _ _ _ _ _ (⟨_, .store _ (.tmp 11) _, _, _, _, _⟩ :: _) _; refine WPl.stA (new := [(20, List.replicate 20 (Value.bool false))]) ?_ (hn := hfb))
   | (refine isOp ?_; first | refine WPl.rd ?_ | refine WPl.sk ?_ | refine WPl.rdB ?_)
   | (refine isAl ?_; refine WPl.nw fun g => ?_)
   | (refine isSt ?_; first | refine WPl.st1 ?_ | refine WPl.stA ?_ | refine WPl.stEB ?_ | refine WPl.stRB ?_)
   | (show WPl _ _ _ _ _ _ _ (⟨_, .indexAddr _ _ _, _, _, _, _⟩ :: _) _; refine WPl.rdX (ReadR.indexE rfl rfl hasA (by first | assumption | omega)) ?_)
   | (show WPl _ _ _ _ _ _ _ (⟨_, .fieldAddr _ _ _, _, _, _, _⟩ :: _) _; refine WPl.rdX (ReadR.fieldE rfl hasA (by first | assumption | omega)) ?_)
   | (show WPl _ _ _ _ _ _ _ (⟨_, .load _ _, _, _, _, _⟩ :: _) _; first | refine WPl.rdX (ReadR.loadE rfl hasA (by assumption)) ?_ | refine WPl.rdX (ReadR.loadES (by assumption) (by first | assumption | omega) rfl hasA) ?_)
   | (show WPl _ _ _ _ _ _ _ (⟨_, .slice _ _ _ _ _, _, _, _, _⟩ :: _) _; first | refine WPl.rdX (ReadR.sliceH rfl rfl hasA (by omega)) ?_ | refine WPl.rdX (ReadR.sliceL rfl rfl hasA (by omega)) ?_ | refine WPl.rdX (ReadR.sliceLH rfl rfl rfl hasA (by omega) (by omega)) ?_)
   | (refine WPl.spQ (fun hc => ?_) (fun hc => ?_) <;> try exact prA)
   | fail)
  rw [show List.replicate 20 (0 : UInt8) = wasI ls 0 by with_unfolding_all rfl]
  first | refine WPc.loop (σ := Nat) (fun st => st ≤ 20) (fun st => [rdN v1 l.length (das l), rdN v2 more.length (das more), rdN v3 lost0.length (intsV lost0), bx g10 34 [(20, u8s (wasI ls st))], bx g11 35 [(20, List.replicate 20 (Value.bool false))], bx gV 79 (dvc f4 vd mD cn0), rowN 81 256 vd 20 (secs ls), mp secM mD [], bag []]) (fun st => [(0, v1), (1, v2), (2, v3), (7, hD gV), (10, .pointer (some ⟨g10, 0, none⟩)), (11, .pointer (some ⟨g11, 0, none⟩)), (12, .int .i64 (st : Int))]) (fun st => 20 - st) (0) ?_ takesA frsA (fun st km hx hk => ?_)
  · omega
  have hi20 : st ≤ 20 := hx
  have hkm : km = 20 - st := hk
  clear hk hx
  by_cases hlt : st < 20
  · obtain ⟨s, hs⟩ : ∃ s, ls[st]? = some s := ⟨_, List.getElem?_eq_getElem (by omega)⟩
    have hsb := s.len
    have hs0 := sec_at0 s
    have hset := wasI_set hs hlt
    have hwl := wasI_len (ls := ls) (i := st) hlen (by omega)
    have c65 := rd4_t gV mD vd cn0 ls [] 30 st (by omega) (by omega) (.nil hc0 (by omega)) (by omega)
    unfold RRead at c65
    rw [nowS_none (by with_unfolding_all rfl), show ls[st] = s from (List.getElem?_eq_some_iff.1 hs).2, hlen] at c65
    repeat' (first
     | refine WPl.nil ?_ | refine WPq.then ?_ | refine WPq.thenR ?_ | refine WPq.thenE ?_ | refine WPq.blockN ?_ | refine WPq.blockR ?_ | refine WPq.blockE ?_ | refine WPq.blockO rfl ?_ | refine WPc.seq ?_ | refine WPc.block ?_ | refine WPc.ret ?_ | refine WPc.exit ?_ | refine WPc.skip ?_ | refine WPc.region ?_
     | (refine isCond ?_; first | refine WPc.cT ?_ | refine WPc.cF ?_ | (refine WPc.cQ (fun hc => ?_) (fun hc => ?_) <;> try first | exact prA | (exfalso; first | omega)))
     | (refine isC 65 ?_; refine WPl.cXs (c65) fun v Γ1 hR => ?_; obtain ⟨sv, rfl, hsv, rfl⟩ := hR; (try dsimp only [putF, List.cons_append, List.nil_append]))
     | (refine isD 70 ?_; refine WPl.rdX (ReadR.binE rfl rfl BinR.neq (congrArg Value.bool (show (!decide _) = false by rw [decide_eq_true (by omega)]; rfl))) ?_)
     | (refine isD 73 ?_; refine WPl.rdX (ReadR.indexE1 (i := 0) rfl rfl hasA (by omega)) ?_)
     | (refine isD 74 ?_; refine WPl.rdX (ReadR.loadE rfl hasA hs0) ?_)
     | (show WPl _ _ _ _ _ _ _ (⟨_, .store _ (.tmp 75) _, _, _, _, _⟩ :: _) _; first | refine WPl.stEB (b := (w0 s)) ?_ | refine WPl.stRB (b := (w0 s)) ?_)
     | (refine isOp ?_; first | refine WPl.rd ?_ | refine WPl.sk ?_ | refine WPl.rdB ?_)
     | (refine isAl ?_; refine WPl.nw fun g => ?_)
     | (refine isSt ?_; first | refine WPl.st1 ?_ | refine WPl.stA ?_ | refine WPl.stEB ?_ | refine WPl.stRB ?_)
     | (show WPl _ _ _ _ _ _ _ (⟨_, .indexAddr _ _ _, _, _, _, _⟩ :: _) _; refine WPl.rdX (ReadR.indexE rfl rfl hasA (by first | assumption | omega)) ?_)
     | (show WPl _ _ _ _ _ _ _ (⟨_, .fieldAddr _ _ _, _, _, _, _⟩ :: _) _; refine WPl.rdX (ReadR.fieldE rfl hasA (by first | assumption | omega)) ?_)
     | (show WPl _ _ _ _ _ _ _ (⟨_, .load _ _, _, _, _, _⟩ :: _) _; first | refine WPl.rdX (ReadR.loadE rfl hasA (by assumption)) ?_ | refine WPl.rdX (ReadR.loadES (by assumption) (by first | assumption | omega) rfl hasA) ?_)
     | (show WPl _ _ _ _ _ _ _ (⟨_, .slice _ _ _ _ _, _, _, _, _⟩ :: _) _; first | refine WPl.rdX (ReadR.sliceH rfl rfl hasA (by omega)) ?_ | refine WPl.rdX (ReadR.sliceL rfl rfl hasA (by omega)) ?_ | refine WPl.rdX (ReadR.sliceLH rfl rfl rfl hasA (by omega) (by omega)) ?_)
     | (refine WPl.spQ (fun hc => ?_) (fun hc => ?_) <;> try first | exact prA | (exfalso; first | omega))
     | fail)
    rw [hset]
    exact WPq.rnd (st + 1) (by omega) (by omega)
  have hst : st = 20 := by omega
  subst hst
  rw [show List.replicate 20 (Value.bool false) = (List.replicate 20 false).map Value.bool by with_unfolding_all rfl]
  repeat' (first
   | (refine isSeqR 18 ?_; refine WPc.join (σ := List (Int × Vs) × Int × List Bool) (fun st => DirtyI st.1 st.2.2 ∧ ∃ k, k ≤ 60 ∧ DOk 20 k st.1 st.2.1) (fun st => [rdN v1 l.length (das l), rdN v2 more.length (das more), rdN v3 lost0.length (intsV lost0), bx g10 34 [(20, u8s (wasI ls 20))], bx g11 35 [(20, st.2.2.map Value.bool)], bx gV 79 (dvc f4 vd mD st.2.1), rowN 81 256 vd 20 (secs ls), mp secM mD st.1, bag st.1]) (fun st => [(0, v1), (1, v2), (2, v3), (7, hD gV), (10, .pointer (some ⟨g10, 0, none⟩)), (11, .pointer (some ⟨g11, 0, none⟩))]) ?_ (fun st hx => ?_))
   | (refine isSeqR 24 ?_; refine WPc.join (σ := Value × List Int) (fun p => p.2.length ≤ 40 ∧ ∀ y ∈ p.2, in64 y) (fun p => [rdN p.1 p.2.length (intsV p.2), bx g10 34 [(20, u8s (wasI ls 20))], bx g11 35 [(20, st.2.2.map Value.bool)], bx gV 79 (dvc f4 vd mD st.2.1), rowN 81 256 vd 20 (secs ls), mp secM mD st.1, bag st.1]) (fun p => [(2, p.1), (7, hD gV), (10, .pointer (some ⟨g10, 0, none⟩)), (11, .pointer (some ⟨g11, 0, none⟩))]) ?_ (fun st hx => ?_))
   | refine WPl.nil ?_ | refine WPq.then ?_ | refine WPq.thenR ?_ | refine WPq.thenE ?_ | refine WPq.blockN ?_ | refine WPq.blockR ?_ | refine WPq.blockE ?_ | refine WPq.blockO rfl ?_ | refine WPc.seq ?_ | refine WPc.block ?_ | refine WPc.ret ?_ | refine WPc.exit ?_ | refine WPc.skip ?_ | refine WPc.region ?_
   | (refine isCond ?_; first | refine WPc.cT ?_ | refine WPc.cF ?_ | (refine WPc.cQ (fun hc => ?_) (fun hc => ?_) <;> try first | exact prA | (exfalso; first | omega)))
   | (refine isOp ?_; first | refine WPl.rd ?_ | refine WPl.sk ?_ | refine WPl.rdB ?_)
   | (refine isAl ?_; refine WPl.nw fun g => ?_)
   | (refine isSt ?_; first | refine WPl.st1 ?_ | refine WPl.stA ?_ | refine WPl.stEB ?_ | refine WPl.stRB ?_)
   | (show WPl _ _ _ _ _ _ _ (⟨_, .indexAddr _ _ _, _, _, _, _⟩ :: _) _; refine WPl.rdX (ReadR.indexE rfl rfl hasA (by first | assumption | omega)) ?_)
   | (show WPl _ _ _ _ _ _ _ (⟨_, .fieldAddr _ _ _, _, _, _, _⟩ :: _) _; refine WPl.rdX (ReadR.fieldE rfl hasA (by first | assumption | omega)) ?_)
   | (show WPl _ _ _ _ _ _ _ (⟨_, .load _ _, _, _, _, _⟩ :: _) _; first | refine WPl.rdX (ReadR.loadE rfl hasA (by assumption)) ?_ | refine WPl.rdX (ReadR.loadES (by assumption) (by first | assumption | omega) rfl hasA) ?_)
   | (show WPl _ _ _ _ _ _ _ (⟨_, .slice _ _ _ _ _, _, _, _, _⟩ :: _) _; first | refine WPl.rdX (ReadR.sliceH rfl rfl hasA (by omega)) ?_ | refine WPl.rdX (ReadR.sliceL rfl rfl hasA (by omega)) ?_ | refine WPl.rdX (ReadR.sliceLH rfl rfl rfl hasA (by omega) (by omega)) ?_)
   | (refine WPl.spQ (fun hc => ?_) (fun hc => ?_) <;> try first | exact prA | (exfalso; first | omega))
   | fail)
  · skip
    first | refine WPc.loop (σ := Nat × List (Int × Vs) × Int × List Bool) (fun st => st.1 ≤ 30 ∧ DOk 20 (30 + st.1) st.2.1 st.2.2.1 ∧ DirtyI st.2.1 st.2.2.2) (fun st => [rdN v1 l.length (das l), rdN v2 more.length (das more), rdN v3 lost0.length (intsV lost0), bx g10 34 [(20, u8s (wasI ls 20))], bx g11 35 [(20, st.2.2.2.map Value.bool)], bx gV 79 (dvc f4 vd mD st.2.2.1), rowN 81 256 vd 20 (secs ls), mp secM mD st.2.1, bag st.2.1]) (fun st => [(0, v1), (1, v2), (2, v3), (7, hD gV), (10, .pointer (some ⟨g10, 0, none⟩)), (11, .pointer (some ⟨g11, 0, none⟩)), (15, .int .i64 (st.1 : Int))]) (fun st => 30 - st.1) ((0, [], cn0, List.replicate 20 false)) ?_ takesA frsA (fun st km hx hk => ?_)
    · exact ⟨Nat.zero_le _, .nil hc0 (by dsimp only; omega), .nil⟩
    obtain ⟨i, es, cn, dl⟩ := st
    obtain ⟨hi, hd, hdi⟩ := hx
    dsimp only at hi hd hdi hk ⊢
    have hkm : km = 30 - i := hk
    clear hk
    by_cases hin : i < more.length ∧ i < 30
    · obtain ⟨hil, hi30⟩ := hin
      obtain ⟨x, hx⟩ : ∃ x, more[i]? = some x := ⟨_, List.getElem?_eq_getElem hil⟩
      obtain ⟨f1, f2⟩ := das_s hx
      have hil' : (i : Int) < (more.length : Int) := by omega
      have hi30' : (i : Int) < 30 := by omega
      have c99 := fun bv => wr20_t gV mD vd cn ls es (30 + i) x.s x.b bv (by omega) hlen hd
      by_cases hw : wok 20 x.s = true
      · have hw2 := hw
        unfold wok at hw2
        rw [Bool.and_eq_true, decide_eq_true_eq, decide_eq_true_eq] at hw2
        obtain ⟨j, hj⟩ : ∃ j : Nat, x.s = (j : Int) := ⟨x.s.toNat, by omega⟩
        unfold RW20 at c99
        rw [hw, if_pos rfl] at c99
        rw [hj] at c99 f1 hw2 hw
        have hjl : j < (dl.map Value.bool).length := by rw [List.length_map, hdi.1]; omega
        repeat' (first
         | refine WPl.nil ?_ | refine WPq.then ?_ | refine WPq.thenR ?_ | refine WPq.thenE ?_ | refine WPq.blockN ?_ | refine WPq.blockR ?_ | refine WPq.blockE ?_ | refine WPq.blockO rfl ?_ | refine WPc.seq ?_ | refine WPc.block ?_ | refine WPc.ret ?_ | refine WPc.exit ?_ | refine WPc.skip ?_ | refine WPc.region ?_
         | (refine isCond ?_; first | refine WPc.cT ?_ | refine WPc.cF ?_ | (refine WPc.cQ (fun hc => ?_) (fun hc => ?_) <;> try first | exact prA | (exfalso; first | omega)))
         | (refine isD 79 ?_; refine WPl.rdX (ReadR.binE rfl rfl BinR.lss (congrArg Value.bool (decide_eq_true hil'))) ?_)
         | (refine isD 82 ?_; refine WPl.rdX (ReadR.binE rfl rfl BinR.lss (congrArg Value.bool (decide_eq_true hi30'))) ?_)
         | (refine isD 88 ?_; refine WPl.rdX (ReadR.indexE (i := i) rfl rfl hasA hil) ?_)
         | (refine isD 89 ?_; refine WPl.rdX (ReadR.fieldE rfl hasA (by omega)) ?_)
         | (refine isD 90 ?_; refine WPl.rdX (ReadR.loadE rfl hasA f1) ?_)
         | (refine isD 95 ?_; refine WPl.rdX (ReadR.indexE (i := i) rfl rfl hasA hil) ?_)
         | (refine isD 96 ?_; refine WPl.rdX (ReadR.fieldE rfl hasA (by omega)) ?_)
         | (refine isD 97 ?_; refine WPl.rdX (ReadR.loadE rfl hasA f2) ?_)
         | (refine isC 98 ?_; refine WPl.cR (full_t x.b) fun bv hbv => ?_)
         | (refine isC 99 ?_; refine WPl.cXs (c99 bv) fun v Γ1 hR => ?_; (obtain ⟨rfl, s, rfl, hA⟩ := hR; have hd2 := hd.step hA; have hdi2 := hdi.put hw hA); (try dsimp only [putF, List.cons_append, List.nil_append]))
         | (refine isD 100 ?_; refine WPl.rdX (ReadR.binE rfl rfl BinR.eql (congrArg Value.bool (decide_eq_true rfl))) ?_)
         | (refine isD 103 ?_; refine WPl.rdX (ReadR.binE rfl rfl BinR.geq (congrArg Value.bool (decide_eq_true hw2.1))) ?_)
         | (refine isD 107 ?_; refine WPl.rdX (ReadR.binE rfl rfl BinR.lss (congrArg Value.bool (decide_eq_true hw2.2))) ?_)
         | (show WPl _ _ _ _ _ _ _ (⟨none, .store _ _ (.const _), _, _, _, _⟩ :: _) _; refine WPl.turn (.cons takeA .nil) rfl rfl (OpT.storeR (i := j) rfl rfl (.cons takeA .nil) rfl rfl hjl rfl) ?_)
         | (refine isOp ?_; first | refine WPl.rd ?_ | refine WPl.sk ?_ | refine WPl.rdB ?_)
         | (refine isAl ?_; refine WPl.nw fun g => ?_)
         | (refine isSt ?_; first | refine WPl.st1 ?_ | refine WPl.stA ?_ | refine WPl.stEB ?_ | refine WPl.stRB ?_)
         | (show WPl _ _ _ _ _ _ _ (⟨_, .indexAddr _ _ _, _, _, _, _⟩ :: _) _; refine WPl.rdX (ReadR.indexE rfl rfl hasA (by first | assumption | omega)) ?_)
         | (show WPl _ _ _ _ _ _ _ (⟨_, .fieldAddr _ _ _, _, _, _, _⟩ :: _) _; refine WPl.rdX (ReadR.fieldE rfl hasA (by first | assumption | omega)) ?_)
         | (show WPl _ _ _ _ _ _ _ (⟨_, .load _ _, _, _, _, _⟩ :: _) _; first | refine WPl.rdX (ReadR.loadE rfl hasA (by assumption)) ?_ | refine WPl.rdX (ReadR.loadES (by assumption) (by first | assumption | omega) rfl hasA) ?_)
         | (show WPl _ _ _ _ _ _ _ (⟨_, .slice _ _ _ _ _, _, _, _, _⟩ :: _) _; first | refine WPl.rdX (ReadR.sliceH rfl rfl hasA (by omega)) ?_ | refine WPl.rdX (ReadR.sliceL rfl rfl hasA (by omega)) ?_ | refine WPl.rdX (ReadR.sliceLH rfl rfl rfl hasA (by omega) (by omega)) ?_)
         | (refine WPl.spQ (fun hc => ?_) (fun hc => ?_) <;> try first | exact prA | (exfalso; first | omega))
         | fail)
        rw [map_set_true]
        exact WPq.rnd (i + 1, s.1, s.2, dl.set j true) ⟨hi30, hd2, hdi2⟩ (by dsimp only; omega)
      · unfold RW20 at c99
        rw [if_neg hw] at c99
        repeat' (first
         | refine WPl.nil ?_ | refine WPq.then ?_ | refine WPq.thenR ?_ | refine WPq.thenE ?_ | refine WPq.blockN ?_ | refine WPq.blockR ?_ | refine WPq.blockE ?_ | refine WPq.blockO rfl ?_ | refine WPc.seq ?_ | refine WPc.block ?_ | refine WPc.ret ?_ | refine WPc.exit ?_ | refine WPc.skip ?_ | refine WPc.region ?_
         | (refine isCond ?_; first | refine WPc.cT ?_ | refine WPc.cF ?_ | (refine WPc.cQ (fun hc => ?_) (fun hc => ?_) <;> try first | exact prA | (exfalso; first | omega)))
         | (refine isD 79 ?_; refine WPl.rdX (ReadR.binE rfl rfl BinR.lss (congrArg Value.bool (decide_eq_true hil'))) ?_)
         | (refine isD 82 ?_; refine WPl.rdX (ReadR.binE rfl rfl BinR.lss (congrArg Value.bool (decide_eq_true hi30'))) ?_)
         | (refine isD 88 ?_; refine WPl.rdX (ReadR.indexE (i := i) rfl rfl hasA hil) ?_)
         | (refine isD 89 ?_; refine WPl.rdX (ReadR.fieldE rfl hasA (by omega)) ?_)
         | (refine isD 90 ?_; refine WPl.rdX (ReadR.loadE rfl hasA f1) ?_)
         | (refine isD 95 ?_; refine WPl.rdX (ReadR.indexE (i := i) rfl rfl hasA hil) ?_)
         | (refine isD 96 ?_; refine WPl.rdX (ReadR.fieldE rfl hasA (by omega)) ?_)
         | (refine isD 97 ?_; refine WPl.rdX (ReadR.loadE rfl hasA f2) ?_)
         | (refine isC 98 ?_; refine WPl.cR (full_t x.b) fun bv hbv => ?_)
         | (refine isC 99 ?_; refine WPl.cXs (c99 bv) fun v Γ1 hR => ?_; (obtain ⟨rfl, s, rfl, hA⟩ := hR; have hd2 := hd.step hA; have hdi2 := hdi.no hw hA); (try dsimp only [putF, List.cons_append, List.nil_append]))
         | (refine isD 100 ?_; refine WPl.rdX (ReadR.binE rfl rfl BinR.eql (congrArg Value.bool (decide_eq_false (show ¬ (1 : Int) = 0 by omega)))) ?_)
         | (refine isOp ?_; first | refine WPl.rd ?_ | refine WPl.sk ?_ | refine WPl.rdB ?_)
         | (refine isAl ?_; refine WPl.nw fun g => ?_)
         | (refine isSt ?_; first | refine WPl.st1 ?_ | refine WPl.stA ?_ | refine WPl.stEB ?_ | refine WPl.stRB ?_)
         | (show WPl _ _ _ _ _ _ _ (⟨_, .indexAddr _ _ _, _, _, _, _⟩ :: _) _; refine WPl.rdX (ReadR.indexE rfl rfl hasA (by first | assumption | omega)) ?_)
         | (show WPl _ _ _ _ _ _ _ (⟨_, .fieldAddr _ _ _, _, _, _, _⟩ :: _) _; refine WPl.rdX (ReadR.fieldE rfl hasA (by first | assumption | omega)) ?_)
         | (show WPl _ _ _ _ _ _ _ (⟨_, .load _ _, _, _, _, _⟩ :: _) _; first | refine WPl.rdX (ReadR.loadE rfl hasA (by assumption)) ?_ | refine WPl.rdX (ReadR.loadES (by assumption) (by first | assumption | omega) rfl hasA) ?_)
         | (show WPl _ _ _ _ _ _ _ (⟨_, .slice _ _ _ _ _, _, _, _, _⟩ :: _) _; first | refine WPl.rdX (ReadR.sliceH rfl rfl hasA (by omega)) ?_ | refine WPl.rdX (ReadR.sliceL rfl rfl hasA (by omega)) ?_ | refine WPl.rdX (ReadR.sliceLH rfl rfl rfl hasA (by omega) (by omega)) ?_)
         | (refine WPl.spQ (fun hc => ?_) (fun hc => ?_) <;> try first | exact prA | (exfalso; first | omega))
         | fail)
        exact WPq.rnd (i + 1, s.1, s.2, dl) ⟨hi30, hd2, hdi2⟩ (by dsimp only; omega)
    · by_cases hil : i < more.length
      · have hil' : (i : Int) < (more.length : Int) := by omega
        have hi30' : ¬ (i : Int) < 30 := by omega
        repeat' (first
         | refine WPl.nil ?_ | refine WPq.then ?_ | refine WPq.thenR ?_ | refine WPq.thenE ?_ | refine WPq.blockN ?_ | refine WPq.blockR ?_ | refine WPq.blockE ?_ | refine WPq.blockO rfl ?_ | refine WPc.seq ?_ | refine WPc.block ?_ | refine WPc.ret ?_ | refine WPc.exit ?_ | refine WPc.skip ?_ | refine WPc.region ?_
         | (refine isCond ?_; first | refine WPc.cT ?_ | refine WPc.cF ?_ | (refine WPc.cQ (fun hc => ?_) (fun hc => ?_) <;> try exact prA))
         | (refine isD 79 ?_; refine WPl.rdX (ReadR.binE rfl rfl BinR.lss (congrArg Value.bool (decide_eq_true hil'))) ?_)
         | (refine isD 82 ?_; refine WPl.rdX (ReadR.binE rfl rfl BinR.lss (congrArg Value.bool (decide_eq_false hi30'))) ?_)
         | (refine isOp ?_; first | refine WPl.rd ?_ | refine WPl.sk ?_ | refine WPl.rdB ?_)
         | (refine isAl ?_; refine WPl.nw fun g => ?_)
         | (refine isSt ?_; first | refine WPl.st1 ?_ | refine WPl.stA ?_ | refine WPl.stEB ?_ | refine WPl.stRB ?_)
         | (show WPl _ _ _ _ _ _ _ (⟨_, .indexAddr _ _ _, _, _, _, _⟩ :: _) _; refine WPl.rdX (ReadR.indexE rfl rfl hasA (by first | assumption | omega)) ?_)
         | (show WPl _ _ _ _ _ _ _ (⟨_, .fieldAddr _ _ _, _, _, _, _⟩ :: _) _; refine WPl.rdX (ReadR.fieldE rfl hasA (by first | assumption | omega)) ?_)
         | (show WPl _ _ _ _ _ _ _ (⟨_, .load _ _, _, _, _, _⟩ :: _) _; first | refine WPl.rdX (ReadR.loadE rfl hasA (by assumption)) ?_ | refine WPl.rdX (ReadR.loadES (by assumption) (by first | assumption | omega) rfl hasA) ?_)
         | (show WPl _ _ _ _ _ _ _ (⟨_, .slice _ _ _ _ _, _, _, _, _⟩ :: _) _; first | refine WPl.rdX (ReadR.sliceH rfl rfl hasA (by omega)) ?_ | refine WPl.rdX (ReadR.sliceL rfl rfl hasA (by omega)) ?_ | refine WPl.rdX (ReadR.sliceLH rfl rfl rfl hasA (by omega) (by omega)) ?_)
         | (refine WPl.spQ (fun hc => ?_) (fun hc => ?_) <;> try exact prA)
         | fail)
        exact WPq.join (es, cn, dl) ⟨hdi, 30 + i, by omega, hd⟩
      · have hil' : ¬ (i : Int) < (more.length : Int) := by omega
        repeat' (first
         | refine WPl.nil ?_ | refine WPq.then ?_ | refine WPq.thenR ?_ | refine WPq.thenE ?_ | refine WPq.blockN ?_ | refine WPq.blockR ?_ | refine WPq.blockE ?_ | refine WPq.blockO rfl ?_ | refine WPc.seq ?_ | refine WPc.block ?_ | refine WPc.ret ?_ | refine WPc.exit ?_ | refine WPc.skip ?_ | refine WPc.region ?_
         | (refine isCond ?_; first | refine WPc.cT ?_ | refine WPc.cF ?_ | (refine WPc.cQ (fun hc => ?_) (fun hc => ?_) <;> try exact prA))
         | (refine isD 79 ?_; refine WPl.rdX (ReadR.binE rfl rfl BinR.lss (congrArg Value.bool (decide_eq_false hil'))) ?_)
         | (refine isOp ?_; first | refine WPl.rd ?_ | refine WPl.sk ?_ | refine WPl.rdB ?_)
         | (refine isAl ?_; refine WPl.nw fun g => ?_)
         | (refine isSt ?_; first | refine WPl.st1 ?_ | refine WPl.stA ?_ | refine WPl.stEB ?_ | refine WPl.stRB ?_)
         | (show WPl _ _ _ _ _ _ _ (⟨_, .indexAddr _ _ _, _, _, _, _⟩ :: _) _; refine WPl.rdX (ReadR.indexE rfl rfl hasA (by first | assumption | omega)) ?_)
         | (show WPl _ _ _ _ _ _ _ (⟨_, .fieldAddr _ _ _, _, _, _, _⟩ :: _) _; refine WPl.rdX (ReadR.fieldE rfl hasA (by first | assumption | omega)) ?_)
         | (show WPl _ _ _ _ _ _ _ (⟨_, .load _ _, _, _, _, _⟩ :: _) _; first | refine WPl.rdX (ReadR.loadE rfl hasA (by assumption)) ?_ | refine WPl.rdX (ReadR.loadES (by assumption) (by first | assumption | omega) rfl hasA) ?_)
         | (show WPl _ _ _ _ _ _ _ (⟨_, .slice _ _ _ _ _, _, _, _, _⟩ :: _) _; first | refine WPl.rdX (ReadR.sliceH rfl rfl hasA (by omega)) ?_ | refine WPl.rdX (ReadR.sliceL rfl rfl hasA (by omega)) ?_ | refine WPl.rdX (ReadR.sliceLH rfl rfl rfl hasA (by omega) (by omega)) ?_)
         | (refine WPl.spQ (fun hc => ?_) (fun hc => ?_) <;> try exact prA)
         | fail)
        exact WPq.join (es, cn, dl) ⟨hdi, 30 + i, by omega, hd⟩
  · have hc2 : (lost0.length : Int) > 40 := hc
    refine WPq.subRd (v := v3) (m := lost0.length) (sz := 1) (k := 0) (j := 40) (xs := intsV lost0) memA (by rw [intsV_len]; omega) (by omega) ?_
    have e : rdN (subv 1 v3 0 40) 40 (((intsV lost0).drop (0 * 1)).take (40 * 1)) = rdN (subv 1 v3 0 40) (lost0.take 40).length (intsV (lost0.take 40)) := by
      rw [List.length_take, show min 40 lost0.length = 40 by omega, intsV_take]
      rfl
    rw [e]
    exact WPq.join (subv 1 v3 0 40, lost0.take 40) ⟨by dsimp only; rw [List.length_take]; omega, fun y hy => hl3 y (List.mem_of_mem_take hy)⟩
  · exact WPq.join (v3, lost0) ⟨by dsimp only; omega, hl3⟩
  obtain ⟨lv, lost⟩ := st
  obtain ⟨hl40, hli⟩ := hx
  dsimp only at hl40 hli ⊢
  obtain ⟨es, cn, dl⟩ := st
  obtain ⟨hdi, k, hk60, hd⟩ := hx
  dsimp only at hdi hd ⊢
  have hle := hd.len
  have hok := hd.eok (by omega)
  have hcc0 := hd.c0
  have hcc1 := hd.c1
  have c118 := crashR_t gV mD vd cn ls es f4 lv lost (by omega) hli (by omega) (by omega) rfl (by rw [hlen]; exact hok)
  have hkeep : ∀ j : Nat, dl[j]? = some false → (crashT es lost (skeys es) es.length ls)[j]? = ls[j]? := fun j hj => crashT_keep hok (hdi.2 j hj) _ (Nat.le_refl _)
  have hcl : (crashT es lost (skeys es) es.length ls).length = 20 := by rw [crashT_len, hlen]
  obtain ⟨cur, hcur⟩ : ∃ cur, cur = crashT es lost (skeys es) es.length ls := ⟨_, rfl⟩
  rw [← hcur] at hkeep hcl c118
  rw [hlen] at c118
  have hdl := hdi.1
  clear hcur
  repeat' (first
   | refine WPl.nil ?_ | refine WPq.then ?_ | refine WPq.thenR ?_ | refine WPq.thenE ?_ | refine WPq.blockN ?_ | refine WPq.blockR ?_ | refine WPq.blockE ?_ | refine WPq.blockO rfl ?_ | refine WPc.seq ?_ | refine WPc.block ?_ | refine WPc.ret ?_ | refine WPc.exit ?_ | refine WPc.skip ?_ | refine WPc.region ?_
   | (refine isCond ?_; first | refine WPc.cT ?_ | refine WPc.cF ?_ | (refine WPc.cQ (fun hc => ?_) (fun hc => ?_) <;> try exact prA))
   | (refine isC 118 ?_; refine WPl.cO (c118) (fun v Γ1 hR => ?_) ?_; rotate_left; exact fpA; obtain ⟨rfl, rfl⟩ := hR; (try dsimp only [putF, List.cons_append, List.nil_append]))
   | (refine isOp ?_; first | refine WPl.rd ?_ | refine WPl.sk ?_ | refine WPl.rdB ?_)
   | (refine isAl ?_; refine WPl.nw fun g => ?_)
   | (refine isSt ?_; first | refine WPl.st1 ?_ | refine WPl.stA ?_ | refine WPl.stEB ?_ | refine WPl.stRB ?_)
   | (show WPl _ _ _ _ _ _ _ (⟨_, .indexAddr _ _ _, _, _, _, _⟩ :: _) _; refine WPl.rdX (ReadR.indexE rfl rfl hasA (by first | assumption | omega)) ?_)
   | (show WPl _ _ _ _ _ _ _ (⟨_, .fieldAddr _ _ _, _, _, _, _⟩ :: _) _; refine WPl.rdX (ReadR.fieldE rfl hasA (by first | assumption | omega)) ?_)
   | (show WPl _ _ _ _ _ _ _ (⟨_, .load _ _, _, _, _, _⟩ :: _) _; first | refine WPl.rdX (ReadR.loadE rfl hasA (by assumption)) ?_ | refine WPl.rdX (ReadR.loadES (by assumption) (by first | assumption | omega) rfl hasA) ?_)
   | (show WPl _ _ _ _ _ _ _ (⟨_, .slice _ _ _ _ _, _, _, _, _⟩ :: _) _; first | refine WPl.rdX (ReadR.sliceH rfl rfl hasA (by omega)) ?_ | refine WPl.rdX (ReadR.sliceL rfl rfl hasA (by omega)) ?_ | refine WPl.rdX (ReadR.sliceLH rfl rfl rfl hasA (by omega) (by omega)) ?_)
   | (refine WPl.spQ (fun hc => ?_) (fun hc => ?_) <;> try exact prA)
   | fail)
  first | refine WPc.loop (σ := Nat) (fun st => st ≤ 20) (fun st => [bx g10 34 [(20, u8s (wasI ls 20))], bx g11 35 [(20, dl.map Value.bool)], bx gV 79 (dvc f4 vd mD cn), rowN 81 256 vd 20 (secs cur), mp secM mD [], bag []]) (fun st => [(7, hD gV), (10, .pointer (some ⟨g10, 0, none⟩)), (11, .pointer (some ⟨g11, 0, none⟩)), (17, .int .i64 (st : Int))]) (fun st => 20 - st) (0) ?_ takesA frsA (fun st km hx hk => ?_)
  · omega
  have hi20 : st ≤ 20 := hx
  have hkm : km = 20 - st := hk
  clear hk hx
  by_cases hlt : st < 20
  · obtain ⟨s, hs⟩ : ∃ s, cur[st]? = some s := ⟨_, List.getElem?_eq_getElem (by omega)⟩
    have hsb := s.len
    have hs0 := sec_at0 s
    have c126 := rd4_t gV mD vd cn cur [] 60 st (by omega) (by omega) (.nil hcc0 (by omega)) (by omega)
    unfold RRead at c126
    rw [nowS_none (by with_unfolding_all rfl), show cur[st] = s from (List.getElem?_eq_some_iff.1 hs).2, hcl] at c126
    obtain ⟨bq, hbq⟩ : ∃ bq, dl[st]? = some bq := ⟨_, List.getElem?_eq_getElem (by omega)⟩
    have hdv : (dl.map Value.bool)[st]? = some (.bool bq) := by rw [List.getElem?_map, hbq]; rfl
    cases bq with
    | true =>
      repeat' (first
       | refine WPl.nil ?_ | refine WPq.then ?_ | refine WPq.thenR ?_ | refine WPq.thenE ?_ | refine WPq.blockN ?_ | refine WPq.blockR ?_ | refine WPq.blockE ?_ | refine WPq.blockO rfl ?_ | refine WPc.seq ?_ | refine WPc.block ?_ | refine WPc.ret ?_ | refine WPc.exit ?_ | refine WPc.skip ?_ | refine WPc.region ?_
       | (refine isReg 7 ?_; refine WPc.drA [([], [41, 42, 43, 44, 45, 46, 47, 48, 49, 50, 51]), ([], [40, 42, 46, 47, 48, 49, 50, 51]), ([], [40, 41, 46, 47, 48, 49, 50, 51]), ([1, 2], [40, 41, 42, 46, 47, 48, 49, 50, 51]), ([1, 2, 3], [40, 41, 42, 43, 46, 47, 48, 49, 50, 51]), ([1, 2, 3, 4], [40, 41, 42, 43, 44, 46, 47, 48, 49, 50, 51]), ([], [40, 41, 42, 43, 44, 45, 47]), ([], [40, 41, 42, 43, 44, 45, 46]), ([6, 7], [40, 41, 42, 43, 44, 45, 46, 47]), ([6, 7, 8], [40, 41, 42, 43, 44, 45, 46, 47, 48]), ([6, 7, 8, 9], [40, 41, 42, 43, 44, 45, 46, 47, 48, 49]), ([6, 7, 8, 9, 10], [40, 41, 42, 43, 44, 45, 46, 47, 48, 49, 50]), ([0, 1, 2, 3, 4, 5, 6, 7, 8, 9, 10, 11], [40, 41, 42, 43, 44, 45, 46, 47, 48, 49, 50, 51])] [] (Γx := []) ?_; dsimp only [prev0, List.length_nil, List.length_cons])
       | (refine isReg 31 ?_; refine WPc.drA [([], []), ([0], [129]), ([0, 1], [129, 130]), ([0, 1, 2], [129, 130, 131]), ([0, 1, 2, 3], [129, 130, 131, 132]), ([0, 1, 2, 3, 4], [129, 130, 131, 132, 133]), ([0, 1, 2, 3, 4, 5], [129, 130, 131, 132, 133, 134]), ([0, 1, 2, 3, 4, 5, 6], [129, 130, 131, 132, 133, 134, 135]), ([0, 1, 2, 3, 4, 5, 6, 7], [129, 130, 131, 132, 133, 134, 135, 136]), ([0, 1, 2, 3, 4, 5, 6, 7, 8], [129, 130, 131, 132, 133, 134, 135, 136, 137, 141, 142, 143]), ([0, 1, 2, 3, 4, 5, 6, 7, 8, 9], [129, 130, 131, 132, 133, 134, 135, 136, 137, 138, 141, 142, 143]), ([0, 1, 2, 3, 4, 5, 6, 7, 8, 9, 10], [129, 130, 131, 132, 133, 134, 135, 136, 137, 138, 139, 141, 142, 143]), ([0, 1, 2, 3, 4, 5, 6, 7, 8], [129, 130, 131, 132, 133, 134, 135, 136, 137, 138, 139, 140]), ([0, 1, 2, 3, 4, 5, 6, 7, 8, 12], [129, 130, 131, 132, 133, 134, 135, 136, 137, 138, 139, 140, 141]), ([0, 1, 2, 3, 4, 5, 6, 7, 8, 12, 13], [129, 130, 131, 132, 133, 134, 135, 136, 137, 138, 139, 140, 141, 142]), ([0, 1, 2, 3, 4, 5, 6, 7, 8, 9, 10, 11, 12, 13, 14], [129, 130, 131, 132, 133, 134, 135, 136, 137, 138, 139, 140, 141, 142, 143]), ([0, 1, 2, 3, 4, 5, 6, 7, 8, 9, 10, 11, 12, 13, 14, 15], [129, 130, 131, 132, 133, 134, 135, 136, 137, 138, 139, 140, 141, 142, 143, 144]), ([0, 1, 2, 3, 4, 5, 6, 7, 8, 9, 10, 11, 12, 13, 14, 15, 16], [129, 130, 131, 132, 133, 134, 135, 136, 137, 138, 139, 140, 141, 142, 143, 144, 145])] [] (Γx := []) ?_; dsimp only [prev0, List.length_nil, List.length_cons])
       | (refine gAny ?_; first | (refine gGd ?_; refine RGl.skp ?_) | (refine gD 131 ?_; refine RGl.rdX (fun e hk => by (try dsimp only [bndR, ensR, oksR, fcutR, List.append_nil, List.nil_append, List.cons_append, List.append_assoc] at hk ⊢); exact ReadR.binE rfl rfl BinR.neq (congrArg Value.bool (show (!decide _) = false by rw [decide_eq_true (by omega)]; rfl))) ?_) | (refine gD 135 ?_; refine RGl.rdX (fun e hk => by (try dsimp only [bndR, ensR, oksR, fcutR, List.append_nil, List.nil_append, List.cons_append, List.append_assoc] at hk ⊢); exact ReadR.loadR rfl memA rfl hdv) ?_) | (refine gOp ?_; first | refine RGl.rdA ?_ | refine RGl.rdX (fun e hk => by (try dsimp only [bndR, ensR, oksR, fcutR, List.append_nil, List.nil_append, List.cons_append, List.append_assoc] at hk ⊢); exact readB) ?_) | (refine RGl.fin (fun e hk => ?_); (try dsimp only [bndA, ensAR, oksA, List.append_nil, List.nil_append, List.cons_append, List.append_assoc] at hk ⊢); (repeat (obtain ⟨hk1, hk⟩ := hk))) | fail)
       | (refine isCond ?_; first | refine WPc.cT ?_ | refine WPc.cF ?_ | (refine WPc.cQ (fun hc => ?_) (fun hc => ?_) <;> try first | exact prA | (exfalso; first | omega)))
       | (refine isC 126 ?_; refine WPl.cXs (c126) fun v Γ1 hR => ?_; obtain ⟨sv, rfl, hsv, rfl⟩ := hR; (try dsimp only [putF, List.cons_append, List.nil_append]))
       | (refine isOp ?_; first | refine WPl.rd ?_ | refine WPl.sk ?_ | refine WPl.rdB ?_)
       | (refine isAl ?_; refine WPl.nw fun g => ?_)
       | (refine isSt ?_; first | refine WPl.st1 ?_ | refine WPl.stA ?_ | refine WPl.stEB ?_ | refine WPl.stRB ?_)
       | (show WPl _ _ _ _ _ _ _ (⟨_, .indexAddr _ _ _, _, _, _, _⟩ :: _) _; refine WPl.rdX (ReadR.indexE rfl rfl hasA (by first | assumption | omega)) ?_)
       | (show WPl _ _ _ _ _ _ _ (⟨_, .fieldAddr _ _ _, _, _, _, _⟩ :: _) _; refine WPl.rdX (ReadR.fieldE rfl hasA (by first | assumption | omega)) ?_)
       | (show WPl _ _ _ _ _ _ _ (⟨_, .load _ _, _, _, _, _⟩ :: _) _; first | refine WPl.rdX (ReadR.loadE rfl hasA (by assumption)) ?_ | refine WPl.rdX (ReadR.loadES (by assumption) (by first | assumption | omega) rfl hasA) ?_)
       | (show WPl _ _ _ _ _ _ _ (⟨_, .slice _ _ _ _ _, _, _, _, _⟩ :: _) _; first | refine WPl.rdX (ReadR.sliceH rfl rfl hasA (by omega)) ?_ | refine WPl.rdX (ReadR.sliceL rfl rfl hasA (by omega)) ?_ | refine WPl.rdX (ReadR.sliceLH rfl rfl rfl hasA (by omega) (by omega)) ?_)
       | (refine WPl.spQ (fun hc => ?_) (fun hc => ?_) <;> try first | exact prA | (exfalso; first | omega))
       | fail)
      exact WPq.rnd (st + 1) (by omega) (by omega)
    | false =>
      have hwas := wasI_at hlen (show ls[st]? = some s by rw [← hkeep st hbq]; exact hs)
      repeat' (first
       | refine WPl.nil ?_ | refine WPq.then ?_ | refine WPq.thenR ?_ | refine WPq.thenE ?_ | refine WPq.blockN ?_ | refine WPq.blockR ?_ | refine WPq.blockE ?_ | refine WPq.blockO rfl ?_ | refine WPc.seq ?_ | refine WPc.block ?_ | refine WPc.ret ?_ | refine WPc.exit ?_ | refine WPc.skip ?_ | refine WPc.region ?_
       | (refine isReg 7 ?_; refine WPc.drA [([], [41, 42, 43, 44, 45, 46, 47, 48, 49, 50, 51]), ([], [40, 42, 46, 47, 48, 49, 50, 51]), ([], [40, 41, 46, 47, 48, 49, 50, 51]), ([1, 2], [40, 41, 42, 46, 47, 48, 49, 50, 51]), ([1, 2, 3], [40, 41, 42, 43, 46, 47, 48, 49, 50, 51]), ([1, 2, 3, 4], [40, 41, 42, 43, 44, 46, 47, 48, 49, 50, 51]), ([], [40, 41, 42, 43, 44, 45, 47]), ([], [40, 41, 42, 43, 44, 45, 46]), ([6, 7], [40, 41, 42, 43, 44, 45, 46, 47]), ([6, 7, 8], [40, 41, 42, 43, 44, 45, 46, 47, 48]), ([6, 7, 8, 9], [40, 41, 42, 43, 44, 45, 46, 47, 48, 49]), ([6, 7, 8, 9, 10], [40, 41, 42, 43, 44, 45, 46, 47, 48, 49, 50]), ([0, 1, 2, 3, 4, 5, 6, 7, 8, 9, 10, 11], [40, 41, 42, 43, 44, 45, 46, 47, 48, 49, 50, 51])] [] (Γx := []) ?_; dsimp only [prev0, List.length_nil, List.length_cons])
       | (refine isReg 31 ?_; refine WPc.drA [([], []), ([0], [129]), ([0, 1], [129, 130]), ([0, 1, 2], [129, 130, 131]), ([0, 1, 2, 3], [129, 130, 131, 132]), ([0, 1, 2, 3, 4], [129, 130, 131, 132, 133]), ([0, 1, 2, 3, 4, 5], [129, 130, 131, 132, 133, 134]), ([0, 1, 2, 3, 4, 5, 6], [129, 130, 131, 132, 133, 134, 135]), ([0, 1, 2, 3, 4, 5, 6, 7], [129, 130, 131, 132, 133, 134, 135, 136]), ([0, 1, 2, 3, 4, 5, 6, 7, 8], [129, 130, 131, 132, 133, 134, 135, 136, 137, 141, 142, 143]), ([0, 1, 2, 3, 4, 5, 6, 7, 8, 9], [129, 130, 131, 132, 133, 134, 135, 136, 137, 138, 141, 142, 143]), ([0, 1, 2, 3, 4, 5, 6, 7, 8, 9, 10], [129, 130, 131, 132, 133, 134, 135, 136, 137, 138, 139, 141, 142, 143]), ([0, 1, 2, 3, 4, 5, 6, 7, 8], [129, 130, 131, 132, 133, 134, 135, 136, 137, 138, 139, 140]), ([0, 1, 2, 3, 4, 5, 6, 7, 8, 12], [129, 130, 131, 132, 133, 134, 135, 136, 137, 138, 139, 140, 141]), ([0, 1, 2, 3, 4, 5, 6, 7, 8, 12, 13], [129, 130, 131, 132, 133, 134, 135, 136, 137, 138, 139, 140, 141, 142]), ([0, 1, 2, 3, 4, 5, 6, 7, 8, 9, 10, 11, 12, 13, 14], [129, 130, 131, 132, 133, 134, 135, 136, 137, 138, 139, 140, 141, 142, 143]), ([0, 1, 2, 3, 4, 5, 6, 7, 8, 9, 10, 11, 12, 13, 14, 15], [129, 130, 131, 132, 133, 134, 135, 136, 137, 138, 139, 140, 141, 142, 143, 144]), ([0, 1, 2, 3, 4, 5, 6, 7, 8, 9, 10, 11, 12, 13, 14, 15, 16], [129, 130, 131, 132, 133, 134, 135, 136, 137, 138, 139, 140, 141, 142, 143, 144, 145])] [] (Γx := []) ?_; dsimp only [prev0, List.length_nil, List.length_cons])
       | (refine gAny ?_; first | (refine gGd ?_; refine RGl.skp ?_) | (refine gD 131 ?_; refine RGl.rdX (fun e hk => by (try dsimp only [bndR, ensR, oksR, fcutR, List.append_nil, List.nil_append, List.cons_append, List.append_assoc] at hk ⊢); exact ReadR.binE rfl rfl BinR.neq (congrArg Value.bool (show (!decide _) = false by rw [decide_eq_true (by omega)]; rfl))) ?_) | (refine gD 135 ?_; refine RGl.rdX (fun e hk => by (try dsimp only [bndR, ensR, oksR, fcutR, List.append_nil, List.nil_append, List.cons_append, List.append_assoc] at hk ⊢); exact ReadR.loadR rfl memA rfl hdv) ?_) | (refine gD 139 ?_; refine RGl.rdX (fun e hk => by (try dsimp only [bndR, ensR, oksR, fcutR, List.append_nil, List.nil_append, List.cons_append, List.append_assoc] at hk ⊢); exact ReadR.indexE1 (i := 0) rfl rfl hasA (by omega)) ?_) | (refine gD 140 ?_; refine RGl.rdX (fun e hk => by (try dsimp only [bndR, ensR, oksR, fcutR, List.append_nil, List.nil_append, List.cons_append, List.append_assoc] at hk ⊢); exact ReadR.loadE rfl hasA hs0) ?_) | (refine gD 143 ?_; refine RGl.rdX (fun e hk => by (try dsimp only [bndR, ensR, oksR, fcutR, List.append_nil, List.nil_append, List.cons_append, List.append_assoc] at hk ⊢); exact ReadR.loadR rfl memA rfl hwas) ?_) | (refine gD 144 ?_; refine RGl.rdX (fun e hk => by (try dsimp only [bndR, ensR, oksR, fcutR, List.append_nil, List.nil_append, List.cons_append, List.append_assoc] at hk ⊢); exact ReadR.binE rfl rfl BinR.neq (congrArg Value.bool (show (!decide _) = false by rw [decide_eq_true rfl]; rfl))) ?_) | (refine gOp ?_; first | refine RGl.rdA ?_ | refine RGl.rdX (fun e hk => by (try dsimp only [bndR, ensR, oksR, fcutR, List.append_nil, List.nil_append, List.cons_append, List.append_assoc] at hk ⊢); exact readB) ?_) | (refine RGl.fin (fun e hk => ?_); (try dsimp only [bndA, ensAR, oksA, List.append_nil, List.nil_append, List.cons_append, List.append_assoc] at hk ⊢); (repeat (obtain ⟨hk1, hk⟩ := hk))) | fail)
       | (refine isCond ?_; first | refine WPc.cT ?_ | refine WPc.cF ?_ | (refine WPc.cQ (fun hc => ?_) (fun hc => ?_) <;> try first | exact prA | (exfalso; first | omega)))
       | (refine isC 126 ?_; refine WPl.cXs (c126) fun v Γ1 hR => ?_; obtain ⟨sv, rfl, hsv, rfl⟩ := hR; (try dsimp only [putF, List.cons_append, List.nil_append]))
       | (refine isOp ?_; first | refine WPl.rd ?_ | refine WPl.sk ?_ | refine WPl.rdB ?_)
       | (refine isAl ?_; refine WPl.nw fun g => ?_)
       | (refine isSt ?_; first | refine WPl.st1 ?_ | refine WPl.stA ?_ | refine WPl.stEB ?_ | refine WPl.stRB ?_)
       | (show WPl _ _ _ _ _ _ _ (⟨_, .indexAddr _ _ _, _, _, _, _⟩ :: _) _; refine WPl.rdX (ReadR.indexE rfl rfl hasA (by first | assumption | omega)) ?_)
       | (show WPl _ _ _ _ _ _ _ (⟨_, .fieldAddr _ _ _, _, _, _, _⟩ :: _) _; refine WPl.rdX (ReadR.fieldE rfl hasA (by first | assumption | omega)) ?_)
       | (show WPl _ _ _ _ _ _ _ (⟨_, .load _ _, _, _, _, _⟩ :: _) _; first | refine WPl.rdX (ReadR.loadE rfl hasA (by assumption)) ?_ | refine WPl.rdX (ReadR.loadES (by assumption) (by first | assumption | omega) rfl hasA) ?_)
       | (show WPl _ _ _ _ _ _ _ (⟨_, .slice _ _ _ _ _, _, _, _, _⟩ :: _) _; first | refine WPl.rdX (ReadR.sliceH rfl rfl hasA (by omega)) ?_ | refine WPl.rdX (ReadR.sliceL rfl rfl hasA (by omega)) ?_ | refine WPl.rdX (ReadR.sliceLH rfl rfl rfl hasA (by omega) (by omega)) ?_)
       | (refine WPl.spQ (fun hc => ?_) (fun hc => ?_) <;> try first | exact prA | (exfalso; first | omega))
       | fail)
      exact WPq.rnd (st + 1) (by omega) (by omega)
  repeat' (first
   | refine WPl.nil ?_ | refine WPq.then ?_ | refine WPq.thenR ?_ | refine WPq.thenE ?_ | refine WPq.blockN ?_ | refine WPq.blockR ?_ | refine WPq.blockE ?_ | refine WPq.blockO rfl ?_ | refine WPc.seq ?_ | refine WPc.block ?_ | refine WPc.ret ?_ | refine WPc.exit ?_ | refine WPc.skip ?_ | refine WPc.region ?_
   | (refine isCond ?_; first | refine WPc.cT ?_ | refine WPc.cF ?_ | (refine WPc.cQ (fun hc => ?_) (fun hc => ?_) <;> try first | exact prA | (exfalso; first | omega)))
   | (refine isC 147 ?_; refine WPl.cV (clv) ?_)
   | (refine isOp ?_; first | refine WPl.rd ?_ | refine WPl.sk ?_ | refine WPl.rdB ?_)
   | (refine isAl ?_; refine WPl.nw fun g => ?_)
   | (refine isSt ?_; first | refine WPl.st1 ?_ | refine WPl.stA ?_ | refine WPl.stEB ?_ | refine WPl.stRB ?_)
   | (show WPl _ _ _ _ _ _ _ (⟨_, .indexAddr _ _ _, _, _, _, _⟩ :: _) _; refine WPl.rdX (ReadR.indexE rfl rfl hasA (by first | assumption | omega)) ?_)
   | (show WPl _ _ _ _ _ _ _ (⟨_, .fieldAddr _ _ _, _, _, _, _⟩ :: _) _; refine WPl.rdX (ReadR.fieldE rfl hasA (by first | assumption | omega)) ?_)
   | (show WPl _ _ _ _ _ _ _ (⟨_, .load _ _, _, _, _, _⟩ :: _) _; first | refine WPl.rdX (ReadR.loadE rfl hasA (by assumption)) ?_ | refine WPl.rdX (ReadR.loadES (by assumption) (by first | assumption | omega) rfl hasA) ?_)
   | (show WPl _ _ _ _ _ _ _ (⟨_, .slice _ _ _ _ _, _, _, _, _⟩ :: _) _; first | refine WPl.rdX (ReadR.sliceH rfl rfl hasA (by omega)) ?_ | refine WPl.rdX (ReadR.sliceL rfl rfl hasA (by omega)) ?_ | refine WPl.rdX (ReadR.sliceLH rfl rfl rfl hasA (by omega) (by omega)) ?_)
   | (refine WPl.spQ (fun hc => ?_) (fun hc => ?_) <;> try first | exact prA | (exfalso; first | omega))
   | fail)
  exact WPq.dV
end Go.Proofs.Ytepmikgjnmjheaa
