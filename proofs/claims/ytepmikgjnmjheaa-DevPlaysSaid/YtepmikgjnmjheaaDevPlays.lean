/- Law DevPlays: the walk. -/
import Derived.Test.YtepmikgjnmjheaaEj
namespace Go.Proofs.Ytepmikgjnmjheaa
open Go.RowKit
set_option linter.unusedSimpArgs false
set_option linter.unusedVariables false
set_option maxRecDepth 20000
set_option maxHeartbeats 2000000
attribute [local irreducible] WPc WPl WPq ReadR OpT BinR HasS bx rdN rowN Take Takes Prov Triple ResF BuildP Done ag Int.decLt Int.decLe Int.instDecidableEq
attribute [local irreducible] mp rmp rg rgo bag vrow secs mput mget mfind mdel intsV skeys vault pickG fburn fb1 valsV zAt zB vers crashT intsN das dals rds crT
instance : Inhabited (DS × RfS) := ⟨(⟨[], [], [], 0⟩, ⟨.slice none 0 0, [], .slice none 0 0, .slice none 0 0, [], [], 0, []⟩)⟩
def okB (n k : Nat) (s : DS × RfS) : Prop := s.1.vw = s.2.vw ∧ DInv n k s.1 ∧ RInv n k s.2
noncomputable abbrev SB (gV mD : Nat) (vd : Value) (gX n k : Nat) (e : Env) : DS × RfS := pickG (fun s : DS × RfS => bothA gV mD vd gX s.1 s.2) (fun s => okB n k s) (e 6).2
theorem fpRds {Γf : List Asn} {rs : List (Value × List Value)} {v : Value} {xs : List Value} (h : rds rs ∈ Γf) (hr : (v, xs) ∈ rs) : ∀ A, A ∈ [rdN v xs.length xs] → ∃ B, B ∈ Γf ∧ ∀ g, A.fp g → B.fp g := by
  with_unfolding_all exact fun A hA => ⟨_, h, fun g hg => ⟨_, hr, by rw [List.mem_singleton.1 hA] at hg; exact hg⟩⟩
theorem dals_hm {Γ : List Asn} {l : List DA} {x : DA} (h : rds (dals l) ∈ Γ) (hx : (x.lv, intsV x.l) ∈ dals l) : HasS Γ x.lv x.l.length (intsV x.l) := by
  have := HasS.rds h hx
  rwa [intsV_len] at this
theorem dals_fp {Γf : List Asn} {l : List DA} {x : DA} (h : rds (dals l) ∈ Γf) (hx : (x.lv, intsV x.l) ∈ dals l) : ∀ A, A ∈ [rdN x.lv x.l.length (intsV x.l)] → ∃ B, B ∈ Γf ∧ ∀ g, A.fp g → B.fp g := by
  have := fpRds h hx
  rwa [intsV_len] at this
section
variable (gV mD : Nat) (vd : Value) (gX n k : Nat) (s : DS × RfS)
theorem wsD_t (h : okB n k s) (hkb : k ≤ 100000) : Triple Try.prog 19 #[hD gV] [rbx gV 79 (dvc s.1.fu vd mD s.1.cn), rmp secM mD s.1.es] (RRow 3 1 (intsN s.1.vw.wset).length (intsV (intsN s.1.vw.wset))) := by
  rw [intsN_len]; exact dwait_t gV mD vd n k s.1 h.2.1 hkb
theorem wsR_t (h : okB n k s) (hn : n ≤ 100000) (hkb : k ≤ 100000) : Triple Try.prog 24 #[hD gX] [rbx gX 51 (rdc s.2.vL s.2.vA s.2.vB s.2.fu s.2.wr), rdN s.2.vL s.2.L.length (valsV s.2.L), rdN s.2.vA s.2.Z.length (intsV (zAt s.2.Z)), rdN s.2.vB s.2.Z.length (valsV (zB s.2.Z))] (RRow 3 1 (intsN s.2.vw.wset).length (intsV (intsN s.2.vw.wset))) := by
  rw [intsN_len]; exact rwait_t gX n k s.2 h.2.2 hn hkb
theorem wset_le {D : Dv} : D.wset.length ≤ D.ls.length := by
  unfold Dv.wset
  refine Nat.le_trans (List.length_filter_le _ _) ?_
  rw [List.length_range]; exact Nat.le_refl _
theorem wsI_t (va vb : Value) (h : okB n k s) (hn : n ≤ 100000) : Triple Try.prog 23 #[va, vb] [rdN va (intsN s.1.vw.wset).length (intsV (intsN s.1.vw.wset)), rdN vb (intsN s.2.vw.wset).length (intsV (intsN s.2.vw.wset))] (RVal (.bool true)) := by
  have h1 : (intsN s.1.vw.wset).length ≤ 100000 := by
    rw [intsN_len]
    have := wset_le (D := s.1.vw)
    have h2 : s.1.vw.ls.length = n := h.2.1.nl
    omega
  have c := ints_t va vb (intsN s.1.vw.wset) (intsN s.2.vw.wset) h1 (by rw [← h.1]; exact h1)
  rw [decide_eq_true (by rw [h.1])] at c
  exact c
theorem okB_cn (h : okB n k s) : s.1.cn = s.2.wr := congrArg Dv.cn h.1
end
theorem crash_nil (D : Dv) : D.crash [] = D.crash0 := by
  unfold Dv.crash Dv.crash0
  rw [← crT_stop (st := 0) (Nat.le_refl _) D.wset.length (Nat.zero_le _)]
  with_unfolding_all rfl
theorem rd_crash0 (D : Dv) (j : Nat) : D.crash0.rd j = (D.crash0, (D.crash0.now j).b, 0) := by with_unfolding_all rfl
theorem rcrash0_t (gX n k : Nat) (R : RfS) (h : RInv n k R) (hn : n ≤ 100000) (hkb : k ≤ 100000) :
    Triple Try.prog 26 #[hD gX, .slice none 0 0] (rsA gX R) (RRf gX n k (resV []) R.vw.crash0) := by
  have c := rcrash_t gX n k R (.slice none 0 0) [] (Nat.zero_le _) (fun a h => by cases h) h hn hkb
  rw [crash_nil, show intsV [] = [] by with_unfolding_all rfl] at c
  exact Triple.noArg (Γo := rsA gX R) (Triple.permΓ List.perm_append_comm c)
theorem devPlays_t (n : Int) (v1 : Value) (l : List DA) (hl1 : ∀ x ∈ l, daW x) :
    Triple Try.prog 5 #[.int .i64 n, v1] [rdN v1 l.length (das l), rds (dals l)] (RVal (.bool true)) := by
  have clv := lives_t
  have hL1 := das_len (l := l)
  by_cases hr : 16 ≤ n ∧ n ≤ 1600
  · obtain ⟨N, hN⟩ : ∃ N : Nat, n = (N : Int) := ⟨n.toNat, by omega⟩
    subst hN
    have c14 := dnew_t N (by omega) (by omega)
    have c36 := dnew_t 40 (by omega) (by omega)
    refine Triple.enter Try.func5 rfl Try.ntmps5 rfl (fun W => ?_)
    dsimp only [argsF, Nat.reduceAdd]
    repeat' (first
     | (refine isSeqR 4 ?_; refine WPc.join (σ := Nat × Nat × Nat × Value × DS) (fun q => q.1 ≤ 40 ∧ DInv q.1 0 q.2.2.2.2 ∧ q.2.2.2.2.vw = ⟨f4, List.replicate q.1 (secF 0), fun _ => [], 0⟩) (fun q => [rdN v1 l.length (das l), rds (dals l), bx q.2.1 79 (dvc q.2.2.2.2.fu q.2.2.2.1 q.2.2.1 q.2.2.2.2.cn), rowN 81 256 q.2.2.2.1 q.2.2.2.2.ls.length (secs q.2.2.2.2.ls), mp secM q.2.2.1 q.2.2.2.2.es, bag q.2.2.2.2.es]) (fun q => [(0, .int .i64 (q.1 : Int)), (1, v1), (5, hD q.2.1), (6, .int .i64 0)]) ?_ (fun st hx => ?_))
     | refine WPl.nil ?_ | refine WPq.then ?_ | refine WPq.thenR ?_ | refine WPq.thenE ?_ | refine WPq.blockN ?_ | refine WPq.blockR ?_ | refine WPq.blockE ?_ | refine WPq.blockO rfl ?_ | refine WPc.seq ?_ | refine WPc.block ?_ | refine WPc.ret ?_ | refine WPc.exit ?_ | refine WPc.skip ?_ | refine WPc.region ?_
     | (refine isCond ?_; first | refine WPc.cT ?_ | refine WPc.cF ?_ | (refine WPc.cQ (fun hc => ?_) (fun hc => ?_) <;> try exact prA))
     | (refine isC 14 ?_; refine WPl.cXs (c14) fun v Γ1 hR => ?_; obtain ⟨gV, mD, vd, S, rfl, hvd, hS, hSi, rfl⟩ := hR; (try dsimp only [putF, List.cons_append, List.nil_append]))
     | (refine isC 36 ?_; refine WPl.cXs (c36) fun v Γ1 hR => ?_; obtain ⟨gV, mD, vd, S, rfl, hvd, hS, hSi, rfl⟩ := hR; (try dsimp only [putF, List.cons_append, List.nil_append]))
     | (refine isD 18 ?_; refine WPl.rdX (ReadR.binE rfl rfl BinR.lss (congrArg Value.bool (decide_eq_false (show ¬ (N : Int) < 16 by omega)))) ?_)
     | (refine isD 21 ?_; refine WPl.rdX (ReadR.binE rfl rfl BinR.gtr (congrArg Value.bool (decide_eq_false (show ¬ (N : Int) > 1600 by omega)))) ?_)
     | (refine isOp ?_; first | refine WPl.rd ?_ | refine WPl.sk ?_ | refine WPl.rdB ?_)
     | (show WPl _ _ _ _ _ _ _ (⟨_, .indexAddr _ _ _, _, _, _, _⟩ :: _) _; refine WPl.rdX (ReadR.indexE rfl rfl hasA (by first | assumption | omega)) ?_)
     | (show WPl _ _ _ _ _ _ _ (⟨_, .fieldAddr _ _ _, _, _, _, _⟩ :: _) _; refine WPl.rdX (ReadR.fieldE rfl hasA (by first | assumption | omega)) ?_)
     | (show WPl _ _ _ _ _ _ _ (⟨_, .load _ _, _, _, _, _⟩ :: _) _; first | refine WPl.rdX (ReadR.loadE rfl hasA (by assumption)) ?_ | refine WPl.rdX (ReadR.loadES (by assumption) (by first | assumption | omega) rfl hasA) ?_)
     | (show WPl _ _ _ _ _ _ _ (⟨_, .slice _ _ _ _ _, _, _, _, _⟩ :: _) _; first | refine WPl.rdX (ReadR.sliceH rfl rfl hasA (by omega)) ?_ | refine WPl.rdX (ReadR.sliceL rfl rfl hasA (by omega)) ?_ | refine WPl.rdX (ReadR.sliceLH rfl rfl rfl hasA (by omega) (by omega)) ?_)
     | (refine WPl.spQ (fun hc => ?_) (fun hc => ?_) <;> try exact prA)
     | fail)
    · exact WPq.join (40, gV, mD, vd, S) ⟨Nat.le_refl _, hSi, hS⟩
    · exact WPq.join (N, gV, mD, vd, S) ⟨by dsimp only; omega, hSi, hS⟩
    clear c14 c36 hr
    clear hS hSi hvd
    obtain ⟨N, gV, mD, vd, S⟩ := st
    obtain ⟨hN, hSi, hS⟩ := hx
    dsimp only at hN hSi hS ⊢
    have hSl : (S.ls.length : Int) = (N : Int) := by rw [hSi.nl]
    have hSn : S.ls.length = N := hSi.nl
    have c47 := len_t gV mD vd S.fu S.cn S.ls (by omega)
    have c52 := rnew_t N (by omega)
    repeat' (first
     | (refine isSeqR 10 ?_; refine WPc.join (σ := DS × RfS) (fun q => okB N 40 q) (fun q => [bx gV 79 (dvc q.1.fu vd mD q.1.cn), rowN 81 256 vd q.1.ls.length (secs q.1.ls), mp secM mD q.1.es, bag q.1.es, bx gX 51 (rdc q.2.vL q.2.vA q.2.vB q.2.fu q.2.wr), rowN 31 1 q.2.vL q.2.L.length (valsV q.2.L), rowN 3 1 q.2.vA q.2.Z.length (intsV (zAt q.2.Z)), rowN 31 1 q.2.vB q.2.Z.length (valsV (zB q.2.Z)), vault q.2.rs]) (fun q => [(0, .int .i64 (N : Int)), (5, hD gV), (7, hD gX)]) ?_ (fun st hx => ?_))
     | refine WPl.nil ?_ | refine WPq.then ?_ | refine WPq.thenR ?_ | refine WPq.thenE ?_ | refine WPq.blockN ?_ | refine WPq.blockR ?_ | refine WPq.blockE ?_ | refine WPq.blockO rfl ?_ | refine WPc.seq ?_ | refine WPc.block ?_ | refine WPc.ret ?_ | refine WPc.exit ?_ | refine WPc.skip ?_ | refine WPc.region ?_
     | (refine isCond ?_; first | refine WPc.cT ?_ | refine WPc.cF ?_ | (refine WPc.cQ (fun hc => ?_) (fun hc => ?_) <;> try exact prA))
     | (refine isD 40 ?_; refine WPl.rdX (readP) ?_)
     | (refine isD 43 ?_; refine WPl.rdX (ReadR.binE rfl rfl BinR.neq (congrArg (fun q => Value.bool (!q)) (decide_eq_true (rfl : (0 : Int) = 0)))) ?_)
     | (refine isC 47 ?_; refine WPl.cV c47 ?_ (hΔ := provsG))
     | (refine isD 49 ?_; refine WPl.rdX (ReadR.binE rfl rfl BinR.neq (congrArg (fun q => Value.bool (!q)) (decide_eq_true hSl))) ?_)
     | (refine isC 52 ?_; refine WPl.cXs (c52) fun v Γ1 hR => ?_; obtain ⟨gX, R, rfl, hR0, hRi, rfl⟩ := hR; (try dsimp only [putF, List.cons_append, List.nil_append]))
     | (refine isOp ?_; first | refine WPl.rd ?_ | refine WPl.sk ?_ | refine WPl.rdB ?_)
     | (show WPl _ _ _ _ _ _ _ (⟨_, .indexAddr _ _ _, _, _, _, _⟩ :: _) _; refine WPl.rdX (ReadR.indexE rfl rfl hasA (by first | assumption | omega)) ?_)
     | (show WPl _ _ _ _ _ _ _ (⟨_, .fieldAddr _ _ _, _, _, _, _⟩ :: _) _; refine WPl.rdX (ReadR.fieldE rfl hasA (by first | assumption | omega)) ?_)
     | (show WPl _ _ _ _ _ _ _ (⟨_, .load _ _, _, _, _, _⟩ :: _) _; first | refine WPl.rdX (ReadR.loadE rfl hasA (by assumption)) ?_ | refine WPl.rdX (ReadR.loadES (by assumption) (by first | assumption | omega) rfl hasA) ?_)
     | (show WPl _ _ _ _ _ _ _ (⟨_, .slice _ _ _ _ _, _, _, _, _⟩ :: _) _; first | refine WPl.rdX (ReadR.sliceH rfl rfl hasA (by omega)) ?_ | refine WPl.rdX (ReadR.sliceL rfl rfl hasA (by omega)) ?_ | refine WPl.rdX (ReadR.sliceLH rfl rfl rfl hasA (by omega) (by omega)) ?_)
     | (refine WPl.spQ (fun hc => ?_) (fun hc => ?_) <;> try exact prA)
     | fail)
    · skip
      first | refine WPc.loop (σ := Nat × DS × RfS) (fun st => st.1 ≤ 40 ∧ okB N st.1 st.2) (fun st => [rdN v1 l.length (das l), rds (dals l), bx gV 79 (dvc st.2.1.fu vd mD st.2.1.cn), rowN 81 256 vd st.2.1.ls.length (secs st.2.1.ls), mp secM mD st.2.1.es, bag st.2.1.es, bx gX 51 (rdc st.2.2.vL st.2.2.vA st.2.2.vB st.2.2.fu st.2.2.wr), rowN 31 1 st.2.2.vL st.2.2.L.length (valsV st.2.2.L), rowN 3 1 st.2.2.vA st.2.2.Z.length (intsV (zAt st.2.2.Z)), rowN 31 1 st.2.2.vB st.2.2.Z.length (valsV (zB st.2.2.Z)), vault st.2.2.rs]) (fun st => [(0, .int .i64 (N : Int)), (1, v1), (5, hD gV), (7, hD gX), (8, .int .i64 (st.1 : Int))]) (fun st => 40 - st.1) ((0, S, R)) ?_ takesA frsA (fun st km hx hk => ?_)
      · exact ⟨Nat.zero_le _, hS.trans hR0.symm, hSi, hRi⟩
      clear c47 c52 hR0 hRi hS hSi hSl hSn
      obtain ⟨i, S, R⟩ := st
      obtain ⟨hi, hvw, hSi, hRi⟩ := hx
      dsimp only at hi hvw hSi hRi hk ⊢
      have hkm : km = 40 - i := hk
      clear hk
      by_cases hin : i < l.length ∧ i < 40
      · obtain ⟨hil, hi40⟩ := hin
        obtain ⟨x, hx⟩ : ∃ x, l[i]? = some x := ⟨_, List.getElem?_eq_getElem hil⟩
        have hxp := das_at hx
        have hxm : (x.lv, intsV x.l) ∈ dals l := by with_unfolding_all exact dals_mem hx
        have hil' : (i : Int) < (l.length : Int) := by omega
        have hi40' : (i : Int) < 40 := by omega
        have c69 := does_t gV mD vd gX N i S R x hSi hRi hvw (by omega) (by omega) (hl1 x (List.mem_of_getElem? hx))
        have hv69 : ∀ v Γ', RBoth gV mD vd gX N (i + 1) v Γ' → v = .bool true ∧ ∃ s : DS × RfS, Γ' = bothA gV mD vd gX s.1 s.2 ∧ okB N (i + 1) s := fun v Γ' ⟨S', R', h1, h2, h3, h4, h5⟩ => ⟨h1, (S', R'), h5, h2, h3, h4⟩
        repeat' (first
         | refine WPl.nil ?_ | refine WPq.then ?_ | refine WPq.thenR ?_ | refine WPq.thenE ?_ | refine WPq.blockN ?_ | refine WPq.blockR ?_ | refine WPq.blockE ?_ | refine WPq.blockO rfl ?_ | refine WPc.seq ?_ | refine WPc.block ?_ | refine WPc.ret ?_ | refine WPc.exit ?_ | refine WPc.skip ?_ | refine WPc.region ?_
         | (refine isReg 13 ?_; refine WPc.drA [([25, 26, 27, 28, 29, 30, 31, 32, 33], [64, 65, 66, 67, 68]), ([25, 26, 27, 28, 29, 30, 31, 32, 33], [63, 65, 66, 67, 68]), ([25, 26, 27, 28, 29, 30, 31, 32, 33], [63, 64, 66]), ([25, 26, 27, 28, 29, 30, 31, 32, 33], [63, 64, 65]), ([2, 3, 25, 26, 27, 28, 29, 30, 31, 32, 33], [63, 64, 65, 66]), ([2, 3, 4, 25, 26, 27, 28, 29, 30, 31, 32, 33], [63, 64, 65, 66, 67]), ([0, 1, 2, 3, 4, 5, 25, 26, 27, 28, 29, 30, 31, 32, 33], [63, 64, 65, 66, 67, 68]), ([0, 1, 2, 3, 4, 5, 6, 25, 26, 27, 28, 29, 30, 31, 32, 33], [63, 64, 65, 66, 67, 68, 69]), ([0, 1, 2, 3, 4, 5, 6, 7, 25, 26, 27, 28, 29, 30, 31, 32, 33], [63, 64, 65, 66, 67, 68, 69, 70]), ([0, 1, 2, 3, 4, 5, 6, 7, 8, 25, 26, 27, 28, 29, 30, 31, 32, 33], [63, 64, 65, 66, 67, 68, 69, 70, 71, 74]), ([0, 1, 2, 3, 4, 5, 6, 7, 8, 9, 25, 26, 27, 28, 29, 30, 31, 32, 33], [63, 64, 65, 66, 67, 68, 69, 70, 71, 72, 74]), ([0, 1, 2, 3, 4, 5, 6, 7, 8, 25, 26, 27, 28, 29, 30, 31, 32, 33], [63, 64, 65, 66, 67, 68, 69, 70, 71, 72, 73]), ([0, 1, 2, 3, 4, 5, 6, 7, 8, 9, 10, 11, 25, 26, 27, 28, 29, 30, 31, 32, 33], [63, 64, 65, 66, 67, 68, 69, 70, 71, 72, 73, 74]), ([0, 1, 2, 3, 4, 5, 6, 7, 8, 9, 10, 11, 12, 25, 26, 27, 28, 29, 30, 31, 32, 33], [63, 64, 65, 66, 67, 68, 69, 70, 71, 72, 73, 74, 75]), ([0, 1, 2, 3, 4, 5, 6, 7, 8, 9, 10, 11, 12, 13, 25, 26, 27, 28, 29, 30, 31, 32, 33], [63, 64, 65, 66, 67, 68, 69, 70, 71, 72, 73, 74, 75, 76]), ([0, 1, 2, 3, 4, 5, 6, 7, 8, 9, 10, 11, 12, 13, 14, 25, 26, 27, 28, 29, 30, 31, 32, 33], [63, 64, 65, 66, 67, 68, 69, 70, 71, 72, 73, 74, 75, 76, 77]), ([0, 1, 2, 3, 4, 5, 6, 7, 8, 9, 10, 11, 12, 13, 14, 15, 25, 26, 27, 28, 29, 30, 31, 32, 33], [63, 64, 65, 66, 67, 68, 69, 70, 71, 72, 73, 74, 75, 76, 77, 78]), ([0, 1, 2, 3, 4, 5, 6, 7, 8, 9, 10, 11, 12, 13, 14, 15, 16, 25, 26, 27, 28, 29, 30, 31, 32, 33], [63, 64, 65, 66, 67, 68, 69, 70, 71, 72, 73, 74, 75, 76, 77, 78, 79, 82, 83, 84, 85]), ([0, 1, 2, 3, 4, 5, 6, 7, 8, 9, 10, 11, 12, 13, 14, 15, 16, 17, 25, 26, 27, 28, 29, 30, 31, 32, 33], [63, 64, 65, 66, 67, 68, 69, 70, 71, 72, 73, 74, 75, 76, 77, 78, 79, 80, 82, 83, 84, 85]), ([0, 1, 2, 3, 4, 5, 6, 7, 8, 9, 10, 11, 12, 13, 14, 15, 16, 25, 26, 27, 28, 29, 30, 31, 32, 33], [63, 64, 65, 66, 67, 68, 69, 70, 71, 72, 73, 74, 75, 76, 77, 78, 79, 80, 81]), ([0, 1, 2, 3, 4, 5, 6, 7, 8, 9, 10, 11, 12, 13, 14, 15, 16, 19, 25, 26, 27, 28, 29, 30, 31, 32, 33], [63, 64, 65, 66, 67, 68, 69, 70, 71, 72, 73, 74, 75, 76, 77, 78, 79, 80, 81, 82]), ([0, 1, 2, 3, 4, 5, 6, 7, 8, 9, 10, 11, 12, 13, 14, 15, 16, 19, 20, 25, 26, 27, 28, 29, 30, 31, 32, 33], [63, 64, 65, 66, 67, 68, 69, 70, 71, 72, 73, 74, 75, 76, 77, 78, 79, 80, 81, 82, 83]), ([0, 1, 2, 3, 4, 5, 6, 7, 8, 9, 10, 11, 12, 13, 14, 15, 16, 19, 20, 21, 25, 26, 27, 28, 29, 30, 31, 32, 33], [63, 64, 65, 66, 67, 68, 69, 70, 71, 72, 73, 74, 75, 76, 77, 78, 79, 80, 81, 82, 83, 84]), ([0, 1, 2, 3, 4, 5, 6, 7, 8, 9, 10, 11, 12, 13, 14, 15, 16, 17, 18, 19, 20, 21, 22, 25, 26, 27, 28, 29, 30, 31, 32, 33], [63, 64, 65, 66, 67, 68, 69, 70, 71, 72, 73, 74, 75, 76, 77, 78, 79, 80, 81, 82, 83, 84, 85]), ([0, 1, 2, 3, 4, 5, 6, 7, 8, 9, 10, 11, 12, 13, 14, 15, 16, 17, 18, 19, 20, 21, 22, 23, 25, 26, 27, 28, 29, 30, 31, 32, 33], [63, 64, 65, 66, 67, 68, 69, 70, 71, 72, 73, 74, 75, 76, 77, 78, 79, 80, 81, 82, 83, 84, 85, 86])] [(25, 6), (26, 6), (27, 6), (28, 6), (29, 6), (30, 6), (31, 6), (32, 6), (33, 6), (25, 0), (25, 1), (25, 2), (25, 3), (25, 4), (25, 5), (26, 0), (26, 1), (26, 2), (26, 3), (26, 4), (26, 5), (27, 0), (27, 1), (27, 2), (27, 3), (27, 4), (27, 5), (28, 0), (28, 1), (28, 2), (28, 3), (28, 4), (28, 5), (29, 0), (29, 1), (29, 2), (29, 3), (29, 4), (29, 5), (30, 0), (30, 1), (30, 2), (30, 3), (30, 4), (30, 5), (31, 0), (31, 1), (31, 2), (31, 3), (31, 4), (31, 5), (32, 0), (32, 1), (32, 2), (32, 3), (32, 4), (32, 5), (33, 0), (33, 1), (33, 2), (33, 3), (33, 4), (33, 5)] (Γx := [bx gV 79 (dvc S.fu vd mD S.cn), rowN 81 256 vd S.ls.length (secs S.ls), mp secM mD S.es, bag S.es, bx gX 51 (rdc R.vL R.vA R.vB R.fu R.wr), rowN 31 1 R.vL R.L.length (valsV R.L), rowN 3 1 R.vA R.Z.length (intsV (zAt R.Z)), rowN 31 1 R.vB R.Z.length (valsV (zB R.Z)), vault R.rs]) (hox := ownsW) ?_; dsimp only [prev0, List.length_nil, List.length_cons])
         | (refine gAny ?_; first | (refine gGd ?_; refine RGl.skp ?_) | (refine gD 56 ?_; refine RGl.rdX (fun e hk => by (try dsimp only [bndR, ensR, oksR, fcutR, List.append_nil, List.nil_append, List.cons_append, List.append_assoc] at hk ⊢); exact ReadR.binE rfl rfl BinR.lss (congrArg Value.bool (decide_eq_true hil'))) ?_) | (refine gD 59 ?_; refine RGl.rdX (fun e hk => by (try dsimp only [bndR, ensR, oksR, fcutR, List.append_nil, List.nil_append, List.cons_append, List.append_assoc] at hk ⊢); exact ReadR.binE rfl rfl BinR.lss (congrArg Value.bool (decide_eq_true hi40'))) ?_) | (refine gD 67 ?_; refine RGl.rdX (fun e hk => by (try dsimp only [bndR, ensR, oksR, fcutR, List.append_nil, List.nil_append, List.cons_append, List.append_assoc] at hk ⊢); exact ReadR.indexE (i := i) rfl rfl hasA hil) ?_) | (refine gD 68 ?_; refine RGl.rdX (fun e hk => by (try dsimp only [bndR, ensR, oksR, fcutR, List.append_nil, List.nil_append, List.cons_append, List.append_assoc] at hk ⊢); exact ReadR.loadES (cs := daC x) hxp (by omega) rfl hasA) ?_) | (refine gOp ?_; (refine gC 69 ?_; refine RGl.relG (.bool true) (fun s : DS × RfS => bothA gV mD vd gX s.1 s.2) (fun s => okB N (i + 1) s) hv69 (fun e hk => by (try dsimp only [bndR, ensR, oksR, fcutR, List.append_nil, List.nil_append, List.cons_append, List.append_assoc] at hk ⊢); exact OpT.callM c69 evsA takesA (Provs.cons (Prov.rd (dals_hm memA hxm)) Provs.nil) (dals_fp memA hxm) (by kernel_rfl)) ?_)) | (refine gOp ?_; (refine gC 73 ?_; refine RGl.row (ety := fun _ => 3) (sz := fun _ => 1) (m := fun e => (intsN (SB gV mD vd gX N (i + 1) e).1.vw.wset).length) (xs := fun e => intsV (intsN (SB gV mD vd gX N (i + 1) e).1.vw.wset)) (Γ1 := fun _ => []) (fun e hk => by (try dsimp only [bndR, ensR, oksR, fcutR, List.append_nil, List.nil_append, List.cons_append, List.append_assoc] at hk ⊢); exact OpT.callN (wsD_t gV mD vd N (i + 1) (SB gV mD vd gX N (i + 1) e) (by (repeat (obtain ⟨hk1, hk⟩ := hk)) <;> assumption) (by omega)) (hΔ := provsM)) ?_)) | (refine gOp ?_; (refine gC 75 ?_; refine RGl.row (ety := fun _ => 3) (sz := fun _ => 1) (m := fun e => (intsN (SB gV mD vd gX N (i + 1) e).2.vw.wset).length) (xs := fun e => intsV (intsN (SB gV mD vd gX N (i + 1) e).2.vw.wset)) (Γ1 := fun _ => []) (fun e hk => by (try dsimp only [bndR, ensR, oksR, fcutR, List.append_nil, List.nil_append, List.cons_append, List.append_assoc] at hk ⊢); exact OpT.callN (wsR_t gX N (i + 1) (SB gV mD vd gX N (i + 1) e) (by (repeat (obtain ⟨hk1, hk⟩ := hk)) <;> assumption) (by omega) (by omega)) (hΔ := provsM)) ?_)) | (refine gOp ?_; (refine gC 76 ?_; refine RGl.vl (fun e hk => by (try dsimp only [bndR, ensR, oksR, fcutR, List.append_nil, List.nil_append, List.cons_append, List.append_assoc] at hk ⊢); exact OpT.callN (wsI_t N (i + 1) (SB gV mD vd gX N (i + 1) e) (e 10).1 (e 12).1 (by (repeat (obtain ⟨hk1, hk⟩ := hk)) <;> assumption) (by omega)) (hΔ := provsM)) ?_)) | (refine gOp ?_; (refine gC 81 ?_; refine RGl.vl (fun e hk => by (try dsimp only [bndR, ensR, oksR, fcutR, List.append_nil, List.nil_append, List.cons_append, List.append_assoc] at hk ⊢); exact OpT.callN (writes_t gV mD vd (SB gV mD vd gX N (i + 1) e).1.fu (SB gV mD vd gX N (i + 1) e).1.cn) (hΔ := provsM)) ?_)) | (refine gD 86 ?_; refine RGl.rdX (fun e hk => by (try dsimp only [bndR, ensR, oksR, fcutR, List.append_nil, List.nil_append, List.cons_append, List.append_assoc] at hk ⊢); exact ReadR.binE rfl rfl BinR.neq (congrArg (fun q => Value.bool (!q)) (decide_eq_true (okB_cn N (i + 1) (SB gV mD vd gX N (i + 1) e) (by (repeat (obtain ⟨hk1, hk⟩ := hk)) <;> assumption))))) ?_) | (refine gOp ?_; first | refine RGl.rdA ?_ | refine RGl.rdX (fun e hk => by (try dsimp only [bndR, ensR, oksR, fcutR, List.append_nil, List.nil_append, List.cons_append, List.append_assoc] at hk ⊢); exact readB) ?_) | (refine RGl.fin (fun e hk => ?_); (try dsimp only [bndA, ensAR, oksA, List.append_nil, List.nil_append, List.cons_append, List.append_assoc] at hk ⊢); (repeat (obtain ⟨hk1, hk⟩ := hk))) | fail)
         | (refine isCond ?_; first | refine WPc.cT ?_ | refine WPc.cF ?_ | (refine WPc.cQ (fun hc => ?_) (fun hc => ?_) <;> try exact prA))
         | (refine isD 56 ?_; refine WPl.rdX (ReadR.binE rfl rfl BinR.lss (congrArg Value.bool (decide_eq_true hil'))) ?_)
         | (refine isD 59 ?_; refine WPl.rdX (ReadR.binE rfl rfl BinR.lss (congrArg Value.bool (decide_eq_true hi40'))) ?_)
         | (refine isD 67 ?_; refine WPl.rdX (ReadR.indexE (i := i) rfl rfl hasA hil) ?_)
         | (refine isD 68 ?_; refine WPl.rdX (ReadR.loadES (cs := daC x) hxp (by omega) rfl hasA) ?_)
         | (refine isD 86 ?_; refine WPl.rdX (ReadR.binE rfl rfl BinR.neq (congrArg (fun q => Value.bool (!q)) (decide_eq_true (okB_cn N (i + 1) (SB gV mD vd gX N (i + 1) e) (by (repeat (obtain ⟨hk1, hk⟩ := hk)) <;> assumption))))) ?_)
         | (refine isOp ?_; first | refine WPl.rd ?_ | refine WPl.sk ?_ | refine WPl.rdB ?_)
         | (show WPl _ _ _ _ _ _ _ (⟨_, .indexAddr _ _ _, _, _, _, _⟩ :: _) _; refine WPl.rdX (ReadR.indexE rfl rfl hasA (by first | assumption | omega)) ?_)
         | (show WPl _ _ _ _ _ _ _ (⟨_, .fieldAddr _ _ _, _, _, _, _⟩ :: _) _; refine WPl.rdX (ReadR.fieldE rfl hasA (by first | assumption | omega)) ?_)
         | (show WPl _ _ _ _ _ _ _ (⟨_, .load _ _, _, _, _, _⟩ :: _) _; first | refine WPl.rdX (ReadR.loadE rfl hasA (by assumption)) ?_ | refine WPl.rdX (ReadR.loadES (by assumption) (by first | assumption | omega) rfl hasA) ?_)
         | (show WPl _ _ _ _ _ _ _ (⟨_, .slice _ _ _ _ _, _, _, _, _⟩ :: _) _; first | refine WPl.rdX (ReadR.sliceH rfl rfl hasA (by omega)) ?_ | refine WPl.rdX (ReadR.sliceL rfl rfl hasA (by omega)) ?_ | refine WPl.rdX (ReadR.sliceLH rfl rfl rfl hasA (by omega) (by omega)) ?_)
         | (refine WPl.spQ (fun hc => ?_) (fun hc => ?_) <;> try exact prA)
         | fail)
        dsimp only [Nat.reduceAdd] at *
        have hA : okB N (i + 1) (pickG (fun s : DS × RfS => bothA gV mD vd gX s.1 s.2) (fun s => okB N (i + 1) s) (e 6).2) := by assumption
        obtain ⟨T, hT⟩ : ∃ T, T = (pickG (fun s : DS × RfS => bothA gV mD vd gX s.1 s.2) (fun s => okB N (i + 1) s) (e 6).2) := ⟨_, rfl⟩
        rw [← hT] at hA ⊢
        exact WPq.rnd (i + 1, T) ⟨hi40, hA⟩ (by dsimp only; omega)
      · by_cases hil : i < l.length
        · have hil' : (i : Int) < (l.length : Int) := by omega
          have hi40' : ¬ (i : Int) < 40 := by omega
          repeat' (first
           | refine WPl.nil ?_ | refine WPq.then ?_ | refine WPq.thenR ?_ | refine WPq.thenE ?_ | refine WPq.blockN ?_ | refine WPq.blockR ?_ | refine WPq.blockE ?_ | refine WPq.blockO rfl ?_ | refine WPc.seq ?_ | refine WPc.block ?_ | refine WPc.ret ?_ | refine WPc.exit ?_ | refine WPc.skip ?_ | refine WPc.region ?_
           | (refine isCond ?_; first | refine WPc.cT ?_ | refine WPc.cF ?_ | (refine WPc.cQ (fun hc => ?_) (fun hc => ?_) <;> try exact prA))
           | (refine isD 56 ?_; refine WPl.rdX (ReadR.binE rfl rfl BinR.lss (congrArg Value.bool (decide_eq_true hil'))) ?_)
           | (refine isD 59 ?_; refine WPl.rdX (ReadR.binE rfl rfl BinR.lss (congrArg Value.bool (decide_eq_false hi40'))) ?_)
           | (refine isOp ?_; first | refine WPl.rd ?_ | refine WPl.sk ?_ | refine WPl.rdB ?_)
           | (show WPl _ _ _ _ _ _ _ (⟨_, .indexAddr _ _ _, _, _, _, _⟩ :: _) _; refine WPl.rdX (ReadR.indexE rfl rfl hasA (by first | assumption | omega)) ?_)
           | (show WPl _ _ _ _ _ _ _ (⟨_, .fieldAddr _ _ _, _, _, _, _⟩ :: _) _; refine WPl.rdX (ReadR.fieldE rfl hasA (by first | assumption | omega)) ?_)
           | (show WPl _ _ _ _ _ _ _ (⟨_, .load _ _, _, _, _, _⟩ :: _) _; first | refine WPl.rdX (ReadR.loadE rfl hasA (by assumption)) ?_ | refine WPl.rdX (ReadR.loadES (by assumption) (by first | assumption | omega) rfl hasA) ?_)
           | (show WPl _ _ _ _ _ _ _ (⟨_, .slice _ _ _ _ _, _, _, _, _⟩ :: _) _; first | refine WPl.rdX (ReadR.sliceH rfl rfl hasA (by omega)) ?_ | refine WPl.rdX (ReadR.sliceL rfl rfl hasA (by omega)) ?_ | refine WPl.rdX (ReadR.sliceLH rfl rfl rfl hasA (by omega) (by omega)) ?_)
           | (refine WPl.spQ (fun hc => ?_) (fun hc => ?_) <;> try exact prA)
           | fail)
          exact WPq.join (S, R) ⟨hvw, hSi.mono hi, hRi.mono hi⟩
        · have hil' : ¬ (i : Int) < (l.length : Int) := by omega
          repeat' (first
           | refine WPl.nil ?_ | refine WPq.then ?_ | refine WPq.thenR ?_ | refine WPq.thenE ?_ | refine WPq.blockN ?_ | refine WPq.blockR ?_ | refine WPq.blockE ?_ | refine WPq.blockO rfl ?_ | refine WPc.seq ?_ | refine WPc.block ?_ | refine WPc.ret ?_ | refine WPc.exit ?_ | refine WPc.skip ?_ | refine WPc.region ?_
           | (refine isCond ?_; first | refine WPc.cT ?_ | refine WPc.cF ?_ | (refine WPc.cQ (fun hc => ?_) (fun hc => ?_) <;> try exact prA))
           | (refine isD 56 ?_; refine WPl.rdX (ReadR.binE rfl rfl BinR.lss (congrArg Value.bool (decide_eq_false hil'))) ?_)
           | (refine isOp ?_; first | refine WPl.rd ?_ | refine WPl.sk ?_ | refine WPl.rdB ?_)
           | (show WPl _ _ _ _ _ _ _ (⟨_, .indexAddr _ _ _, _, _, _, _⟩ :: _) _; refine WPl.rdX (ReadR.indexE rfl rfl hasA (by first | assumption | omega)) ?_)
           | (show WPl _ _ _ _ _ _ _ (⟨_, .fieldAddr _ _ _, _, _, _, _⟩ :: _) _; refine WPl.rdX (ReadR.fieldE rfl hasA (by first | assumption | omega)) ?_)
           | (show WPl _ _ _ _ _ _ _ (⟨_, .load _ _, _, _, _, _⟩ :: _) _; first | refine WPl.rdX (ReadR.loadE rfl hasA (by assumption)) ?_ | refine WPl.rdX (ReadR.loadES (by assumption) (by first | assumption | omega) rfl hasA) ?_)
           | (show WPl _ _ _ _ _ _ _ (⟨_, .slice _ _ _ _ _, _, _, _, _⟩ :: _) _; first | refine WPl.rdX (ReadR.sliceH rfl rfl hasA (by omega)) ?_ | refine WPl.rdX (ReadR.sliceL rfl rfl hasA (by omega)) ?_ | refine WPl.rdX (ReadR.sliceLH rfl rfl rfl hasA (by omega) (by omega)) ?_)
           | (refine WPl.spQ (fun hc => ?_) (fun hc => ?_) <;> try exact prA)
           | fail)
          exact WPq.join (S, R) ⟨hvw, hSi.mono hi, hRi.mono hi⟩
    clear hR0 hRi hS hSi hSl hSn c47 c52
    obtain ⟨S, R⟩ := st
    obtain ⟨hvw, hSi, hRi⟩ := hx
    dsimp only at hvw hSi hRi ⊢
    have c89 := dcrash0_t gV mD vd N 40 S hSi (by omega) (by omega)
    have c91 := rcrash0_t gX N 40 R hRi (by omega) (by omega)
    rw [hvw] at c89
    repeat' (first
     | refine WPl.nil ?_ | refine WPq.then ?_ | refine WPq.thenR ?_ | refine WPq.thenE ?_ | refine WPq.blockN ?_ | refine WPq.blockR ?_ | refine WPq.blockE ?_ | refine WPq.blockO rfl ?_ | refine WPc.seq ?_ | refine WPc.block ?_ | refine WPc.ret ?_ | refine WPc.exit ?_ | refine WPc.skip ?_ | refine WPc.region ?_
     | (refine isCond ?_; first | refine WPc.cT ?_ | refine WPc.cF ?_ | (refine WPc.cQ (fun hc => ?_) (fun hc => ?_) <;> try exact prA))
     | (refine isC 89 ?_; refine WPl.cXs (c89) fun v Γ1 hR => ?_; obtain ⟨S1, rfl, hS1, hSi1, rfl⟩ := hR; (try dsimp only [putF, List.cons_append, List.nil_append]))
     | (refine isC 91 ?_; refine WPl.cXs (c91) fun v Γ1 hR => ?_; obtain ⟨R1, rfl, hR1, hRi1, rfl⟩ := hR; (try dsimp only [putF, List.cons_append, List.nil_append]))
     | (refine isOp ?_; first | refine WPl.rd ?_ | refine WPl.sk ?_ | refine WPl.rdB ?_)
     | (show WPl _ _ _ _ _ _ _ (⟨_, .indexAddr _ _ _, _, _, _, _⟩ :: _) _; refine WPl.rdX (ReadR.indexE rfl rfl hasA (by first | assumption | omega)) ?_)
     | (show WPl _ _ _ _ _ _ _ (⟨_, .fieldAddr _ _ _, _, _, _, _⟩ :: _) _; refine WPl.rdX (ReadR.fieldE rfl hasA (by first | assumption | omega)) ?_)
     | (show WPl _ _ _ _ _ _ _ (⟨_, .load _ _, _, _, _, _⟩ :: _) _; first | refine WPl.rdX (ReadR.loadE rfl hasA (by assumption)) ?_ | refine WPl.rdX (ReadR.loadES (by assumption) (by first | assumption | omega) rfl hasA) ?_)
     | (show WPl _ _ _ _ _ _ _ (⟨_, .slice _ _ _ _ _, _, _, _, _⟩ :: _) _; first | refine WPl.rdX (ReadR.sliceH rfl rfl hasA (by omega)) ?_ | refine WPl.rdX (ReadR.sliceL rfl rfl hasA (by omega)) ?_ | refine WPl.rdX (ReadR.sliceLH rfl rfl rfl hasA (by omega) (by omega)) ?_)
     | (refine WPl.spQ (fun hc => ?_) (fun hc => ?_) <;> try exact prA)
     | fail)
    first | refine WPc.loop (σ := Nat × DS) (fun st => st.1 ≤ N ∧ st.2.vw = R.vw.crash0 ∧ DInv N 40 st.2) (fun st => [bx gV 79 (dvc st.2.fu vd mD st.2.cn), rowN 81 256 vd st.2.ls.length (secs st.2.ls), mp secM mD st.2.es, bag st.2.es, bx gX 51 (rdc R1.vL R1.vA R1.vB R1.fu R1.wr), rowN 31 1 R1.vL R1.L.length (valsV R1.L), rowN 3 1 R1.vA R1.Z.length (intsV (zAt R1.Z)), rowN 31 1 R1.vB R1.Z.length (valsV (zB R1.Z)), vault R1.rs]) (fun st => [(0, .int .i64 (N : Int)), (5, hD gV), (7, hD gX), (9, .int .i64 (st.1 : Int))]) (fun st => N - st.1) ((0, S1)) ?_ takesA frsA (fun st km hx hk => ?_)
    · exact ⟨Nat.zero_le _, hS1, hSi1⟩
    clear c89 c91 hS1 hSi1 hSi hRi
    obtain ⟨i, S⟩ := st
    obtain ⟨hi, hvS, hSi⟩ := hx
    dsimp only at hi hvS hSi hk ⊢
    have hkm : km = N - i := hk
    clear hk
    by_cases hlt : i < N
    · have c100 := drd_t gV mD vd N 40 S i hSi (by omega) (by omega) hlt
      rw [hvS, rd_crash0] at c100
      have c107 := rnow_t gX N 40 R1 i hRi1 (by omega) (by omega) hlt
      have hin := hRi1.now hlt
      have hnv := nowR_vw N 40 R1 hRi1 i hlt
      rw [hR1] at hnv
      obtain ⟨x, hx⟩ : ∃ x, x = nowR R1 i := ⟨_, rfl⟩
      rw [← hx] at c107 hin hnv
      have hin' : (x.1, x.2) ∈ R1.rs := hin.1
      rw [← hnv] at c100
      repeat' (first
       | refine WPl.nil ?_ | refine WPq.then ?_ | refine WPq.thenR ?_ | refine WPq.thenE ?_ | refine WPq.blockN ?_ | refine WPq.blockR ?_ | refine WPq.blockE ?_ | refine WPq.blockO rfl ?_ | refine WPc.seq ?_ | refine WPc.block ?_ | refine WPc.ret ?_ | refine WPc.exit ?_ | refine WPc.skip ?_ | refine WPc.region ?_
       | (refine isReg 21 ?_; refine WPc.drA [([], [105, 106, 107, 108]), ([0], [103, 105, 106, 107, 108]), ([], [103, 104, 106]), ([], [103, 104, 105]), ([2, 3], [103, 104, 105, 106]), ([2, 3, 4], [103, 104, 105, 106, 107]), ([0, 1, 2, 3, 4, 5], [103, 104, 105, 106, 107, 108])] [] (Γx := []) ?_; dsimp only [prev0, List.length_nil, List.length_cons])
       | (refine gAny ?_; first | (refine gD 104 ?_; refine RGl.rdX (fun e hk => by (try dsimp only [bndR, ensR, oksR, fcutR, List.append_nil, List.nil_append, List.cons_append, List.append_assoc] at hk ⊢); exact ReadR.str rfl rfl rfl hasA) ?_) | (refine gOp ?_; (refine gC 107 ?_; refine RGl.vl (fun e hk => OpT.callN c107 (hΔ := by (try dsimp only [bndR, ensR, oksR, fcutR, List.append_nil, List.nil_append, List.cons_append, List.append_assoc] at hk ⊢); exact provsW)) ?_)) | (refine gD 108 ?_; refine RGl.rdX (fun e hk => by (try dsimp only [bndR, ensR, oksR, fcutR, List.append_nil, List.nil_append, List.cons_append, List.append_assoc] at hk ⊢); exact ReadR.str rfl rfl rfl (HasS.vault memA hin')) ?_) | (refine gD 109 ?_; refine RGl.rdX (fun e hk => by (try dsimp only [bndR, ensR, oksR, fcutR, List.append_nil, List.nil_append, List.cons_append, List.append_assoc] at hk ⊢); exact ReadR.binE rfl rfl BinR.strUN (congrArg (fun q => Value.bool (!q)) (decide_eq_true rfl))) ?_) | (refine gOp ?_; first | refine RGl.rdA ?_ | refine RGl.rdX (fun e hk => by (try dsimp only [bndR, ensR, oksR, fcutR, List.append_nil, List.nil_append, List.cons_append, List.append_assoc] at hk ⊢); exact readB) ?_) | (refine RGl.fin (fun e hk => ?_); (try dsimp only [bndA, ensAR, oksA, List.append_nil, List.nil_append, List.cons_append, List.append_assoc] at hk ⊢); (repeat (obtain ⟨hk1, hk⟩ := hk))) | fail)
       | (refine isCond ?_; first | refine WPc.cT ?_ | refine WPc.cF ?_ | (refine WPc.cQ (fun hc => ?_) (fun hc => ?_) <;> try first | exact prA | (exfalso; first | omega)))
       | (refine isC 100 ?_; refine WPl.cXs (c100) fun v Γ1 hR => ?_; obtain ⟨S2, sv, rfl, hsv, hS2, hSi2, rfl⟩ := hR; (try dsimp only [putF, List.cons_append, List.nil_append]))
       | (refine isD 104 ?_; refine WPl.rdX (ReadR.str rfl rfl rfl hasA) ?_)
       | (refine isD 108 ?_; refine WPl.rdX (ReadR.str rfl rfl rfl (HasS.vault memA hin')) ?_)
       | (refine isD 109 ?_; refine WPl.rdX (ReadR.binE rfl rfl BinR.strUN (congrArg (fun q => Value.bool (!q)) (decide_eq_true rfl))) ?_)
       | (refine isOp ?_; first | refine WPl.rd ?_ | refine WPl.sk ?_ | refine WPl.rdB ?_)
       | (show WPl _ _ _ _ _ _ _ (⟨_, .indexAddr _ _ _, _, _, _, _⟩ :: _) _; refine WPl.rdX (ReadR.indexE rfl rfl hasA (by first | assumption | omega)) ?_)
       | (show WPl _ _ _ _ _ _ _ (⟨_, .fieldAddr _ _ _, _, _, _, _⟩ :: _) _; refine WPl.rdX (ReadR.fieldE rfl hasA (by first | assumption | omega)) ?_)
       | (show WPl _ _ _ _ _ _ _ (⟨_, .load _ _, _, _, _, _⟩ :: _) _; first | refine WPl.rdX (ReadR.loadE rfl hasA (by assumption)) ?_ | refine WPl.rdX (ReadR.loadES (by assumption) (by first | assumption | omega) rfl hasA) ?_)
       | (show WPl _ _ _ _ _ _ _ (⟨_, .slice _ _ _ _ _, _, _, _, _⟩ :: _) _; first | refine WPl.rdX (ReadR.sliceH rfl rfl hasA (by omega)) ?_ | refine WPl.rdX (ReadR.sliceL rfl rfl hasA (by omega)) ?_ | refine WPl.rdX (ReadR.sliceLH rfl rfl rfl hasA (by omega) (by omega)) ?_)
       | (refine WPl.spQ (fun hc => ?_) (fun hc => ?_) <;> try first | exact prA | (exfalso; first | omega))
       | fail)
      exact WPq.rnd (i + 1, S2) ⟨hlt, hS2, hSi2⟩ (by dsimp only; omega)
    · skip
      repeat' (first
       | refine WPl.nil ?_ | refine WPq.then ?_ | refine WPq.thenR ?_ | refine WPq.thenE ?_ | refine WPq.blockN ?_ | refine WPq.blockR ?_ | refine WPq.blockE ?_ | refine WPq.blockO rfl ?_ | refine WPc.seq ?_ | refine WPc.block ?_ | refine WPc.ret ?_ | refine WPc.exit ?_ | refine WPc.skip ?_ | refine WPc.region ?_
       | (refine isCond ?_; first | refine WPc.cT ?_ | refine WPc.cF ?_ | (refine WPc.cQ (fun hc => ?_) (fun hc => ?_) <;> try first | exact prA | (exfalso; first | omega)))
       | (refine isC 110 ?_; refine WPl.cV (clv) ?_)
       | (refine isOp ?_; first | refine WPl.rd ?_ | refine WPl.sk ?_ | refine WPl.rdB ?_)
       | (show WPl _ _ _ _ _ _ _ (⟨_, .indexAddr _ _ _, _, _, _, _⟩ :: _) _; refine WPl.rdX (ReadR.indexE rfl rfl hasA (by first | assumption | omega)) ?_)
       | (show WPl _ _ _ _ _ _ _ (⟨_, .fieldAddr _ _ _, _, _, _, _⟩ :: _) _; refine WPl.rdX (ReadR.fieldE rfl hasA (by first | assumption | omega)) ?_)
       | (show WPl _ _ _ _ _ _ _ (⟨_, .load _ _, _, _, _, _⟩ :: _) _; first | refine WPl.rdX (ReadR.loadE rfl hasA (by assumption)) ?_ | refine WPl.rdX (ReadR.loadES (by assumption) (by first | assumption | omega) rfl hasA) ?_)
       | (show WPl _ _ _ _ _ _ _ (⟨_, .slice _ _ _ _ _, _, _, _, _⟩ :: _) _; first | refine WPl.rdX (ReadR.sliceH rfl rfl hasA (by omega)) ?_ | refine WPl.rdX (ReadR.sliceL rfl rfl hasA (by omega)) ?_ | refine WPl.rdX (ReadR.sliceLH rfl rfl rfl hasA (by omega) (by omega)) ?_)
       | (refine WPl.spQ (fun hc => ?_) (fun hc => ?_) <;> try first | exact prA | (exfalso; first | omega))
       | fail)
      exact WPq.dV
  · have c14 := newNo_t n (by omega)
    by_cases h16 : n < 16
    · skip
      refine Triple.enter Try.func5 rfl Try.ntmps5 rfl (fun W => ?_)
      dsimp only [argsF, Nat.reduceAdd]
      repeat' (first
       | refine WPl.nil ?_ | refine WPq.then ?_ | refine WPq.thenR ?_ | refine WPq.thenE ?_ | refine WPq.blockN ?_ | refine WPq.blockR ?_ | refine WPq.blockE ?_ | refine WPq.blockO rfl ?_ | refine WPc.seq ?_ | refine WPc.block ?_ | refine WPc.ret ?_ | refine WPc.exit ?_ | refine WPc.skip ?_ | refine WPc.region ?_
       | (refine isCond ?_; first | refine WPc.cT ?_ | refine WPc.cF ?_ | (refine WPc.cQ (fun hc => ?_) (fun hc => ?_) <;> try exact prA))
       | (refine isC 14 ?_; refine WPl.cV (c14) ?_)
       | (refine isD 18 ?_; refine WPl.rdX (ReadR.binE rfl rfl BinR.lss (congrArg Value.bool (decide_eq_true h16))) ?_)
       | (refine isD 24 ?_; refine WPl.rdX (readP) ?_)
       | (refine isD 27 ?_; refine WPl.rdX (ReadR.binE rfl rfl BinR.eql (congrArg Value.bool (decide_eq_true rfl))) ?_)
       | (refine isC 30 ?_; refine WPl.cV (clv) ?_)
       | (refine isOp ?_; first | refine WPl.rd ?_ | refine WPl.sk ?_ | refine WPl.rdB ?_)
       | (show WPl _ _ _ _ _ _ _ (⟨_, .indexAddr _ _ _, _, _, _, _⟩ :: _) _; refine WPl.rdX (ReadR.indexE rfl rfl hasA (by first | assumption | omega)) ?_)
       | (show WPl _ _ _ _ _ _ _ (⟨_, .fieldAddr _ _ _, _, _, _, _⟩ :: _) _; refine WPl.rdX (ReadR.fieldE rfl hasA (by first | assumption | omega)) ?_)
       | (show WPl _ _ _ _ _ _ _ (⟨_, .load _ _, _, _, _, _⟩ :: _) _; first | refine WPl.rdX (ReadR.loadE rfl hasA (by assumption)) ?_ | refine WPl.rdX (ReadR.loadES (by assumption) (by first | assumption | omega) rfl hasA) ?_)
       | (show WPl _ _ _ _ _ _ _ (⟨_, .slice _ _ _ _ _, _, _, _, _⟩ :: _) _; first | refine WPl.rdX (ReadR.sliceH rfl rfl hasA (by omega)) ?_ | refine WPl.rdX (ReadR.sliceL rfl rfl hasA (by omega)) ?_ | refine WPl.rdX (ReadR.sliceLH rfl rfl rfl hasA (by omega) (by omega)) ?_)
       | (refine WPl.spQ (fun hc => ?_) (fun hc => ?_) <;> try exact prA)
       | fail)
      exact WPq.dV
    · have h17 : n > 1600 := by omega
      refine Triple.enter Try.func5 rfl Try.ntmps5 rfl (fun W => ?_)
      dsimp only [argsF, Nat.reduceAdd]
      repeat' (first
       | refine WPl.nil ?_ | refine WPq.then ?_ | refine WPq.thenR ?_ | refine WPq.thenE ?_ | refine WPq.blockN ?_ | refine WPq.blockR ?_ | refine WPq.blockE ?_ | refine WPq.blockO rfl ?_ | refine WPc.seq ?_ | refine WPc.block ?_ | refine WPc.ret ?_ | refine WPc.exit ?_ | refine WPc.skip ?_ | refine WPc.region ?_
       | (refine isCond ?_; first | refine WPc.cT ?_ | refine WPc.cF ?_ | (refine WPc.cQ (fun hc => ?_) (fun hc => ?_) <;> try exact prA))
       | (refine isC 14 ?_; refine WPl.cV (c14) ?_)
       | (refine isD 18 ?_; refine WPl.rdX (ReadR.binE rfl rfl BinR.lss (congrArg Value.bool (decide_eq_false h16))) ?_)
       | (refine isD 21 ?_; refine WPl.rdX (ReadR.binE rfl rfl BinR.gtr (congrArg Value.bool (decide_eq_true h17))) ?_)
       | (refine isD 24 ?_; refine WPl.rdX (readP) ?_)
       | (refine isD 27 ?_; refine WPl.rdX (ReadR.binE rfl rfl BinR.eql (congrArg Value.bool (decide_eq_true rfl))) ?_)
       | (refine isC 30 ?_; refine WPl.cV (clv) ?_)
       | (refine isOp ?_; first | refine WPl.rd ?_ | refine WPl.sk ?_ | refine WPl.rdB ?_)
       | (show WPl _ _ _ _ _ _ _ (⟨_, .indexAddr _ _ _, _, _, _, _⟩ :: _) _; refine WPl.rdX (ReadR.indexE rfl rfl hasA (by first | assumption | omega)) ?_)
       | (show WPl _ _ _ _ _ _ _ (⟨_, .fieldAddr _ _ _, _, _, _, _⟩ :: _) _; refine WPl.rdX (ReadR.fieldE rfl hasA (by first | assumption | omega)) ?_)
       | (show WPl _ _ _ _ _ _ _ (⟨_, .load _ _, _, _, _, _⟩ :: _) _; first | refine WPl.rdX (ReadR.loadE rfl hasA (by assumption)) ?_ | refine WPl.rdX (ReadR.loadES (by assumption) (by first | assumption | omega) rfl hasA) ?_)
       | (show WPl _ _ _ _ _ _ _ (⟨_, .slice _ _ _ _ _, _, _, _, _⟩ :: _) _; first | refine WPl.rdX (ReadR.sliceH rfl rfl hasA (by omega)) ?_ | refine WPl.rdX (ReadR.sliceL rfl rfl hasA (by omega)) ?_ | refine WPl.rdX (ReadR.sliceLH rfl rfl rfl hasA (by omega) (by omega)) ?_)
       | (refine WPl.spQ (fun hc => ?_) (fun hc => ?_) <;> try exact prA)
       | fail)
      exact WPq.dV
end Go.Proofs.Ytepmikgjnmjheaa
