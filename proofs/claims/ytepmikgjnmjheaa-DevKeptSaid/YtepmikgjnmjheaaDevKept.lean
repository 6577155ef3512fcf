/- DevKept: a sector that was written several times has, behind a loss of power, the bytes of just one of these writes, as told, or those that lasted. -/
import Derived.Test.YtepmikgjnmjheaaDb
namespace Go.Proofs.Ytepmikgjnmjheaa
open Go.RowKit
set_option linter.unusedSimpArgs false
set_option linter.unusedVariables false
set_option maxRecDepth 20000
set_option maxHeartbeats 4000000
attribute [local irreducible] WPc WPl WPq ReadR OpT BinR HasS bx rdN rowN Take Takes Prov Triple ResF BuildP Done ag Int.decLt Int.decLe Int.instDecidableEq
attribute [local irreducible] mp rmp rg rgo bag vrow secs mput mget mfind mdel intsV skeys wantK K5 crashT
theorem u8s_at {l : List UInt8} {i : Nat} {b : UInt8} (h : l[i]? = some b) : (u8s l)[i]? = some (.int .u8 ((b.toNat : Nat) : Int)) := by unfold u8s; rw [List.getElem?_map, h]; rfl
def ls16 : List Sec := List.replicate 16 (secF 0)
theorem ls16_len : ls16.length = 16 := by with_unfolding_all rfl
theorem ls16_read (b : UInt8) : nowS ((ls16.set 5 (secF b))[5]'(by rw [List.length_set, ls16_len]; omega)) [] 5 = secF b := by
  with_unfolding_all rfl
theorem kcrash_t (gV mD : Nat) (vd : Value) (cn : Int) (es : List (Int × Vs)) (lv : Value) (l : List UInt8) (kept : Int) (hk : in64 kept) (hl : l.length ≤ 20) (h5 : K5 es (l.map secF)) (hd : DOk 16 l.length es cn) :
    Triple Try.prog 17 #[hD gV, lv] ([rdN lv 1 [.int .i64 kept]] ++ [bx gV 79 (dvc f4 vd mD cn), rowN 81 256 vd 16 (secs ls16), mp secM mD es, bag es]) (RTurns (resV []) [bx gV 79 (dvc f4 vd mD cn), rowN 81 256 vd 16 (secs (ls16.set 5 (secF (wantK l kept)))), mp secM mD [], bag []]) := by
  have hle := hd.len
  have := crashR_t gV mD vd cn ls16 es f4 lv [kept] (by simp) (fun a ha => by rw [List.mem_singleton.1 ha]; exact hk) (by rw [ls16_len]; omega) (by omega) rfl (by rw [ls16_len]; exact hd.eok (by omega))
  rw [show crashT es [kept] (skeys es) es.length ls16 = ls16.set 5 (secF (wantK l kept)) from h5.crash kept, ls16_len] at this
  have h0 : intsV [kept] = [.int .i64 kept] := by with_unfolding_all rfl
  rw [h0] at this
  exact this
theorem wantK_big (l : List UInt8) (kept : Int) (h : kept > (l.length : Int)) : wantK l kept = wantK l (l.length : Int) := by
  with_unfolding_all (unfold wantK; rw [show min kept (l.length : Int) = (l.length : Int) by omega, show min (l.length : Int) (l.length : Int) = (l.length : Int) by omega])
theorem wantK_pos (l : List UInt8) (k : Nat) (b : UInt8) (h : l[k]? = some b) : wantK l ((k : Int) + 1) = b := by
  have hlt : k < l.length := (List.getElem?_eq_some_iff.1 h).1
  with_unfolding_all (unfold wantK; rw [if_pos (by omega), show (min ((k : Int) + 1) (l.length : Int)).toNat - 1 = k by omega, List.getD_eq_getElem?_getD, h]; rfl)
theorem wantK_get (l : List UInt8) (k : Int) (h : k > 0) (h2 : k ≤ (l.length : Int)) : wantK l k = l.getD (k - 1).toNat 0 := by
  with_unfolding_all (unfold wantK; rw [if_pos (by omega), show (min k (l.length : Int)).toNat - 1 = (k - 1).toNat by omega])
theorem wantK_no (l : List UInt8) (kept : Int) (h : ¬ kept > 0) : wantK l kept = 0 := by
  with_unfolding_all (unfold wantK; rw [if_neg (by omega)])
theorem devKept_t (vl : Value) (l0 : List UInt8) (kept : Int) (hk64 : in64 kept) :
    Triple Try.prog 4 #[vl, .int .i64 kept] [rb vl l0] (RVal (.bool true)) := by
  have c12 := new_t 16 (by omega) (by omega)
  unfold RNewD at c12
  rw [show List.replicate 16 (secF 0) = ls16 from rfl, ls16_len] at c12
  have clv := lives_t
  refine Triple.enter Try.func4 rfl Try.ntmps4 rfl (fun W => ?_)
  dsimp only [argsF, Nat.reduceAdd]
  repeat' (first
   | (refine isSeqR 4 ?_; refine WPc.join (σ := Value × List UInt8) (fun st => st.2.length ≤ 20) (fun st => [rb st.1 st.2, bx gV 79 (dvc f4 vd mD 0), rowN 81 256 vd 16 (secs ls16), mp secM mD [], bag []]) (fun st => [(0, st.1), (1, .int .i64 kept), (5, hD gV)]) ?_ (fun st hx => ?_))
   | refine WPl.nil ?_ | refine WPq.then ?_ | refine WPq.thenR ?_ | refine WPq.thenE ?_ | refine WPq.blockN ?_ | refine WPq.blockR ?_ | refine WPq.blockE ?_ | refine WPq.blockO rfl ?_ | refine WPc.seq ?_ | refine WPc.block ?_ | refine WPc.ret ?_ | refine WPc.exit ?_ | refine WPc.skip ?_ | refine WPc.region ?_
   | (refine isReg 17 ?_; refine WPc.drA [([], [63, 64, 65]), ([0], [61, 63, 64, 65]), ([], [61, 62]), ([2], [61, 62, 63]), ([2, 3], [61, 62, 63, 64]), ([0, 1, 2, 3, 4], [61, 62, 63, 64, 65]), ([0, 1, 2, 3, 4, 5], [61, 62, 63, 64, 65, 66]), ([0, 1, 2, 3, 4, 5, 6], [61, 62, 63, 64, 65, 66, 67]), ([0, 1, 2, 3, 4, 5, 6, 7], [61, 62, 63, 64, 65, 66, 67, 68]), ([0, 1, 2, 3, 4, 5, 6, 7, 8], [61, 62, 63, 64, 65, 66, 67, 68, 69]), ([0, 1, 2, 3, 4, 5, 6, 7, 8, 9], [61, 62, 63, 64, 65, 66, 67, 68, 69, 70]), ([0, 1, 2, 3, 4, 5, 6, 7, 8, 9, 10], [61, 62, 63, 64, 65, 66, 67, 68, 69, 70, 71]), ([0, 1, 2, 3, 4, 5, 6, 7, 8, 9, 10, 11], [61, 62, 63, 64, 65, 66, 67, 68, 69, 70, 71, 72]), ([0, 1, 2, 3, 4, 5, 6, 7, 8, 9, 10, 11, 12], [61, 62, 63, 64, 65, 66, 67, 68, 69, 70, 71, 72, 73]), ([0, 1, 2, 3, 4, 5, 6, 7, 8, 9, 10, 11, 12, 13], [61, 62, 63, 64, 65, 66, 67, 68, 69, 70, 71, 72, 73, 74]), ([0, 1, 2, 3, 4, 5, 6, 7, 8, 9, 10, 11, 12, 13, 14], [61, 62, 63, 64, 65, 66, 67, 68, 69, 70, 71, 72, 73, 74, 75]), ([0, 1, 2, 3, 4, 5, 6, 7, 8, 9, 10, 11, 12, 13, 14, 15], [61, 62, 63, 64, 65, 66, 67, 68, 69, 70, 71, 72, 73, 74, 75, 76]), ([0, 1, 2, 3, 4, 5, 6, 7, 8, 9, 10, 11, 12, 13, 14, 15, 16], [61, 62, 63, 64, 65, 66, 67, 68, 69, 70, 71, 72, 73, 74, 75, 76, 77]), ([0, 1, 2, 3, 4, 5, 6, 7, 8, 9, 10, 11, 12, 13, 14, 15, 16, 17], [61, 62, 63, 64, 65, 66, 67, 68, 69, 70, 71, 72, 73, 74, 75, 76, 77, 78]), ([0, 1, 2, 3, 4, 5, 6, 7, 8, 9, 10, 11, 12, 13, 14, 15, 16, 17, 18], [61, 62, 63, 64, 65, 66, 67, 68, 69, 70, 71, 72, 73, 74, 75, 76, 77, 78, 79])] [] (Γx := []) ?_; dsimp only [prev0, List.length_nil, List.length_cons])
   | (refine gAny ?_; first | (refine gGd ?_; refine RGl.skp ?_) | (refine gD 16 ?_; refine RGl.rdX (fun e hk => by (try dsimp only [bndR, ensR, oksR, fcutR, List.append_nil, List.nil_append, List.cons_append, List.append_assoc] at hk ⊢); exact readP) ?_) | (refine gOp ?_; first | refine RGl.rdA ?_ | refine RGl.rdX (fun e hk => by (try dsimp only [bndR, ensR, oksR, fcutR, List.append_nil, List.nil_append, List.cons_append, List.append_assoc] at hk ⊢); exact readB) ?_) | (refine RGl.fin (fun e hk => ?_); (try dsimp only [bndA, ensAR, oksA, List.append_nil, List.nil_append, List.cons_append, List.append_assoc] at hk ⊢); (repeat (obtain ⟨hk1, hk⟩ := hk))) | fail)
   | (refine isCond ?_; first | refine WPc.cT ?_ | refine WPc.cF ?_ | (refine WPc.cQ (fun hc => ?_) (fun hc => ?_) <;> try exact prA))
   | (refine isC 12 ?_; refine WPl.cXs (c12) fun v Γ1 hR => ?_; obtain ⟨gV, mD, vd, rfl, hvd, rfl⟩ := hR; (try dsimp only [putF, List.cons_append, List.nil_append]))
   | (refine isD 16 ?_; refine WPl.rdX (readP) ?_)
   | (refine isOp ?_; first | refine WPl.rd ?_ | refine WPl.sk ?_ | refine WPl.rdB ?_)
   | (show WPl _ _ _ _ _ _ _ (⟨_, .indexAddr _ _ _, _, _, _, _⟩ :: _) _; refine WPl.rdX (ReadR.indexE rfl rfl hasA (by first | assumption | omega)) ?_)
   | (show WPl _ _ _ _ _ _ _ (⟨_, .fieldAddr _ _ _, _, _, _, _⟩ :: _) _; refine WPl.rdX (ReadR.fieldE rfl hasA (by first | assumption | omega)) ?_)
   | (show WPl _ _ _ _ _ _ _ (⟨_, .load _ _, _, _, _, _⟩ :: _) _; first | refine WPl.rdX (ReadR.loadE rfl hasA (by assumption)) ?_ | refine WPl.rdX (ReadR.loadES (by assumption) (by first | assumption | omega) rfl hasA) ?_)
   | (show WPl _ _ _ _ _ _ _ (⟨_, .slice _ _ _ _ _, _, _, _, _⟩ :: _) _; first | refine WPl.rdX (ReadR.sliceH rfl rfl hasA (by omega)) ?_ | refine WPl.rdX (ReadR.sliceL rfl rfl hasA (by omega)) ?_ | refine WPl.rdX (ReadR.sliceLH rfl rfl rfl hasA (by omega) (by omega)) ?_)
   | (refine WPl.spQ (fun hc => ?_) (fun hc => ?_) <;> try exact prA)
   | fail)
  · refine WPq.subRd (v := vl) (m := l0.length) (sz := 1) (k := 0) (j := 20) (xs := u8s l0) memA (by rw [u8s_length]; omega) (by omega) ?_
    have hc2 : (l0.length : Int) > 20 := hc
    have e : rdN (subv 1 vl 0 20) 20 (((u8s l0).drop (0 * 1)).take (20 * 1)) = rb (subv 1 vl 0 20) (l0.take 20) := by
      rw [Nat.zero_mul, List.drop_zero, Nat.mul_one, u8s_take]
      show _ = rdN _ (l0.take 20).length _
      rw [List.length_take, show min 20 l0.length = 20 by omega]
    rw [e]
    exact WPq.join (subv 1 vl 0 20, l0.take 20) (by dsimp only; rw [List.length_take]; omega)
  · exact WPq.join (vl, l0) (by dsimp only; omega)
  obtain ⟨v, l⟩ := st
  have hl : l.length ≤ 20 := hx
  dsimp only
  first | refine WPc.loop (σ := Nat × List (Int × Vs) × Int) (fun st => st.1 ≤ l.length ∧ K5 st.2.1 ((l.take st.1).map secF) ∧ DOk 16 st.1 st.2.1 st.2.2) (fun st => [rb v l, bx gV 79 (dvc f4 vd mD st.2.2), rowN 81 256 vd 16 (secs ls16), mp secM mD st.2.1, bag st.2.1]) (fun st => [(0, v), (1, .int .i64 kept), (5, hD gV), (7, .int .i64 (st.1 : Int))]) (fun st => l.length - st.1) ((0, [], 0)) ?_ takesA frsA (fun st km hx hk => ?_)
  · exact ⟨Nat.zero_le _, by with_unfolding_all exact K5.nil, .nil (by dsimp only; omega) (by dsimp only; omega)⟩
  obtain ⟨i, es, cn⟩ := st
  obtain ⟨hi, h5, hd⟩ := hx
  dsimp only at hi h5 hd hk ⊢
  have hkm : km = l.length - i := hk
  clear hk
  by_cases hin : i < l.length
  · obtain ⟨b, hb⟩ : ∃ b, l[i]? = some b := ⟨_, List.getElem?_eq_getElem hin⟩
    have hb2 : (u8s l)[i]? = some (.int .u8 ((b.toNat : Nat) : Int)) := u8s_at hb
    have c38 := fun bv => wr_t gV mD vd cn ls16 es i 5 b bv (by omega) (by rw [ls16_len]; omega) (by rw [ls16_len]; exact hd)
    unfold RWr at c38
    rw [ls16_len] at c38
    have htk : l.take (i + 1) = l.take i ++ [b] := by rw [List.take_add_one, hb]; rfl
    repeat' (first
     | refine WPl.nil ?_ | refine WPq.then ?_ | refine WPq.thenR ?_ | refine WPq.thenE ?_ | refine WPq.blockN ?_ | refine WPq.blockR ?_ | refine WPq.blockE ?_ | refine WPq.blockO rfl ?_ | refine WPc.seq ?_ | refine WPc.block ?_ | refine WPc.ret ?_ | refine WPc.exit ?_ | refine WPc.skip ?_ | refine WPc.region ?_
     | (refine isReg 17 ?_; refine WPc.drA [([], [63, 64, 65]), ([0], [61, 63, 64, 65]), ([], [61, 62]), ([2], [61, 62, 63]), ([2, 3], [61, 62, 63, 64]), ([0, 1, 2, 3, 4], [61, 62, 63, 64, 65]), ([0, 1, 2, 3, 4, 5], [61, 62, 63, 64, 65, 66]), ([0, 1, 2, 3, 4, 5, 6], [61, 62, 63, 64, 65, 66, 67]), ([0, 1, 2, 3, 4, 5, 6, 7], [61, 62, 63, 64, 65, 66, 67, 68]), ([0, 1, 2, 3, 4, 5, 6, 7, 8], [61, 62, 63, 64, 65, 66, 67, 68, 69]), ([0, 1, 2, 3, 4, 5, 6, 7, 8, 9], [61, 62, 63, 64, 65, 66, 67, 68, 69, 70]), ([0, 1, 2, 3, 4, 5, 6, 7, 8, 9, 10], [61, 62, 63, 64, 65, 66, 67, 68, 69, 70, 71]), ([0, 1, 2, 3, 4, 5, 6, 7, 8, 9, 10, 11], [61, 62, 63, 64, 65, 66, 67, 68, 69, 70, 71, 72]), ([0, 1, 2, 3, 4, 5, 6, 7, 8, 9, 10, 11, 12], [61, 62, 63, 64, 65, 66, 67, 68, 69, 70, 71, 72, 73]), ([0, 1, 2, 3, 4, 5, 6, 7, 8, 9, 10, 11, 12, 13], [61, 62, 63, 64, 65, 66, 67, 68, 69, 70, 71, 72, 73, 74]), ([0, 1, 2, 3, 4, 5, 6, 7, 8, 9, 10, 11, 12, 13, 14], [61, 62, 63, 64, 65, 66, 67, 68, 69, 70, 71, 72, 73, 74, 75]), ([0, 1, 2, 3, 4, 5, 6, 7, 8, 9, 10, 11, 12, 13, 14, 15], [61, 62, 63, 64, 65, 66, 67, 68, 69, 70, 71, 72, 73, 74, 75, 76]), ([0, 1, 2, 3, 4, 5, 6, 7, 8, 9, 10, 11, 12, 13, 14, 15, 16], [61, 62, 63, 64, 65, 66, 67, 68, 69, 70, 71, 72, 73, 74, 75, 76, 77]), ([0, 1, 2, 3, 4, 5, 6, 7, 8, 9, 10, 11, 12, 13, 14, 15, 16, 17], [61, 62, 63, 64, 65, 66, 67, 68, 69, 70, 71, 72, 73, 74, 75, 76, 77, 78]), ([0, 1, 2, 3, 4, 5, 6, 7, 8, 9, 10, 11, 12, 13, 14, 15, 16, 17, 18], [61, 62, 63, 64, 65, 66, 67, 68, 69, 70, 71, 72, 73, 74, 75, 76, 77, 78, 79])] [] (Γx := []) ?_; dsimp only [prev0, List.length_nil, List.length_cons])
     | (refine gAny ?_; first | (refine gGd ?_; refine RGl.skp ?_) | (refine gC 37 ?_; refine RGl.row (Γ1 := fun _ => []) (fun e hk => OpT.callN (full_t b)) ?_) | (refine gD 36 ?_; refine RGl.rdX (fun e hk => by (try dsimp only [bndR, ensR, oksR, fcutR, List.append_nil, List.nil_append, List.cons_append, List.append_assoc] at hk ⊢); exact ReadR.loadE rfl hasA hb2) ?_) | (refine gOp ?_; first | refine RGl.rdA ?_ | refine RGl.rdX (fun e hk => by (try dsimp only [bndR, ensR, oksR, fcutR, List.append_nil, List.nil_append, List.cons_append, List.append_assoc] at hk ⊢); exact readB) ?_) | (refine RGl.fin (fun e hk => ?_); (try dsimp only [bndA, ensAR, oksA, List.append_nil, List.nil_append, List.cons_append, List.append_assoc] at hk ⊢); (repeat (obtain ⟨hk1, hk⟩ := hk))) | fail)
     | (refine isCond ?_; first | refine WPc.cT ?_ | refine WPc.cF ?_ | (refine WPc.cQ (fun hc => ?_) (fun hc => ?_) <;> try first | exact prA | (exfalso; first | omega)))
     | (refine isD 36 ?_; refine WPl.rdX (ReadR.loadE rfl hasA hb2) ?_)
     | (refine isC 37 ?_; refine WPl.cR (full_t b) fun bv hbv => ?_)
     | (refine isC 38 ?_; refine WPl.cXs (c38 bv) fun v Γ1 hR => ?_; (obtain ⟨es', cn', rfl, hws, rfl⟩ := hR; have d1 := hd.step hws; have k1 := h5.step hws); (try dsimp only [putF, List.cons_append, List.nil_append]))
     | (refine isOp ?_; first | refine WPl.rd ?_ | refine WPl.sk ?_ | refine WPl.rdB ?_)
     | (show WPl _ _ _ _ _ _ _ (⟨_, .indexAddr _ _ _, _, _, _, _⟩ :: _) _; refine WPl.rdX (ReadR.indexE rfl rfl hasA (by first | assumption | omega)) ?_)
     | (show WPl _ _ _ _ _ _ _ (⟨_, .fieldAddr _ _ _, _, _, _, _⟩ :: _) _; refine WPl.rdX (ReadR.fieldE rfl hasA (by first | assumption | omega)) ?_)
     | (show WPl _ _ _ _ _ _ _ (⟨_, .load _ _, _, _, _, _⟩ :: _) _; first | refine WPl.rdX (ReadR.loadE rfl hasA (by assumption)) ?_ | refine WPl.rdX (ReadR.loadES (by assumption) (by first | assumption | omega) rfl hasA) ?_)
     | (show WPl _ _ _ _ _ _ _ (⟨_, .slice _ _ _ _ _, _, _, _, _⟩ :: _) _; first | refine WPl.rdX (ReadR.sliceH rfl rfl hasA (by omega)) ?_ | refine WPl.rdX (ReadR.sliceL rfl rfl hasA (by omega)) ?_ | refine WPl.rdX (ReadR.sliceLH rfl rfl rfl hasA (by omega) (by omega)) ?_)
     | (refine WPl.spQ (fun hc => ?_) (fun hc => ?_) <;> try first | exact prA | (exfalso; first | omega))
     | fail)
    all_goals first | (exfalso; omega) | skip
    refine WPq.rnd (i + 1, es', cn') ⟨hin, ?_, d1⟩ (by dsimp only; omega)
    rw [htk, List.map_append]
    exact k1
  · have hil : i = l.length := by omega
    subst hil
    rw [List.take_length] at h5
    have c42 := fun va => kcrash_t gV mD vd cn es va l kept hk64 hl h5 hd
    repeat' (first
     | (refine isSeqR 12 ?_; refine WPc.join (σ := Int) (fun y => wantK l kept = wantK l y ∧ y ≤ (l.length : Int)) (fun y => [rb v l, bx gV 79 (dvc f4 vd mD cn), rowN 81 256 vd 16 (secs (ls16.set 5 (secF (wantK l kept)))), mp secM mD [], bag []]) (fun y => [(0, v), (1, .int .i64 y), (5, hD gV), (8, .int .u8 0)]) ?_ (fun st hx => ?_))
     | (refine isSeqR 14 ?_; refine WPc.join (σ := Unit) (fun _ => True) (fun _ => [rb v l, bx gV 79 (dvc f4 vd mD cn), rowN 81 256 vd 16 (secs (ls16.set 5 (secF (wantK l kept)))), mp secM mD [], bag []]) (fun _ => [(5, hD gV), (8, .int .u8 (((wantK l kept).toNat : Nat) : Int))]) ?_ (fun st hx => ?_))
     | refine WPl.nil ?_ | refine WPq.then ?_ | refine WPq.thenR ?_ | refine WPq.thenE ?_ | refine WPq.blockN ?_ | refine WPq.blockR ?_ | refine WPq.blockE ?_ | refine WPq.blockO rfl ?_ | refine WPc.seq ?_ | refine WPc.block ?_ | refine WPc.ret ?_ | refine WPc.exit ?_ | refine WPc.skip ?_ | refine WPc.region ?_
     | (refine isReg 17 ?_; refine WPc.drA [([], [63, 64, 65]), ([0], [61, 63, 64, 65]), ([], [61, 62]), ([2], [61, 62, 63]), ([2, 3], [61, 62, 63, 64]), ([0, 1, 2, 3, 4], [61, 62, 63, 64, 65]), ([0, 1, 2, 3, 4, 5], [61, 62, 63, 64, 65, 66]), ([0, 1, 2, 3, 4, 5, 6], [61, 62, 63, 64, 65, 66, 67]), ([0, 1, 2, 3, 4, 5, 6, 7], [61, 62, 63, 64, 65, 66, 67, 68]), ([0, 1, 2, 3, 4, 5, 6, 7, 8], [61, 62, 63, 64, 65, 66, 67, 68, 69]), ([0, 1, 2, 3, 4, 5, 6, 7, 8, 9], [61, 62, 63, 64, 65, 66, 67, 68, 69, 70]), ([0, 1, 2, 3, 4, 5, 6, 7, 8, 9, 10], [61, 62, 63, 64, 65, 66, 67, 68, 69, 70, 71]), ([0, 1, 2, 3, 4, 5, 6, 7, 8, 9, 10, 11], [61, 62, 63, 64, 65, 66, 67, 68, 69, 70, 71, 72]), ([0, 1, 2, 3, 4, 5, 6, 7, 8, 9, 10, 11, 12], [61, 62, 63, 64, 65, 66, 67, 68, 69, 70, 71, 72, 73]), ([0, 1, 2, 3, 4, 5, 6, 7, 8, 9, 10, 11, 12, 13], [61, 62, 63, 64, 65, 66, 67, 68, 69, 70, 71, 72, 73, 74]), ([0, 1, 2, 3, 4, 5, 6, 7, 8, 9, 10, 11, 12, 13, 14], [61, 62, 63, 64, 65, 66, 67, 68, 69, 70, 71, 72, 73, 74, 75]), ([0, 1, 2, 3, 4, 5, 6, 7, 8, 9, 10, 11, 12, 13, 14, 15], [61, 62, 63, 64, 65, 66, 67, 68, 69, 70, 71, 72, 73, 74, 75, 76]), ([0, 1, 2, 3, 4, 5, 6, 7, 8, 9, 10, 11, 12, 13, 14, 15, 16], [61, 62, 63, 64, 65, 66, 67, 68, 69, 70, 71, 72, 73, 74, 75, 76, 77]), ([0, 1, 2, 3, 4, 5, 6, 7, 8, 9, 10, 11, 12, 13, 14, 15, 16, 17], [61, 62, 63, 64, 65, 66, 67, 68, 69, 70, 71, 72, 73, 74, 75, 76, 77, 78]), ([0, 1, 2, 3, 4, 5, 6, 7, 8, 9, 10, 11, 12, 13, 14, 15, 16, 17, 18], [61, 62, 63, 64, 65, 66, 67, 68, 69, 70, 71, 72, 73, 74, 75, 76, 77, 78, 79])] [] (Γx := []) ?_; dsimp only [prev0, List.length_nil, List.length_cons])
     | (refine gAny ?_; first | (refine gGd ?_; refine RGl.skp ?_) | (refine gOp ?_; first | refine RGl.rdA ?_ | refine RGl.rdX (fun e hk => by (try dsimp only [bndR, ensR, oksR, fcutR, List.append_nil, List.nil_append, List.cons_append, List.append_assoc] at hk ⊢); exact readB) ?_) | (refine RGl.fin (fun e hk => ?_); (try dsimp only [bndA, ensAR, oksA, List.append_nil, List.nil_append, List.cons_append, List.append_assoc] at hk ⊢); (repeat (obtain ⟨hk1, hk⟩ := hk))) | fail)
     | (refine isCond ?_; first | refine WPc.cT ?_ | refine WPc.cF ?_ | (refine WPc.cQ (fun hc => ?_) (fun hc => ?_) <;> try first | exact prA | (exfalso; first | omega)))
     | (refine isLit ?_; refine WPl.lits fun va hva => ?_)
     | (refine isC 42 ?_; refine WPl.cO (c42 va) (fun v Γ1 hR => ?_) ?_; rotate_left; exact fpA; obtain ⟨rfl, rfl⟩ := hR; (try dsimp only [putF, List.cons_append, List.nil_append]))
     | (refine isOp ?_; first | refine WPl.rd ?_ | refine WPl.sk ?_ | refine WPl.rdB ?_)
     | (show WPl _ _ _ _ _ _ _ (⟨_, .indexAddr _ _ _, _, _, _, _⟩ :: _) _; refine WPl.rdX (ReadR.indexE rfl rfl hasA (by first | assumption | omega)) ?_)
     | (show WPl _ _ _ _ _ _ _ (⟨_, .fieldAddr _ _ _, _, _, _, _⟩ :: _) _; refine WPl.rdX (ReadR.fieldE rfl hasA (by first | assumption | omega)) ?_)
     | (show WPl _ _ _ _ _ _ _ (⟨_, .load _ _, _, _, _, _⟩ :: _) _; first | refine WPl.rdX (ReadR.loadE rfl hasA (by assumption)) ?_ | refine WPl.rdX (ReadR.loadES (by assumption) (by first | assumption | omega) rfl hasA) ?_)
     | (show WPl _ _ _ _ _ _ _ (⟨_, .slice _ _ _ _ _, _, _, _, _⟩ :: _) _; first | refine WPl.rdX (ReadR.sliceH rfl rfl hasA (by omega)) ?_ | refine WPl.rdX (ReadR.sliceL rfl rfl hasA (by omega)) ?_ | refine WPl.rdX (ReadR.sliceLH rfl rfl rfl hasA (by omega) (by omega)) ?_)
     | (refine WPl.spQ (fun hc => ?_) (fun hc => ?_) <;> try first | exact prA | (exfalso; first | omega))
     | fail)
    · exact WPq.join (l.length : Int) ⟨wantK_big l kept (by omega), by omega⟩
    · exact WPq.join kept ⟨rfl, by omega⟩
    · obtain ⟨hw, hy⟩ := hx
      rw [← wantK_get l st hc hy, ← hw]
      exact WPq.join () trivial
    · obtain ⟨hw, hy⟩ := hx
      rw [wantK_no l st (by omega)] at hw
      rw [hw]
      exact WPq.join () trivial
    obtain ⟨w8, hw8⟩ : ∃ w8, w8 = wantK l kept := ⟨_, rfl⟩
    rw [← hw8]
    clear c42 hw8 hx
    have hlen : (ls16.set 5 (secF w8)).length = 16 := by rw [List.length_set, ls16_len]
    have c58 := rd4_t gV mD vd cn (ls16.set 5 (secF w8)) [] l.length 5 (by omega) (by omega) (.nil hd.c0 hd.c1) (by omega)
    unfold RRead at c58
    rw [ls16_read, hlen] at c58
    have c73 := waiting0_t gV mD vd cn f4
    have hsq : (secF w8).b = List.replicate 256 w8 := rfl
    repeat' (first
     | refine WPl.nil ?_ | refine WPq.then ?_ | refine WPq.thenR ?_ | refine WPq.thenE ?_ | refine WPq.blockN ?_ | refine WPq.blockR ?_ | refine WPq.blockE ?_ | refine WPq.blockO rfl ?_ | refine WPc.seq ?_ | refine WPc.block ?_ | refine WPc.ret ?_ | refine WPc.exit ?_ | refine WPc.skip ?_ | refine WPc.region ?_
     | (refine isReg 17 ?_; refine WPc.drA [([], [63, 64, 65]), ([0], [61, 63, 64, 65]), ([], [61, 62]), ([2], [61, 62, 63]), ([2, 3], [61, 62, 63, 64]), ([0, 1, 2, 3, 4], [61, 62, 63, 64, 65]), ([0, 1, 2, 3, 4, 5], [61, 62, 63, 64, 65, 66]), ([0, 1, 2, 3, 4, 5, 6], [61, 62, 63, 64, 65, 66, 67]), ([0, 1, 2, 3, 4, 5, 6, 7], [61, 62, 63, 64, 65, 66, 67, 68]), ([0, 1, 2, 3, 4, 5, 6, 7, 8], [61, 62, 63, 64, 65, 66, 67, 68, 69]), ([0, 1, 2, 3, 4, 5, 6, 7, 8, 9], [61, 62, 63, 64, 65, 66, 67, 68, 69, 70]), ([0, 1, 2, 3, 4, 5, 6, 7, 8, 9, 10], [61, 62, 63, 64, 65, 66, 67, 68, 69, 70, 71]), ([0, 1, 2, 3, 4, 5, 6, 7, 8, 9, 10, 11], [61, 62, 63, 64, 65, 66, 67, 68, 69, 70, 71, 72]), ([0, 1, 2, 3, 4, 5, 6, 7, 8, 9, 10, 11, 12], [61, 62, 63, 64, 65, 66, 67, 68, 69, 70, 71, 72, 73]), ([0, 1, 2, 3, 4, 5, 6, 7, 8, 9, 10, 11, 12, 13], [61, 62, 63, 64, 65, 66, 67, 68, 69, 70, 71, 72, 73, 74]), ([0, 1, 2, 3, 4, 5, 6, 7, 8, 9, 10, 11, 12, 13, 14], [61, 62, 63, 64, 65, 66, 67, 68, 69, 70, 71, 72, 73, 74, 75]), ([0, 1, 2, 3, 4, 5, 6, 7, 8, 9, 10, 11, 12, 13, 14, 15], [61, 62, 63, 64, 65, 66, 67, 68, 69, 70, 71, 72, 73, 74, 75, 76]), ([0, 1, 2, 3, 4, 5, 6, 7, 8, 9, 10, 11, 12, 13, 14, 15, 16], [61, 62, 63, 64, 65, 66, 67, 68, 69, 70, 71, 72, 73, 74, 75, 76, 77]), ([0, 1, 2, 3, 4, 5, 6, 7, 8, 9, 10, 11, 12, 13, 14, 15, 16, 17], [61, 62, 63, 64, 65, 66, 67, 68, 69, 70, 71, 72, 73, 74, 75, 76, 77, 78]), ([0, 1, 2, 3, 4, 5, 6, 7, 8, 9, 10, 11, 12, 13, 14, 15, 16, 17, 18], [61, 62, 63, 64, 65, 66, 67, 68, 69, 70, 71, 72, 73, 74, 75, 76, 77, 78, 79])] [] (Γx := []) ?_; dsimp only [prev0, List.length_nil, List.length_cons])
     | (refine gAny ?_; first | (refine gGd ?_; refine RGl.skp ?_) | (refine gC 64 ?_; refine RGl.row (Γ1 := fun _ => []) (fun e hk => OpT.callN (full_t w8)) ?_) | (refine gC 78 ?_; refine RGl.vl (fun e hk => OpT.callN (clv)) ?_) | (refine gD 66 ?_; refine RGl.rdX (fun e hk => by (try dsimp only [bndR, ensR, oksR, fcutR, List.append_nil, List.nil_append, List.cons_append, List.append_assoc] at hk ⊢); exact ReadR.binE rfl rfl BinR.strUE (congrArg Value.bool (decide_eq_true hsq))) ?_) | (refine gD 69 ?_; refine RGl.rdX (fun e hk => by (try dsimp only [bndR, ensR, oksR, fcutR, List.append_nil, List.nil_append, List.cons_append, List.append_assoc] at hk ⊢); exact ReadR.binE rfl rfl BinR.eql (congrArg Value.bool (decide_eq_true rfl))) ?_) | (refine gOp ?_; (refine gC 73 ?_; refine RGl.row (Γ1 := fun _ => []) (fun e hk => OpT.callN c73 (hΔ := by (try dsimp only [bndR, ensR, oksR, fcutR, List.append_nil, List.nil_append, List.cons_append, List.append_assoc] at hk ⊢); exact provsG)) ?_)) | (refine gD 75 ?_; refine RGl.rdX (fun e hk => by (try dsimp only [bndR, ensR, oksR, fcutR, List.append_nil, List.nil_append, List.cons_append, List.append_assoc] at hk ⊢); exact ReadR.binE rfl rfl BinR.eql (congrArg Value.bool (decide_eq_true rfl))) ?_) | (refine gOp ?_; first | refine RGl.rdA ?_ | refine RGl.rdX (fun e hk => by (try dsimp only [bndR, ensR, oksR, fcutR, List.append_nil, List.nil_append, List.cons_append, List.append_assoc] at hk ⊢); exact readB) ?_) | (refine RGl.fin (fun e hk => ?_); (try dsimp only [bndA, ensAR, oksA, List.append_nil, List.nil_append, List.cons_append, List.append_assoc] at hk ⊢); (repeat (obtain ⟨hk1, hk⟩ := hk))) | fail)
     | (refine isCond ?_; first | refine WPc.cT ?_ | refine WPc.cF ?_ | (refine WPc.cQ (fun hc => ?_) (fun hc => ?_) <;> try exact prA))
     | (refine isC 58 ?_; refine WPl.cXs (c58) fun v Γ1 hR => ?_; obtain ⟨sv, rfl, hsv, rfl⟩ := hR; (try dsimp only [putF, List.cons_append, List.nil_append]))
     | (refine isC 64 ?_; refine WPl.cR (full_t w8) fun v hv => ?_)
     | (refine isC 78 ?_; refine WPl.cV (clv) ?_)
     | (refine isOp ?_; first | refine WPl.rd ?_ | refine WPl.sk ?_ | refine WPl.rdB ?_)
     | (show WPl _ _ _ _ _ _ _ (⟨_, .indexAddr _ _ _, _, _, _, _⟩ :: _) _; refine WPl.rdX (ReadR.indexE rfl rfl hasA (by first | assumption | omega)) ?_)
     | (show WPl _ _ _ _ _ _ _ (⟨_, .fieldAddr _ _ _, _, _, _, _⟩ :: _) _; refine WPl.rdX (ReadR.fieldE rfl hasA (by first | assumption | omega)) ?_)
     | (show WPl _ _ _ _ _ _ _ (⟨_, .load _ _, _, _, _, _⟩ :: _) _; first | refine WPl.rdX (ReadR.loadE rfl hasA (by assumption)) ?_ | refine WPl.rdX (ReadR.loadES (by assumption) (by first | assumption | omega) rfl hasA) ?_)
     | (show WPl _ _ _ _ _ _ _ (⟨_, .slice _ _ _ _ _, _, _, _, _⟩ :: _) _; first | refine WPl.rdX (ReadR.sliceH rfl rfl hasA (by omega)) ?_ | refine WPl.rdX (ReadR.sliceL rfl rfl hasA (by omega)) ?_ | refine WPl.rdX (ReadR.sliceLH rfl rfl rfl hasA (by omega) (by omega)) ?_)
     | (refine WPl.spQ (fun hc => ?_) (fun hc => ?_) <;> try exact prA)
     | fail)
    all_goals exact WPq.dV
end Go.Proofs.Ytepmikgjnmjheaa
