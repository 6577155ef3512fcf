/- What the row of cachePlays_holds needs: part 8. -/
import Derived.Test.YtepmikgjnmjheaaKp7
/- Reference of layer 3 (dev): Flush, Crash. -/
namespace Go.Proofs.Ytepmikgjnmjheaa
open Go.RowKit
set_option linter.unusedSimpArgs false
set_option linter.unusedVariables false
set_option maxRecDepth 20000
set_option maxHeartbeats 4000000
attribute [local irreducible] WPc WPl WPq ReadR OpT BinR HasS bx rdN rowN Take Takes Prov Triple ResF BuildP Done ag Int.decLt Int.decLe Int.instDecidableEq
attribute [local irreducible] mp rmp rg rgo bag vrow secs mput mget mfind mdel intsV skeys vault pickG fburn fb1 valsV zAt zB vers crashT intsN
def putZ (L : List (Value × Sec)) (Z : Zl) : List (Value × Sec) := Z.foldl (fun L z => L.set z.1.toNat z.2) L
theorem putZ_app {L : List (Value × Sec)} {Z : Zl} {z : Int × (Value × Sec)} : putZ L (Z ++ [z]) = (putZ L Z).set z.1.toNat z.2 := by
  unfold putZ; rw [List.foldl_append]; rfl
theorem putZ_next {L : List (Value × Sec)} {Z : Zl} {z : Int × (Value × Sec)} {q : Nat} (h : Z[q]? = some z) : putZ L (Z.take (q + 1)) = (putZ L (Z.take q)).set z.1.toNat z.2 := by
  rw [List.take_add_one, h]; exact putZ_app
theorem putZ_len {L : List (Value × Sec)} {Z : Zl} : (putZ L Z).length = L.length := by
  unfold putZ
  induction Z generalizing L with
  | nil => rfl
  | cons z Z ih => rw [List.foldl_cons, ih, List.length_set]
theorem putZ_mem {L : List (Value × Sec)} {Z : Zl} {x : Value × Sec} (h : x ∈ putZ L Z) : x ∈ L ∨ ∃ z ∈ Z, z.2 = x := by
  unfold putZ at h
  induction Z generalizing L with
  | nil => exact .inl h
  | cons z Z ih =>
    rw [List.foldl_cons] at h
    rcases ih h with h | ⟨y, hy, h⟩
    · rcases List.mem_or_eq_of_mem_set h with h | h
      · exact .inl h
      · exact .inr ⟨z, List.mem_cons_self .., h.symm⟩
    · exact .inr ⟨y, List.mem_cons_of_mem _ hy, h⟩
theorem putZ_at {L : List (Value × Sec)} {Z : Zl} {n : Nat} (h : ∀ z ∈ Z, ∃ j : Nat, z.1 = (j : Int) ∧ j < n) (hl : L.length = n) (i : Nat) (hi : i < n) : (putZ L Z)[i]? = some ((vers Z (i : Int)).getLastD (L.getD i (.slice none 0 0, secF 0))) := by
  have key : ∀ q, q ≤ Z.length → (putZ L (Z.take q))[i]? = some ((vers (Z.take q) (i : Int)).getLastD (L.getD i (.slice none 0 0, secF 0))) := by
    intro q
    induction q with
    | zero =>
      intro _
      rw [List.take_zero, show putZ L [] = L from rfl, show vers [] (i : Int) = [] by with_unfolding_all rfl, List.getLastD_nil, List.getD_eq_getElem?_getD, List.getElem?_eq_getElem (by omega)]; rfl
    | succ q ih =>
      intro hq
      have ih := ih (by omega)
      obtain ⟨z, hz⟩ : ∃ z, Z[q]? = some z := ⟨_, List.getElem?_eq_getElem (by omega)⟩
      obtain ⟨j, hj, hjn⟩ := h z (List.mem_of_getElem? hz)
      rw [putZ_next hz, vers_next hz, hj, Int.toNat_natCast, List.getElem?_set]
      by_cases hij : j = i
      · subst hij
        rw [if_pos rfl, if_pos (by rw [putZ_len]; omega), if_pos rfl, List.getLastD_eq_getLast?, List.getLast?_append]; rfl
      · rw [if_neg hij, if_neg (by omega), List.append_nil]; exact ih
  have := key Z.length (Nat.le_refl _)
  rwa [List.take_length] at this
theorem putZ_nows {n k : Nat} {R : RfS} (h : RInv n k R) : (putZ R.L R.Z).map (·.2) = R.vw.nows := by
  apply List.ext_getElem?
  intro i
  show _ = (List.mapIdx (fun j _ => R.vw.now j) (R.L.map (·.2)))[i]?
  rw [List.getElem?_mapIdx, List.getElem?_map, List.getElem?_map]
  by_cases hi : i < n
  · rw [putZ_at h.at' h.nl i hi, List.getElem?_eq_getElem (show i < R.L.length by rw [h.nl]; exact hi)]
    exact congrArg some (nowR_vw n k R h i hi)
  · rw [List.getElem?_eq_none (by rw [putZ_len, h.nl]; omega), List.getElem?_eq_none (by rw [h.nl]; omega)]; rfl
theorem RInv.putL {n k : Nat} {R : RfS} (h : RInv n k R) {L : List (Value × Sec)} (hl : L.length = n) (hm : ∀ x ∈ L, x ∈ R.rs ∧ x.1.oneCell' = true) {vA vB : Value} (hA : vA.oneCell' = true) (hB : vB.oneCell' = true) : RInv n k ⟨R.vL, L, vA, vB, [], R.fu, R.wr, R.rs⟩ :=
  ⟨⟨h.one.1, hA, hB⟩, h.f4, h.fb, hl, Nat.zero_le _, fun z hz => (by cases hz), hm, fun z hz => (by cases hz), h.w0, h.w1⟩
theorem rz31 {v : Value} : rowN 31 1 v 0 [] = rowN 31 1 v ([] : Zl).length (valsV (zB [])) := by with_unfolding_all rfl
theorem rz3 {v : Value} : rowN 3 1 v 0 [] = rowN 3 1 v ([] : Zl).length (intsV (zAt [])) := by with_unfolding_all rfl
section
variable (gX : Nat) (n k : Nat) (R : RfS)
theorem rflK_t (h : RInv n k R) (hn : n ≤ 100000) (hkb : k ≤ 100000) :
    Triple Try.prog 50 #[hD gX] (rsA gX R) (RRk gX n k (.int .i64 R.vw.flush.2) R.vw.flush.1 R.rs) := by
  have hnl := h.nl
  have hlz := h.lz
  have h2 := h.fb 3 (by omega)
  have hg := getD_some (fu := R.fu) (k := 3) (by rw [h.f4]; omega)
  have c5 := rburns_t gX R 3 (R.fu.getD 3 0) h.f4 (by omega) hg h2.1 h2.2
  have hb := h.burn (j := 3) (by omega)
  by_cases h0 : R.fu.getD 3 0 = 0
  · have hf : R.vw.fails 3 = true := by show decide (R.fu.getD 3 0 = 0) = true; rw [decide_eq_true h0]
    have hw : R.vw.flush = (R.vw.burn 3, 3) := by unfold Dv.flush; rw [if_pos hf]
    rw [hw]
    rw [decide_eq_true h0] at c5
    refine Triple.enter Try.func50 rfl Try.ntmps50 rfl (fun W => ?_)
    dsimp only [argsF, Nat.reduceAdd]
    repeat' (first
     | refine WPl.nil ?_ | refine WPq.then ?_ | refine WPq.thenR ?_ | refine WPq.thenE ?_ | refine WPq.blockN ?_ | refine WPq.blockR ?_ | refine WPq.blockE ?_ | refine WPq.blockO rfl ?_ | refine WPc.seq ?_ | refine WPc.block ?_ | refine WPc.ret ?_ | refine WPc.exit ?_ | refine WPc.skip ?_ | refine WPc.region ?_
     | (refine isCond ?_; first | refine WPc.cT ?_ | refine WPc.cF ?_ | (refine WPc.cQ (fun hc => ?_) (fun hc => ?_) <;> try exact prA))
     | (refine isC 5 ?_; refine WPl.cTs (c5) ?_; (try dsimp only [putF, List.cons_append, List.nil_append]))
     | (refine isOp ?_; first | refine WPl.rd ?_ | refine WPl.sk ?_ | refine WPl.rdB ?_)
     | (refine isSt ?_; first | refine WPl.st1 ?_ | refine WPl.stA ?_ | refine WPl.stEB ?_ | refine WPl.stRB ?_)
     | (show WPl _ _ _ _ _ _ _ (⟨_, .indexAddr _ _ _, _, _, _, _⟩ :: _) _; refine WPl.rdX (ReadR.indexE rfl rfl hasA (by first | assumption | omega)) ?_)
     | (show WPl _ _ _ _ _ _ _ (⟨_, .fieldAddr _ _ _, _, _, _, _⟩ :: _) _; refine WPl.rdX (ReadR.fieldE rfl hasA (by first | assumption | omega)) ?_)
     | (show WPl _ _ _ _ _ _ _ (⟨_, .load _ _, _, _, _, _⟩ :: _) _; first | refine WPl.rdX (ReadR.loadE rfl hasA (by assumption)) ?_ | refine WPl.rdX (ReadR.loadES (by assumption) (by first | assumption | omega) rfl hasA) ?_)
     | (show WPl _ _ _ _ _ _ _ (⟨_, .slice _ _ _ _ _, _, _, _, _⟩ :: _) _; first | refine WPl.rdX (ReadR.sliceH rfl rfl hasA (by omega)) ?_ | refine WPl.rdX (ReadR.sliceL rfl rfl hasA (by omega)) ?_ | refine WPl.rdX (ReadR.sliceLH rfl rfl rfl hasA (by omega) (by omega)) ?_)
     | (refine WPl.spQ (fun hc => ?_) (fun hc => ?_) <;> try exact prA)
     | fail)
    refine WPq.dX (ho := ownsW) (vs := [.int .i64 3]) (rsA gX { R with fu := fburn R.fu 3 (R.fu.getD 3 0) }) ⟨_, rfl, rfl, hb, fun r hr => hr, rfl⟩
  · have hf : R.vw.fails 3 = false := by show decide (R.fu.getD 3 0 = 0) = false; rw [decide_eq_false h0]
    have hw : R.vw.flush = ({ R.vw.burn 3 with ls := R.vw.nows, ws := fun _ => [] }, 0) := by unfold Dv.flush; rw [if_neg (by rw [hf]; simp)]
    rw [hw]
    rw [decide_eq_false h0] at c5
    obtain ⟨fu', hfu'⟩ : ∃ fu', fu' = fburn R.fu 3 (R.fu.getD 3 0) := ⟨_, rfl⟩
    rw [← hfu'] at c5 hb
    have e0 : rowN 31 1 R.vL R.L.length (valsV R.L) = rowN 31 1 R.vL n (valsV (putZ R.L (R.Z.take 0))) := by rw [List.take_zero, hnl]; rfl
    refine Triple.enter Try.func50 rfl Try.ntmps50 rfl (fun W => ?_)
    dsimp only [argsF, Nat.reduceAdd]
    repeat' (first
     | refine WPl.nil ?_ | refine WPq.then ?_ | refine WPq.thenR ?_ | refine WPq.thenE ?_ | refine WPq.blockN ?_ | refine WPq.blockR ?_ | refine WPq.blockE ?_ | refine WPq.blockO rfl ?_ | refine WPc.seq ?_ | refine WPc.block ?_ | refine WPc.ret ?_ | refine WPc.exit ?_ | refine WPc.skip ?_ | refine WPc.region ?_
     | (refine isCond ?_; first | refine WPc.cT ?_ | refine WPc.cF ?_ | (refine WPc.cQ (fun hc => ?_) (fun hc => ?_) <;> try exact prA))
     | (refine isC 5 ?_; refine WPl.cTs (c5) ?_; (try dsimp only [putF, List.cons_append, List.nil_append]))
     | (refine isOp ?_; first | refine WPl.rd ?_ | refine WPl.sk ?_ | refine WPl.rdB ?_)
     | (refine isSt ?_; first | refine WPl.st1 ?_ | refine WPl.stA ?_ | refine WPl.stEB ?_ | refine WPl.stRB ?_)
     | (show WPl _ _ _ _ _ _ _ (⟨_, .indexAddr _ _ _, _, _, _, _⟩ :: _) _; refine WPl.rdX (ReadR.indexE rfl rfl hasA (by first | assumption | omega)) ?_)
     | (show WPl _ _ _ _ _ _ _ (⟨_, .fieldAddr _ _ _, _, _, _, _⟩ :: _) _; refine WPl.rdX (ReadR.fieldE rfl hasA (by first | assumption | omega)) ?_)
     | (show WPl _ _ _ _ _ _ _ (⟨_, .load _ _, _, _, _, _⟩ :: _) _; first | refine WPl.rdX (ReadR.loadE rfl hasA (by assumption)) ?_ | refine WPl.rdX (ReadR.loadES (by assumption) (by first | assumption | omega) rfl hasA) ?_)
     | (show WPl _ _ _ _ _ _ _ (⟨_, .slice _ _ _ _ _, _, _, _, _⟩ :: _) _; first | refine WPl.rdX (ReadR.sliceH rfl rfl hasA (by omega)) ?_ | refine WPl.rdX (ReadR.sliceL rfl rfl hasA (by omega)) ?_ | refine WPl.rdX (ReadR.sliceLH rfl rfl rfl hasA (by omega) (by omega)) ?_)
     | (refine WPl.spQ (fun hc => ?_) (fun hc => ?_) <;> try exact prA)
     | fail)
    rw [e0]
    first | refine WPc.loop (σ := Nat) (fun st => st ≤ R.Z.length) (fun st => [bx gX 51 (rdc R.vL R.vA R.vB fu' R.wr), rowN 31 1 R.vL n (valsV (putZ R.L (R.Z.take st))), rowN 3 1 R.vA R.Z.length (intsV (zAt R.Z)), rowN 31 1 R.vB R.Z.length (valsV (zB R.Z)), vault R.rs]) (fun st => [(0, hD gX), (3, .int .i64 (st : Int))]) (fun st => R.Z.length - st) (0) ?_ takesA frsA (fun st km hx hk => ?_)
    · exact Nat.zero_le _
    have hkm : km = R.Z.length - st := hk
    clear hk
    by_cases hlt : st < R.Z.length
    · obtain ⟨z, hz⟩ : ∃ z, R.Z[st]? = some z := ⟨_, List.getElem?_eq_getElem hlt⟩
      obtain ⟨j, hj, hjn⟩ := h.at' z (List.mem_of_getElem? hz)
      have ha : (intsV (zAt R.Z))[st]? = some (.int .i64 (j : Int)) := by
        rw [← hj]
        exact intsV_at (by with_unfolding_all (unfold zAt; rw [List.getElem?_map, hz]; rfl))
      have hbv : (valsV (zB R.Z))[st]? = some z.2.1 := valsV_at (by with_unfolding_all (unfold zB; rw [List.getElem?_map, hz]; rfl))
      have hone := (h.inZ z (List.mem_of_getElem? hz)).2
      have hnx := putZ_next (L := R.L) hz
      rw [hj, Int.toNat_natCast] at hnx
      have hcl : (putZ R.L (R.Z.take st)).length = n := by rw [putZ_len]; exact hnl
      obtain ⟨cur, hcur⟩ : ∃ cur, cur = putZ R.L (R.Z.take st) := ⟨_, rfl⟩
      rw [← hcur] at hnx hcl ⊢
      have hjv : j < (valsV cur).length := by rw [valsV_len, hcl]; exact hjn
      repeat' (first
       | refine WPl.nil ?_ | refine WPq.then ?_ | refine WPq.thenR ?_ | refine WPq.thenE ?_ | refine WPq.blockN ?_ | refine WPq.blockR ?_ | refine WPq.blockE ?_ | refine WPq.blockO rfl ?_ | refine WPc.seq ?_ | refine WPc.block ?_ | refine WPc.ret ?_ | refine WPc.exit ?_ | refine WPc.skip ?_ | refine WPc.region ?_
       | (refine isReg 6 ?_; refine WPc.drA [([20], [19, 20, 21, 22, 23, 24, 25, 26, 27, 28, 29, 30, 31, 32]), ([0, 20], [15, 19, 20, 21, 22, 23, 24, 25, 26, 27, 28, 29, 30, 31, 32]), ([0, 1, 20], [15, 16, 19, 20, 21, 22, 23, 24, 25, 26, 27, 28, 29, 30, 31, 32]), ([0, 1, 2, 20], [15, 16, 17, 19, 20, 21, 22, 23, 24, 25, 26, 27, 28, 29, 30, 31, 32]), ([20], [15, 16, 17, 18, 23, 26, 27, 28, 29, 30, 31, 32]), ([4, 20], [15, 16, 17, 18, 19, 23, 26, 27, 28, 29, 30, 31, 32]), ([4, 5, 20], [15, 16, 17, 18, 19, 20, 23, 26, 27, 28, 29, 30, 31, 32]), ([4, 5, 6, 20], [15, 16, 17, 18, 19, 20, 21, 23, 26, 27, 28, 29, 30, 31, 32]), ([20], [15, 16, 17, 18, 19, 20, 21, 22, 26, 27, 28, 29, 30, 31, 32]), ([4, 5, 6, 7, 8, 20], [15, 16, 17, 18, 19, 20, 21, 22, 23, 26, 27, 28, 29, 30, 31, 32]), ([4, 5, 6, 7, 8, 9, 20], [15, 16, 17, 18, 19, 20, 21, 22, 23, 24, 26, 27, 28, 29, 30, 31, 32]), ([20], [15, 16, 17, 18, 19, 20, 21, 22, 23, 24, 25, 30]), ([11, 20], [15, 16, 17, 18, 19, 20, 21, 22, 23, 24, 25, 26, 30]), ([11, 12, 20], [15, 16, 17, 18, 19, 20, 21, 22, 23, 24, 25, 26, 27, 30]), ([11, 12, 13, 20], [15, 16, 17, 18, 19, 20, 21, 22, 23, 24, 25, 26, 27, 28, 30]), ([20], [15, 16, 17, 18, 19, 20, 21, 22, 23, 24, 25, 26, 27, 28, 29]), ([11, 12, 13, 14, 15, 20], [15, 16, 17, 18, 19, 20, 21, 22, 23, 24, 25, 26, 27, 28, 29, 30]), ([11, 12, 13, 14, 15, 16, 20], [15, 16, 17, 18, 19, 20, 21, 22, 23, 24, 25, 26, 27, 28, 29, 30, 31]), ([0, 1, 2, 3, 4, 5, 6, 7, 8, 9, 10, 11, 12, 13, 14, 15, 16, 17, 20], [15, 16, 17, 18, 19, 20, 21, 22, 23, 24, 25, 26, 27, 28, 29, 30, 31, 32]), ([0, 1, 2, 3, 4, 5, 6, 7, 8, 9, 10, 11, 12, 13, 14, 15, 16, 17, 18, 20], [15, 16, 17, 18, 19, 20, 21, 22, 23, 24, 25, 26, 27, 28, 29, 30, 31, 32, 33])] [(20, 19), (20, 0), (20, 1), (20, 2), (20, 3), (20, 4), (20, 5), (20, 6), (20, 7), (20, 8), (20, 9), (20, 10), (20, 11), (20, 12), (20, 13), (20, 14), (20, 15), (20, 16), (20, 17), (20, 18)] (Γx := [rowN 31 1 R.vL n (valsV cur)]) ?_; dsimp only [prev0, List.length_nil, List.length_cons])
       | (refine gAny ?_; first | (refine gD 24 ?_; refine RGl.rdX (fun e hk => by (try dsimp only [bndR, ensR, oksR, fcutR, List.append_nil, List.nil_append, List.cons_append, List.append_assoc] at hk ⊢); exact ReadR.indexE1 (i := st) rfl rfl hasA hlt) ?_) | (refine gD 25 ?_; refine RGl.rdX (fun e hk => by (try dsimp only [bndR, ensR, oksR, fcutR, List.append_nil, List.nil_append, List.cons_append, List.append_assoc] at hk ⊢); exact ReadR.loadE rfl hasA ha) ?_) | (refine gD 31 ?_; refine RGl.rdX (fun e hk => by (try dsimp only [bndR, ensR, oksR, fcutR, List.append_nil, List.nil_append, List.cons_append, List.append_assoc] at hk ⊢); exact ReadR.indexE1 (i := st) rfl rfl hasA hlt) ?_) | (refine gD 32 ?_; refine RGl.rdX (fun e hk => by (try dsimp only [bndR, ensR, oksR, fcutR, List.append_nil, List.nil_append, List.cons_append, List.append_assoc] at hk ⊢); exact ReadR.loadE rfl hasA hbv) ?_) | (refine gD 33 ?_; refine RGl.rdX (fun e hk => by (try dsimp only [bndR, ensR, oksR, fcutR, List.append_nil, List.nil_append, List.cons_append, List.append_assoc] at hk ⊢); exact ReadR.indexE1 (i := j) rfl rfl hasA hjn) ?_) | (refine gOp ?_; (refine RGl.turn (fun e hk => by (try dsimp only [bndR, ensR, oksR, fcutR, List.append_nil, List.nil_append, List.cons_append, List.append_assoc] at hk ⊢); exact OpT.storeEN (i := j) rfl rfl takesA hone hjv) ?_)) | (refine gOp ?_; first | refine RGl.rdA ?_ | refine RGl.rdX (fun e hk => by (try dsimp only [bndR, ensR, oksR, fcutR, List.append_nil, List.nil_append, List.cons_append, List.append_assoc] at hk ⊢); exact readB) ?_) | (refine gSt ?_; refine RGl.stA ?_) | (refine RGl.fin (fun e hk => ?_); (try dsimp only [bndA, ensAR, oksA, List.append_nil, List.nil_append, List.cons_append, List.append_assoc] at hk ⊢); (repeat (obtain ⟨hk1, hk⟩ := hk))) | fail)
       | (refine isCond ?_; first | refine WPc.cT ?_ | refine WPc.cF ?_ | (refine WPc.cQ (fun hc => ?_) (fun hc => ?_) <;> try first | exact prA | (exfalso; first | omega)))
       | (refine isD 24 ?_; refine WPl.rdX (ReadR.indexE1 (i := st) rfl rfl hasA hlt) ?_)
       | (refine isD 25 ?_; refine WPl.rdX (ReadR.loadE rfl hasA ha) ?_)
       | (refine isD 31 ?_; refine WPl.rdX (ReadR.indexE1 (i := st) rfl rfl hasA hlt) ?_)
       | (refine isD 32 ?_; refine WPl.rdX (ReadR.loadE rfl hasA hbv) ?_)
       | (refine isD 33 ?_; refine WPl.rdX (ReadR.indexE1 (i := j) rfl rfl hasA hjn) ?_)
       | (refine isOp ?_; first | refine WPl.rd ?_ | refine WPl.sk ?_ | refine WPl.rdB ?_)
       | (refine isSt ?_; first | refine WPl.st1 ?_ | refine WPl.stA ?_ | refine WPl.stEB ?_ | refine WPl.stRB ?_)
       | (show WPl _ _ _ _ _ _ _ (⟨_, .indexAddr _ _ _, _, _, _, _⟩ :: _) _; refine WPl.rdX (ReadR.indexE rfl rfl hasA (by first | assumption | omega)) ?_)
       | (show WPl _ _ _ _ _ _ _ (⟨_, .fieldAddr _ _ _, _, _, _, _⟩ :: _) _; refine WPl.rdX (ReadR.fieldE rfl hasA (by first | assumption | omega)) ?_)
       | (show WPl _ _ _ _ _ _ _ (⟨_, .load _ _, _, _, _, _⟩ :: _) _; first | refine WPl.rdX (ReadR.loadE rfl hasA (by assumption)) ?_ | refine WPl.rdX (ReadR.loadES (by assumption) (by first | assumption | omega) rfl hasA) ?_)
       | (show WPl _ _ _ _ _ _ _ (⟨_, .slice _ _ _ _ _, _, _, _, _⟩ :: _) _; first | refine WPl.rdX (ReadR.sliceH rfl rfl hasA (by omega)) ?_ | refine WPl.rdX (ReadR.sliceL rfl rfl hasA (by omega)) ?_ | refine WPl.rdX (ReadR.sliceLH rfl rfl rfl hasA (by omega) (by omega)) ?_)
       | (refine WPl.spQ (fun hc => ?_) (fun hc => ?_) <;> try first | exact prA | (exfalso; first | omega))
       | fail)
      rw [valsV_set (x := z.2), ← hnx]
      exact WPq.rnd (st + 1) hlt (by omega)
    · have hil : R.Z.take st = R.Z := List.take_of_length_le (by omega)
      rw [hil]
      repeat' (first
       | refine WPl.nil ?_ | refine WPq.then ?_ | refine WPq.thenR ?_ | refine WPq.thenE ?_ | refine WPq.blockN ?_ | refine WPq.blockR ?_ | refine WPq.blockE ?_ | refine WPq.blockO rfl ?_ | refine WPc.seq ?_ | refine WPc.block ?_ | refine WPc.ret ?_ | refine WPc.exit ?_ | refine WPc.skip ?_ | refine WPc.region ?_
       | (refine isCond ?_; first | refine WPc.cT ?_ | refine WPc.cF ?_ | (refine WPc.cQ (fun hc => ?_) (fun hc => ?_) <;> try first | exact prA | (exfalso; first | omega)))
       | (refine isD 36 ?_; refine WPl.litS0 fun v36 hv36 => ?_)
       | (refine isD 37 ?_; refine WPl.litS0 fun v37 hv37 => ?_)
       | (refine isOp ?_; first | refine WPl.rd ?_ | refine WPl.sk ?_ | refine WPl.rdB ?_)
       | (refine isSt ?_; first | refine WPl.st1 ?_ | refine WPl.stA ?_ | refine WPl.stEB ?_ | refine WPl.stRB ?_)
       | (show WPl _ _ _ _ _ _ _ (⟨_, .indexAddr _ _ _, _, _, _, _⟩ :: _) _; refine WPl.rdX (ReadR.indexE rfl rfl hasA (by first | assumption | omega)) ?_)
       | (show WPl _ _ _ _ _ _ _ (⟨_, .fieldAddr _ _ _, _, _, _, _⟩ :: _) _; refine WPl.rdX (ReadR.fieldE rfl hasA (by first | assumption | omega)) ?_)
       | (show WPl _ _ _ _ _ _ _ (⟨_, .load _ _, _, _, _, _⟩ :: _) _; first | refine WPl.rdX (ReadR.loadE rfl hasA (by assumption)) ?_ | refine WPl.rdX (ReadR.loadES (by assumption) (by first | assumption | omega) rfl hasA) ?_)
       | (show WPl _ _ _ _ _ _ _ (⟨_, .slice _ _ _ _ _, _, _, _, _⟩ :: _) _; first | refine WPl.rdX (ReadR.sliceH rfl rfl hasA (by omega)) ?_ | refine WPl.rdX (ReadR.sliceL rfl rfl hasA (by omega)) ?_ | refine WPl.rdX (ReadR.sliceLH rfl rfl rfl hasA (by omega) (by omega)) ?_)
       | (refine WPl.spQ (fun hc => ?_) (fun hc => ?_) <;> try first | exact prA | (exfalso; first | omega))
       | fail)
      have hcl : (putZ R.L R.Z).length = n := by rw [putZ_len]; exact hnl
      rw [rz31, rz3, ← hcl]
      refine WPq.dX (ho := ownsW) (vs := [.int .i64 0]) (rsA gX ⟨R.vL, putZ R.L R.Z, v36, v37, [], fu', R.wr, R.rs⟩) ⟨⟨R.vL, putZ R.L R.Z, v36, v37, [], fu', R.wr, R.rs⟩, rfl, ?_, ?_, fun r hr => hr, rfl⟩
      · show Dv.mk fu' ((putZ R.L R.Z).map (·.2)) (fun j : Nat => (vers [] (j : Int)).map (·.2)) R.wr = Dv.mk (fburn R.fu 3 (R.fu.getD 3 0)) R.vw.nows (fun _ => []) R.wr
        rw [putZ_nows h, hfu']
        congr 1
        funext j
        with_unfolding_all rfl
      · rw [hcl]
        refine hb.putL hcl (fun x hx => ?_) hv36 hv37
        rcases putZ_mem hx with hx | ⟨z, hz, rfl⟩
        · exact h.inL x hx
        · exact h.inZ z hz
end
end Go.Proofs.Ytepmikgjnmjheaa
/- Layer 3 (dev): bytes that are turned: Spoil of the program, and of the reference. -/
namespace Go.Proofs.Ytepmikgjnmjheaa
open Go.RowKit
set_option linter.unusedSimpArgs false
set_option linter.unusedVariables false
section
variable {P : Program} {T : TypeId} {k : IntKind}
theorem BinR.shrZ {k2 : IntKind} {a m z : Nat} {s : Int} (h : s = (m : Int)) (hs : m ≤ kw k) (hz : a / 2 ^ m = z) : BinR P .shr T (.int k (a : Int)) (.int k2 s) (.int k (z : Int)) := by
  subst h; subst hz
  exact BinR.shrN hs
end
theorem xor_mod2 (x y : Nat) : (x ^^^ y) % 2 = (x + y) % 2 := by
  have h : (x ^^^ y) % 2 ^ 1 = x % 2 ^ 1 ^^^ y % 2 ^ 1 := Nat.xor_mod_two_pow ..
  rw [Nat.pow_one] at h
  rw [h, Nat.add_mod]
  rcases Nat.mod_two_eq_zero_or_one x with h1 | h1 <;> rcases Nat.mod_two_eq_zero_or_one y with h2 | h2 <;> rw [h1, h2] <;> rfl
theorem xor_step {a b m : Nat} : 2 * ((a ^^^ b) / 2 ^ (m + 1)) + (a / 2 ^ m + b / 2 ^ m) % 2 = (a ^^^ b) / 2 ^ m := by
  have h1 : (a ^^^ b) / 2 ^ m = (a / 2 ^ m) ^^^ (b / 2 ^ m) := Nat.xor_div_two_pow ..
  have h2 : (a ^^^ b) / 2 ^ (m + 1) = (a ^^^ b) / 2 ^ m / 2 := by rw [Nat.pow_succ, Nat.div_div_eq_div_mul]
  have h3 : ((a / 2 ^ m) ^^^ (b / 2 ^ m)) % 2 = (a / 2 ^ m + b / 2 ^ m) % 2 := xor_mod2 _ _
  rw [h2]
  omega
open Go.RowKit
set_option linter.unusedSimpArgs false
set_option linter.unusedVariables false
set_option maxRecDepth 20000
set_option maxHeartbeats 4000000
attribute [local irreducible] WPc WPl WPq ReadR OpT BinR HasS bx rdN rowN Take Takes Prov Triple ResF BuildP Done ag Int.decLt Int.decLe Int.instDecidableEq
attribute [local irreducible] mp rmp rg rgo bag vrow secs mput mget mfind mdel intsV skeys vault pickG fburn fb1 valsV zAt zB vers crashT intsN
def xorB (b : List UInt8) (at' : Nat) (by' : UInt8) : List UInt8 := b.set at' (b.getD at' 0 ^^^ by')
def Sec.xor (s : Sec) (at' : Nat) (by' : UInt8) : Sec := ⟨xorB s.b at' by', by unfold xorB; rw [List.length_set]; exact s.len⟩
theorem turned_t (bv : Value) (b : List UInt8) (at' : Nat) (b2 : UInt8) (hat : at' < b.length) (hb : b.length ≤ 100000) :
    Triple Try.prog 72 #[bv, .int .i64 (at' : Int), .int .u8 ((b2.toNat : Nat) : Int)] [rb bv b] (ROb (xorB b at' b2)) := by
  obtain ⟨b0, hb0⟩ : ∃ b0, b[at']? = some b0 := ⟨_, List.getElem?_eq_getElem hat⟩
  have hbv : (u8s b)[at']? = some (.int .u8 ((b0.toNat : Nat) : Int)) := by unfold u8s; rw [List.getElem?_map, hb0]; rfl
  have hx : xorB b at' b2 = b.set at' (b0 ^^^ b2) := by unfold xorB; rw [List.getD_eq_getElem?_getD, hb0]; rfl
  rw [hx]
  obtain ⟨C, hC⟩ : ∃ C, C = (b0 ^^^ b2).toNat := ⟨_, rfl⟩
  have hC8 : C < 256 := by rw [hC]; exact (b0 ^^^ b2).toNat_lt
  have hCx : C = b0.toNat ^^^ b2.toNat := by rw [hC, UInt8.toNat_xor]
  have hb08 := b0.toNat_lt
  have hb28 := b2.toNat_lt
  refine Triple.enter Try.func72 rfl Try.ntmps72 rfl (fun W => ?_)
  dsimp only [argsF, Nat.reduceAdd]
  repeat' (first
   | refine WPl.nil ?_ | refine WPq.then ?_ | refine WPq.thenR ?_ | refine WPq.thenE ?_ | refine WPq.blockN ?_ | refine WPq.blockR ?_ | refine WPq.blockE ?_ | refine WPq.blockO rfl ?_ | refine WPc.seq ?_ | refine WPc.block ?_ | refine WPc.ret ?_ | refine WPc.exit ?_ | refine WPc.skip ?_ | refine WPc.region ?_
   | (refine isCond ?_; first | refine WPc.cT ?_ | refine WPc.cF ?_ | (refine WPc.cQ (fun hc => ?_) (fun hc => ?_) <;> try exact prA))
   | (refine isLit ?_; refine WPl.lit fun v10 hv10 => ?_)
   | (refine isApp ?_; refine WPl.app fun v12 hv12 => ?_)
   | (refine isOp ?_; first | refine WPl.rd ?_ | refine WPl.sk ?_ | refine WPl.rdB ?_)
   | (refine isSt ?_; first | refine WPl.st1 ?_ | refine WPl.stA ?_ | refine WPl.stEB ?_ | refine WPl.stRB ?_)
   | (show WPl _ _ _ _ _ _ _ (⟨_, .indexAddr _ _ _, _, _, _, _⟩ :: _) _; refine WPl.rdX (ReadR.indexE rfl rfl hasA (by first | assumption | omega)) ?_)
   | (show WPl _ _ _ _ _ _ _ (⟨_, .fieldAddr _ _ _, _, _, _, _⟩ :: _) _; refine WPl.rdX (ReadR.fieldE rfl hasA (by first | assumption | omega)) ?_)
   | (show WPl _ _ _ _ _ _ _ (⟨_, .load _ _, _, _, _, _⟩ :: _) _; first | refine WPl.rdX (ReadR.loadE rfl hasA (by assumption)) ?_ | refine WPl.rdX (ReadR.loadES (by assumption) (by first | assumption | omega) rfl hasA) ?_)
   | (show WPl _ _ _ _ _ _ _ (⟨_, .slice _ _ _ _ _, _, _, _, _⟩ :: _) _; first | refine WPl.rdX (ReadR.sliceH rfl rfl hasA (by omega)) ?_ | refine WPl.rdX (ReadR.sliceL rfl rfl hasA (by omega)) ?_ | refine WPl.rdX (ReadR.sliceLH rfl rfl rfl hasA (by omega) (by omega)) ?_)
   | (refine WPl.spQ (fun hc => ?_) (fun hc => ?_) <;> try exact prA)
   | fail)
  rw [show nbs [] ++ b = b from rfl]
  first | refine WPc.loop (σ := Nat × Int × Int) (fun st => st.1 ≤ 8 ∧ st.2.1 = ((C / 2 ^ st.1 : Nat) : Int) ∧ st.2.2 = (st.1 : Int) - 1) (fun st => [rb bv b, ob v12 b]) (fun st => [(0, bv), (1, .int .i64 (at' : Int)), (2, .int .u8 ((b2.toNat : Nat) : Int)), (7, v12), (8, .int .u8 st.2.1), (9, .int .i64 st.2.2)]) (fun st => st.1) ((8, 0, 7)) ?_ takesA frsA (fun st km hx hk => ?_)
  · refine ⟨Nat.le_refl _, ?_, rfl⟩
    show (0 : Int) = ((C / 256 : Nat) : Int)
    omega
  obtain ⟨st, x, y⟩ := st
  obtain ⟨h8, hxx, hyy⟩ := hx
  dsimp only at h8 hxx hyy hk ⊢
  have hkm : km = st := hk
  clear hk
  cases st with
  | zero =>
    have hxc : x = (((b0 ^^^ b2).toNat : Nat) : Int) := by rw [hxx, Nat.pow_zero, Nat.div_one, hC]
    subst hxc
    repeat' (first
     | refine WPl.nil ?_ | refine WPq.then ?_ | refine WPq.thenR ?_ | refine WPq.thenE ?_ | refine WPq.blockN ?_ | refine WPq.blockR ?_ | refine WPq.blockE ?_ | refine WPq.blockO rfl ?_ | refine WPc.seq ?_ | refine WPc.block ?_ | refine WPc.ret ?_ | refine WPc.exit ?_ | refine WPc.skip ?_ | refine WPc.region ?_
     | (refine isCond ?_; first | refine WPc.cT ?_ | refine WPc.cF ?_ | (refine WPc.cQ (fun hc => ?_) (fun hc => ?_) <;> try first | exact prA | (exfalso; first | omega)))
     | (show WPl _ _ _ _ _ _ _ (⟨_, .store _ (.tmp 36) _, _, _, _, _⟩ :: _) _; first | refine WPl.stEB (b := (b0 ^^^ b2)) ?_ | refine WPl.stRB (b := (b0 ^^^ b2)) ?_)
     | (refine isOp ?_; first | refine WPl.rd ?_ | refine WPl.sk ?_ | refine WPl.rdB ?_)
     | (refine isSt ?_; first | refine WPl.st1 ?_ | refine WPl.stA ?_ | refine WPl.stEB ?_ | refine WPl.stRB ?_)
     | (show WPl _ _ _ _ _ _ _ (⟨_, .indexAddr _ _ _, _, _, _, _⟩ :: _) _; refine WPl.rdX (ReadR.indexE rfl rfl hasA (by first | assumption | omega)) ?_)
     | (show WPl _ _ _ _ _ _ _ (⟨_, .fieldAddr _ _ _, _, _, _, _⟩ :: _) _; refine WPl.rdX (ReadR.fieldE rfl hasA (by first | assumption | omega)) ?_)
     | (show WPl _ _ _ _ _ _ _ (⟨_, .load _ _, _, _, _, _⟩ :: _) _; first | refine WPl.rdX (ReadR.loadE rfl hasA (by assumption)) ?_ | refine WPl.rdX (ReadR.loadES (by assumption) (by first | assumption | omega) rfl hasA) ?_)
     | (show WPl _ _ _ _ _ _ _ (⟨_, .slice _ _ _ _ _, _, _, _, _⟩ :: _) _; first | refine WPl.rdX (ReadR.sliceH rfl rfl hasA (by omega)) ?_ | refine WPl.rdX (ReadR.sliceL rfl rfl hasA (by omega)) ?_ | refine WPl.rdX (ReadR.sliceLH rfl rfl rfl hasA (by omega) (by omega)) ?_)
     | (refine WPl.spQ (fun hc => ?_) (fun hc => ?_) <;> try first | exact prA | (exfalso; first | omega))
     | fail)
    exact WPq.dR
  | succ m =>
    have hy0 : y ≥ 0 := by omega
    have hst := xor_step (a := b0.toNat) (b := b2.toNat) (m := m)
    rw [← hCx] at hst
    obtain ⟨z1, hz1⟩ : ∃ z1, b0.toNat / 2 ^ m = z1 := ⟨_, rfl⟩
    obtain ⟨z2, hz2⟩ : ∃ z2, b2.toNat / 2 ^ m = z2 := ⟨_, rfl⟩
    obtain ⟨q, hq⟩ : ∃ q, C / 2 ^ m = q := ⟨_, rfl⟩
    obtain ⟨q2, hq2⟩ : ∃ q2, C / 2 ^ (m + 1) = q2 := ⟨_, rfl⟩
    have h1l : z1 < 256 := by rw [← hz1]; exact Nat.lt_of_le_of_lt (Nat.div_le_self _ _) hb08
    have h2l : z2 < 256 := by rw [← hz2]; exact Nat.lt_of_le_of_lt (Nat.div_le_self _ _) hb28
    have hql : q < 256 := by rw [← hq]; exact Nat.lt_of_le_of_lt (Nat.div_le_self _ _) hC8
    rw [hz1, hz2, hq, hq2] at hst
    rw [hq2] at hxx
    have hw24 : IntKind.u64.wrap y = y := by rw [IntKind.wrap_u64]; omega
    have hw30 : IntKind.u8.wrap ((z1 : Int) + (z2 : Int)) = (((z1 + z2) % 256 : Nat) : Int) := by rw [IntKind.wrap_u8]; omega
    have hw31 : (((z1 + z2) % 256 : Nat) : Int) % 2 = (((z1 + z2) % 2 : Nat) : Int) := by omega
    have hw32 : 2 * x + (((z1 + z2) % 2 : Nat) : Int) = (q : Int) := by omega
    have hym : y = (m : Int) := by omega
    have hm8 : m ≤ kw .u8 := by show m ≤ 8; omega
    repeat' (first
     | refine WPl.nil ?_ | refine WPq.then ?_ | refine WPq.thenR ?_ | refine WPq.thenE ?_ | refine WPq.blockN ?_ | refine WPq.blockR ?_ | refine WPq.blockE ?_ | refine WPq.blockO rfl ?_ | refine WPc.seq ?_ | refine WPc.block ?_ | refine WPc.ret ?_ | refine WPc.exit ?_ | refine WPc.skip ?_ | refine WPc.region ?_
     | (refine isCond ?_; first | refine WPc.cT ?_ | refine WPc.cF ?_ | (refine WPc.cQ (fun hc => ?_) (fun hc => ?_) <;> try exact prA))
     | (refine isD 14 ?_; refine WPl.rdX (ReadR.binE rfl rfl BinR.geq (congrArg Value.bool (decide_eq_true hy0))) ?_)
     | (refine isD 18 ?_; refine WPl.rdX (ReadR.binE rfl rfl (BinR.mulK (by simp only [kmin]; omega) (by simp only [kmax]; omega)) rfl) ?_)
     | (refine isD 21 ?_; refine WPl.rdX (ReadR.indexE1 (i := at') rfl rfl hasA hat) ?_)
     | (refine isD 22 ?_; refine WPl.rdX (ReadR.loadE rfl hasA hbv) ?_)
     | (refine isD 24 ?_; refine WPl.rdX (ReadR.conv rfl hw24) ?_)
     | (refine isD 28 ?_; refine WPl.rdX (ReadR.conv rfl hw24) ?_)
     | (refine isD 25 ?_; refine WPl.rdX (ReadR.binE rfl rfl (BinR.shrZ hym hm8 hz1) rfl) ?_)
     | (refine isD 29 ?_; refine WPl.rdX (ReadR.binE rfl rfl (BinR.shrZ hym hm8 hz2) rfl) ?_)
     | (refine isD 30 ?_; refine WPl.rdX (ReadR.binE rfl rfl BinR.addW (congrArg (Value.int .u8) hw30)) ?_)
     | (refine isD 31 ?_; refine WPl.rdX (ReadR.binE rfl rfl (BinR.remK (by omega) (by omega)) (congrArg (Value.int .u8) hw31)) ?_)
     | (refine isD 32 ?_; refine WPl.rdX (ReadR.binE rfl rfl (BinR.addK (by simp only [kmin]; omega) (by simp only [kmax]; omega)) (congrArg (Value.int .u8) hw32)) ?_)
     | (refine isOp ?_; first | refine WPl.rd ?_ | refine WPl.sk ?_ | refine WPl.rdB ?_)
     | (refine isSt ?_; first | refine WPl.st1 ?_ | refine WPl.stA ?_ | refine WPl.stEB ?_ | refine WPl.stRB ?_)
     | (show WPl _ _ _ _ _ _ _ (⟨_, .indexAddr _ _ _, _, _, _, _⟩ :: _) _; refine WPl.rdX (ReadR.indexE rfl rfl hasA (by first | assumption | omega)) ?_)
     | (show WPl _ _ _ _ _ _ _ (⟨_, .fieldAddr _ _ _, _, _, _, _⟩ :: _) _; refine WPl.rdX (ReadR.fieldE rfl hasA (by first | assumption | omega)) ?_)
     | (show WPl _ _ _ _ _ _ _ (⟨_, .load _ _, _, _, _, _⟩ :: _) _; first | refine WPl.rdX (ReadR.loadE rfl hasA (by assumption)) ?_ | refine WPl.rdX (ReadR.loadES (by assumption) (by first | assumption | omega) rfl hasA) ?_)
     | (show WPl _ _ _ _ _ _ _ (⟨_, .slice _ _ _ _ _, _, _, _, _⟩ :: _) _; first | refine WPl.rdX (ReadR.sliceH rfl rfl hasA (by omega)) ?_ | refine WPl.rdX (ReadR.sliceL rfl rfl hasA (by omega)) ?_ | refine WPl.rdX (ReadR.sliceLH rfl rfl rfl hasA (by omega) (by omega)) ?_)
     | (refine WPl.spQ (fun hc => ?_) (fun hc => ?_) <;> try exact prA)
     | fail)
    refine WPq.rnd (m, (q : Int), y - 1) ⟨by dsimp only; omega, by dsimp only; rw [hq], by dsimp only; omega⟩ (by dsimp only; omega)
end Go.Proofs.Ytepmikgjnmjheaa
/- Layer 3 (dev): Spoil of the program. -/
namespace Go.Proofs.Ytepmikgjnmjheaa
open Go.RowKit
set_option linter.unusedSimpArgs false
set_option linter.unusedVariables false
open Go.RowKit
set_option linter.unusedSimpArgs false
set_option linter.unusedVariables false
set_option maxRecDepth 20000
set_option maxHeartbeats 4000000
attribute [local irreducible] WPc WPl WPq ReadR OpT BinR HasS bx rdN rowN Take Takes Prov Triple ResF BuildP Done ag Int.decLt Int.decLe Int.instDecidableEq
attribute [local irreducible] mp rmp rg rgo bag vrow secs mput mget mfind mdel intsV skeys vault pickG fburn fb1 valsV zAt zB vers crashT intsN
def sgood (D : Dv) (i a : Int) : Bool := decide (0 ≤ i) && decide (i < (D.ls.length : Int)) && decide (0 ≤ a) && decide (a ≤ 255)
def Dv.spoil (D : Dv) (i a : Int) (b2 : UInt8) : Dv × Bool := if sgood D i a then (⟨D.fu, D.ls.set i.toNat ((D.ls.getD i.toNat (secF 0)).xor a.toNat b2), updW D.ws i.toNat ((D.ws i.toNat).map fun s => s.xor a.toNat b2), D.cn⟩, true) else (D, false)
def xorT (ws : List Sec) (t : Nat) (b2 : UInt8) (m : Nat) : List Sec := (ws.take m).map (fun s => s.xor t b2) ++ ws.drop m
end Go.Proofs.Ytepmikgjnmjheaa
/- Reference of layer 3 (dev): Spoil; lists of numbers compared. -/
namespace Go.Proofs.Ytepmikgjnmjheaa
open Go.RowKit
set_option linter.unusedSimpArgs false
set_option linter.unusedVariables false
set_option maxRecDepth 20000
set_option maxHeartbeats 4000000
attribute [local irreducible] WPc WPl WPq ReadR OpT BinR HasS bx rdN rowN Take Takes Prov Triple ResF BuildP Done ag Int.decLt Int.decLe Int.instDecidableEq
attribute [local irreducible] mp rmp rg rgo bag vrow secs mput mget mfind mdel intsV skeys vault pickG fburn fb1 valsV zAt zB vers crashT intsN
def mapT {α : Type} (f : α → α) (l : List α) (m : Nat) : List α := (l.take m).map f ++ l.drop m
theorem mapT_len {α : Type} {f : α → α} {l : List α} {m : Nat} : (mapT f l m).length = l.length := by
  unfold mapT
  rw [List.length_append, List.length_map, ← List.length_append, List.take_append_drop]
theorem mapT_at {α : Type} {f : α → α} {l : List α} {m : Nat} {s : α} (h : l[m]? = some s) : (mapT f l m)[m]? = some s := by
  have hm : m < l.length := (List.getElem?_eq_some_iff.1 h).1
  unfold mapT
  rw [List.getElem?_append_right (by rw [List.length_map, List.length_take]; omega), List.length_map, List.length_take, Nat.min_eq_left (by omega), Nat.sub_self, List.getElem?_drop]
  exact h
theorem mapT_next {α : Type} {f : α → α} {l : List α} {m : Nat} {s : α} (h : l[m]? = some s) : (mapT f l m).set m (f s) = mapT f l (m + 1) := by
  have hm : m < l.length := (List.getElem?_eq_some_iff.1 h).1
  unfold mapT
  rw [List.set_append_right _ _ (by rw [List.length_map, List.length_take]; omega), List.length_map, List.length_take, Nat.min_eq_left (by omega), Nat.sub_self, List.drop_eq_getElem_cons hm, List.set_cons_zero, List.take_add_one, h, List.map_append, List.append_assoc]
  rfl
theorem mapT_same {α : Type} {f : α → α} {l : List α} {m : Nat} {s : α} (h : l[m]? = some s) (hf : f s = s) : mapT f l m = mapT f l (m + 1) := by
  rw [← mapT_next h, hf]
  have h1 := mapT_at (f := f) h
  apply List.ext_getElem?
  intro i
  rw [List.getElem?_set]
  by_cases hi : m = i
  · subst hi
    rw [if_pos rfl, if_pos (List.getElem?_eq_some_iff.1 h1).1, h1]
  · rw [if_neg hi]
theorem mapT_all {α : Type} {f : α → α} {l : List α} {m : Nat} (h : l.length ≤ m) : mapT f l m = l.map f := by
  unfold mapT
  rw [List.take_of_length_le h, List.drop_eq_nil_of_le h, List.append_nil]
def zv (Z : Zl) : List (Int × Sec) := Z.map fun z => (z.1, z.2.2)
def zx (j : Int) (t : Nat) (b2 : UInt8) (z : Int × Sec) : Int × Sec := if z.1 = j then (z.1, z.2.xor t b2) else z
theorem zx_fst {j : Int} {t : Nat} {b2 : UInt8} {z : Int × Sec} : (zx j t b2 z).1 = z.1 := by unfold zx; split <;> rfl
theorem vers_zv {Z : Zl} {i : Int} : (vers Z i).map (·.2) = ((zv Z).filter fun z => decide (z.1 = i)).map (·.2) := by
  with_unfolding_all
    unfold vers zv
    rw [List.filter_map, List.map_map, List.map_map]; rfl
theorem zAt_zv {Z : Zl} : zAt Z = (zv Z).map (·.1) := by
  with_unfolding_all
    unfold zAt zv
    rw [List.map_map]; rfl
theorem zv_len {Z : Zl} : (zv Z).length = Z.length := by unfold zv; rw [List.length_map]
theorem zv_at {Z : Zl} {i : Nat} {z : Int × (Value × Sec)} (h : Z[i]? = some z) : (zv Z)[i]? = some (z.1, z.2.2) := by unfold zv; rw [List.getElem?_map, h]; rfl
theorem zv_vers {Z Z' : Zl} {j i : Int} {t : Nat} {b2 : UInt8} (h : zv Z' = (zv Z).map (zx j t b2)) : (vers Z' i).map (·.2) = if i = j then ((vers Z i).map (·.2)).map (fun s => s.xor t b2) else (vers Z i).map (·.2) := by
  rw [vers_zv, h, vers_zv, List.filter_map]
  have h1 : ((fun z : Int × Sec => decide (z.1 = i)) ∘ zx j t b2) = fun z => decide (z.1 = i) := by funext z; show decide ((zx j t b2 z).1 = i) = _; rw [zx_fst]
  rw [h1, List.map_map]
  by_cases hij : i = j
  · rw [if_pos hij, List.map_map]
    apply List.map_congr_left
    intro z hz
    rw [List.mem_filter, decide_eq_true_eq] at hz
    show (zx j t b2 z).2 = z.2.xor t b2
    unfold zx
    rw [if_pos (hz.2.trans hij)]
  · rw [if_neg hij]
    apply List.map_congr_left
    intro z hz
    rw [List.mem_filter, decide_eq_true_eq] at hz
    show (zx j t b2 z).2 = z.2
    unfold zx
    rw [if_neg (by rw [hz.2]; exact hij)]
theorem zB_set {Z : Zl} {q : Nat} {i : Int} {v : Value} {s : Sec} : (valsV (zB Z)).set q v = valsV (zB (Z.set q (i, (v, s)))) := by
  with_unfolding_all
    unfold valsV zB
    rw [List.map_set, List.map_set]
theorem zv_set {Z : Zl} {q : Nat} {i : Int} {v : Value} {s : Sec} : zv (Z.set q (i, (v, s))) = (zv Z).set q (i, s) := by
  unfold zv
  rw [List.map_set]
structure SOk (Z0 : Zl) (f : Int × Sec → Int × Sec) (L : List (Value × Sec)) (st : Nat × Zl × List (Value × Sec)) : Prop where
  l : st.1 ≤ Z0.length
  e : zv st.2.1 = mapT f (zv Z0) st.1
  z : ∀ z ∈ st.2.1, z.2 ∈ st.2.2 ∧ z.2.1.oneCell' = true
  r : ∀ x ∈ L, x ∈ st.2.2 ∧ x.1.oneCell' = true
section
variable (gX : Nat) (n k : Nat) (R : RfS)
theorem rspoil_t (j t : Nat) (b2 : UInt8) (h : RInv n k R) (hn : n ≤ 100000) (hkb : k ≤ 100000) (hj : j < n) (ht : t < 256) :
    Triple Try.prog 52 #[hD gX, .int .i64 (j : Int), .int .i64 (t : Int), .int .u8 ((b2.toNat : Nat) : Int)] (rsA gX R) (RRf gX n k (.bool true) (R.vw.spoil (j : Int) (t : Int) b2).1) := by
  have hnl := h.nl
  have hlz := h.lz
  have hjl : j < R.L.length := by omega
  have c12 := rhas_t gX R (j : Int) (by omega)
  rw [show (decide (0 ≤ (j : Int)) && decide ((j : Int) < (R.L.length : Int))) = true by rw [decide_eq_true (by omega), decide_eq_true (by omega)]; rfl] at c12
  have ha : ¬ (t : Int) < 0 := by omega
  have ha2 : ¬ (t : Int) > 255 := by omega
  obtain ⟨x, hx0⟩ : ∃ x, R.L[j]? = some x := ⟨_, List.getElem?_eq_getElem hjl⟩
  have hxv := valsV_at hx0
  obtain ⟨hin, hone⟩ := h.inL x (List.mem_of_getElem? hx0)
  have hin' : (x.1, x.2) ∈ R.rs := hin
  have hxl := x.2.len
  have c36 := turned_t x.1 x.2.b t b2 (by omega) (by omega)
  have hjv : j < (valsV R.L).length := by rw [valsV_len]; exact hjl
  have hgd : R.vw.ls.getD j (secF 0) = x.2 := by show (R.L.map (·.2)).getD j (secF 0) = _; rw [List.getD_eq_getElem?_getD, List.getElem?_map, hx0]; rfl
  have hsp : (R.vw.spoil (j : Int) (t : Int) b2).1 = ⟨R.fu, (R.L.map (·.2)).set j (x.2.xor t b2), updW R.vw.ws j ((R.vw.ws j).map fun s => s.xor t b2), R.wr⟩ := by
    unfold Dv.spoil
    rw [if_pos (show sgood R.vw (j : Int) (t : Int) = true by
      show (decide (0 ≤ (j : Int)) && decide ((j : Int) < ((R.L.map (·.2)).length : Int)) && decide (0 ≤ (t : Int)) && decide ((t : Int) ≤ 255)) = true
      rw [List.length_map, decide_eq_true (by omega), decide_eq_true (by omega), decide_eq_true (by omega), decide_eq_true (by omega)]; rfl)]
    show Dv.mk R.fu (R.vw.ls.set j ((R.vw.ls.getD j (secF 0)).xor t b2)) _ _ = _
    rw [hgd]; rfl
  rw [hsp]
  refine Triple.enter Try.func52 rfl Try.ntmps52 rfl (fun W => ?_)
  dsimp only [argsF, Nat.reduceAdd]
  repeat' (first
   | refine WPl.nil ?_ | refine WPq.then ?_ | refine WPq.thenR ?_ | refine WPq.thenE ?_ | refine WPq.blockN ?_ | refine WPq.blockR ?_ | refine WPq.blockE ?_ | refine WPq.blockO rfl ?_ | refine WPc.seq ?_ | refine WPc.block ?_ | refine WPc.ret ?_ | refine WPc.exit ?_ | refine WPc.skip ?_ | refine WPc.region ?_
   | (refine isReg 3 ?_; refine WPc.drA [([17], [26, 27, 28, 29, 30, 31, 32, 33, 34, 35, 36]), ([0, 17], [22, 26, 27, 28, 29, 30, 31, 32, 33, 34, 35, 36]), ([0, 1, 17], [22, 23, 26, 27, 28, 29, 30, 31, 32, 33, 34, 35, 36]), ([0, 1, 2, 17], [22, 23, 24, 26, 27, 28, 29, 30, 31, 32, 33, 34, 35, 36]), ([17], [22, 23, 24, 25, 27, 28, 29, 30, 31, 32, 33, 34, 35, 36]), ([17], [22, 23, 24, 25, 26, 31, 34, 35]), ([5, 17], [22, 23, 24, 25, 26, 27, 31, 34, 35]), ([5, 6, 17], [22, 23, 24, 25, 26, 27, 28, 31, 34, 35]), ([5, 6, 7, 17], [22, 23, 24, 25, 26, 27, 28, 29, 31, 34, 35]), ([17], [22, 23, 24, 25, 26, 27, 28, 29, 30, 34, 35]), ([5, 6, 7, 8, 9, 17], [22, 23, 24, 25, 26, 27, 28, 29, 30, 31, 34, 35]), ([5, 6, 7, 8, 9, 10, 17], [22, 23, 24, 25, 26, 27, 28, 29, 30, 31, 32, 34, 35]), ([17], [22, 23, 24, 25, 26, 27, 28, 29, 30, 31, 32, 33, 35]), ([17], [22, 23, 24, 25, 26, 27, 28, 29, 30, 31, 32, 33, 34]), ([5, 6, 7, 8, 9, 10, 11, 12, 13, 17], [22, 23, 24, 25, 26, 27, 28, 29, 30, 31, 32, 33, 34, 35]), ([0, 1, 2, 3, 4, 5, 6, 7, 8, 9, 10, 11, 12, 13, 14, 17], [22, 23, 24, 25, 26, 27, 28, 29, 30, 31, 32, 33, 34, 35, 36]), ([0, 1, 2, 3, 4, 5, 6, 7, 8, 9, 10, 11, 12, 13, 14, 15, 17], [22, 23, 24, 25, 26, 27, 28, 29, 30, 31, 32, 33, 34, 35, 36, 37])] [(17, 16), (17, 0), (17, 1), (17, 2), (17, 3), (17, 4), (17, 5), (17, 6), (17, 7), (17, 8), (17, 9), (17, 10), (17, 11), (17, 12), (17, 13), (17, 14), (17, 15)] (Γx := [rowN 31 1 R.vL R.L.length (valsV R.L)]) ?_; dsimp only [prev0, List.length_nil, List.length_cons])
   | (refine gAny ?_; first | (refine gD 16 ?_; refine RGl.rdX (fun e hk => by (try dsimp only [bndR, ensR, oksR, fcutR, List.append_nil, List.nil_append, List.cons_append, List.append_assoc] at hk ⊢); exact ReadR.binE rfl rfl BinR.lss (congrArg Value.bool (decide_eq_false ha))) ?_) | (refine gD 20 ?_; refine RGl.rdX (fun e hk => by (try dsimp only [bndR, ensR, oksR, fcutR, List.append_nil, List.nil_append, List.cons_append, List.append_assoc] at hk ⊢); exact ReadR.binE rfl rfl BinR.gtr (congrArg Value.bool (decide_eq_false ha2))) ?_) | (refine gD 32 ?_; refine RGl.rdX (fun e hk => by (try dsimp only [bndR, ensR, oksR, fcutR, List.append_nil, List.nil_append, List.cons_append, List.append_assoc] at hk ⊢); exact ReadR.indexE1 (i := j) rfl rfl hasA hjl) ?_) | (refine gD 33 ?_; refine RGl.rdX (fun e hk => by (try dsimp only [bndR, ensR, oksR, fcutR, List.append_nil, List.nil_append, List.cons_append, List.append_assoc] at hk ⊢); exact ReadR.loadE rfl hasA hxv) ?_) | (refine gOp ?_; (refine gC 36 ?_; refine RGl.row (Γ1 := fun _ => []) (fun e hk => OpT.callN c36 (hΔ := by (try dsimp only [bndR, ensR, oksR, fcutR, List.append_nil, List.nil_append, List.cons_append, List.append_assoc] at hk ⊢); exact provsW)) ?_)) | (refine gD 37 ?_; refine RGl.rdX (fun e hk => by (try dsimp only [bndR, ensR, oksR, fcutR, List.append_nil, List.nil_append, List.cons_append, List.append_assoc] at hk ⊢); exact ReadR.indexE1 (i := j) rfl rfl hasA hjl) ?_) | (refine gOp ?_; (refine RGl.turn (fun e hk => by (try dsimp only [bndR, ensR, oksR, fcutR, List.append_nil, List.nil_append, List.cons_append, List.append_assoc] at hk ⊢); exact OpT.storeEN (i := j) rfl rfl takesA (by (repeat (obtain ⟨hk1, hk⟩ := hk)) <;> assumption) hjv) ?_)) | (refine gOp ?_; first | refine RGl.rdA ?_ | refine RGl.rdX (fun e hk => by (try dsimp only [bndR, ensR, oksR, fcutR, List.append_nil, List.nil_append, List.cons_append, List.append_assoc] at hk ⊢); exact readB) ?_) | (refine gSt ?_; refine RGl.stA ?_) | (refine RGl.fin (fun e hk => ?_); (try dsimp only [bndA, ensAR, oksA, List.append_nil, List.nil_append, List.cons_append, List.append_assoc] at hk ⊢); (repeat (obtain ⟨hk1, hk⟩ := hk))) | fail)
   | (refine isCond ?_; first | refine WPc.cT ?_ | refine WPc.cF ?_ | (refine WPc.cQ (fun hc => ?_) (fun hc => ?_) <;> try exact prA))
   | (refine isC 12 ?_; refine WPl.cV c12 ?_ (hΔ := provsW))
   | (refine isD 16 ?_; refine WPl.rdX (ReadR.binE rfl rfl BinR.lss (congrArg Value.bool (decide_eq_false ha))) ?_)
   | (refine isD 20 ?_; refine WPl.rdX (ReadR.binE rfl rfl BinR.gtr (congrArg Value.bool (decide_eq_false ha2))) ?_)
   | (refine isD 32 ?_; refine WPl.rdX (ReadR.indexE1 (i := j) rfl rfl hasA hjl) ?_)
   | (refine isD 33 ?_; refine WPl.rdX (ReadR.loadE rfl hasA hxv) ?_)
   | (refine isD 37 ?_; refine WPl.rdX (ReadR.indexE1 (i := j) rfl rfl hasA hjl) ?_)
   | (refine isOp ?_; first | refine WPl.rd ?_ | refine WPl.sk ?_ | refine WPl.rdB ?_)
   | (refine isSt ?_; first | refine WPl.st1 ?_ | refine WPl.stA ?_ | refine WPl.stEB ?_ | refine WPl.stRB ?_)
   | (show WPl _ _ _ _ _ _ _ (⟨_, .indexAddr _ _ _, _, _, _, _⟩ :: _) _; refine WPl.rdX (ReadR.indexE rfl rfl hasA (by first | assumption | omega)) ?_)
   | (show WPl _ _ _ _ _ _ _ (⟨_, .fieldAddr _ _ _, _, _, _, _⟩ :: _) _; refine WPl.rdX (ReadR.fieldE rfl hasA (by first | assumption | omega)) ?_)
   | (show WPl _ _ _ _ _ _ _ (⟨_, .load _ _, _, _, _, _⟩ :: _) _; first | refine WPl.rdX (ReadR.loadE rfl hasA (by assumption)) ?_ | refine WPl.rdX (ReadR.loadES (by assumption) (by first | assumption | omega) rfl hasA) ?_)
   | (show WPl _ _ _ _ _ _ _ (⟨_, .slice _ _ _ _ _, _, _, _, _⟩ :: _) _; first | refine WPl.rdX (ReadR.sliceH rfl rfl hasA (by omega)) ?_ | refine WPl.rdX (ReadR.sliceL rfl rfl hasA (by omega)) ?_ | refine WPl.rdX (ReadR.sliceLH rfl rfl rfl hasA (by omega) (by omega)) ?_)
   | (refine WPl.spQ (fun hc => ?_) (fun hc => ?_) <;> try exact prA)
   | fail)
  dsimp only [Nat.reduceAdd] at *
  have h14 : (e 14).1.oneCell' = true := by assumption
  obtain ⟨v36, hv36⟩ : ∃ v36, v36 = (e 14).1 := ⟨_, rfl⟩
  rw [← hv36] at h14 ⊢
  refine WPc.vaultIn (A := ob v36 (x.2.xor t b2).b) (v := v36) (s := x.2.xor t b2) .ob ?_
  rw [show (valsV R.L).set j v36 = valsV (R.L.set j (v36, x.2.xor t b2)) from valsV_set (x := (v36, x.2.xor t b2))]
  obtain ⟨L', hL'⟩ : ∃ L', L' = R.L.set j (v36, x.2.xor t b2) := ⟨_, rfl⟩
  have hLm : ∀ y ∈ L', y ∈ (v36, x.2.xor t b2) :: R.rs ∧ y.1.oneCell' = true := fun y hy => by
    rw [hL'] at hy
    rcases List.mem_or_eq_of_mem_set hy with hy | hy
    · exact ⟨List.mem_cons_of_mem _ (h.inL y hy).1, (h.inL y hy).2⟩
    · rw [hy]; exact ⟨List.mem_cons_self .., h14⟩
  have hLl : L'.length = n := by rw [hL', List.length_set]; exact hnl
  have hLs : L'.map (·.2) = (R.L.map (·.2)).set j (x.2.xor t b2) := by rw [hL', List.map_set]
  rw [← hL']
  clear hL'
  first | refine WPc.loop (σ := Nat × Zl × List (Value × Sec)) (fun st => SOk R.Z (zx (j : Int) t b2) L' st) (fun st => [rowN 31 1 R.vL R.L.length (valsV L'), bx gX 51 (rdc R.vL R.vA R.vB R.fu R.wr), rowN 3 1 R.vA R.Z.length (intsV (zAt R.Z)), rowN 31 1 R.vB R.Z.length (valsV (zB st.2.1)), vault st.2.2]) (fun st => [(0, hD gX), (1, .int .i64 (j : Int)), (2, .int .i64 (t : Int)), (3, .int .u8 ((b2.toNat : Nat) : Int)), (9, .int .i64 (st.1 : Int))]) (fun st => R.Z.length - st.1) ((0, R.Z, (v36, x.2.xor t b2) :: R.rs)) ?_ takesA frsA (fun st km hx hk => ?_)
  · exact ⟨Nat.zero_le _, rfl, fun z hz => ⟨List.mem_cons_of_mem _ (h.inZ z hz).1, (h.inZ z hz).2⟩, hLm⟩
  obtain ⟨q, Z, rs⟩ := st
  obtain ⟨hl, he, hzz, hrr⟩ := hx
  dsimp only at hl he hzz hrr hk ⊢
  have hkm : km = R.Z.length - q := hk
  clear hk
  have hZl : Z.length = R.Z.length := by rw [← zv_len, he, mapT_len, zv_len]
  by_cases hlt : q < R.Z.length
  · obtain ⟨z0, hz0⟩ : ∃ z0, R.Z[q]? = some z0 := ⟨_, List.getElem?_eq_getElem hlt⟩
    obtain ⟨z, hz⟩ : ∃ z, Z[q]? = some z := ⟨_, List.getElem?_eq_getElem (by omega)⟩
    have hz1 := zv_at hz
    rw [he, mapT_at (zv_at hz0)] at hz1
    have hz2 : (z.1, z.2.2) = (z0.1, z0.2.2) := (Option.some.inj hz1).symm
    have ha1 : (intsV (zAt R.Z))[q]? = some (.int .i64 z0.1) := intsV_at (by with_unfolding_all (unfold zAt; rw [List.getElem?_map, hz0]; rfl))
    have hbv : (valsV (zB Z))[q]? = some z.2.1 := valsV_at (by with_unfolding_all (unfold zB; rw [List.getElem?_map, hz]; rfl))
    by_cases hij : z0.1 = (j : Int)
    · obtain ⟨hin2, hone2⟩ := hzz z (List.mem_of_getElem? hz)
      have hin2' : (z.2.1, z.2.2) ∈ rs := hin2
      have hzl := z.2.2.len
      have c70 := turned_t z.2.1 z.2.2.b t b2 (by omega) (by omega)
      have hqv : q < (valsV (zB Z)).length := (List.getElem?_eq_some_iff.1 hbv).1
      repeat' (first
       | refine WPl.nil ?_ | refine WPq.then ?_ | refine WPq.thenR ?_ | refine WPq.thenE ?_ | refine WPq.blockN ?_ | refine WPq.blockR ?_ | refine WPq.blockE ?_ | refine WPq.blockO rfl ?_ | refine WPc.seq ?_ | refine WPc.block ?_ | refine WPc.ret ?_ | refine WPc.exit ?_ | refine WPc.skip ?_ | refine WPc.region ?_
       | (refine isReg 8 ?_; refine WPc.drA [([17], [60, 61, 62, 63, 64, 65, 66, 67, 68, 69, 70]), ([0, 17], [56, 60, 61, 62, 63, 64, 65, 66, 67, 68, 69, 70]), ([0, 1, 17], [56, 57, 60, 61, 62, 63, 64, 65, 66, 67, 68, 69, 70]), ([0, 1, 2, 17], [56, 57, 58, 60, 61, 62, 63, 64, 65, 66, 67, 68, 69, 70]), ([17], [56, 57, 58, 59, 61, 62, 63, 64, 65, 66, 67, 68, 69, 70]), ([17], [56, 57, 58, 59, 60, 65, 68, 69]), ([5, 17], [56, 57, 58, 59, 60, 61, 65, 68, 69]), ([5, 6, 17], [56, 57, 58, 59, 60, 61, 62, 65, 68, 69]), ([5, 6, 7, 17], [56, 57, 58, 59, 60, 61, 62, 63, 65, 68, 69]), ([17], [56, 57, 58, 59, 60, 61, 62, 63, 64, 68, 69]), ([5, 6, 7, 8, 9, 17], [56, 57, 58, 59, 60, 61, 62, 63, 64, 65, 68, 69]), ([5, 6, 7, 8, 9, 10, 17], [56, 57, 58, 59, 60, 61, 62, 63, 64, 65, 66, 68, 69]), ([17], [56, 57, 58, 59, 60, 61, 62, 63, 64, 65, 66, 67, 69]), ([17], [56, 57, 58, 59, 60, 61, 62, 63, 64, 65, 66, 67, 68]), ([5, 6, 7, 8, 9, 10, 11, 12, 13, 17], [56, 57, 58, 59, 60, 61, 62, 63, 64, 65, 66, 67, 68, 69]), ([0, 1, 2, 3, 4, 5, 6, 7, 8, 9, 10, 11, 12, 13, 14, 17], [56, 57, 58, 59, 60, 61, 62, 63, 64, 65, 66, 67, 68, 69, 70]), ([0, 1, 2, 3, 4, 5, 6, 7, 8, 9, 10, 11, 12, 13, 14, 15, 17], [56, 57, 58, 59, 60, 61, 62, 63, 64, 65, 66, 67, 68, 69, 70, 71])] [(17, 16), (17, 0), (17, 1), (17, 2), (17, 3), (17, 4), (17, 5), (17, 6), (17, 7), (17, 8), (17, 9), (17, 10), (17, 11), (17, 12), (17, 13), (17, 14), (17, 15)] (Γx := [rowN 31 1 R.vB R.Z.length (valsV (zB Z))]) ?_; dsimp only [prev0, List.length_nil, List.length_cons])
       | (refine gAny ?_; first | (refine gD 52 ?_; refine RGl.rdX (fun e hk => by (try dsimp only [bndR, ensR, oksR, fcutR, List.append_nil, List.nil_append, List.cons_append, List.append_assoc] at hk ⊢); exact ReadR.indexE1 (i := q) rfl rfl hasA hlt) ?_) | (refine gD 53 ?_; refine RGl.rdX (fun e hk => by (try dsimp only [bndR, ensR, oksR, fcutR, List.append_nil, List.nil_append, List.cons_append, List.append_assoc] at hk ⊢); exact ReadR.loadE rfl hasA ha1) ?_) | (refine gD 55 ?_; refine RGl.rdX (fun e hk => by (try dsimp only [bndR, ensR, oksR, fcutR, List.append_nil, List.nil_append, List.cons_append, List.append_assoc] at hk ⊢); exact ReadR.binE rfl rfl BinR.eql (congrArg Value.bool (decide_eq_true hij))) ?_) | (refine gD 66 ?_; refine RGl.rdX (fun e hk => by (try dsimp only [bndR, ensR, oksR, fcutR, List.append_nil, List.nil_append, List.cons_append, List.append_assoc] at hk ⊢); exact ReadR.indexE1 (i := q) rfl rfl hasA hlt) ?_) | (refine gD 67 ?_; refine RGl.rdX (fun e hk => by (try dsimp only [bndR, ensR, oksR, fcutR, List.append_nil, List.nil_append, List.cons_append, List.append_assoc] at hk ⊢); exact ReadR.loadE rfl hasA hbv) ?_) | (refine gOp ?_; (refine gC 70 ?_; refine RGl.row (Γ1 := fun _ => []) (fun e hk => OpT.callN c70 (hΔ := by (try dsimp only [bndR, ensR, oksR, fcutR, List.append_nil, List.nil_append, List.cons_append, List.append_assoc] at hk ⊢); exact provsW)) ?_)) | (refine gD 71 ?_; refine RGl.rdX (fun e hk => by (try dsimp only [bndR, ensR, oksR, fcutR, List.append_nil, List.nil_append, List.cons_append, List.append_assoc] at hk ⊢); exact ReadR.indexE1 (i := q) rfl rfl hasA hlt) ?_) | (refine gOp ?_; (refine RGl.turn (fun e hk => by (try dsimp only [bndR, ensR, oksR, fcutR, List.append_nil, List.nil_append, List.cons_append, List.append_assoc] at hk ⊢); exact OpT.storeEN (i := q) rfl rfl takesA (by (repeat (obtain ⟨hk1, hk⟩ := hk)) <;> assumption) hqv) ?_)) | (refine gOp ?_; first | refine RGl.rdA ?_ | refine RGl.rdX (fun e hk => by (try dsimp only [bndR, ensR, oksR, fcutR, List.append_nil, List.nil_append, List.cons_append, List.append_assoc] at hk ⊢); exact readB) ?_) | (refine gSt ?_; refine RGl.stA ?_) | (refine RGl.fin (fun e hk => ?_); (try dsimp only [bndA, ensAR, oksA, List.append_nil, List.nil_append, List.cons_append, List.append_assoc] at hk ⊢); (repeat (obtain ⟨hk1, hk⟩ := hk))) | fail)
       | (refine isCond ?_; first | refine WPc.cT ?_ | refine WPc.cF ?_ | (refine WPc.cQ (fun hc => ?_) (fun hc => ?_) <;> try first | exact prA | (exfalso; first | omega)))
       | (refine isD 52 ?_; refine WPl.rdX (ReadR.indexE1 (i := q) rfl rfl hasA hlt) ?_)
       | (refine isD 53 ?_; refine WPl.rdX (ReadR.loadE rfl hasA ha1) ?_)
       | (refine isD 55 ?_; refine WPl.rdX (ReadR.binE rfl rfl BinR.eql (congrArg Value.bool (decide_eq_true hij))) ?_)
       | (refine isD 66 ?_; refine WPl.rdX (ReadR.indexE1 (i := q) rfl rfl hasA hlt) ?_)
       | (refine isD 67 ?_; refine WPl.rdX (ReadR.loadE rfl hasA hbv) ?_)
       | (refine isD 71 ?_; refine WPl.rdX (ReadR.indexE1 (i := q) rfl rfl hasA hlt) ?_)
       | (refine isOp ?_; first | refine WPl.rd ?_ | refine WPl.sk ?_ | refine WPl.rdB ?_)
       | (refine isSt ?_; first | refine WPl.st1 ?_ | refine WPl.stA ?_ | refine WPl.stEB ?_ | refine WPl.stRB ?_)
       | (show WPl _ _ _ _ _ _ _ (⟨_, .indexAddr _ _ _, _, _, _, _⟩ :: _) _; refine WPl.rdX (ReadR.indexE rfl rfl hasA (by first | assumption | omega)) ?_)
       | (show WPl _ _ _ _ _ _ _ (⟨_, .fieldAddr _ _ _, _, _, _, _⟩ :: _) _; refine WPl.rdX (ReadR.fieldE rfl hasA (by first | assumption | omega)) ?_)
       | (show WPl _ _ _ _ _ _ _ (⟨_, .load _ _, _, _, _, _⟩ :: _) _; first | refine WPl.rdX (ReadR.loadE rfl hasA (by assumption)) ?_ | refine WPl.rdX (ReadR.loadES (by assumption) (by first | assumption | omega) rfl hasA) ?_)
       | (show WPl _ _ _ _ _ _ _ (⟨_, .slice _ _ _ _ _, _, _, _, _⟩ :: _) _; first | refine WPl.rdX (ReadR.sliceH rfl rfl hasA (by omega)) ?_ | refine WPl.rdX (ReadR.sliceL rfl rfl hasA (by omega)) ?_ | refine WPl.rdX (ReadR.sliceLH rfl rfl rfl hasA (by omega) (by omega)) ?_)
       | (refine WPl.spQ (fun hc => ?_) (fun hc => ?_) <;> try first | exact prA | (exfalso; first | omega))
       | fail)
      dsimp only [Nat.reduceAdd] at *
      have h70 : (e 14).1.oneCell' = true := by assumption
      obtain ⟨v70, hv70⟩ : ∃ v70, v70 = (e 14).1 := ⟨_, rfl⟩
      rw [← hv70] at h70 ⊢
      refine WPq.vaultIn (A := ob v70 (z.2.2.xor t b2).b) (v := v70) (s := z.2.2.xor t b2) .ob ?_
      rw [zB_set (i := z.1) (s := z.2.2.xor t b2)]
      have he' : zv (Z.set q (z.1, (v70, z.2.2.xor t b2))) = mapT (zx (j : Int) t b2) (zv R.Z) (q + 1) := by
        rw [zv_set, he, ← mapT_next (zv_at hz0)]
        congr 1
        unfold zx
        rw [if_pos hij, ← (Prod.mk.inj hz2).1, ← (Prod.mk.inj hz2).2]
      refine WPq.rnd (q + 1, Z.set q (z.1, (v70, z.2.2.xor t b2)), (v70, z.2.2.xor t b2) :: rs) ⟨hlt, he', fun y hy => ?_, fun y hy => ⟨List.mem_cons_of_mem _ (hrr y hy).1, (hrr y hy).2⟩⟩ (by dsimp only; omega)
      rcases List.mem_or_eq_of_mem_set hy with hy | hy
      · exact ⟨List.mem_cons_of_mem _ (hzz y hy).1, (hzz y hy).2⟩
      · rw [hy]; exact ⟨List.mem_cons_self .., h70⟩
    · skip
      repeat' (first
       | refine WPl.nil ?_ | refine WPq.then ?_ | refine WPq.thenR ?_ | refine WPq.thenE ?_ | refine WPq.blockN ?_ | refine WPq.blockR ?_ | refine WPq.blockE ?_ | refine WPq.blockO rfl ?_ | refine WPc.seq ?_ | refine WPc.block ?_ | refine WPc.ret ?_ | refine WPc.exit ?_ | refine WPc.skip ?_ | refine WPc.region ?_
       | (refine isCond ?_; first | refine WPc.cT ?_ | refine WPc.cF ?_ | (refine WPc.cQ (fun hc => ?_) (fun hc => ?_) <;> try first | exact prA | (exfalso; first | omega)))
       | (refine isD 52 ?_; refine WPl.rdX (ReadR.indexE1 (i := q) rfl rfl hasA hlt) ?_)
       | (refine isD 53 ?_; refine WPl.rdX (ReadR.loadE rfl hasA ha1) ?_)
       | (refine isD 55 ?_; refine WPl.rdX (ReadR.binE rfl rfl BinR.eql (congrArg Value.bool (decide_eq_false hij))) ?_)
       | (refine isOp ?_; first | refine WPl.rd ?_ | refine WPl.sk ?_ | refine WPl.rdB ?_)
       | (refine isSt ?_; first | refine WPl.st1 ?_ | refine WPl.stA ?_ | refine WPl.stEB ?_ | refine WPl.stRB ?_)
       | (show WPl _ _ _ _ _ _ _ (⟨_, .indexAddr _ _ _, _, _, _, _⟩ :: _) _; refine WPl.rdX (ReadR.indexE rfl rfl hasA (by first | assumption | omega)) ?_)
       | (show WPl _ _ _ _ _ _ _ (⟨_, .fieldAddr _ _ _, _, _, _, _⟩ :: _) _; refine WPl.rdX (ReadR.fieldE rfl hasA (by first | assumption | omega)) ?_)
       | (show WPl _ _ _ _ _ _ _ (⟨_, .load _ _, _, _, _, _⟩ :: _) _; first | refine WPl.rdX (ReadR.loadE rfl hasA (by assumption)) ?_ | refine WPl.rdX (ReadR.loadES (by assumption) (by first | assumption | omega) rfl hasA) ?_)
       | (show WPl _ _ _ _ _ _ _ (⟨_, .slice _ _ _ _ _, _, _, _, _⟩ :: _) _; first | refine WPl.rdX (ReadR.sliceH rfl rfl hasA (by omega)) ?_ | refine WPl.rdX (ReadR.sliceL rfl rfl hasA (by omega)) ?_ | refine WPl.rdX (ReadR.sliceLH rfl rfl rfl hasA (by omega) (by omega)) ?_)
       | (refine WPl.spQ (fun hc => ?_) (fun hc => ?_) <;> try first | exact prA | (exfalso; first | omega))
       | fail)
      refine WPq.rnd (q + 1, Z, rs) ⟨hlt, ?_, hzz, hrr⟩ (by dsimp only; omega)
      show zv Z = _
      rw [he]
      exact mapT_same (zv_at hz0) (by unfold zx; rw [if_neg hij])
  · have hq : q = R.Z.length := by omega
    have he' : zv Z = (zv R.Z).map (zx (j : Int) t b2) := by rw [he, mapT_all (by rw [zv_len]; omega)]
    have hzA : zAt Z = zAt R.Z := by
      rw [zAt_zv, he', zAt_zv, List.map_map]
      apply List.map_congr_left
      intro y _
      exact zx_fst
    repeat' (first
     | refine WPl.nil ?_ | refine WPq.then ?_ | refine WPq.thenR ?_ | refine WPq.thenE ?_ | refine WPq.blockN ?_ | refine WPq.blockR ?_ | refine WPq.blockE ?_ | refine WPq.blockO rfl ?_ | refine WPc.seq ?_ | refine WPc.block ?_ | refine WPc.ret ?_ | refine WPc.exit ?_ | refine WPc.skip ?_ | refine WPc.region ?_
     | (refine isCond ?_; first | refine WPc.cT ?_ | refine WPc.cF ?_ | (refine WPc.cQ (fun hc => ?_) (fun hc => ?_) <;> try first | exact prA | (exfalso; first | omega)))
     | (refine isOp ?_; first | refine WPl.rd ?_ | refine WPl.sk ?_ | refine WPl.rdB ?_)
     | (refine isSt ?_; first | refine WPl.st1 ?_ | refine WPl.stA ?_ | refine WPl.stEB ?_ | refine WPl.stRB ?_)
     | (show WPl _ _ _ _ _ _ _ (⟨_, .indexAddr _ _ _, _, _, _, _⟩ :: _) _; refine WPl.rdX (ReadR.indexE rfl rfl hasA (by first | assumption | omega)) ?_)
     | (show WPl _ _ _ _ _ _ _ (⟨_, .fieldAddr _ _ _, _, _, _, _⟩ :: _) _; refine WPl.rdX (ReadR.fieldE rfl hasA (by first | assumption | omega)) ?_)
     | (show WPl _ _ _ _ _ _ _ (⟨_, .load _ _, _, _, _, _⟩ :: _) _; first | refine WPl.rdX (ReadR.loadE rfl hasA (by assumption)) ?_ | refine WPl.rdX (ReadR.loadES (by assumption) (by first | assumption | omega) rfl hasA) ?_)
     | (show WPl _ _ _ _ _ _ _ (⟨_, .slice _ _ _ _ _, _, _, _, _⟩ :: _) _; first | refine WPl.rdX (ReadR.sliceH rfl rfl hasA (by omega)) ?_ | refine WPl.rdX (ReadR.sliceL rfl rfl hasA (by omega)) ?_ | refine WPl.rdX (ReadR.sliceLH rfl rfl rfl hasA (by omega) (by omega)) ?_)
     | (refine WPl.spQ (fun hc => ?_) (fun hc => ?_) <;> try first | exact prA | (exfalso; first | omega))
     | fail)
    rw [← hzA, ← hZl, show R.L.length = L'.length by omega]
    refine WPq.dX (ho := ownsW) (vs := [.bool true]) (rsA gX ⟨R.vL, L', R.vA, R.vB, Z, R.fu, R.wr, rs⟩) ⟨⟨R.vL, L', R.vA, R.vB, Z, R.fu, R.wr, rs⟩, rfl, ?_, ⟨h.one, h.f4, h.fb, hLl, by show Z.length ≤ k; omega, fun z hz => ?_, hrr, hzz, h.w0, h.w1⟩, rfl⟩
    · show Dv.mk R.fu (L'.map (·.2)) (fun i : Nat => (vers Z (i : Int)).map (·.2)) R.wr = Dv.mk _ _ _ _
      rw [hLs]
      congr 1
      funext i
      rw [zv_vers he']
      unfold updW
      by_cases hij : i = j
      · rw [if_pos (by rw [hij]), if_pos hij, hij]; rfl
      · rw [if_neg (by omega), if_neg hij]; rfl
    · have h1 : z.1 ∈ zAt Z := by with_unfolding_all (unfold zAt; exact List.mem_map_of_mem hz)
      rw [hzA] at h1
      have h1 : z.1 ∈ List.map (fun x : Int × (Value × Sec) => x.1) R.Z := by with_unfolding_all exact h1
      obtain ⟨y, hy, hyz⟩ := List.mem_map.1 h1
      rw [← hyz]
      exact h.at' y hy
end
theorem ints_t (va vb : Value) (a b : List Int) (ha : a.length ≤ 100000) (hb : b.length ≤ 100000) :
    Triple Try.prog 23 #[va, vb] [rdN va a.length (intsV a), rdN vb b.length (intsV b)] (RVal (.bool (decide (a = b)))) := by
  by_cases hl : a.length = b.length
  · have hne : ¬ (a.length : Int) ≠ (b.length : Int) := by omega
    refine Triple.enter Try.func23 rfl Try.ntmps23 rfl (fun W => ?_)
    dsimp only [argsF, Nat.reduceAdd]
    repeat' (first
     | refine WPl.nil ?_ | refine WPq.then ?_ | refine WPq.thenR ?_ | refine WPq.thenE ?_ | refine WPq.blockN ?_ | refine WPq.blockR ?_ | refine WPq.blockE ?_ | refine WPq.blockO rfl ?_ | refine WPc.seq ?_ | refine WPc.block ?_ | refine WPc.ret ?_ | refine WPc.exit ?_ | refine WPc.skip ?_ | refine WPc.region ?_
     | (refine isCond ?_; first | refine WPc.cT ?_ | refine WPc.cF ?_ | (refine WPc.cQ (fun hc => ?_) (fun hc => ?_) <;> try exact prA))
     | (refine isD 10 ?_; refine WPl.rdX (ReadR.binE rfl rfl BinR.neq (congrArg Value.bool (decide_eq_false hne))) ?_)
     | (refine isOp ?_; first | refine WPl.rd ?_ | refine WPl.sk ?_ | refine WPl.rdB ?_)
     | (show WPl _ _ _ _ _ _ _ (⟨_, .indexAddr _ _ _, _, _, _, _⟩ :: _) _; refine WPl.rdX (ReadR.indexE rfl rfl hasA (by first | assumption | omega)) ?_)
     | (show WPl _ _ _ _ _ _ _ (⟨_, .fieldAddr _ _ _, _, _, _, _⟩ :: _) _; refine WPl.rdX (ReadR.fieldE rfl hasA (by first | assumption | omega)) ?_)
     | (show WPl _ _ _ _ _ _ _ (⟨_, .load _ _, _, _, _, _⟩ :: _) _; first | refine WPl.rdX (ReadR.loadE rfl hasA (by assumption)) ?_ | refine WPl.rdX (ReadR.loadES (by assumption) (by first | assumption | omega) rfl hasA) ?_)
     | (show WPl _ _ _ _ _ _ _ (⟨_, .slice _ _ _ _ _, _, _, _, _⟩ :: _) _; first | refine WPl.rdX (ReadR.sliceH rfl rfl hasA (by omega)) ?_ | refine WPl.rdX (ReadR.sliceL rfl rfl hasA (by omega)) ?_ | refine WPl.rdX (ReadR.sliceLH rfl rfl rfl hasA (by omega) (by omega)) ?_)
     | (refine WPl.spQ (fun hc => ?_) (fun hc => ?_) <;> try exact prA)
     | fail)
    first | refine WPc.loop (σ := Nat) (fun st => st ≤ a.length ∧ a.take st = b.take st) (fun st => [rdN va a.length (intsV a), rdN vb b.length (intsV b)]) (fun st => [(0, va), (1, vb), (5, .int .i64 (st : Int))]) (fun st => a.length - st) (0) ?_ takesA frsA (fun st km hx hk => ?_)
    · exact ⟨Nat.zero_le _, by rw [List.take_zero, List.take_zero]⟩
    obtain ⟨hx, hxe⟩ := hx
    have hkm : km = a.length - st := hk
    clear hk
    by_cases hlt : st < a.length
    · obtain ⟨x, hx1⟩ : ∃ x, a[st]? = some x := ⟨_, List.getElem?_eq_getElem hlt⟩
      obtain ⟨y, hy1⟩ : ∃ y, b[st]? = some y := ⟨_, List.getElem?_eq_getElem (by omega)⟩
      have hltb : st < b.length := by omega
      have hxv := intsV_at hx1
      have hyv := intsV_at hy1
      by_cases hxy : x ≠ y
      · have hab : ¬ a = b := fun h9 => by rw [h9, hy1] at hx1; exact hxy (Option.some.inj hx1).symm
        repeat' (first
         | refine WPl.nil ?_ | refine WPq.then ?_ | refine WPq.thenR ?_ | refine WPq.thenE ?_ | refine WPq.blockN ?_ | refine WPq.blockR ?_ | refine WPq.blockE ?_ | refine WPq.blockO rfl ?_ | refine WPc.seq ?_ | refine WPc.block ?_ | refine WPc.ret ?_ | refine WPc.exit ?_ | refine WPc.skip ?_ | refine WPc.region ?_
         | (refine isReg 6 ?_; refine WPc.drA [([], [18, 21, 22, 23, 24]), ([], [17, 21, 22, 23, 24]), ([0, 1], [17, 18, 21, 22, 23, 24]), ([0, 1, 2], [17, 18, 19, 21, 22, 23, 24]), ([], [17, 18, 19, 20, 22]), ([], [17, 18, 19, 20, 21]), ([4, 5], [17, 18, 19, 20, 21, 22]), ([4, 5, 6], [17, 18, 19, 20, 21, 22, 23]), ([0, 1, 2, 3, 4, 5, 6, 7], [17, 18, 19, 20, 21, 22, 23, 24])] [] (Γx := []) ?_; dsimp only [prev0, List.length_nil, List.length_cons])
         | (refine gAny ?_; first | (refine gD 19 ?_; refine RGl.rdX (fun e hk => by (try dsimp only [bndR, ensR, oksR, fcutR, List.append_nil, List.nil_append, List.cons_append, List.append_assoc] at hk ⊢); exact ReadR.indexE1 (i := st) rfl rfl hasA hlt) ?_) | (refine gD 20 ?_; refine RGl.rdX (fun e hk => by (try dsimp only [bndR, ensR, oksR, fcutR, List.append_nil, List.nil_append, List.cons_append, List.append_assoc] at hk ⊢); exact ReadR.loadE rfl hasA hxv) ?_) | (refine gD 23 ?_; refine RGl.rdX (fun e hk => by (try dsimp only [bndR, ensR, oksR, fcutR, List.append_nil, List.nil_append, List.cons_append, List.append_assoc] at hk ⊢); exact ReadR.indexE1 (i := st) rfl rfl hasA hltb) ?_) | (refine gD 24 ?_; refine RGl.rdX (fun e hk => by (try dsimp only [bndR, ensR, oksR, fcutR, List.append_nil, List.nil_append, List.cons_append, List.append_assoc] at hk ⊢); exact ReadR.loadE rfl hasA hyv) ?_) | (refine gD 25 ?_; refine RGl.rdX (fun e hk => by (try dsimp only [bndR, ensR, oksR, fcutR, List.append_nil, List.nil_append, List.cons_append, List.append_assoc] at hk ⊢); exact ReadR.binE rfl rfl BinR.neq (congrArg Value.bool (decide_eq_true hxy))) ?_) | (refine gOp ?_; first | refine RGl.rdA ?_ | refine RGl.rdX (fun e hk => by (try dsimp only [bndR, ensR, oksR, fcutR, List.append_nil, List.nil_append, List.cons_append, List.append_assoc] at hk ⊢); exact readB) ?_) | (refine RGl.fin (fun e hk => ?_); (try dsimp only [bndA, ensAR, oksA, List.append_nil, List.nil_append, List.cons_append, List.append_assoc] at hk ⊢); (repeat (obtain ⟨hk1, hk⟩ := hk))) | fail)
         | (refine isCond ?_; first | refine WPc.cT ?_ | refine WPc.cF ?_ | (refine WPc.cQ (fun hc => ?_) (fun hc => ?_) <;> try first | exact prA | (exfalso; first | omega)))
         | (refine isD 19 ?_; refine WPl.rdX (ReadR.indexE1 (i := st) rfl rfl hasA hlt) ?_)
         | (refine isD 20 ?_; refine WPl.rdX (ReadR.loadE rfl hasA hxv) ?_)
         | (refine isD 23 ?_; refine WPl.rdX (ReadR.indexE1 (i := st) rfl rfl hasA hltb) ?_)
         | (refine isD 24 ?_; refine WPl.rdX (ReadR.loadE rfl hasA hyv) ?_)
         | (refine isD 25 ?_; refine WPl.rdX (ReadR.binE rfl rfl BinR.neq (congrArg Value.bool (decide_eq_true hxy))) ?_)
         | (refine isOp ?_; first | refine WPl.rd ?_ | refine WPl.sk ?_ | refine WPl.rdB ?_)
         | (show WPl _ _ _ _ _ _ _ (⟨_, .indexAddr _ _ _, _, _, _, _⟩ :: _) _; refine WPl.rdX (ReadR.indexE rfl rfl hasA (by first | assumption | omega)) ?_)
         | (show WPl _ _ _ _ _ _ _ (⟨_, .fieldAddr _ _ _, _, _, _, _⟩ :: _) _; refine WPl.rdX (ReadR.fieldE rfl hasA (by first | assumption | omega)) ?_)
         | (show WPl _ _ _ _ _ _ _ (⟨_, .load _ _, _, _, _, _⟩ :: _) _; first | refine WPl.rdX (ReadR.loadE rfl hasA (by assumption)) ?_ | refine WPl.rdX (ReadR.loadES (by assumption) (by first | assumption | omega) rfl hasA) ?_)
         | (show WPl _ _ _ _ _ _ _ (⟨_, .slice _ _ _ _ _, _, _, _, _⟩ :: _) _; first | refine WPl.rdX (ReadR.sliceH rfl rfl hasA (by omega)) ?_ | refine WPl.rdX (ReadR.sliceL rfl rfl hasA (by omega)) ?_ | refine WPl.rdX (ReadR.sliceLH rfl rfl rfl hasA (by omega) (by omega)) ?_)
         | (refine WPl.spQ (fun hc => ?_) (fun hc => ?_) <;> try first | exact prA | (exfalso; first | omega))
         | fail)
        rw [decide_eq_false hab]
        exact WPq.dV
      · skip
        repeat' (first
         | refine WPl.nil ?_ | refine WPq.then ?_ | refine WPq.thenR ?_ | refine WPq.thenE ?_ | refine WPq.blockN ?_ | refine WPq.blockR ?_ | refine WPq.blockE ?_ | refine WPq.blockO rfl ?_ | refine WPc.seq ?_ | refine WPc.block ?_ | refine WPc.ret ?_ | refine WPc.exit ?_ | refine WPc.skip ?_ | refine WPc.region ?_
         | (refine isReg 6 ?_; refine WPc.drA [([], [18, 21, 22, 23, 24]), ([], [17, 21, 22, 23, 24]), ([0, 1], [17, 18, 21, 22, 23, 24]), ([0, 1, 2], [17, 18, 19, 21, 22, 23, 24]), ([], [17, 18, 19, 20, 22]), ([], [17, 18, 19, 20, 21]), ([4, 5], [17, 18, 19, 20, 21, 22]), ([4, 5, 6], [17, 18, 19, 20, 21, 22, 23]), ([0, 1, 2, 3, 4, 5, 6, 7], [17, 18, 19, 20, 21, 22, 23, 24])] [] (Γx := []) ?_; dsimp only [prev0, List.length_nil, List.length_cons])
         | (refine gAny ?_; first | (refine gD 19 ?_; refine RGl.rdX (fun e hk => by (try dsimp only [bndR, ensR, oksR, fcutR, List.append_nil, List.nil_append, List.cons_append, List.append_assoc] at hk ⊢); exact ReadR.indexE1 (i := st) rfl rfl hasA hlt) ?_) | (refine gD 20 ?_; refine RGl.rdX (fun e hk => by (try dsimp only [bndR, ensR, oksR, fcutR, List.append_nil, List.nil_append, List.cons_append, List.append_assoc] at hk ⊢); exact ReadR.loadE rfl hasA hxv) ?_) | (refine gD 23 ?_; refine RGl.rdX (fun e hk => by (try dsimp only [bndR, ensR, oksR, fcutR, List.append_nil, List.nil_append, List.cons_append, List.append_assoc] at hk ⊢); exact ReadR.indexE1 (i := st) rfl rfl hasA hltb) ?_) | (refine gD 24 ?_; refine RGl.rdX (fun e hk => by (try dsimp only [bndR, ensR, oksR, fcutR, List.append_nil, List.nil_append, List.cons_append, List.append_assoc] at hk ⊢); exact ReadR.loadE rfl hasA hyv) ?_) | (refine gD 25 ?_; refine RGl.rdX (fun e hk => by (try dsimp only [bndR, ensR, oksR, fcutR, List.append_nil, List.nil_append, List.cons_append, List.append_assoc] at hk ⊢); exact ReadR.binE rfl rfl BinR.neq (congrArg Value.bool (decide_eq_false hxy))) ?_) | (refine gOp ?_; first | refine RGl.rdA ?_ | refine RGl.rdX (fun e hk => by (try dsimp only [bndR, ensR, oksR, fcutR, List.append_nil, List.nil_append, List.cons_append, List.append_assoc] at hk ⊢); exact readB) ?_) | (refine RGl.fin (fun e hk => ?_); (try dsimp only [bndA, ensAR, oksA, List.append_nil, List.nil_append, List.cons_append, List.append_assoc] at hk ⊢); (repeat (obtain ⟨hk1, hk⟩ := hk))) | fail)
         | (refine isCond ?_; first | refine WPc.cT ?_ | refine WPc.cF ?_ | (refine WPc.cQ (fun hc => ?_) (fun hc => ?_) <;> try first | exact prA | (exfalso; first | omega)))
         | (refine isD 19 ?_; refine WPl.rdX (ReadR.indexE1 (i := st) rfl rfl hasA hlt) ?_)
         | (refine isD 20 ?_; refine WPl.rdX (ReadR.loadE rfl hasA hxv) ?_)
         | (refine isD 23 ?_; refine WPl.rdX (ReadR.indexE1 (i := st) rfl rfl hasA hltb) ?_)
         | (refine isD 24 ?_; refine WPl.rdX (ReadR.loadE rfl hasA hyv) ?_)
         | (refine isD 25 ?_; refine WPl.rdX (ReadR.binE rfl rfl BinR.neq (congrArg Value.bool (decide_eq_false hxy))) ?_)
         | (refine isOp ?_; first | refine WPl.rd ?_ | refine WPl.sk ?_ | refine WPl.rdB ?_)
         | (show WPl _ _ _ _ _ _ _ (⟨_, .indexAddr _ _ _, _, _, _, _⟩ :: _) _; refine WPl.rdX (ReadR.indexE rfl rfl hasA (by first | assumption | omega)) ?_)
         | (show WPl _ _ _ _ _ _ _ (⟨_, .fieldAddr _ _ _, _, _, _, _⟩ :: _) _; refine WPl.rdX (ReadR.fieldE rfl hasA (by first | assumption | omega)) ?_)
         | (show WPl _ _ _ _ _ _ _ (⟨_, .load _ _, _, _, _, _⟩ :: _) _; first | refine WPl.rdX (ReadR.loadE rfl hasA (by assumption)) ?_ | refine WPl.rdX (ReadR.loadES (by assumption) (by first | assumption | omega) rfl hasA) ?_)
         | (show WPl _ _ _ _ _ _ _ (⟨_, .slice _ _ _ _ _, _, _, _, _⟩ :: _) _; first | refine WPl.rdX (ReadR.sliceH rfl rfl hasA (by omega)) ?_ | refine WPl.rdX (ReadR.sliceL rfl rfl hasA (by omega)) ?_ | refine WPl.rdX (ReadR.sliceLH rfl rfl rfl hasA (by omega) (by omega)) ?_)
         | (refine WPl.spQ (fun hc => ?_) (fun hc => ?_) <;> try first | exact prA | (exfalso; first | omega))
         | fail)
        refine WPq.rnd (st + 1) ⟨hlt, ?_⟩ (by omega)
        rw [List.take_add_one, List.take_add_one, hxe, hx1, hy1, show x = y from Decidable.of_not_not hxy]
    · have hab : a = b := by
        rw [List.take_of_length_le (by omega), List.take_of_length_le (by omega)] at hxe
        exact hxe
      rw [decide_eq_true hab]
      repeat' (first
       | refine WPl.nil ?_ | refine WPq.then ?_ | refine WPq.thenR ?_ | refine WPq.thenE ?_ | refine WPq.blockN ?_ | refine WPq.blockR ?_ | refine WPq.blockE ?_ | refine WPq.blockO rfl ?_ | refine WPc.seq ?_ | refine WPc.block ?_ | refine WPc.ret ?_ | refine WPc.exit ?_ | refine WPc.skip ?_ | refine WPc.region ?_
       | (refine isCond ?_; first | refine WPc.cT ?_ | refine WPc.cF ?_ | (refine WPc.cQ (fun hc => ?_) (fun hc => ?_) <;> try first | exact prA | (exfalso; first | omega)))
       | (refine isOp ?_; first | refine WPl.rd ?_ | refine WPl.sk ?_ | refine WPl.rdB ?_)
       | (show WPl _ _ _ _ _ _ _ (⟨_, .indexAddr _ _ _, _, _, _, _⟩ :: _) _; refine WPl.rdX (ReadR.indexE rfl rfl hasA (by first | assumption | omega)) ?_)
       | (show WPl _ _ _ _ _ _ _ (⟨_, .fieldAddr _ _ _, _, _, _, _⟩ :: _) _; refine WPl.rdX (ReadR.fieldE rfl hasA (by first | assumption | omega)) ?_)
       | (show WPl _ _ _ _ _ _ _ (⟨_, .load _ _, _, _, _, _⟩ :: _) _; first | refine WPl.rdX (ReadR.loadE rfl hasA (by assumption)) ?_ | refine WPl.rdX (ReadR.loadES (by assumption) (by first | assumption | omega) rfl hasA) ?_)
       | (show WPl _ _ _ _ _ _ _ (⟨_, .slice _ _ _ _ _, _, _, _, _⟩ :: _) _; first | refine WPl.rdX (ReadR.sliceH rfl rfl hasA (by omega)) ?_ | refine WPl.rdX (ReadR.sliceL rfl rfl hasA (by omega)) ?_ | refine WPl.rdX (ReadR.sliceLH rfl rfl rfl hasA (by omega) (by omega)) ?_)
       | (refine WPl.spQ (fun hc => ?_) (fun hc => ?_) <;> try first | exact prA | (exfalso; first | omega))
       | fail)
      exact WPq.dV
  · have hne : (a.length : Int) ≠ (b.length : Int) := by omega
    have hab : ¬ a = b := fun h9 => hl (by rw [h9])
    rw [decide_eq_false hab]
    refine Triple.enter Try.func23 rfl Try.ntmps23 rfl (fun W => ?_)
    dsimp only [argsF, Nat.reduceAdd]
    repeat' (first
     | refine WPl.nil ?_ | refine WPq.then ?_ | refine WPq.thenR ?_ | refine WPq.thenE ?_ | refine WPq.blockN ?_ | refine WPq.blockR ?_ | refine WPq.blockE ?_ | refine WPq.blockO rfl ?_ | refine WPc.seq ?_ | refine WPc.block ?_ | refine WPc.ret ?_ | refine WPc.exit ?_ | refine WPc.skip ?_ | refine WPc.region ?_
     | (refine isCond ?_; first | refine WPc.cT ?_ | refine WPc.cF ?_ | (refine WPc.cQ (fun hc => ?_) (fun hc => ?_) <;> try exact prA))
     | (refine isD 10 ?_; refine WPl.rdX (ReadR.binE rfl rfl BinR.neq (congrArg Value.bool (decide_eq_true hne))) ?_)
     | (refine isOp ?_; first | refine WPl.rd ?_ | refine WPl.sk ?_ | refine WPl.rdB ?_)
     | (show WPl _ _ _ _ _ _ _ (⟨_, .indexAddr _ _ _, _, _, _, _⟩ :: _) _; refine WPl.rdX (ReadR.indexE rfl rfl hasA (by first | assumption | omega)) ?_)
     | (show WPl _ _ _ _ _ _ _ (⟨_, .fieldAddr _ _ _, _, _, _, _⟩ :: _) _; refine WPl.rdX (ReadR.fieldE rfl hasA (by first | assumption | omega)) ?_)
     | (show WPl _ _ _ _ _ _ _ (⟨_, .load _ _, _, _, _, _⟩ :: _) _; first | refine WPl.rdX (ReadR.loadE rfl hasA (by assumption)) ?_ | refine WPl.rdX (ReadR.loadES (by assumption) (by first | assumption | omega) rfl hasA) ?_)
     | (show WPl _ _ _ _ _ _ _ (⟨_, .slice _ _ _ _ _, _, _, _, _⟩ :: _) _; first | refine WPl.rdX (ReadR.sliceH rfl rfl hasA (by omega)) ?_ | refine WPl.rdX (ReadR.sliceL rfl rfl hasA (by omega)) ?_ | refine WPl.rdX (ReadR.sliceLH rfl rfl rfl hasA (by omega) (by omega)) ?_)
     | (refine WPl.spQ (fun hc => ?_) (fun hc => ?_) <;> try exact prA)
     | fail)
    exact WPq.dV
end Go.Proofs.Ytepmikgjnmjheaa
/- Reference of layer 5 (cache): its memory; New, At. -/
namespace Go.Proofs.Ytepmikgjnmjheaa
open Go.RowKit
set_option linter.unusedSimpArgs false
set_option linter.unusedVariables false
set_option maxRecDepth 20000
set_option maxHeartbeats 4000000
attribute [local irreducible] WPc WPl WPq ReadR OpT BinR HasS bx rdN rowN Take Takes Prov Triple ResF BuildP Done ag Int.decLt Int.decLe Int.instDecidableEq
attribute [local irreducible] mp rmp rg rgo bag vrow secs mput mget mfind mdel intsV skeys vault pickG fburn fb1 valsV zAt zB vers crashT intsN frs
instance kInh : Inhabited RfS := ⟨⟨.slice none 0 0, [], .slice none 0 0, .slice none 0 0, [], [], 0, []⟩⟩
structure FR where
  no : Int
  pins : Int
  dirty : Bool
  used : Bool
  v : Value
  s : Sec
abbrev frRC (f : FR) : Ch := [(1, [.int .i64 f.no]), (1, [.int .i64 f.pins]), (1, [.bool f.dirty]), (1, [.bool f.used]), (1, [f.v])]
def rfs (l : List FR) : List Value := (l.map fun f => flat (frRC f)).flatten
theorem frRC_len (f : FR) : (flat (frRC f)).length = 5 := rfl
theorem rfs_len {l : List FR} : (rfs l).length = l.length * 5 := rows_len frRC_len
theorem rfs_at {l : List FR} {i : Nat} {f : FR} (h : l[i]? = some f) : ((rfs l).drop (i * 5)).take 5 = flat (frRC f) := rows_drop frRC_len h
theorem rfs_cell {l : List FR} {i : Nat} {f : FR} (h : l[i]? = some f) {o : Nat} (ho : o < 5) : (rfs l)[i * 5 + o]? = (flat (frRC f))[o]? := by
  rw [← rfs_at h, List.getElem?_take_of_lt ho, List.getElem?_drop]
theorem rfs_1 {l : List FR} {i : Nat} {f f' : FR} (h : l[i]? = some f) {o : Nat} {u : Value} (ho : o < 5) (hu : flat (frRC f') = (flat (frRC f)).set o u) : (rfs l).set (i * 5 + o) u = rfs (l.set i f') := rows_set (f := fun f => flat (frRC f)) frRC_len hu ho h
theorem rfs_app {l k : List FR} : rfs (l ++ k) = rfs l ++ rfs k := by unfold rfs; rw [List.map_append, List.flatten_append]
theorem rfs_set {l : List FR} {i : Nat} {f : FR} (h : i < l.length) : (rfs l).take (i * 5) ++ flat (frRC f) ++ (rfs l).drop (i * 5 + 5) = rfs (l.set i f) := by
  unfold rfs
  induction l generalizing i with
  | nil => cases h
  | cons x l ih =>
    have hx : (flat (frRC x)).length = 5 := frRC_len x
    rw [List.map_cons, List.flatten_cons]
    cases i with
    | zero =>
      rw [Nat.zero_mul, List.take_zero, List.nil_append, Nat.zero_add, List.set_cons_zero, List.map_cons, List.flatten_cons]
      congr 1
    | succ i =>
      have hi : i < l.length := by simpa using h
      rw [List.set_cons_succ, List.map_cons, List.flatten_cons, ← ih hi, show (i + 1) * 5 = 5 + i * 5 by omega, ← hx, List.take_length_add_append, Nat.add_assoc, List.drop_length_add_append, List.append_assoc, List.append_assoc, List.append_assoc]
instance frREl : EltN Try.prog 97 5 := ⟨by kernel_rfl⟩
def frR0 : FR := ⟨-1, 0, false, false, .slice none 0 0, secF 0⟩
abbrev krc (gX : Nat) (vK : Value) (hand : Int) : Ch := [(1, [.pointer (some ⟨gX, 0, none⟩)]), (1, [vK]), (1, [.int .i64 hand])]
structure KS where
  fs : List FR
  hand : Nat
  v : Value
def FR.vw (f : FR) : Option Fp := if f.no < 0 then none else some ⟨f.no, f.pins, f.dirty, f.used, f.s⟩
def KS.vw (K : KS) : Cv := ⟨K.fs.map FR.vw, K.hand⟩
structure FRInv (n p : Nat) (rs : List (Value × Sec)) (f : FR) : Prop where
  one : f.v.oneCell' = true
  here : 0 ≤ f.no → f.no < (n : Int) ∧ (f.v, f.s) ∈ rs
  gone : f.no < 0 → f.pins = 0 ∧ f.dirty = false ∧ f.used = false
  pin0 : 0 ≤ f.pins
  pin1 : f.pins ≤ (p : Int)
structure KInv (n m p : Nat) (rs : List (Value × Sec)) (K : KS) : Prop where
  v : K.v.oneCell' = true
  len : K.fs.length = m
  hand : K.hand < m
  each : ∀ f ∈ K.fs, FRInv n p rs f
theorem FRInv.zero {n p : Nat} {rs : List (Value × Sec)} : FRInv n p rs frR0 := ⟨rfl, fun h => absurd (show (0 : Int) ≤ -1 from h) (by omega), fun _ => ⟨rfl, rfl, rfl⟩, Int.le_refl _, Int.natCast_nonneg p⟩
theorem FRInv.more {n p : Nat} {rs rs' : List (Value × Sec)} {f : FR} (h : FRInv n p rs f) (hs : ∀ r ∈ rs, r ∈ rs') : FRInv n p rs' f := ⟨h.one, fun hf => ⟨(h.here hf).1, hs _ (h.here hf).2⟩, h.gone, h.pin0, h.pin1⟩
theorem FRInv.mono {n p p' : Nat} {rs : List (Value × Sec)} {f : FR} (h : FRInv n p rs f) (hp : p ≤ p') : FRInv n p' rs f := ⟨h.one, h.here, h.gone, h.pin0, by have := h.pin1; omega⟩
theorem KInv.mono {n m p p' : Nat} {rs : List (Value × Sec)} {K : KS} (h : KInv n m p rs K) (hp : p ≤ p') : KInv n m p' rs K := ⟨h.v, h.len, h.hand, fun f hf => (h.each f hf).mono hp⟩
theorem KInv.more {n m p : Nat} {rs rs' : List (Value × Sec)} {K : KS} (h : KInv n m p rs K) (hs : ∀ r ∈ rs, r ∈ rs') : KInv n m p rs' K := ⟨h.v, h.len, h.hand, fun f hf => (h.each f hf).more hs⟩
theorem KInv.set {n m p : Nat} {rs : List (Value × Sec)} {K : KS} (h : KInv n m p rs K) {i : Nat} {f : FR} {hand : Nat} (hf : FRInv n p rs f) (hh : hand < m) : KInv n m p rs ⟨K.fs.set i f, hand, K.v⟩ := ⟨h.v, by show (K.fs.set i f).length = m; rw [List.length_set]; exact h.len, hh, fun x hx => by
  rcases mem_set_or hx with rfl | hx
  · exact hf
  · exact h.each x hx⟩
theorem FR.vw_none {f : FR} (h : f.no < 0) : f.vw = none := by unfold FR.vw; rw [if_pos h]
theorem FR.vw_some {f : FR} (h : ¬ f.no < 0) : f.vw = some ⟨f.no, f.pins, f.dirty, f.used, f.s⟩ := by unfold FR.vw; rw [if_neg h]
theorem FRInv.fok {n p : Nat} {rs : List (Value × Sec)} {f : FR} (h : FRInv n p rs f) : FOk (frRC f) := .one1 rfl (.one1 rfl (.one1 rfl (.one1 rfl (.one1 h.one .nil))))
def oint (o : Option Nat) : Int := match o with | some i => (i : Int) | none => -1
def atK (fs : List FR) (no : Int) : Option Nat := fs.findIdx? fun f => decide (f.no = no) && decide (0 ≤ no)
theorem atK_vw {n m p : Nat} {rs : List (Value × Sec)} {K : KS} (h : KInv n m p rs K) (no : Int) : K.vw.at no = atK K.fs no := by
  unfold Cv.at KS.vw atK
  rw [List.findIdx?_map]
  congr 1
  funext f
  show (match f.vw with | some f => decide (f.no = no) | none => false) = _
  by_cases hf : f.no < 0
  · rw [FR.vw_none hf]
    show false = _
    symm
    rw [Bool.and_eq_false_iff, decide_eq_false_iff_not, decide_eq_false_iff_not]
    omega
  · rw [FR.vw_some hf]
    show decide (f.no = no) = _
    by_cases hn : f.no = no
    · rw [decide_eq_true hn, decide_eq_true (by omega)]; rfl
    · rw [decide_eq_false hn]; rfl
section
variable (gY gX : Nat) (vK : Value) (hand : Int) (fs : List FR)
theorem kat_t (no : Int) (hm : fs.length ≤ 1000) : Triple Try.prog 67 #[hC gY, .int .i64 no] [rbx gY 73 (krc gX vK hand), rdN vK fs.length (rfs fs)] (RVal (.int .i64 (oint (atK fs no)))) := by
  have hL := rfs_len (l := fs)
  refine Triple.enter Try.func67 rfl Try.ntmps67 rfl (fun W => ?_)
  dsimp only [argsF, Nat.reduceAdd]
  repeat' (first
   | refine WPl.nil ?_ | refine WPq.then ?_ | refine WPq.thenR ?_ | refine WPq.thenE ?_ | refine WPq.blockN ?_ | refine WPq.blockR ?_ | refine WPq.blockE ?_ | refine WPq.blockO rfl ?_ | refine WPc.seq ?_ | refine WPc.block ?_ | refine WPc.ret ?_ | refine WPc.exit ?_ | refine WPc.skip ?_ | refine WPc.region ?_
   | (refine isCond ?_; first | refine WPc.cT ?_ | refine WPc.cF ?_ | (refine WPc.cQ (fun hc => ?_) (fun hc => ?_) <;> try exact prA))
   | (refine isOp ?_; first | refine WPl.rd ?_ | refine WPl.sk ?_ | refine WPl.rdB ?_)
   | (show WPl _ _ _ _ _ _ _ (⟨_, .indexAddr _ _ _, _, _, _, _⟩ :: _) _; refine WPl.rdX (ReadR.indexE rfl rfl hasA (by first | assumption | omega)) ?_)
   | (show WPl _ _ _ _ _ _ _ (⟨_, .fieldAddr _ _ _, _, _, _, _⟩ :: _) _; refine WPl.rdX (ReadR.fieldE rfl hasA (by first | assumption | omega)) ?_)
   | (show WPl _ _ _ _ _ _ _ (⟨_, .load _ _, _, _, _, _⟩ :: _) _; first | refine WPl.rdX (ReadR.loadE rfl hasA (by assumption)) ?_ | refine WPl.rdX (ReadR.loadES (by assumption) (by first | assumption | omega) rfl hasA) ?_)
   | (show WPl _ _ _ _ _ _ _ (⟨_, .slice _ _ _ _ _, _, _, _, _⟩ :: _) _; first | refine WPl.rdX (ReadR.sliceH rfl rfl hasA (by omega)) ?_ | refine WPl.rdX (ReadR.sliceL rfl rfl hasA (by omega)) ?_ | refine WPl.rdX (ReadR.sliceLH rfl rfl rfl hasA (by omega) (by omega)) ?_)
   | (refine WPl.spQ (fun hc => ?_) (fun hc => ?_) <;> try exact prA)
   | fail)
  first | refine WPc.loop (σ := Nat) (fun st => st ≤ fs.length ∧ ∀ j f, j < st → fs[j]? = some f → (decide (f.no = no) && decide (0 ≤ no)) = false) (fun st => [rbx gY 73 (krc gX vK hand), rdN vK fs.length (rfs fs)]) (fun st => [(0, hC gY), (1, .int .i64 no), (5, .int .i64 (st : Int))]) (fun st => fs.length - st) (0) ?_ takesA frsA (fun st km hx hk => ?_)
  · exact ⟨Nat.zero_le _, fun j f hj => absurd hj (Nat.not_lt_zero _)⟩
  obtain ⟨i, rfl⟩ : ∃ i, i = st := ⟨_, rfl⟩
  obtain ⟨hi, hno⟩ := hx
  have hkm : km = fs.length - i := hk
  clear hk
  by_cases hlt : i < fs.length
  · obtain ⟨f, hf⟩ : ∃ f, fs[i]? = some f := ⟨_, List.getElem?_eq_getElem hlt⟩
    have c0 : (rfs fs)[i * 5 + 0]? = some (.int .i64 f.no) := rfs_cell hf (by omega)
    have hnext : (decide (f.no = no) && decide (0 ≤ no)) = false → ∀ j g, j < i + 1 → fs[j]? = some g → (decide (g.no = no) && decide (0 ≤ no)) = false := by
      intro hb j g hj hg
      by_cases hji : j = i
      · subst hji
        rw [hf] at hg
        cases hg
        exact hb
      · exact hno j g (by omega) hg
    by_cases hn : f.no = no
    · by_cases h0 : no ≥ 0
      · have hat : atK fs no = some i := find_some hf (by rw [decide_eq_true hn, decide_eq_true h0]; rfl) hno
        rw [hat]
        repeat' (first
         | refine WPl.nil ?_ | refine WPq.then ?_ | refine WPq.thenR ?_ | refine WPq.thenE ?_ | refine WPq.blockN ?_ | refine WPq.blockR ?_ | refine WPq.blockE ?_ | refine WPq.blockO rfl ?_ | refine WPc.seq ?_ | refine WPc.block ?_ | refine WPc.ret ?_ | refine WPc.exit ?_ | refine WPc.skip ?_ | refine WPc.region ?_
         | (refine isCond ?_; first | refine WPc.cT ?_ | refine WPc.cF ?_ | (refine WPc.cQ (fun hc => ?_) (fun hc => ?_) <;> try first | exact prA | (exfalso; first | omega)))
         | (refine isD 10 ?_; refine WPl.rdX (ReadR.loadO memA rfl rfl) ?_)
         | (refine isD 18 ?_; refine WPl.rdX (ReadR.loadO memA rfl rfl) ?_)
         | (refine isD 20 ?_; refine WPl.rdX (ReadR.indexE (i := i) rfl rfl hasA hlt) ?_)
         | (refine isD 21 ?_; refine WPl.rdX (ReadR.fieldE rfl hasA (by omega)) ?_)
         | (refine isD 22 ?_; refine WPl.rdX (ReadR.loadE rfl hasA c0) ?_)
         | (refine isD 24 ?_; refine WPl.rdX (ReadR.binE rfl rfl BinR.eql (congrArg Value.bool (decide_eq_true hn))) ?_)
         | (refine isD 27 ?_; refine WPl.rdX (ReadR.binE rfl rfl BinR.geq (congrArg Value.bool (decide_eq_true h0))) ?_)
         | (refine isOp ?_; first | refine WPl.rd ?_ | refine WPl.sk ?_ | refine WPl.rdB ?_)
         | (show WPl _ _ _ _ _ _ _ (⟨_, .indexAddr _ _ _, _, _, _, _⟩ :: _) _; refine WPl.rdX (ReadR.indexE rfl rfl hasA (by first | assumption | omega)) ?_)
         | (show WPl _ _ _ _ _ _ _ (⟨_, .fieldAddr _ _ _, _, _, _, _⟩ :: _) _; refine WPl.rdX (ReadR.fieldE rfl hasA (by first | assumption | omega)) ?_)
         | (show WPl _ _ _ _ _ _ _ (⟨_, .load _ _, _, _, _, _⟩ :: _) _; first | refine WPl.rdX (ReadR.loadE rfl hasA (by assumption)) ?_ | refine WPl.rdX (ReadR.loadES (by assumption) (by first | assumption | omega) rfl hasA) ?_)
         | (show WPl _ _ _ _ _ _ _ (⟨_, .slice _ _ _ _ _, _, _, _, _⟩ :: _) _; first | refine WPl.rdX (ReadR.sliceH rfl rfl hasA (by omega)) ?_ | refine WPl.rdX (ReadR.sliceL rfl rfl hasA (by omega)) ?_ | refine WPl.rdX (ReadR.sliceLH rfl rfl rfl hasA (by omega) (by omega)) ?_)
         | (refine WPl.spQ (fun hc => ?_) (fun hc => ?_) <;> try first | exact prA | (exfalso; first | omega))
         | fail)
        exact WPq.dV
      · skip
        repeat' (first
         | refine WPl.nil ?_ | refine WPq.then ?_ | refine WPq.thenR ?_ | refine WPq.thenE ?_ | refine WPq.blockN ?_ | refine WPq.blockR ?_ | refine WPq.blockE ?_ | refine WPq.blockO rfl ?_ | refine WPc.seq ?_ | refine WPc.block ?_ | refine WPc.ret ?_ | refine WPc.exit ?_ | refine WPc.skip ?_ | refine WPc.region ?_
         | (refine isCond ?_; first | refine WPc.cT ?_ | refine WPc.cF ?_ | (refine WPc.cQ (fun hc => ?_) (fun hc => ?_) <;> try first | exact prA | (exfalso; first | omega)))
         | (refine isD 10 ?_; refine WPl.rdX (ReadR.loadO memA rfl rfl) ?_)
         | (refine isD 18 ?_; refine WPl.rdX (ReadR.loadO memA rfl rfl) ?_)
         | (refine isD 20 ?_; refine WPl.rdX (ReadR.indexE (i := i) rfl rfl hasA hlt) ?_)
         | (refine isD 21 ?_; refine WPl.rdX (ReadR.fieldE rfl hasA (by omega)) ?_)
         | (refine isD 22 ?_; refine WPl.rdX (ReadR.loadE rfl hasA c0) ?_)
         | (refine isD 24 ?_; refine WPl.rdX (ReadR.binE rfl rfl BinR.eql (congrArg Value.bool (decide_eq_true hn))) ?_)
         | (refine isD 27 ?_; refine WPl.rdX (ReadR.binE rfl rfl BinR.geq (congrArg Value.bool (decide_eq_false h0))) ?_)
         | (refine isOp ?_; first | refine WPl.rd ?_ | refine WPl.sk ?_ | refine WPl.rdB ?_)
         | (show WPl _ _ _ _ _ _ _ (⟨_, .indexAddr _ _ _, _, _, _, _⟩ :: _) _; refine WPl.rdX (ReadR.indexE rfl rfl hasA (by first | assumption | omega)) ?_)
         | (show WPl _ _ _ _ _ _ _ (⟨_, .fieldAddr _ _ _, _, _, _, _⟩ :: _) _; refine WPl.rdX (ReadR.fieldE rfl hasA (by first | assumption | omega)) ?_)
         | (show WPl _ _ _ _ _ _ _ (⟨_, .load _ _, _, _, _, _⟩ :: _) _; first | refine WPl.rdX (ReadR.loadE rfl hasA (by assumption)) ?_ | refine WPl.rdX (ReadR.loadES (by assumption) (by first | assumption | omega) rfl hasA) ?_)
         | (show WPl _ _ _ _ _ _ _ (⟨_, .slice _ _ _ _ _, _, _, _, _⟩ :: _) _; first | refine WPl.rdX (ReadR.sliceH rfl rfl hasA (by omega)) ?_ | refine WPl.rdX (ReadR.sliceL rfl rfl hasA (by omega)) ?_ | refine WPl.rdX (ReadR.sliceLH rfl rfl rfl hasA (by omega) (by omega)) ?_)
         | (refine WPl.spQ (fun hc => ?_) (fun hc => ?_) <;> try first | exact prA | (exfalso; first | omega))
         | fail)
        exact WPq.rnd (i + 1) ⟨hlt, hnext (by rw [decide_eq_false (show ¬ 0 ≤ no from h0), Bool.and_false])⟩ (by omega)
    · skip
      repeat' (first
       | refine WPl.nil ?_ | refine WPq.then ?_ | refine WPq.thenR ?_ | refine WPq.thenE ?_ | refine WPq.blockN ?_ | refine WPq.blockR ?_ | refine WPq.blockE ?_ | refine WPq.blockO rfl ?_ | refine WPc.seq ?_ | refine WPc.block ?_ | refine WPc.ret ?_ | refine WPc.exit ?_ | refine WPc.skip ?_ | refine WPc.region ?_
       | (refine isCond ?_; first | refine WPc.cT ?_ | refine WPc.cF ?_ | (refine WPc.cQ (fun hc => ?_) (fun hc => ?_) <;> try first | exact prA | (exfalso; first | omega)))
       | (refine isD 10 ?_; refine WPl.rdX (ReadR.loadO memA rfl rfl) ?_)
       | (refine isD 18 ?_; refine WPl.rdX (ReadR.loadO memA rfl rfl) ?_)
       | (refine isD 20 ?_; refine WPl.rdX (ReadR.indexE (i := i) rfl rfl hasA hlt) ?_)
       | (refine isD 21 ?_; refine WPl.rdX (ReadR.fieldE rfl hasA (by omega)) ?_)
       | (refine isD 22 ?_; refine WPl.rdX (ReadR.loadE rfl hasA c0) ?_)
       | (refine isD 24 ?_; refine WPl.rdX (ReadR.binE rfl rfl BinR.eql (congrArg Value.bool (decide_eq_false hn))) ?_)
       | (refine isOp ?_; first | refine WPl.rd ?_ | refine WPl.sk ?_ | refine WPl.rdB ?_)
       | (show WPl _ _ _ _ _ _ _ (⟨_, .indexAddr _ _ _, _, _, _, _⟩ :: _) _; refine WPl.rdX (ReadR.indexE rfl rfl hasA (by first | assumption | omega)) ?_)
       | (show WPl _ _ _ _ _ _ _ (⟨_, .fieldAddr _ _ _, _, _, _, _⟩ :: _) _; refine WPl.rdX (ReadR.fieldE rfl hasA (by first | assumption | omega)) ?_)
       | (show WPl _ _ _ _ _ _ _ (⟨_, .load _ _, _, _, _, _⟩ :: _) _; first | refine WPl.rdX (ReadR.loadE rfl hasA (by assumption)) ?_ | refine WPl.rdX (ReadR.loadES (by assumption) (by first | assumption | omega) rfl hasA) ?_)
       | (show WPl _ _ _ _ _ _ _ (⟨_, .slice _ _ _ _ _, _, _, _, _⟩ :: _) _; first | refine WPl.rdX (ReadR.sliceH rfl rfl hasA (by omega)) ?_ | refine WPl.rdX (ReadR.sliceL rfl rfl hasA (by omega)) ?_ | refine WPl.rdX (ReadR.sliceLH rfl rfl rfl hasA (by omega) (by omega)) ?_)
       | (refine WPl.spQ (fun hc => ?_) (fun hc => ?_) <;> try first | exact prA | (exfalso; first | omega))
       | fail)
      exact WPq.rnd (i + 1) ⟨hlt, hnext (by rw [decide_eq_false hn]; rfl)⟩ (by omega)
  · have hat : atK fs no = none := find_none fun j g hg => hno j g (by have := (List.getElem?_eq_some_iff.1 hg).1; omega) hg
    rw [hat]
    repeat' (first
     | refine WPl.nil ?_ | refine WPq.then ?_ | refine WPq.thenR ?_ | refine WPq.thenE ?_ | refine WPq.blockN ?_ | refine WPq.blockR ?_ | refine WPq.blockE ?_ | refine WPq.blockO rfl ?_ | refine WPc.seq ?_ | refine WPc.block ?_ | refine WPc.ret ?_ | refine WPc.exit ?_ | refine WPc.skip ?_ | refine WPc.region ?_
     | (refine isCond ?_; first | refine WPc.cT ?_ | refine WPc.cF ?_ | (refine WPc.cQ (fun hc => ?_) (fun hc => ?_) <;> try first | exact prA | (exfalso; first | omega)))
     | (refine isD 10 ?_; refine WPl.rdX (ReadR.loadO memA rfl rfl) ?_)
     | (refine isOp ?_; first | refine WPl.rd ?_ | refine WPl.sk ?_ | refine WPl.rdB ?_)
     | (show WPl _ _ _ _ _ _ _ (⟨_, .indexAddr _ _ _, _, _, _, _⟩ :: _) _; refine WPl.rdX (ReadR.indexE rfl rfl hasA (by first | assumption | omega)) ?_)
     | (show WPl _ _ _ _ _ _ _ (⟨_, .fieldAddr _ _ _, _, _, _, _⟩ :: _) _; refine WPl.rdX (ReadR.fieldE rfl hasA (by first | assumption | omega)) ?_)
     | (show WPl _ _ _ _ _ _ _ (⟨_, .load _ _, _, _, _, _⟩ :: _) _; first | refine WPl.rdX (ReadR.loadE rfl hasA (by assumption)) ?_ | refine WPl.rdX (ReadR.loadES (by assumption) (by first | assumption | omega) rfl hasA) ?_)
     | (show WPl _ _ _ _ _ _ _ (⟨_, .slice _ _ _ _ _, _, _, _, _⟩ :: _) _; first | refine WPl.rdX (ReadR.sliceH rfl rfl hasA (by omega)) ?_ | refine WPl.rdX (ReadR.sliceL rfl rfl hasA (by omega)) ?_ | refine WPl.rdX (ReadR.sliceLH rfl rfl rfl hasA (by omega) (by omega)) ?_)
     | (refine WPl.spQ (fun hc => ?_) (fun hc => ?_) <;> try first | exact prA | (exfalso; first | omega))
     | fail)
    exact WPq.dV
end
end Go.Proofs.Ytepmikgjnmjheaa
/- Reference of layer 3 (dev): Write of bytes that are held. -/
namespace Go.Proofs.Ytepmikgjnmjheaa
open Go.RowKit
set_option linter.unusedSimpArgs false
set_option linter.unusedVariables false
set_option maxRecDepth 20000
set_option maxHeartbeats 4000000
attribute [local irreducible] WPc WPl WPq ReadR OpT BinR HasS bx rdN rowN Take Takes Prov Triple ResF BuildP Done ag Int.decLt Int.decLe Int.instDecidableEq
attribute [local irreducible] mp rmp rg rgo bag vrow secs mput mget mfind mdel intsV skeys vault pickG fburn fb1 valsV zAt zB vers
section
variable (gX : Nat) (n k : Nat) (R : RfS)
theorem rwrV_t (j : Nat) (bv : Value) (s : Sec) (hvi : (bv, s) ∈ R.rs) (h : RInv n k R) (hn : n ≤ 100000) (hkb : k ≤ 90000) (hj : j < n) :
    Triple Try.prog 53 #[hD gX, .int .i64 (j : Int), bv] (rsA gX R) (RRk gX n (k + 1) (.int .i64 (R.vw.wr j s).2) (R.vw.wr j s).1 R.rs) := by
  have hnl := h.nl
  have hlz := h.lz
  have hsl := s.len
  have h2 := h.fb 2 (by omega)
  have hg := getD_some (fu := R.fu) (k := 2) (by rw [h.f4]; omega)
  have c9 := rhas_t gX R (j : Int) (by omega)
  rw [show (decide (0 ≤ (j : Int)) && decide ((j : Int) < (R.L.length : Int))) = true by rw [decide_eq_true (by omega), decide_eq_true (by omega)]; rfl] at c9
  have hne : ¬ (s.b.length : Int) ≠ 256 := by omega
  have c17 := rburns_t gX R 2 (R.fu.getD 2 0) h.f4 (by omega) hg h2.1 h2.2
  by_cases h0 : R.fu.getD 2 0 = 0
  · have hf : R.vw.fails 2 = true := by show decide (R.fu.getD 2 0 = 0) = true; rw [decide_eq_true h0]
    have hw : R.vw.wr j s = (R.vw.burn 2, 3) := by unfold Dv.wr; rw [if_pos hf]
    rw [hw]
    rw [decide_eq_true h0] at c17
    refine Triple.enter Try.func53 rfl Try.ntmps53 rfl (fun W => ?_)
    dsimp only [argsF, Nat.reduceAdd]
    repeat' (first
     | refine WPl.nil ?_ | refine WPq.then ?_ | refine WPq.thenR ?_ | refine WPq.thenE ?_ | refine WPq.blockN ?_ | refine WPq.blockR ?_ | refine WPq.blockE ?_ | refine WPq.blockO rfl ?_ | refine WPc.seq ?_ | refine WPc.block ?_ | refine WPc.ret ?_ | refine WPc.exit ?_ | refine WPc.skip ?_ | refine WPc.region ?_
     | (refine isCond ?_; first | refine WPc.cT ?_ | refine WPc.cF ?_ | (refine WPc.cQ (fun hc => ?_) (fun hc => ?_) <;> try exact prA))
     | (refine isC 9 ?_; refine WPl.cV c9 ?_ (hΔ := provsW))
     | (refine isD 13 ?_; refine WPl.rdX (ReadR.len rfl (HasS.vault memA hvi)) ?_)
     | (refine isD 14 ?_; refine WPl.rdX (ReadR.binE rfl rfl BinR.neq (congrArg Value.bool (decide_eq_false hne))) ?_)
     | (refine isC 17 ?_; refine WPl.cTs (c17) ?_; (try dsimp only [putF, List.cons_append, List.nil_append]))
     | (refine isOp ?_; first | refine WPl.rd ?_ | refine WPl.sk ?_ | refine WPl.rdB ?_)
     | (refine isSt ?_; first | refine WPl.st1 ?_ | refine WPl.stA ?_ | refine WPl.stEB ?_ | refine WPl.stRB ?_)
     | (show WPl _ _ _ _ _ _ _ (⟨_, .indexAddr _ _ _, _, _, _, _⟩ :: _) _; refine WPl.rdX (ReadR.indexE rfl rfl hasA (by first | assumption | omega)) ?_)
     | (show WPl _ _ _ _ _ _ _ (⟨_, .fieldAddr _ _ _, _, _, _, _⟩ :: _) _; refine WPl.rdX (ReadR.fieldE rfl hasA (by first | assumption | omega)) ?_)
     | (show WPl _ _ _ _ _ _ _ (⟨_, .load _ _, _, _, _, _⟩ :: _) _; first | refine WPl.rdX (ReadR.loadE rfl hasA (by assumption)) ?_ | refine WPl.rdX (ReadR.loadES (by assumption) (by first | assumption | omega) rfl hasA) ?_)
     | (show WPl _ _ _ _ _ _ _ (⟨_, .slice _ _ _ _ _, _, _, _, _⟩ :: _) _; first | refine WPl.rdX (ReadR.sliceH rfl rfl hasA (by omega)) ?_ | refine WPl.rdX (ReadR.sliceL rfl rfl hasA (by omega)) ?_ | refine WPl.rdX (ReadR.sliceLH rfl rfl rfl hasA (by omega) (by omega)) ?_)
     | (refine WPl.spQ (fun hc => ?_) (fun hc => ?_) <;> try exact prA)
     | fail)
    refine WPq.dX (ho := ownsW) (vs := [.int .i64 3]) (rsA gX { R with fu := fburn R.fu 2 (R.fu.getD 2 0) }) ⟨_, rfl, rfl, (h.burn (by omega)).mono (Nat.le_succ _), fun r hr => hr, rfl⟩
  · have hf : R.vw.fails 2 = false := by show decide (R.fu.getD 2 0 = 0) = false; rw [decide_eq_false h0]
    have hw : R.vw.wr j s = ({ R.vw.burn 2 with ws := updW R.vw.ws j (R.vw.ws j ++ [s]), cn := R.vw.cn + 1 }, 0) := by unfold Dv.wr; rw [if_neg (by rw [hf]; simp)]
    rw [hw]
    rw [decide_eq_false h0] at c17
    have hw0 := h.w0
    have hw1 := h.w1
    have hfl := h.f4
    obtain ⟨fu', hfu'⟩ : ∃ fu', fu' = fburn R.fu 2 (R.fu.getD 2 0) := ⟨_, rfl⟩
    rw [← hfu'] at c17
    have hbl : ([] ++ s.b : List UInt8).length = 256 := hsl
    refine Triple.enter Try.func53 rfl Try.ntmps53 rfl (fun W => ?_)
    dsimp only [argsF, Nat.reduceAdd]
    repeat' (first
     | refine WPl.nil ?_ | refine WPq.then ?_ | refine WPq.thenR ?_ | refine WPq.thenE ?_ | refine WPq.blockN ?_ | refine WPq.blockR ?_ | refine WPq.blockE ?_ | refine WPq.blockO rfl ?_ | refine WPc.seq ?_ | refine WPc.block ?_ | refine WPc.ret ?_ | refine WPc.exit ?_ | refine WPc.skip ?_ | refine WPc.region ?_
     | (refine isReg 5 ?_; refine WPc.drA [([24, 25, 26], [19, 20, 21, 22, 23, 24, 25, 26, 27, 28, 29, 30, 31, 32, 33, 34, 35]), ([24, 25, 26], [18, 20, 21, 22, 23, 24, 25, 26, 27, 28, 29, 30, 31, 32, 33, 34, 35, 36, 37]), ([24, 25, 26], [18, 19, 24, 25, 27, 28, 29, 30, 31, 32]), ([2, 24, 25, 26], [18, 19, 20, 24, 25, 27, 28, 29, 30, 31, 32]), ([2, 3, 24, 25, 26], [18, 19, 20, 21, 24, 25, 27, 28, 29, 30, 31, 32]), ([2, 3, 4, 24, 25, 26], [18, 19, 20, 21, 22, 24, 25, 27, 28, 29, 30, 31, 32]), ([24, 25, 26], [18, 19, 20, 21, 22, 23, 27, 28, 29, 30, 31, 32]), ([6, 24, 25, 26], [18, 19, 20, 21, 22, 23, 24, 27, 28, 29, 30, 31, 32]), ([2, 3, 4, 5, 6, 7, 24, 25, 26], [18, 19, 20, 21, 22, 23, 24, 25, 27, 28, 29, 30, 31, 32]), ([24, 25, 26], [18, 19, 20, 21, 22, 23, 24, 25, 26, 31, 32, 33, 34]), ([9, 24, 25, 26], [18, 19, 20, 21, 22, 23, 24, 25, 26, 27, 31, 32, 33, 34]), ([9, 10, 24, 25, 26], [18, 19, 20, 21, 22, 23, 24, 25, 26, 27, 28, 31, 32, 33, 34]), ([9, 10, 11, 24, 25, 26], [18, 19, 20, 21, 22, 23, 24, 25, 26, 27, 28, 29, 31, 32, 33, 34]), ([24, 25, 26], [18, 19, 20, 21, 22, 23, 24, 25, 26, 27, 28, 29, 30, 32]), ([24, 25, 26], [18, 19, 20, 21, 22, 23, 24, 25, 26, 27, 28, 29, 30, 31]), ([2, 3, 4, 5, 6, 7, 8, 13, 14, 24, 25, 26], [18, 19, 20, 21, 22, 23, 24, 25, 26, 27, 28, 29, 30, 31, 32]), ([2, 3, 4, 5, 6, 7, 8, 13, 14, 15, 24, 25, 26], [18, 19, 20, 21, 22, 23, 24, 25, 26, 27, 28, 29, 30, 31, 32, 33]), ([2, 3, 4, 5, 6, 7, 8, 9, 10, 11, 12, 13, 14, 15, 16, 24, 25, 26], [18, 19, 20, 21, 22, 23, 24, 25, 26, 27, 28, 29, 30, 31, 32, 33, 34]), ([0, 2, 3, 4, 5, 6, 7, 8, 9, 10, 11, 12, 13, 14, 15, 16, 17, 24, 25, 26], [18, 19, 20, 21, 22, 23, 24, 25, 26, 27, 28, 29, 30, 31, 32, 33, 34, 35]), ([0, 2, 3, 4, 5, 6, 7, 8, 9, 10, 11, 12, 13, 14, 15, 16, 17, 18, 24, 25, 26], [18, 19, 20, 21, 22, 23, 24, 25, 26, 27, 28, 29, 30, 31, 32, 33, 34, 35, 36]), ([0, 2, 3, 4, 5, 6, 7, 8, 9, 10, 11, 12, 13, 14, 15, 16, 17, 18, 19, 24, 25, 26], [18, 19, 20, 21, 22, 23, 24, 25, 26, 27, 28, 29, 30, 31, 32, 33, 34, 35, 36, 37]), ([0, 1, 2, 3, 4, 5, 6, 7, 8, 9, 10, 11, 12, 13, 14, 15, 16, 17, 18, 19, 20, 24, 25, 26], [18, 19, 20, 21, 22, 23, 24, 25, 26, 27, 28, 29, 30, 31, 32, 33, 34, 35, 36, 37]), ([0, 1, 2, 3, 4, 5, 6, 7, 8, 9, 10, 11, 12, 13, 14, 15, 16, 17, 18, 19, 20, 21, 24, 25, 26], [18, 19, 20, 21, 22, 23, 24, 25, 26, 27, 28, 29, 30, 31, 32, 33, 34, 35, 36, 37, 38]), ([0, 1, 2, 3, 4, 5, 6, 7, 8, 9, 10, 11, 12, 13, 14, 15, 16, 17, 18, 19, 20, 21, 22, 24, 25, 26], [18, 19, 20, 21, 22, 23, 24, 25, 26, 27, 28, 29, 30, 31, 32, 33, 34, 35, 36, 37, 38, 39])] [(25, 8), (13, 15), (26, 17), (24, 20), (20, 23), (25, 2), (25, 3), (25, 4), (25, 5), (25, 6), (25, 7), (26, 2), (26, 3), (26, 4), (26, 5), (26, 6), (26, 7), (26, 8), (26, 9), (26, 10), (26, 11), (26, 12), (26, 13), (26, 14), (26, 15), (26, 16), (24, 0), (24, 2), (24, 3), (24, 4), (24, 5), (24, 6), (24, 7), (24, 8), (24, 9), (24, 10), (24, 11), (24, 12), (24, 13), (24, 14), (24, 15), (24, 16), (24, 17), (24, 18), (24, 19), (20, 21), (20, 22)] (Γx := [bx gX 51 (rdc R.vL R.vA R.vB fu' R.wr), rowN 3 1 R.vA R.Z.length (intsV (zAt R.Z)), rowN 31 1 R.vB R.Z.length (valsV (zB R.Z))]) ?_; dsimp only [prev0, List.length_nil, List.length_cons])
     | (refine gAny ?_; first | (refine gC 17 ?_; refine RGl.turns (fun e hk => by (try dsimp only [bndR, ensR, oksR, fcutR, List.append_nil, List.nil_append, List.cons_append, List.append_assoc] at hk ⊢); exact OpT.callTs (c17)) ?_) | (refine gD 26 ?_; refine RGl.row (Γ1 := fun e => [rowN 3 1 R.vA R.Z.length ((intsV (zAt R.Z)))]) (m := fun e => R.Z.length + 1) (xs := fun e => (intsV (zAt R.Z)) ++ [Value.int .i64 (j : Int)]) (fun e hk => by (try dsimp only [bndR, ensR, oksR, fcutR, List.append_nil, List.nil_append, List.cons_append, List.append_assoc] at hk ⊢); exact OpT.appendN (m := R.Z.length) (m2 := 1) (xs := (intsV (zAt R.Z))) (ys := [Value.int .i64 (j : Int)]) rfl rfl takesA (hasA) rfl (fun u hu => by rw [List.mem_singleton.1 hu]; rfl) (by omega)) ?_) | (refine gD 35 ?_; refine RGl.row (Γ1 := fun e => [rowN 31 1 R.vB R.Z.length ((valsV (zB R.Z)))]) (m := fun e => R.Z.length + 1) (xs := fun e => (valsV (zB R.Z)) ++ [(e 15).1]) (fun e hk => by (try dsimp only [bndR, ensR, oksR, fcutR, List.append_nil, List.nil_append, List.cons_append, List.append_assoc] at hk ⊢); exact OpT.appendN (m := R.Z.length) (m2 := 1) (xs := (valsV (zB R.Z))) (ys := [(e 15).1]) rfl rfl takesA (hasA) rfl (fun u hu => by rw [List.mem_singleton.1 hu]; (repeat (obtain ⟨hk1, hk⟩ := hk)) <;> assumption) (by omega)) ?_) | (refine gSt ?_; refine RGl.turn (fun e hk => by (try dsimp only [bndR, ensR, oksR, fcutR, List.append_nil, List.nil_append, List.cons_append, List.append_assoc] at hk ⊢); exact OpT.store1 rfl rfl takesA (by (repeat (obtain ⟨hk1, hk⟩ := hk)) <;> assumption) (by dsimp only [sel, takeCh, upd, dropCh, appCh, setAt, chAt, Option.map_some, List.cons_append, List.nil_append, Nat.reduceSub, Nat.reduceAdd] <;> exact rfl)) ?_) | (refine gD 13 ?_; refine RGl.rdX (fun e hk => by (try dsimp only [bndR, ensR, oksR, fcutR, List.append_nil, List.nil_append, List.cons_append, List.append_assoc] at hk ⊢); exact ReadR.len rfl (HasS.vault memA hvi)) ?_) | (refine gD 14 ?_; refine RGl.rdX (fun e hk => by (try dsimp only [bndR, ensR, oksR, fcutR, List.append_nil, List.nil_append, List.cons_append, List.append_assoc] at hk ⊢); exact ReadR.binE rfl rfl BinR.neq (congrArg Value.bool (decide_eq_false hne))) ?_) | (refine gOp ?_; (refine gD 33 ?_; refine RGl.row (Γ1 := fun e => [ob (e 13).1 (nbs [])]) (ety := fun _ => 5) (sz := fun _ => 1) (m := fun _ => (nbs [] ++ s.b).length) (xs := fun _ => u8s (nbs [] ++ s.b)) (fun e hk => by (try dsimp only [bndR, ensR, oksR, fcutR, List.append_nil, List.nil_append, List.cons_append, List.append_assoc] at hk ⊢); exact OpT.appendB rfl rfl takesA (HasS.vault memA hvi) (by show 0 + s.b.length ≤ _; omega) rfl) ?_)) | (refine gOp ?_; first | refine RGl.rdA ?_ | refine RGl.rdX (fun e hk => by (try dsimp only [bndR, ensR, oksR, fcutR, List.append_nil, List.nil_append, List.cons_append, List.append_assoc] at hk ⊢); exact readB) ?_) | (refine gLit ?_; refine RGl.litA ?_) | (refine gApp ?_; refine RGl.appA ?_) | (refine gSt ?_; refine RGl.stA ?_) | (refine RGl.fin (fun e hk => ?_); (try dsimp only [bndA, ensAR, oksA, List.append_nil, List.nil_append, List.cons_append, List.append_assoc] at hk ⊢); (repeat (obtain ⟨hk1, hk⟩ := hk))) | fail)
     | (refine isCond ?_; first | refine WPc.cT ?_ | refine WPc.cF ?_ | (refine WPc.cQ (fun hc => ?_) (fun hc => ?_) <;> try exact prA))
     | (refine isC 9 ?_; refine WPl.cV c9 ?_ (hΔ := provsW))
     | (refine isD 13 ?_; refine WPl.rdX (ReadR.len rfl (HasS.vault memA hvi)) ?_)
     | (refine isD 14 ?_; refine WPl.rdX (ReadR.binE rfl rfl BinR.neq (congrArg Value.bool (decide_eq_false hne))) ?_)
     | (refine isC 17 ?_; refine WPl.cTs (c17) ?_; (try dsimp only [putF, List.cons_append, List.nil_append]))
     | (refine isOp ?_; first | refine WPl.rd ?_ | refine WPl.sk ?_ | refine WPl.rdB ?_)
     | (refine isSt ?_; first | refine WPl.st1 ?_ | refine WPl.stA ?_ | refine WPl.stEB ?_ | refine WPl.stRB ?_)
     | (show WPl _ _ _ _ _ _ _ (⟨_, .indexAddr _ _ _, _, _, _, _⟩ :: _) _; refine WPl.rdX (ReadR.indexE rfl rfl hasA (by first | assumption | omega)) ?_)
     | (show WPl _ _ _ _ _ _ _ (⟨_, .fieldAddr _ _ _, _, _, _, _⟩ :: _) _; refine WPl.rdX (ReadR.fieldE rfl hasA (by first | assumption | omega)) ?_)
     | (show WPl _ _ _ _ _ _ _ (⟨_, .load _ _, _, _, _, _⟩ :: _) _; first | refine WPl.rdX (ReadR.loadE rfl hasA (by assumption)) ?_ | refine WPl.rdX (ReadR.loadES (by assumption) (by first | assumption | omega) rfl hasA) ?_)
     | (show WPl _ _ _ _ _ _ _ (⟨_, .slice _ _ _ _ _, _, _, _, _⟩ :: _) _; first | refine WPl.rdX (ReadR.sliceH rfl rfl hasA (by omega)) ?_ | refine WPl.rdX (ReadR.sliceL rfl rfl hasA (by omega)) ?_ | refine WPl.rdX (ReadR.sliceLH rfl rfl rfl hasA (by omega) (by omega)) ?_)
     | (refine WPl.spQ (fun hc => ?_) (fun hc => ?_) <;> try exact prA)
     | fail)
    dsimp only [Nat.reduceAdd] at *
    have h8 : (e 8).1.oneCell' = true := by assumption
    have h15 : (e 15).1.oneCell' = true := by assumption
    have h17 : (e 17).1.oneCell' = true := by assumption
    obtain ⟨z, hz⟩ : ∃ z : Int × (Value × Sec), z = ((j : Int), ((e 15).1, s)) := ⟨_, rfl⟩
    rw [show nbs [] ++ s.b = s.b from rfl]
    refine WPq.vaultIn (A := ob (e 15).1 s.b) (v := (e 15).1) (s := s) .ob ?_
    rw [show valsV (zB R.Z) ++ [(e 15).1] = valsV (zB (R.Z ++ [z])) by rw [hz]; with_unfolding_all (unfold valsV zB; rw [List.map_append, List.map_append]; rfl), show intsV (zAt R.Z) ++ [Value.int .i64 (j : Int)] = intsV (zAt (R.Z ++ [z])) by rw [hz]; with_unfolding_all (unfold intsV zAt; rw [List.map_append, List.map_append]; rfl), show R.Z.length + 1 = (R.Z ++ [z]).length by rw [List.length_append]; rfl]
    refine WPq.dX (ho := ownsW) (vs := [.int .i64 0]) (rsA gX ⟨R.vL, R.L, (e 8).1, (e 17).1, R.Z ++ [z], fu', R.wr + 1, ((e 15).1, s) :: R.rs⟩) ⟨_, rfl, ?_, ?_, fun r hr => List.mem_cons_of_mem _ hr, rfl⟩
    · show Dv.mk fu' _ (fun i : Nat => (vers (R.Z ++ [z]) (i : Int)).map (·.2)) _ = Dv.mk (fburn R.fu 2 (R.fu.getD 2 0)) _ _ _
      rw [hfu']
      congr 1
      funext i
      show _ = updW (fun j : Nat => (vers R.Z (j : Int)).map (·.2)) j ((vers R.Z (j : Int)).map (·.2) ++ [s]) i
      rw [vers_app, hz]
      unfold updW
      by_cases hij : i = j
      · subst hij; rw [if_pos rfl, if_pos rfl, List.map_append]; rfl
      · rw [if_neg (by show ¬ (j : Int) = (i : Int); omega), if_neg hij, List.append_nil]
    · have hb := h.burn (j := 2) (by omega)
      refine ⟨⟨h.one.1, h8, h17⟩, by rw [hfu']; exact hb.f4, by rw [hfu']; exact hb.fb, h.nl, by show (R.Z ++ [z]).length ≤ k + 1; rw [List.length_append]; show _ + 1 ≤ k + 1; omega, fun y hy => ?_, fun x hx => ⟨List.mem_cons_of_mem _ (h.inL x hx).1, (h.inL x hx).2⟩, fun y hy => ?_, by show 0 ≤ R.wr + 1; omega, by show R.wr + 1 ≤ ((k + 1 : Nat) : Int); omega⟩
      · rcases List.mem_append.1 hy with hy | hy
        · exact h.at' y hy
        · rw [List.mem_singleton.1 hy, hz]; exact ⟨j, rfl, hj⟩
      · rcases List.mem_append.1 hy with hy | hy
        · exact ⟨List.mem_cons_of_mem _ (h.inZ y hy).1, (h.inZ y hy).2⟩
        · rw [List.mem_singleton.1 hy, hz]; exact ⟨List.mem_cons_self .., h15⟩
end
end Go.Proofs.Ytepmikgjnmjheaa
