/- Reference of layer 3 (dev): Flush, Crash. -/
import Derived.Test.YtepmikgjnmjheaaEe
namespace Go.Proofs.Ytepmikgjnmjheaa
open Go.RowKit
set_option linter.unusedSimpArgs false
set_option linter.unusedVariables false
set_option maxRecDepth 20000
set_option maxHeartbeats 1000000
attribute [local irreducible] WPc WPl WPq ReadR OpT BinR HasS bx rdN rowN Take Takes Prov Triple ResF BuildP Done ag Int.decLt Int.decLe Int.instDecidableEq
attribute [local irreducible] mp rmp rg rgo bag vrow secs mput mget mfind mdel intsV skeys vault pickG fburn fb1 valsV zAt zB vers crashT intsN
def putZ (L : List (Value × Sec)) (Z : Zl) : List (Value × Sec) := Z.foldl (fun L z => L.set z.1.toNat z.2) L
theorem putZ_app {L : List (Value × Sec)} {Z : Zl} {z : Int × (Value × Sec)} : putZ L (Z ++ [z]) = (putZ L Z).set z.1.toNat z.2 := by
  unfold putZ; rw [List.foldl_append]; rfl
theorem putZ_next {L : List (Value × Sec)} {Z : Zl} {z : Int × (Value × Sec)} {q : Nat} (h : Z[q]? = some z) : putZ L (Z.take (q + 1)) = (putZ L (Z.take q)).set z.1.toNat z.2 := by
  rw [List.take_add_one, h]; exact putZ_app
theorem putZ_len {L : List (Value × Sec)} {Z : Zl} : (putZ L Z).length = L.length := by
  unfold putZ
  induction Z generalizing L with
  | nil => rfl
  | cons z Z ih => rw [List.foldl_cons, ih, List.length_set]
theorem putZ_mem {L : List (Value × Sec)} {Z : Zl} {x : Value × Sec} (h : x ∈ putZ L Z) : x ∈ L ∨ ∃ z ∈ Z, z.2 = x := by
  unfold putZ at h
  induction Z generalizing L with
  | nil => exact .inl h
  | cons z Z ih =>
    rw [List.foldl_cons] at h
    rcases ih h with h | ⟨y, hy, h⟩
    · rcases List.mem_or_eq_of_mem_set h with h | h
      · exact .inl h
      · exact .inr ⟨z, List.mem_cons_self .., h.symm⟩
    · exact .inr ⟨y, List.mem_cons_of_mem _ hy, h⟩
theorem putZ_at {L : List (Value × Sec)} {Z : Zl} {n : Nat} (h : ∀ z ∈ Z, ∃ j : Nat, z.1 = (j : Int) ∧ j < n) (hl : L.length = n) (i : Nat) (hi : i < n) : (putZ L Z)[i]? = some ((vers Z (i : Int)).getLastD (L.getD i (.slice none 0 0, secF 0))) := by
  have key : ∀ q, q ≤ Z.length → (putZ L (Z.take q))[i]? = some ((vers (Z.take q) (i : Int)).getLastD (L.getD i (.slice none 0 0, secF 0))) := by
    intro q
    induction q with
    | zero =>
      intro _
      rw [List.take_zero, show putZ L [] = L from rfl, show vers [] (i : Int) = [] by with_unfolding_all rfl, List.getLastD_nil, List.getD_eq_getElem?_getD, List.getElem?_eq_getElem (by omega)]; rfl
    | succ q ih =>
      intro hq
      have ih := ih (by omega)
      obtain ⟨z, hz⟩ : ∃ z, Z[q]? = some z := ⟨_, List.getElem?_eq_getElem (by omega)⟩
      obtain ⟨j, hj, hjn⟩ := h z (List.mem_of_getElem? hz)
      rw [putZ_next hz, vers_next hz, hj, Int.toNat_natCast, List.getElem?_set]
      by_cases hij : j = i
      · subst hij
        rw [if_pos rfl, if_pos (by rw [putZ_len]; omega), if_pos rfl, List.getLastD_eq_getLast?, List.getLast?_append]; rfl
      · rw [if_neg hij, if_neg (by omega), List.append_nil]; exact ih
  have := key Z.length (Nat.le_refl _)
  rwa [List.take_length] at this
theorem putZ_nows {n k : Nat} {R : RfS} (h : RInv n k R) : (putZ R.L R.Z).map (·.2) = R.vw.nows := by
  apply List.ext_getElem?
  intro i
  show _ = (List.mapIdx (fun j _ => R.vw.now j) (R.L.map (·.2)))[i]?
  rw [List.getElem?_mapIdx, List.getElem?_map, List.getElem?_map]
  by_cases hi : i < n
  · rw [putZ_at h.at' h.nl i hi, List.getElem?_eq_getElem (show i < R.L.length by rw [h.nl]; exact hi)]
    exact congrArg some (nowR_vw n k R h i hi)
  · rw [List.getElem?_eq_none (by rw [putZ_len, h.nl]; omega), List.getElem?_eq_none (by rw [h.nl]; omega)]; rfl
theorem RInv.putL {n k : Nat} {R : RfS} (h : RInv n k R) {L : List (Value × Sec)} (hl : L.length = n) (hm : ∀ x ∈ L, x ∈ R.rs ∧ x.1.oneCell' = true) {vA vB : Value} (hA : vA.oneCell' = true) (hB : vB.oneCell' = true) : RInv n k ⟨R.vL, L, vA, vB, [], R.fu, R.wr, R.rs⟩ :=
  ⟨⟨h.one.1, hA, hB⟩, h.f4, h.fb, hl, Nat.zero_le _, fun z hz => (by cases hz), hm, fun z hz => (by cases hz), h.w0, h.w1⟩
theorem rz31 {v : Value} : rowN 31 1 v 0 [] = rowN 31 1 v ([] : Zl).length (valsV (zB [])) := by with_unfolding_all rfl
theorem rz3 {v : Value} : rowN 3 1 v 0 [] = rowN 3 1 v ([] : Zl).length (intsV (zAt [])) := by with_unfolding_all rfl
section
variable (gX : Nat) (n k : Nat) (R : RfS)
theorem rfl_t (h : RInv n k R) (hn : n ≤ 100000) (hkb : k ≤ 100000) :
    Triple Try.prog 50 #[hD gX] (rsA gX R) (RRf gX n k (.int .i64 R.vw.flush.2) R.vw.flush.1) := by
  have hnl := h.nl
  have hlz := h.lz
  have h2 := h.fb 3 (by omega)
  have hg := getD_some (fu := R.fu) (k := 3) (by rw [h.f4]; omega)
  have c5 := rburns_t gX R 3 (R.fu.getD 3 0) h.f4 (by omega) hg h2.1 h2.2
  have hb := h.burn (j := 3) (by omega)
  by_cases h0 : R.fu.getD 3 0 = 0
  · have hf : R.vw.fails 3 = true := by show decide (R.fu.getD 3 0 = 0) = true; rw [decide_eq_true h0]
    have hw : R.vw.flush = (R.vw.burn 3, 3) := by unfold Dv.flush; rw [if_pos hf]
    rw [hw]
    rw [decide_eq_true h0] at c5
    refine Triple.enter Try.func50 rfl Try.ntmps50 rfl (fun W => ?_)
    dsimp only [argsF, Nat.reduceAdd]
    repeat' (first
     | refine WPl.nil ?_ | refine WPq.then ?_ | refine WPq.thenR ?_ | refine WPq.thenE ?_ | refine WPq.blockN ?_ | refine WPq.blockR ?_ | refine WPq.blockE ?_ | refine WPq.blockO rfl ?_ | refine WPc.seq ?_ | refine WPc.block ?_ | refine WPc.ret ?_ | refine WPc.exit ?_ | refine WPc.skip ?_ | refine WPc.region ?_
     | (refine isCond ?_; first | refine WPc.cT ?_ | refine WPc.cF ?_ | (refine WPc.cQ (fun hc => ?_) (fun hc => ?_) <;> try exact prA))
     | (refine isC 5 ?_; refine WPl.cTs (c5) ?_; (try dsimp only [putF, List.cons_append, List.nil_append]))
     | (refine isOp ?_; first | refine WPl.rd ?_ | refine WPl.sk ?_ | refine WPl.rdB ?_)
     | (refine isSt ?_; first | refine WPl.st1 ?_ | refine WPl.stA ?_ | refine WPl.stEB ?_ | refine WPl.stRB ?_)
     | (show WPl _ _ _ _ _ _ _ (⟨_, .indexAddr _ _ _, _, _, _, _⟩ :: _) _; refine WPl.rdX (ReadR.indexE rfl rfl hasA (by first | assumption | omega)) ?_)
     | (show WPl _ _ _ _ _ _ _ (⟨_, .fieldAddr _ _ _, _, _, _, _⟩ :: _) _; refine WPl.rdX (ReadR.fieldE rfl hasA (by first | assumption | omega)) ?_)
     | (show WPl _ _ _ _ _ _ _ (⟨_, .load _ _, _, _, _, _⟩ :: _) _; first | refine WPl.rdX (ReadR.loadE rfl hasA (by assumption)) ?_ | refine WPl.rdX (ReadR.loadES (by assumption) (by first | assumption | omega) rfl hasA) ?_)
     | (show WPl _ _ _ _ _ _ _ (⟨_, .slice _ _ _ _ _, _, _, _, _⟩ :: _) _; first | refine WPl.rdX (ReadR.sliceH rfl rfl hasA (by omega)) ?_ | refine WPl.rdX (ReadR.sliceL rfl rfl hasA (by omega)) ?_ | refine WPl.rdX (ReadR.sliceLH rfl rfl rfl hasA (by omega) (by omega)) ?_)
     | (refine WPl.spQ (fun hc => ?_) (fun hc => ?_) <;> try exact prA)
     | fail)
    refine WPq.dX (ho := ownsW) (vs := [.int .i64 3]) (rsA gX { R with fu := fburn R.fu 3 (R.fu.getD 3 0) }) ⟨_, rfl, rfl, hb, rfl⟩
  · have hf : R.vw.fails 3 = false := by show decide (R.fu.getD 3 0 = 0) = false; rw [decide_eq_false h0]
    have hw : R.vw.flush = ({ R.vw.burn 3 with ls := R.vw.nows, ws := fun _ => [] }, 0) := by unfold Dv.flush; rw [if_neg (by rw [hf]; simp)]
    rw [hw]
    rw [decide_eq_false h0] at c5
    obtain ⟨fu', hfu'⟩ : ∃ fu', fu' = fburn R.fu 3 (R.fu.getD 3 0) := ⟨_, rfl⟩
    rw [← hfu'] at c5 hb
    have e0 : rowN 31 1 R.vL R.L.length (valsV R.L) = rowN 31 1 R.vL n (valsV (putZ R.L (R.Z.take 0))) := by rw [List.take_zero, hnl]; rfl
    refine Triple.enter Try.func50 rfl Try.ntmps50 rfl (fun W => ?_)
    dsimp only [argsF, Nat.reduceAdd]
    repeat' (first
     | refine WPl.nil ?_ | refine WPq.then ?_ | refine WPq.thenR ?_ | refine WPq.thenE ?_ | refine WPq.blockN ?_ | refine WPq.blockR ?_ | refine WPq.blockE ?_ | refine WPq.blockO rfl ?_ | refine WPc.seq ?_ | refine WPc.block ?_ | refine WPc.ret ?_ | refine WPc.exit ?_ | refine WPc.skip ?_ | refine WPc.region ?_
     | (refine isCond ?_; first | refine WPc.cT ?_ | refine WPc.cF ?_ | (refine WPc.cQ (fun hc => ?_) (fun hc => ?_) <;> try exact prA))
     | (refine isC 5 ?_; refine WPl.cTs (c5) ?_; (try dsimp only [putF, List.cons_append, List.nil_append]))
     | (refine isOp ?_; first | refine WPl.rd ?_ | refine WPl.sk ?_ | refine WPl.rdB ?_)
     | (refine isSt ?_; first | refine WPl.st1 ?_ | refine WPl.stA ?_ | refine WPl.stEB ?_ | refine WPl.stRB ?_)
     | (show WPl _ _ _ _ _ _ _ (⟨_, .indexAddr _ _ _, _, _, _, _⟩ :: _) _; refine WPl.rdX (ReadR.indexE rfl rfl hasA (by first | assumption | omega)) ?_)
     | (show WPl _ _ _ _ _ _ _ (⟨_, .fieldAddr _ _ _, _, _, _, _⟩ :: _) _; refine WPl.rdX (ReadR.fieldE rfl hasA (by first | assumption | omega)) ?_)
     | (show WPl _ _ _ _ _ _ _ (⟨_, .load _ _, _, _, _, _⟩ :: _) _; first | refine WPl.rdX (ReadR.loadE rfl hasA (by assumption)) ?_ | refine WPl.rdX (ReadR.loadES (by assumption) (by first | assumption | omega) rfl hasA) ?_)
     | (show WPl _ _ _ _ _ _ _ (⟨_, .slice _ _ _ _ _, _, _, _, _⟩ :: _) _; first | refine WPl.rdX (ReadR.sliceH rfl rfl hasA (by omega)) ?_ | refine WPl.rdX (ReadR.sliceL rfl rfl hasA (by omega)) ?_ | refine WPl.rdX (ReadR.sliceLH rfl rfl rfl hasA (by omega) (by omega)) ?_)
     | (refine WPl.spQ (fun hc => ?_) (fun hc => ?_) <;> try exact prA)
     | fail)
    rw [e0]
    first | refine WPc.loop (σ := Nat) (fun st => st ≤ R.Z.length) (fun st => [bx gX 51 (rdc R.vL R.vA R.vB fu' R.wr), rowN 31 1 R.vL n (valsV (putZ R.L (R.Z.take st))), rowN 3 1 R.vA R.Z.length (intsV (zAt R.Z)), rowN 31 1 R.vB R.Z.length (valsV (zB R.Z)), vault R.rs]) (fun st => [(0, hD gX), (3, .int .i64 (st : Int))]) (fun st => R.Z.length - st) (0) ?_ takesA frsA (fun st km hx hk => ?_)
    · exact Nat.zero_le _
    have hkm : km = R.Z.length - st := hk
    clear hk
    by_cases hlt : st < R.Z.length
    · obtain ⟨z, hz⟩ : ∃ z, R.Z[st]? = some z := ⟨_, List.getElem?_eq_getElem hlt⟩
      obtain ⟨j, hj, hjn⟩ := h.at' z (List.mem_of_getElem? hz)
      have ha : (intsV (zAt R.Z))[st]? = some (.int .i64 (j : Int)) := by
        rw [← hj]
        exact intsV_at (by with_unfolding_all (unfold zAt; rw [List.getElem?_map, hz]; rfl))
      have hbv : (valsV (zB R.Z))[st]? = some z.2.1 := valsV_at (by with_unfolding_all (unfold zB; rw [List.getElem?_map, hz]; rfl))
      have hone := (h.inZ z (List.mem_of_getElem? hz)).2
      have hnx := putZ_next (L := R.L) hz
      rw [hj, Int.toNat_natCast] at hnx
      have hcl : (putZ R.L (R.Z.take st)).length = n := by rw [putZ_len]; exact hnl
      obtain ⟨cur, hcur⟩ : ∃ cur, cur = putZ R.L (R.Z.take st) := ⟨_, rfl⟩
      rw [← hcur] at hnx hcl ⊢
      have hjv : j < (valsV cur).length := by rw [valsV_len, hcl]; exact hjn
      repeat' (first
       | refine WPl.nil ?_ | refine WPq.then ?_ | refine WPq.thenR ?_ | refine WPq.thenE ?_ | refine WPq.blockN ?_ | refine WPq.blockR ?_ | refine WPq.blockE ?_ | refine WPq.blockO rfl ?_ | refine WPc.seq ?_ | refine WPc.block ?_ | refine WPc.ret ?_ | refine WPc.exit ?_ | refine WPc.skip ?_ | refine WPc.region ?_
       | (refine isReg 6 ?_; refine WPc.drA [([20], [19, 20, 21, 22, 23, 24, 25, 26, 27, 28, 29, 30, 31, 32]), ([0, 20], [15, 19, 20, 21, 22, 23, 24, 25, 26, 27, 28, 29, 30, 31, 32]), ([0, 1, 20], [15, 16, 19, 20, 21, 22, 23, 24, 25, 26, 27, 28, 29, 30, 31, 32]), ([0, 1, 2, 20], [15, 16, 17, 19, 20, 21, 22, 23, 24, 25, 26, 27, 28, 29, 30, 31, 32]), ([20], [15, 16, 17, 18, 23, 26, 27, 28, 29, 30, 31, 32]), ([4, 20], [15, 16, 17, 18, 19, 23, 26, 27, 28, 29, 30, 31, 32]), ([4, 5, 20], [15, 16, 17, 18, 19, 20, 23, 26, 27, 28, 29, 30, 31, 32]), ([4, 5, 6, 20], [15, 16, 17, 18, 19, 20, 21, 23, 26, 27, 28, 29, 30, 31, 32]), ([20], [15, 16, 17, 18, 19, 20, 21, 22, 26, 27, 28, 29, 30, 31, 32]), ([4, 5, 6, 7, 8, 20], [15, 16, 17, 18, 19, 20, 21, 22, 23, 26, 27, 28, 29, 30, 31, 32]), ([4, 5, 6, 7, 8, 9, 20], [15, 16, 17, 18, 19, 20, 21, 22, 23, 24, 26, 27, 28, 29, 30, 31, 32]), ([20], [15, 16, 17, 18, 19, 20, 21, 22, 23, 24, 25, 30]), ([11, 20], [15, 16, 17, 18, 19, 20, 21, 22, 23, 24, 25, 26, 30]), ([11, 12, 20], [15, 16, 17, 18, 19, 20, 21, 22, 23, 24, 25, 26, 27, 30]), ([11, 12, 13, 20], [15, 16, 17, 18, 19, 20, 21, 22, 23, 24, 25, 26, 27, 28, 30]), ([20], [15, 16, 17, 18, 19, 20, 21, 22, 23, 24, 25, 26, 27, 28, 29]), ([11, 12, 13, 14, 15, 20], [15, 16, 17, 18, 19, 20, 21, 22, 23, 24, 25, 26, 27, 28, 29, 30]), ([11, 12, 13, 14, 15, 16, 20], [15, 16, 17, 18, 19, 20, 21, 22, 23, 24, 25, 26, 27, 28, 29, 30, 31]), ([0, 1, 2, 3, 4, 5, 6, 7, 8, 9, 10, 11, 12, 13, 14, 15, 16, 17, 20], [15, 16, 17, 18, 19, 20, 21, 22, 23, 24, 25, 26, 27, 28, 29, 30, 31, 32]), ([0, 1, 2, 3, 4, 5, 6, 7, 8, 9, 10, 11, 12, 13, 14, 15, 16, 17, 18, 20], [15, 16, 17, 18, 19, 20, 21, 22, 23, 24, 25, 26, 27, 28, 29, 30, 31, 32, 33])] [(20, 19), (20, 0), (20, 1), (20, 2), (20, 3), (20, 4), (20, 5), (20, 6), (20, 7), (20, 8), (20, 9), (20, 10), (20, 11), (20, 12), (20, 13), (20, 14), (20, 15), (20, 16), (20, 17), (20, 18)] (Γx := [rowN 31 1 R.vL n (valsV cur)]) ?_; dsimp only [prev0, List.length_nil, List.length_cons])
       | (refine gAny ?_; first | (refine gD 24 ?_; refine RGl.rdX (fun e hk => by (try dsimp only [bndR, ensR, oksR, fcutR, List.append_nil, List.nil_append, List.cons_append, List.append_assoc] at hk ⊢); exact ReadR.indexE1 (i := st) rfl rfl hasA hlt) ?_) | (refine gD 25 ?_; refine RGl.rdX (fun e hk => by (try dsimp only [bndR, ensR, oksR, fcutR, List.append_nil, List.nil_append, List.cons_append, List.append_assoc] at hk ⊢); exact ReadR.loadE rfl hasA ha) ?_) | (refine gD 31 ?_; refine RGl.rdX (fun e hk => by (try dsimp only [bndR, ensR, oksR, fcutR, List.append_nil, List.nil_append, List.cons_append, List.append_assoc] at hk ⊢); exact ReadR.indexE1 (i := st) rfl rfl hasA hlt) ?_) | (refine gD 32 ?_; refine RGl.rdX (fun e hk => by (try dsimp only [bndR, ensR, oksR, fcutR, List.append_nil, List.nil_append, List.cons_append, List.append_assoc] at hk ⊢); exact ReadR.loadE rfl hasA hbv) ?_) | (refine gD 33 ?_; refine RGl.rdX (fun e hk => by (try dsimp only [bndR, ensR, oksR, fcutR, List.append_nil, List.nil_append, List.cons_append, List.append_assoc] at hk ⊢); exact ReadR.indexE1 (i := j) rfl rfl hasA hjn) ?_) | (refine gOp ?_; (refine RGl.turn (fun e hk => by (try dsimp only [bndR, ensR, oksR, fcutR, List.append_nil, List.nil_append, List.cons_append, List.append_assoc] at hk ⊢); exact OpT.storeEN (i := j) rfl rfl takesA hone hjv) ?_)) | (refine gOp ?_; first | refine RGl.rdA ?_ | refine RGl.rdX (fun e hk => by (try dsimp only [bndR, ensR, oksR, fcutR, List.append_nil, List.nil_append, List.cons_append, List.append_assoc] at hk ⊢); exact readB) ?_) | (refine gSt ?_; refine RGl.stA ?_) | (refine RGl.fin (fun e hk => ?_); (try dsimp only [bndA, ensAR, oksA, List.append_nil, List.nil_append, List.cons_append, List.append_assoc] at hk ⊢); (repeat (obtain ⟨hk1, hk⟩ := hk))) | fail)
       | (refine isCond ?_; first | refine WPc.cT ?_ | refine WPc.cF ?_ | (refine WPc.cQ (fun hc => ?_) (fun hc => ?_) <;> try first | exact prA | (exfalso; first | omega)))
       | (refine isD 24 ?_; refine WPl.rdX (ReadR.indexE1 (i := st) rfl rfl hasA hlt) ?_)
       | (refine isD 25 ?_; refine WPl.rdX (ReadR.loadE rfl hasA ha) ?_)
       | (refine isD 31 ?_; refine WPl.rdX (ReadR.indexE1 (i := st) rfl rfl hasA hlt) ?_)
       | (refine isD 32 ?_; refine WPl.rdX (ReadR.loadE rfl hasA hbv) ?_)
       | (refine isD 33 ?_; refine WPl.rdX (ReadR.indexE1 (i := j) rfl rfl hasA hjn) ?_)
       | (refine isOp ?_; first | refine WPl.rd ?_ | refine WPl.sk ?_ | refine WPl.rdB ?_)
       | (refine isSt ?_; first | refine WPl.st1 ?_ | refine WPl.stA ?_ | refine WPl.stEB ?_ | refine WPl.stRB ?_)
       | (show WPl _ _ _ _ _ _ _ (⟨_, .indexAddr _ _ _, _, _, _, _⟩ :: _) _; refine WPl.rdX (ReadR.indexE rfl rfl hasA (by first | assumption | omega)) ?_)
       | (show WPl _ _ _ _ _ _ _ (⟨_, .fieldAddr _ _ _, _, _, _, _⟩ :: _) _; refine WPl.rdX (ReadR.fieldE rfl hasA (by first | assumption | omega)) ?_)
       | (show WPl _ _ _ _ _ _ _ (⟨_, .load _ _, _, _, _, _⟩ :: _) _; first | refine WPl.rdX (ReadR.loadE rfl hasA (by assumption)) ?_ | refine WPl.rdX (ReadR.loadES (by assumption) (by first | assumption | omega) rfl hasA) ?_)
       | (show WPl _ _ _ _ _ _ _ (⟨_, .slice _ _ _ _ _, _, _, _, _⟩ :: _) _; first | refine WPl.rdX (ReadR.sliceH rfl rfl hasA (by omega)) ?_ | refine WPl.rdX (ReadR.sliceL rfl rfl hasA (by omega)) ?_ | refine WPl.rdX (ReadR.sliceLH rfl rfl rfl hasA (by omega) (by omega)) ?_)
       | (refine WPl.spQ (fun hc => ?_) (fun hc => ?_) <;> try first | exact prA | (exfalso; first | omega))
       | fail)
      rw [valsV_set (x := z.2), ← hnx]
      exact WPq.rnd (st + 1) hlt (by omega)
    · have hil : R.Z.take st = R.Z := List.take_of_length_le (by omega)
      rw [hil]
      repeat' (first
       | refine WPl.nil ?_ | refine WPq.then ?_ | refine WPq.thenR ?_ | refine WPq.thenE ?_ | refine WPq.blockN ?_ | refine WPq.blockR ?_ | refine WPq.blockE ?_ | refine WPq.blockO rfl ?_ | refine WPc.seq ?_ | refine WPc.block ?_ | refine WPc.ret ?_ | refine WPc.exit ?_ | refine WPc.skip ?_ | refine WPc.region ?_
       | (refine isCond ?_; first | refine WPc.cT ?_ | refine WPc.cF ?_ | (refine WPc.cQ (fun hc => ?_) (fun hc => ?_) <;> try first | exact prA | (exfalso; first | omega)))
       | (refine isD 36 ?_; refine WPl.litS0 fun v36 hv36 => ?_)
       | (refine isD 37 ?_; refine WPl.litS0 fun v37 hv37 => ?_)
       | (refine isOp ?_; first | refine WPl.rd ?_ | refine WPl.sk ?_ | refine WPl.rdB ?_)
       | (refine isSt ?_; first | refine WPl.st1 ?_ | refine WPl.stA ?_ | refine WPl.stEB ?_ | refine WPl.stRB ?_)
       | (show WPl _ _ _ _ _ _ _ (⟨_, .indexAddr _ _ _, _, _, _, _⟩ :: _) _; refine WPl.rdX (ReadR.indexE rfl rfl hasA (by first | assumption | omega)) ?_)
       | (show WPl _ _ _ _ _ _ _ (⟨_, .fieldAddr _ _ _, _, _, _, _⟩ :: _) _; refine WPl.rdX (ReadR.fieldE rfl hasA (by first | assumption | omega)) ?_)
       | (show WPl _ _ _ _ _ _ _ (⟨_, .load _ _, _, _, _, _⟩ :: _) _; first | refine WPl.rdX (ReadR.loadE rfl hasA (by assumption)) ?_ | refine WPl.rdX (ReadR.loadES (by assumption) (by first | assumption | omega) rfl hasA) ?_)
       | (show WPl _ _ _ _ _ _ _ (⟨_, .slice _ _ _ _ _, _, _, _, _⟩ :: _) _; first | refine WPl.rdX (ReadR.sliceH rfl rfl hasA (by omega)) ?_ | refine WPl.rdX (ReadR.sliceL rfl rfl hasA (by omega)) ?_ | refine WPl.rdX (ReadR.sliceLH rfl rfl rfl hasA (by omega) (by omega)) ?_)
       | (refine WPl.spQ (fun hc => ?_) (fun hc => ?_) <;> try first | exact prA | (exfalso; first | omega))
       | fail)
      have hcl : (putZ R.L R.Z).length = n := by rw [putZ_len]; exact hnl
      rw [rz31, rz3, ← hcl]
      refine WPq.dX (ho := ownsW) (vs := [.int .i64 0]) (rsA gX ⟨R.vL, putZ R.L R.Z, v36, v37, [], fu', R.wr, R.rs⟩) ⟨⟨R.vL, putZ R.L R.Z, v36, v37, [], fu', R.wr, R.rs⟩, rfl, ?_, ?_, rfl⟩
      · show Dv.mk fu' ((putZ R.L R.Z).map (·.2)) (fun j : Nat => (vers [] (j : Int)).map (·.2)) R.wr = Dv.mk (fburn R.fu 3 (R.fu.getD 3 0)) R.vw.nows (fun _ => []) R.wr
        rw [putZ_nows h, hfu']
        congr 1
        funext j
        with_unfolding_all rfl
      · rw [hcl]
        refine hb.putL hcl (fun x hx => ?_) hv36 hv37
        rcases putZ_mem hx with hx | ⟨z, hz, rfl⟩
        · exact h.inL x hx
        · exact h.inZ z hz
theorem crT_in {L : List (Value × Sec)} {get : Nat → List (Value × Sec)} {l : List Int} {w : List Nat} {p : Value × Sec → Prop} (hL : ∀ x ∈ L, p x) (hg : ∀ j ∈ w, get j ≠ [] ∧ ∀ x ∈ get j, p x) {d : Value × Sec} : ∀ k, k ≤ w.length → ∀ x ∈ crT get d l w k L, p x
  | 0, _ => hL
  | k + 1, hk => by
    have ih := crT_in (l := l) hL hg (d := d) k (by omega)
    intro x hx
    have hx : x ∈ cr1 get d l (crT get d l w k L) k (w.getD k 0) := hx
    unfold cr1 at hx
    cases hl : l[k]? with
    | none => rw [hl] at hx; exact ih x hx
    | some a =>
      rw [hl] at hx
      dsimp only at hx
      by_cases h0 : a ≤ 0
      · rw [if_pos h0] at hx; exact ih x hx
      · rw [if_neg h0] at hx
        rcases List.mem_or_eq_of_mem_set hx with hx | hx
        · exact ih x hx
        · have hw : w.getD k 0 ∈ w := by rw [List.getD_eq_getElem?_getD, List.getElem?_eq_getElem (by omega)]; exact List.getElem_mem _
          obtain ⟨h1, h2⟩ := hg _ hw
          have h3 := List.length_pos_iff.2 h1
          rw [hx]
          rw [List.getD_eq_getElem?_getD, List.getElem?_eq_getElem (by omega)]
          exact h2 _ (List.getElem_mem _)
theorem crT_stop {α : Type} {get : Nat → List α} {d : α} {l : List Int} {w : List Nat} {L : List α} {st : Nat} (h : l.length ≤ st) : ∀ m, st ≤ m → crT get d l w st L = crT get d l w m L
  | 0, hm => by rw [show st = 0 by omega]
  | m + 1, hm => by
    by_cases he : st = m + 1
    · rw [he]
    · have ih := crT_stop (get := get) (d := d) (w := w) (L := L) h m (by omega)
      rw [ih]
      show _ = cr1 get d l (crT get d l w m L) m (w.getD m 0)
      unfold cr1
      rw [List.getElem?_eq_none (by omega)]
theorem rcrash_t (lv : Value) (l : List Int) (hl : l.length ≤ 100000) (hli : ∀ a ∈ l, in64 a) (h : RInv n k R) (hn : n ≤ 100000) (hkb : k ≤ 100000) :
    Triple Try.prog 26 #[hD gX, lv] ([rdN lv l.length (intsV l)] ++ rsA gX R) (RRf gX n k (resV []) (R.vw.crash l)) := by
  have hnl := h.nl
  have hlz := h.lz
  have c9 := rwait_t gX n k R h hn hkb
  obtain ⟨w, hw⟩ : ∃ w, w = R.vw.wset := ⟨_, rfl⟩
  rw [← hw] at c9
  obtain ⟨m, hm⟩ : ∃ m, m = w.length := ⟨_, rfl⟩
  have hwm : ∀ j ∈ w, j < n ∧ vers R.Z (j : Int) ≠ [] := fun j hj => by
    rw [hw] at hj
    obtain ⟨h1, h2⟩ := wset_mem.1 hj
    refine ⟨?_, fun h3 => h2 (by show (vers R.Z (j : Int)).map (·.2) = []; rw [h3]; rfl)⟩
    have h1 : j < (R.L.map (·.2)).length := h1
    rw [List.length_map, hnl] at h1; exact h1
  have hml : m ≤ n := by
    rw [hm, hw]; unfold Dv.wset
    refine Nat.le_trans (List.length_filter_le _ _) ?_
    rw [List.length_range]
    show (R.L.map (·.2)).length ≤ n
    rw [List.length_map, hnl]; exact Nat.le_refl _
  obtain ⟨d0, hd0⟩ : ∃ d0 : Value × Sec, d0 = (.slice none 0 0, secF 0) := ⟨_, rfl⟩
  rw [← hm] at c9
  have e0 : rowN 31 1 R.vL R.L.length (valsV R.L) = rowN 31 1 R.vL n (valsV (crT (fun j => vers R.Z (j : Int)) d0 l w 0 R.L)) := by rw [hnl]; rfl
  refine Triple.enter Try.func26 rfl Try.ntmps26 rfl (fun W => ?_)
  dsimp only [argsF, Nat.reduceAdd]
  repeat' (first
   | refine WPl.nil ?_ | refine WPq.then ?_ | refine WPq.thenR ?_ | refine WPq.thenE ?_ | refine WPq.blockN ?_ | refine WPq.blockR ?_ | refine WPq.blockE ?_ | refine WPq.blockO rfl ?_ | refine WPc.seq ?_ | refine WPc.block ?_ | refine WPc.ret ?_ | refine WPc.exit ?_ | refine WPc.skip ?_ | refine WPc.region ?_
   | (refine isCond ?_; first | refine WPc.cT ?_ | refine WPc.cF ?_ | (refine WPc.cQ (fun hc => ?_) (fun hc => ?_) <;> try exact prA))
   | (refine isC 9 ?_; refine WPl.cR c9 (fun v9 hv9 => ?_) (hΔ := provsW))
   | (refine isOp ?_; first | refine WPl.rd ?_ | refine WPl.sk ?_ | refine WPl.rdB ?_)
   | (refine isSt ?_; first | refine WPl.st1 ?_ | refine WPl.stA ?_ | refine WPl.stEB ?_ | refine WPl.stRB ?_)
   | (show WPl _ _ _ _ _ _ _ (⟨_, .indexAddr _ _ _, _, _, _, _⟩ :: _) _; refine WPl.rdX (ReadR.indexE rfl rfl hasA (by first | assumption | omega)) ?_)
   | (show WPl _ _ _ _ _ _ _ (⟨_, .fieldAddr _ _ _, _, _, _, _⟩ :: _) _; refine WPl.rdX (ReadR.fieldE rfl hasA (by first | assumption | omega)) ?_)
   | (show WPl _ _ _ _ _ _ _ (⟨_, .load _ _, _, _, _, _⟩ :: _) _; first | refine WPl.rdX (ReadR.loadE rfl hasA (by assumption)) ?_ | refine WPl.rdX (ReadR.loadES (by assumption) (by first | assumption | omega) rfl hasA) ?_)
   | (show WPl _ _ _ _ _ _ _ (⟨_, .slice _ _ _ _ _, _, _, _, _⟩ :: _) _; first | refine WPl.rdX (ReadR.sliceH rfl rfl hasA (by omega)) ?_ | refine WPl.rdX (ReadR.sliceL rfl rfl hasA (by omega)) ?_ | refine WPl.rdX (ReadR.sliceLH rfl rfl rfl hasA (by omega) (by omega)) ?_)
   | (refine WPl.spQ (fun hc => ?_) (fun hc => ?_) <;> try exact prA)
   | fail)
  dsimp only [rsA, List.cons_append, List.nil_append]
  rw [e0]
  first | refine WPc.loop (σ := Nat) (fun st => st ≤ m) (fun st => [bx gX 51 (rdc R.vL R.vA R.vB R.fu R.wr), rowN 31 1 R.vL n (valsV (crT (fun j => vers R.Z (j : Int)) d0 l w st R.L)), rowN 3 1 R.vA R.Z.length (intsV (zAt R.Z)), rowN 31 1 R.vB R.Z.length (valsV (zB R.Z)), vault R.rs, rowN 3 1 v9 m (intsV (intsN w)), rdN lv l.length (intsV l)]) (fun st => [(0, hD gX), (1, lv), (4, v9), (5, .int .i64 (st : Int))]) (fun st => m - st) (0) ?_ takesA frsA (fun st km hx hk => ?_)
  · exact Nat.zero_le _
  have hkm : km = m - st := hk
  clear hk
  have hend : (¬ st < m ∨ ¬ st < l.length) → crT (fun j => vers R.Z (j : Int)) d0 l w st R.L = crT (fun j => vers R.Z (j : Int)) d0 l w m R.L := fun ho => by
    rcases ho with ho | ho
    · rw [show st = m by omega]
    · exact crT_stop (by omega) m hx
  have hcl : (crT (fun j => vers R.Z (j : Int)) d0 l w st R.L).length = n := by rw [crT_len]; exact hnl
  have hfin : crT (fun j => vers R.Z (j : Int)) d0 l w st R.L = crT (fun j => vers R.Z (j : Int)) d0 l w m R.L → ∀ v57 v58 : Value, v57.oneCell' = true → v58.oneCell' = true → (⟨R.vL, crT (fun j => vers R.Z (j : Int)) d0 l w st R.L, v57, v58, [], f4, R.wr, R.rs⟩ : RfS).vw = R.vw.crash l ∧ RInv n k ⟨R.vL, crT (fun j => vers R.Z (j : Int)) d0 l w st R.L, v57, v58, [], f4, R.wr, R.rs⟩ := fun he v57 v58 h57 h58 => by
    refine ⟨?_, ⟨⟨h.one.1, h57, h58⟩, rfl, f4_in, hcl, Nat.zero_le _, fun z hz => (by cases hz), ?_, fun z hz => (by cases hz), h.w0, h.w1⟩⟩
    · show Dv.mk f4 ((crT _ d0 l w st R.L).map (·.2)) (fun j : Nat => (vers [] (j : Int)).map (·.2)) R.wr = Dv.mk f4 (crT R.vw.ws (secF 0) l R.vw.wset R.vw.wset.length R.vw.ls) (fun _ => []) R.wr
      rw [he, crT_map (fun x : Value × Sec => x.2), ← hw, ← hm, hd0]
      congr 1
      funext j
      with_unfolding_all rfl
    · exact crT_in (p := fun x => x ∈ R.rs ∧ x.1.oneCell' = true) h.inL (fun j hj => ⟨(hwm j hj).2, fun x hx => by
        obtain ⟨z, hz, _, rfl⟩ := vers_mem hx
        exact h.inZ z hz⟩) st (by rw [← hm]; exact hx)
  by_cases hlt : st < m
  · by_cases hll : st < l.length
    · obtain ⟨j, hj⟩ : ∃ j, w[st]? = some j := ⟨_, List.getElem?_eq_getElem (by omega)⟩
      obtain ⟨a, hla⟩ : ∃ a, l[st]? = some a := ⟨_, List.getElem?_eq_getElem hll⟩
      obtain ⟨hjn, hne⟩ := hwm j (List.mem_of_getElem? hj)
      have ha : (intsV (intsN w))[st]? = some (.int .i64 (j : Int)) := intsV_at (intsN_at hj)
      have haV : (intsV l)[st]? = some (.int .i64 a) := intsV_at hla
      have hia := hli a (List.mem_of_getElem? hla)
      unfold in64 at hia
      have c27 := rvers_t gX n k R (j : Int) h hkb
      have hpos := List.length_pos_iff.2 hne
      have hvl := vers_len (Z := R.Z) (i := (j : Int))
      have hin : ∀ x ∈ vers R.Z (j : Int), x.1.oneCell' = true := fun x hx => by
        obtain ⟨z, hz, _, rfl⟩ := vers_mem hx
        exact (h.inZ z hz).2
      have hstep : crT (fun j => vers R.Z (j : Int)) d0 l w (st + 1) R.L = if a ≤ 0 then crT (fun j => vers R.Z (j : Int)) d0 l w st R.L else (crT (fun j => vers R.Z (j : Int)) d0 l w st R.L).set j ((vers R.Z (j : Int)).getD ((min a (vers R.Z (j : Int)).length).toNat - 1) d0) := by
        show cr1 _ d0 l _ st (w.getD st 0) = _
        unfold cr1
        rw [hla, show w.getD st 0 = j by rw [List.getD_eq_getElem?_getD, hj]; rfl]
      obtain ⟨vs, hvs⟩ : ∃ vs, vs = vers R.Z (j : Int) := ⟨_, rfl⟩
      rw [← hvs] at c27 hpos hvl hin hstep
      obtain ⟨cur, hcur⟩ : ∃ cur, cur = crT (fun j => vers R.Z (j : Int)) d0 l w st R.L := ⟨_, rfl⟩
      rw [← hcur] at hcl hstep ⊢
      have hjv : j < (valsV cur).length := by rw [valsV_len, hcl]; exact hjn
      by_cases ha0 : a ≤ 0
      · rw [if_pos ha0] at hstep
        repeat' (first
         | refine WPl.nil ?_ | refine WPq.then ?_ | refine WPq.thenR ?_ | refine WPq.thenE ?_ | refine WPq.blockN ?_ | refine WPq.blockR ?_ | refine WPq.blockE ?_ | refine WPq.blockO rfl ?_ | refine WPc.seq ?_ | refine WPc.block ?_ | refine WPc.ret ?_ | refine WPc.exit ?_ | refine WPc.skip ?_ | refine WPc.region ?_
         | (refine isReg 4 ?_; refine WPc.drA [([], [23, 24, 25, 26, 28, 29, 30, 31]), ([], [22, 24, 28, 29, 30, 31]), ([], [22, 23, 28, 29, 30, 31]), ([1, 2], [22, 23, 24, 28, 29, 30, 31]), ([1, 2, 3], [22, 23, 24, 25, 28, 29, 30, 31]), ([0, 1, 2, 3, 4], [22, 23, 24, 25, 26, 28, 29, 30, 31]), ([], [6, 22, 23, 24, 25, 26, 27, 29]), ([], [6, 22, 23, 24, 25, 26, 27, 28]), ([6, 7], [6, 22, 23, 24, 25, 26, 27, 28, 29]), ([6, 7, 8], [6, 22, 23, 24, 25, 26, 27, 28, 29, 30]), ([0, 1, 2, 3, 4, 5], [22, 23, 24, 25, 26, 27, 28, 29, 30, 31]), ([0, 1, 2, 3, 4, 5, 6, 7, 8, 9, 10], [6, 22, 23, 24, 25, 26, 27, 28, 29, 30, 31])] [] (Γx := []) ?_; dsimp only [prev0, List.length_nil, List.length_cons])
         | (refine gAny ?_; first | (refine gD 25 ?_; refine RGl.rdX (fun e hk => by (try dsimp only [bndR, ensR, oksR, fcutR, List.append_nil, List.nil_append, List.cons_append, List.append_assoc] at hk ⊢); exact ReadR.indexE1 (i := st) rfl rfl hasA hlt) ?_) | (refine gD 26 ?_; refine RGl.rdX (fun e hk => by (try dsimp only [bndR, ensR, oksR, fcutR, List.append_nil, List.nil_append, List.cons_append, List.append_assoc] at hk ⊢); exact ReadR.loadE rfl hasA ha) ?_) | (refine gD 30 ?_; refine RGl.rdX (fun e hk => by (try dsimp only [bndR, ensR, oksR, fcutR, List.append_nil, List.nil_append, List.cons_append, List.append_assoc] at hk ⊢); exact ReadR.indexE1 (i := st) rfl rfl hasA hll) ?_) | (refine gD 31 ?_; refine RGl.rdX (fun e hk => by (try dsimp only [bndR, ensR, oksR, fcutR, List.append_nil, List.nil_append, List.cons_append, List.append_assoc] at hk ⊢); exact ReadR.loadE rfl hasA haV) ?_) | (refine gOp ?_; (refine gC 27 ?_; refine RGl.row (Γ1 := fun _ => []) (fun e hk => OpT.callN c27 (hΔ := by (try dsimp only [bndR, ensR, oksR, fcutR, List.append_nil, List.nil_append, List.cons_append, List.append_assoc] at hk ⊢); exact provsW)) ?_)) | (refine gD 35 ?_; refine RGl.rdX (fun e hk => by (try dsimp only [bndR, ensR, oksR, fcutR, List.append_nil, List.nil_append, List.cons_append, List.append_assoc] at hk ⊢); exact ReadR.binE rfl rfl BinR.gtr (congrArg Value.bool (decide_eq_false (show ¬ a > (vs.length : Int) by omega)))) ?_) | (refine gD 39 ?_; refine RGl.rdX (fun e hk => by (try dsimp only [bndR, ensR, oksR, fcutR, List.append_nil, List.nil_append, List.cons_append, List.append_assoc] at hk ⊢); exact ReadR.binE rfl rfl BinR.gtr (congrArg Value.bool (decide_eq_false (show ¬ a > 0 by omega)))) ?_) | (refine gOp ?_; first | refine RGl.rdA ?_ | refine RGl.rdX (fun e hk => by (try dsimp only [bndR, ensR, oksR, fcutR, List.append_nil, List.nil_append, List.cons_append, List.append_assoc] at hk ⊢); exact readB) ?_) | (refine RGl.fin (fun e hk => ?_); (try dsimp only [bndA, ensAR, oksA, List.append_nil, List.nil_append, List.cons_append, List.append_assoc] at hk ⊢); (repeat (obtain ⟨hk1, hk⟩ := hk))) | fail)
         | (refine isCond ?_; first | refine WPc.cT ?_ | refine WPc.cF ?_ | (refine WPc.cQ (fun hc => ?_) (fun hc => ?_) <;> try first | exact prA | (exfalso; first | omega)))
         | (refine isD 25 ?_; refine WPl.rdX (ReadR.indexE1 (i := st) rfl rfl hasA hlt) ?_)
         | (refine isD 26 ?_; refine WPl.rdX (ReadR.loadE rfl hasA ha) ?_)
         | (refine isD 30 ?_; refine WPl.rdX (ReadR.indexE1 (i := st) rfl rfl hasA hll) ?_)
         | (refine isD 31 ?_; refine WPl.rdX (ReadR.loadE rfl hasA haV) ?_)
         | (refine isD 35 ?_; refine WPl.rdX (ReadR.binE rfl rfl BinR.gtr (congrArg Value.bool (decide_eq_false (show ¬ a > (vs.length : Int) by omega)))) ?_)
         | (refine isD 39 ?_; refine WPl.rdX (ReadR.binE rfl rfl BinR.gtr (congrArg Value.bool (decide_eq_false (show ¬ a > 0 by omega)))) ?_)
         | (refine isOp ?_; first | refine WPl.rd ?_ | refine WPl.sk ?_ | refine WPl.rdB ?_)
         | (refine isSt ?_; first | refine WPl.st1 ?_ | refine WPl.stA ?_ | refine WPl.stEB ?_ | refine WPl.stRB ?_)
         | (show WPl _ _ _ _ _ _ _ (⟨_, .indexAddr _ _ _, _, _, _, _⟩ :: _) _; refine WPl.rdX (ReadR.indexE rfl rfl hasA (by first | assumption | omega)) ?_)
         | (show WPl _ _ _ _ _ _ _ (⟨_, .fieldAddr _ _ _, _, _, _, _⟩ :: _) _; refine WPl.rdX (ReadR.fieldE rfl hasA (by first | assumption | omega)) ?_)
         | (show WPl _ _ _ _ _ _ _ (⟨_, .load _ _, _, _, _, _⟩ :: _) _; first | refine WPl.rdX (ReadR.loadE rfl hasA (by assumption)) ?_ | refine WPl.rdX (ReadR.loadES (by assumption) (by first | assumption | omega) rfl hasA) ?_)
         | (show WPl _ _ _ _ _ _ _ (⟨_, .slice _ _ _ _ _, _, _, _, _⟩ :: _) _; first | refine WPl.rdX (ReadR.sliceH rfl rfl hasA (by omega)) ?_ | refine WPl.rdX (ReadR.sliceL rfl rfl hasA (by omega)) ?_ | refine WPl.rdX (ReadR.sliceLH rfl rfl rfl hasA (by omega) (by omega)) ?_)
         | (refine WPl.spQ (fun hc => ?_) (fun hc => ?_) <;> try first | exact prA | (exfalso; first | omega))
         | fail)
        rw [← hstep]
        exact WPq.rnd (st + 1) (by omega) (by omega)
      · rw [if_neg ha0] at hstep
        obtain ⟨q, hq⟩ : ∃ q, q = (min a (vs.length : Int)).toNat - 1 := ⟨_, rfl⟩
        have hql : q < vs.length := by omega
        obtain ⟨x, hxq⟩ : ∃ x, vs[q]? = some x := ⟨_, List.getElem?_eq_getElem hql⟩
        have hone := hin x (List.mem_of_getElem? hxq)
        have hxv := valsV_at hxq
        rw [← hq, show vs.getD q d0 = x by rw [List.getD_eq_getElem?_getD, hxq]; rfl] at hstep
        by_cases hal : a > (vs.length : Int)
        · have hqi : (vs.length : Int) - 1 = (q : Int) := by omega
          repeat' (first
           | refine WPl.nil ?_ | refine WPq.then ?_ | refine WPq.thenR ?_ | refine WPq.thenE ?_ | refine WPq.blockN ?_ | refine WPq.blockR ?_ | refine WPq.blockE ?_ | refine WPq.blockO rfl ?_ | refine WPc.seq ?_ | refine WPc.block ?_ | refine WPc.ret ?_ | refine WPc.exit ?_ | refine WPc.skip ?_ | refine WPc.region ?_
           | (refine isReg 4 ?_; refine WPc.drA [([], [23, 24, 25, 26, 28, 29, 30, 31]), ([], [22, 24, 28, 29, 30, 31]), ([], [22, 23, 28, 29, 30, 31]), ([1, 2], [22, 23, 24, 28, 29, 30, 31]), ([1, 2, 3], [22, 23, 24, 25, 28, 29, 30, 31]), ([0, 1, 2, 3, 4], [22, 23, 24, 25, 26, 28, 29, 30, 31]), ([], [6, 22, 23, 24, 25, 26, 27, 29]), ([], [6, 22, 23, 24, 25, 26, 27, 28]), ([6, 7], [6, 22, 23, 24, 25, 26, 27, 28, 29]), ([6, 7, 8], [6, 22, 23, 24, 25, 26, 27, 28, 29, 30]), ([0, 1, 2, 3, 4, 5], [22, 23, 24, 25, 26, 27, 28, 29, 30, 31]), ([0, 1, 2, 3, 4, 5, 6, 7, 8, 9, 10], [6, 22, 23, 24, 25, 26, 27, 28, 29, 30, 31])] [] (Γx := []) ?_; dsimp only [prev0, List.length_nil, List.length_cons])
           | (refine gAny ?_; first | (refine gD 25 ?_; refine RGl.rdX (fun e hk => by (try dsimp only [bndR, ensR, oksR, fcutR, List.append_nil, List.nil_append, List.cons_append, List.append_assoc] at hk ⊢); exact ReadR.indexE1 (i := st) rfl rfl hasA hlt) ?_) | (refine gD 26 ?_; refine RGl.rdX (fun e hk => by (try dsimp only [bndR, ensR, oksR, fcutR, List.append_nil, List.nil_append, List.cons_append, List.append_assoc] at hk ⊢); exact ReadR.loadE rfl hasA ha) ?_) | (refine gD 30 ?_; refine RGl.rdX (fun e hk => by (try dsimp only [bndR, ensR, oksR, fcutR, List.append_nil, List.nil_append, List.cons_append, List.append_assoc] at hk ⊢); exact ReadR.indexE1 (i := st) rfl rfl hasA hll) ?_) | (refine gD 31 ?_; refine RGl.rdX (fun e hk => by (try dsimp only [bndR, ensR, oksR, fcutR, List.append_nil, List.nil_append, List.cons_append, List.append_assoc] at hk ⊢); exact ReadR.loadE rfl hasA haV) ?_) | (refine gOp ?_; (refine gC 27 ?_; refine RGl.row (Γ1 := fun _ => []) (fun e hk => OpT.callN c27 (hΔ := by (try dsimp only [bndR, ensR, oksR, fcutR, List.append_nil, List.nil_append, List.cons_append, List.append_assoc] at hk ⊢); exact provsW)) ?_)) | (refine gD 35 ?_; refine RGl.rdX (fun e hk => by (try dsimp only [bndR, ensR, oksR, fcutR, List.append_nil, List.nil_append, List.cons_append, List.append_assoc] at hk ⊢); exact ReadR.binE rfl rfl BinR.gtr (congrArg Value.bool (decide_eq_true hal))) ?_) | (refine gD 39 ?_; refine RGl.rdX (fun e hk => by (try dsimp only [bndR, ensR, oksR, fcutR, List.append_nil, List.nil_append, List.cons_append, List.append_assoc] at hk ⊢); exact ReadR.binE rfl rfl BinR.gtr (congrArg Value.bool (decide_eq_true (show (vs.length : Int) > 0 by omega)))) ?_) | (refine gOp ?_; first | refine RGl.rdA ?_ | refine RGl.rdX (fun e hk => by (try dsimp only [bndR, ensR, oksR, fcutR, List.append_nil, List.nil_append, List.cons_append, List.append_assoc] at hk ⊢); exact readB) ?_) | (refine RGl.fin (fun e hk => ?_); (try dsimp only [bndA, ensAR, oksA, List.append_nil, List.nil_append, List.cons_append, List.append_assoc] at hk ⊢); (repeat (obtain ⟨hk1, hk⟩ := hk))) | fail)
           | (refine isCond ?_; first | refine WPc.cT ?_ | refine WPc.cF ?_ | (refine WPc.cQ (fun hc => ?_) (fun hc => ?_) <;> try first | exact prA | (exfalso; first | omega)))
           | (refine isD 25 ?_; refine WPl.rdX (ReadR.indexE1 (i := st) rfl rfl hasA hlt) ?_)
           | (refine isD 26 ?_; refine WPl.rdX (ReadR.loadE rfl hasA ha) ?_)
           | (refine isD 30 ?_; refine WPl.rdX (ReadR.indexE1 (i := st) rfl rfl hasA hll) ?_)
           | (refine isD 31 ?_; refine WPl.rdX (ReadR.loadE rfl hasA haV) ?_)
           | (refine isD 35 ?_; refine WPl.rdX (ReadR.binE rfl rfl BinR.gtr (congrArg Value.bool (decide_eq_true hal))) ?_)
           | (refine isD 39 ?_; refine WPl.rdX (ReadR.binE rfl rfl BinR.gtr (congrArg Value.bool (decide_eq_true (show (vs.length : Int) > 0 by omega)))) ?_)
           | (refine isOp ?_; first | refine WPl.rd ?_ | refine WPl.sk ?_ | refine WPl.rdB ?_)
           | (refine isSt ?_; first | refine WPl.st1 ?_ | refine WPl.stA ?_ | refine WPl.stEB ?_ | refine WPl.stRB ?_)
           | (show WPl _ _ _ _ _ _ _ (⟨_, .indexAddr _ _ _, _, _, _, _⟩ :: _) _; refine WPl.rdX (ReadR.indexE rfl rfl hasA (by first | assumption | omega)) ?_)
           | (show WPl _ _ _ _ _ _ _ (⟨_, .fieldAddr _ _ _, _, _, _, _⟩ :: _) _; refine WPl.rdX (ReadR.fieldE rfl hasA (by first | assumption | omega)) ?_)
           | (show WPl _ _ _ _ _ _ _ (⟨_, .load _ _, _, _, _, _⟩ :: _) _; first | refine WPl.rdX (ReadR.loadE rfl hasA (by assumption)) ?_ | refine WPl.rdX (ReadR.loadES (by assumption) (by first | assumption | omega) rfl hasA) ?_)
           | (show WPl _ _ _ _ _ _ _ (⟨_, .slice _ _ _ _ _, _, _, _, _⟩ :: _) _; first | refine WPl.rdX (ReadR.sliceH rfl rfl hasA (by omega)) ?_ | refine WPl.rdX (ReadR.sliceL rfl rfl hasA (by omega)) ?_ | refine WPl.rdX (ReadR.sliceLH rfl rfl rfl hasA (by omega) (by omega)) ?_)
           | (refine WPl.spQ (fun hc => ?_) (fun hc => ?_) <;> try first | exact prA | (exfalso; first | omega))
           | fail)
          dsimp only [Nat.reduceAdd] at *
          obtain ⟨v27, hv27⟩ : ∃ v27, v27 = (e 5).1 := ⟨_, rfl⟩
          rw [← hv27]
          repeat' (first
           | refine WPl.nil ?_ | refine WPq.then ?_ | refine WPq.thenR ?_ | refine WPq.thenE ?_ | refine WPq.blockN ?_ | refine WPq.blockR ?_ | refine WPq.blockE ?_ | refine WPq.blockO rfl ?_ | refine WPc.seq ?_ | refine WPc.block ?_ | refine WPc.ret ?_ | refine WPc.exit ?_ | refine WPc.skip ?_ | refine WPc.region ?_
           | (refine isReg 8 ?_; refine WPc.drA [([15], [44, 45, 46, 47, 48, 49, 50, 51, 52]), ([0, 15], [40, 44, 45, 46, 47, 48, 49, 50, 51, 52]), ([0, 1, 15], [40, 41, 44, 45, 46, 47, 48, 49, 50, 51, 52]), ([0, 1, 2, 15], [40, 41, 42, 44, 45, 46, 47, 48, 49, 50, 51, 52]), ([15], [40, 41, 42, 43, 45, 48, 49, 50, 51, 52]), ([15], [40, 41, 42, 43, 44, 48, 49, 50, 51, 52]), ([4, 5, 15], [40, 41, 42, 43, 44, 45, 48, 49, 50, 51, 52]), ([4, 5, 6, 15], [40, 41, 42, 43, 44, 45, 46, 48, 49, 50, 51, 52]), ([15], [40, 41, 42, 43, 44, 45, 46, 47, 49, 50]), ([15], [40, 41, 42, 43, 44, 45, 46, 47, 48]), ([9, 15], [40, 41, 42, 43, 44, 45, 46, 47, 48, 49]), ([8, 9, 10, 15], [40, 41, 42, 43, 44, 45, 46, 47, 48, 49, 50]), ([8, 9, 10, 11, 15], [40, 41, 42, 43, 44, 45, 46, 47, 48, 49, 50, 51]), ([0, 1, 2, 3, 4, 5, 6, 7, 8, 9, 10, 11, 12, 15], [40, 41, 42, 43, 44, 45, 46, 47, 48, 49, 50, 51, 52]), ([0, 1, 2, 3, 4, 5, 6, 7, 8, 9, 10, 11, 12, 13, 15], [40, 41, 42, 43, 44, 45, 46, 47, 48, 49, 50, 51, 52, 53])] [(15, 14), (15, 0), (15, 1), (15, 2), (15, 3), (15, 4), (15, 5), (15, 6), (15, 7), (15, 8), (15, 9), (15, 10), (15, 11), (15, 12), (15, 13)] (Γx := [rowN 31 1 R.vL n (valsV cur)]) ?_; dsimp only [prev0, List.length_nil, List.length_cons])
           | (refine gAny ?_; first | (refine gD 46 ?_; refine RGl.rdX (fun e hk => by (try dsimp only [bndR, ensR, oksR, fcutR, List.append_nil, List.nil_append, List.cons_append, List.append_assoc] at hk ⊢); exact ReadR.indexE1 (i := st) rfl rfl hasA hlt) ?_) | (refine gD 47 ?_; refine RGl.rdX (fun e hk => by (try dsimp only [bndR, ensR, oksR, fcutR, List.append_nil, List.nil_append, List.cons_append, List.append_assoc] at hk ⊢); exact ReadR.loadE rfl hasA ha) ?_) | (refine gD 50 ?_; refine RGl.rdX (fun e hk => by (try dsimp only [bndR, ensR, oksR, fcutR, List.append_nil, List.nil_append, List.cons_append, List.append_assoc] at hk ⊢); exact ReadR.binE rfl rfl (BinR.subI (by omega) (by omega)) (congrArg (Value.int .i64) hqi)) ?_) | (refine gD 51 ?_; refine RGl.rdX (fun e hk => by (try dsimp only [bndR, ensR, oksR, fcutR, List.append_nil, List.nil_append, List.cons_append, List.append_assoc] at hk ⊢); exact ReadR.indexE1 (i := q) rfl rfl hasA hql) ?_) | (refine gD 52 ?_; refine RGl.rdX (fun e hk => by (try dsimp only [bndR, ensR, oksR, fcutR, List.append_nil, List.nil_append, List.cons_append, List.append_assoc] at hk ⊢); exact ReadR.loadE rfl hasA hxv) ?_) | (refine gD 53 ?_; refine RGl.rdX (fun e hk => by (try dsimp only [bndR, ensR, oksR, fcutR, List.append_nil, List.nil_append, List.cons_append, List.append_assoc] at hk ⊢); exact ReadR.indexE1 (i := j) rfl rfl hasA hjn) ?_) | (refine gOp ?_; (refine RGl.turn (fun e hk => by (try dsimp only [bndR, ensR, oksR, fcutR, List.append_nil, List.nil_append, List.cons_append, List.append_assoc] at hk ⊢); exact OpT.storeEN (i := j) rfl rfl takesA hone hjv) ?_)) | (refine gOp ?_; first | refine RGl.rdA ?_ | refine RGl.rdX (fun e hk => by (try dsimp only [bndR, ensR, oksR, fcutR, List.append_nil, List.nil_append, List.cons_append, List.append_assoc] at hk ⊢); exact readB) ?_) | (refine gSt ?_; refine RGl.stA ?_) | (refine RGl.fin (fun e hk => ?_); (try dsimp only [bndA, ensAR, oksA, List.append_nil, List.nil_append, List.cons_append, List.append_assoc] at hk ⊢); (repeat (obtain ⟨hk1, hk⟩ := hk))) | fail)
           | (refine isCond ?_; first | refine WPc.cT ?_ | refine WPc.cF ?_ | (refine WPc.cQ (fun hc => ?_) (fun hc => ?_) <;> try exact prA))
           | (refine isD 46 ?_; refine WPl.rdX (ReadR.indexE1 (i := st) rfl rfl hasA hlt) ?_)
           | (refine isD 47 ?_; refine WPl.rdX (ReadR.loadE rfl hasA ha) ?_)
           | (refine isD 50 ?_; refine WPl.rdX (ReadR.binE rfl rfl (BinR.subI (by omega) (by omega)) (congrArg (Value.int .i64) hqi)) ?_)
           | (refine isD 51 ?_; refine WPl.rdX (ReadR.indexE1 (i := q) rfl rfl hasA hql) ?_)
           | (refine isD 52 ?_; refine WPl.rdX (ReadR.loadE rfl hasA hxv) ?_)
           | (refine isD 53 ?_; refine WPl.rdX (ReadR.indexE1 (i := j) rfl rfl hasA hjn) ?_)
           | (refine isOp ?_; first | refine WPl.rd ?_ | refine WPl.sk ?_ | refine WPl.rdB ?_)
           | (refine isSt ?_; first | refine WPl.st1 ?_ | refine WPl.stA ?_ | refine WPl.stEB ?_ | refine WPl.stRB ?_)
           | (show WPl _ _ _ _ _ _ _ (⟨_, .indexAddr _ _ _, _, _, _, _⟩ :: _) _; refine WPl.rdX (ReadR.indexE rfl rfl hasA (by first | assumption | omega)) ?_)
           | (show WPl _ _ _ _ _ _ _ (⟨_, .fieldAddr _ _ _, _, _, _, _⟩ :: _) _; refine WPl.rdX (ReadR.fieldE rfl hasA (by first | assumption | omega)) ?_)
           | (show WPl _ _ _ _ _ _ _ (⟨_, .load _ _, _, _, _, _⟩ :: _) _; first | refine WPl.rdX (ReadR.loadE rfl hasA (by assumption)) ?_ | refine WPl.rdX (ReadR.loadES (by assumption) (by first | assumption | omega) rfl hasA) ?_)
           | (show WPl _ _ _ _ _ _ _ (⟨_, .slice _ _ _ _ _, _, _, _, _⟩ :: _) _; first | refine WPl.rdX (ReadR.sliceH rfl rfl hasA (by omega)) ?_ | refine WPl.rdX (ReadR.sliceL rfl rfl hasA (by omega)) ?_ | refine WPl.rdX (ReadR.sliceLH rfl rfl rfl hasA (by omega) (by omega)) ?_)
           | (refine WPl.spQ (fun hc => ?_) (fun hc => ?_) <;> try exact prA)
           | fail)
          rw [valsV_set (x := x), ← hstep]
          exact WPq.rnd (st + 1) (by omega) (by omega)
        · have hqi : a - 1 = (q : Int) := by omega
          repeat' (first
           | refine WPl.nil ?_ | refine WPq.then ?_ | refine WPq.thenR ?_ | refine WPq.thenE ?_ | refine WPq.blockN ?_ | refine WPq.blockR ?_ | refine WPq.blockE ?_ | refine WPq.blockO rfl ?_ | refine WPc.seq ?_ | refine WPc.block ?_ | refine WPc.ret ?_ | refine WPc.exit ?_ | refine WPc.skip ?_ | refine WPc.region ?_
           | (refine isReg 4 ?_; refine WPc.drA [([], [23, 24, 25, 26, 28, 29, 30, 31]), ([], [22, 24, 28, 29, 30, 31]), ([], [22, 23, 28, 29, 30, 31]), ([1, 2], [22, 23, 24, 28, 29, 30, 31]), ([1, 2, 3], [22, 23, 24, 25, 28, 29, 30, 31]), ([0, 1, 2, 3, 4], [22, 23, 24, 25, 26, 28, 29, 30, 31]), ([], [6, 22, 23, 24, 25, 26, 27, 29]), ([], [6, 22, 23, 24, 25, 26, 27, 28]), ([6, 7], [6, 22, 23, 24, 25, 26, 27, 28, 29]), ([6, 7, 8], [6, 22, 23, 24, 25, 26, 27, 28, 29, 30]), ([0, 1, 2, 3, 4, 5], [22, 23, 24, 25, 26, 27, 28, 29, 30, 31]), ([0, 1, 2, 3, 4, 5, 6, 7, 8, 9, 10], [6, 22, 23, 24, 25, 26, 27, 28, 29, 30, 31])] [] (Γx := []) ?_; dsimp only [prev0, List.length_nil, List.length_cons])
           | (refine gAny ?_; first | (refine gD 25 ?_; refine RGl.rdX (fun e hk => by (try dsimp only [bndR, ensR, oksR, fcutR, List.append_nil, List.nil_append, List.cons_append, List.append_assoc] at hk ⊢); exact ReadR.indexE1 (i := st) rfl rfl hasA hlt) ?_) | (refine gD 26 ?_; refine RGl.rdX (fun e hk => by (try dsimp only [bndR, ensR, oksR, fcutR, List.append_nil, List.nil_append, List.cons_append, List.append_assoc] at hk ⊢); exact ReadR.loadE rfl hasA ha) ?_) | (refine gD 30 ?_; refine RGl.rdX (fun e hk => by (try dsimp only [bndR, ensR, oksR, fcutR, List.append_nil, List.nil_append, List.cons_append, List.append_assoc] at hk ⊢); exact ReadR.indexE1 (i := st) rfl rfl hasA hll) ?_) | (refine gD 31 ?_; refine RGl.rdX (fun e hk => by (try dsimp only [bndR, ensR, oksR, fcutR, List.append_nil, List.nil_append, List.cons_append, List.append_assoc] at hk ⊢); exact ReadR.loadE rfl hasA haV) ?_) | (refine gOp ?_; (refine gC 27 ?_; refine RGl.row (Γ1 := fun _ => []) (fun e hk => OpT.callN c27 (hΔ := by (try dsimp only [bndR, ensR, oksR, fcutR, List.append_nil, List.nil_append, List.cons_append, List.append_assoc] at hk ⊢); exact provsW)) ?_)) | (refine gD 35 ?_; refine RGl.rdX (fun e hk => by (try dsimp only [bndR, ensR, oksR, fcutR, List.append_nil, List.nil_append, List.cons_append, List.append_assoc] at hk ⊢); exact ReadR.binE rfl rfl BinR.gtr (congrArg Value.bool (decide_eq_false hal))) ?_) | (refine gD 39 ?_; refine RGl.rdX (fun e hk => by (try dsimp only [bndR, ensR, oksR, fcutR, List.append_nil, List.nil_append, List.cons_append, List.append_assoc] at hk ⊢); exact ReadR.binE rfl rfl BinR.gtr (congrArg Value.bool (decide_eq_true (show a > 0 by omega)))) ?_) | (refine gOp ?_; first | refine RGl.rdA ?_ | refine RGl.rdX (fun e hk => by (try dsimp only [bndR, ensR, oksR, fcutR, List.append_nil, List.nil_append, List.cons_append, List.append_assoc] at hk ⊢); exact readB) ?_) | (refine RGl.fin (fun e hk => ?_); (try dsimp only [bndA, ensAR, oksA, List.append_nil, List.nil_append, List.cons_append, List.append_assoc] at hk ⊢); (repeat (obtain ⟨hk1, hk⟩ := hk))) | fail)
           | (refine isCond ?_; first | refine WPc.cT ?_ | refine WPc.cF ?_ | (refine WPc.cQ (fun hc => ?_) (fun hc => ?_) <;> try first | exact prA | (exfalso; first | omega)))
           | (refine isD 25 ?_; refine WPl.rdX (ReadR.indexE1 (i := st) rfl rfl hasA hlt) ?_)
           | (refine isD 26 ?_; refine WPl.rdX (ReadR.loadE rfl hasA ha) ?_)
           | (refine isD 30 ?_; refine WPl.rdX (ReadR.indexE1 (i := st) rfl rfl hasA hll) ?_)
           | (refine isD 31 ?_; refine WPl.rdX (ReadR.loadE rfl hasA haV) ?_)
           | (refine isD 35 ?_; refine WPl.rdX (ReadR.binE rfl rfl BinR.gtr (congrArg Value.bool (decide_eq_false hal))) ?_)
           | (refine isD 39 ?_; refine WPl.rdX (ReadR.binE rfl rfl BinR.gtr (congrArg Value.bool (decide_eq_true (show a > 0 by omega)))) ?_)
           | (refine isOp ?_; first | refine WPl.rd ?_ | refine WPl.sk ?_ | refine WPl.rdB ?_)
           | (refine isSt ?_; first | refine WPl.st1 ?_ | refine WPl.stA ?_ | refine WPl.stEB ?_ | refine WPl.stRB ?_)
           | (show WPl _ _ _ _ _ _ _ (⟨_, .indexAddr _ _ _, _, _, _, _⟩ :: _) _; refine WPl.rdX (ReadR.indexE rfl rfl hasA (by first | assumption | omega)) ?_)
           | (show WPl _ _ _ _ _ _ _ (⟨_, .fieldAddr _ _ _, _, _, _, _⟩ :: _) _; refine WPl.rdX (ReadR.fieldE rfl hasA (by first | assumption | omega)) ?_)
           | (show WPl _ _ _ _ _ _ _ (⟨_, .load _ _, _, _, _, _⟩ :: _) _; first | refine WPl.rdX (ReadR.loadE rfl hasA (by assumption)) ?_ | refine WPl.rdX (ReadR.loadES (by assumption) (by first | assumption | omega) rfl hasA) ?_)
           | (show WPl _ _ _ _ _ _ _ (⟨_, .slice _ _ _ _ _, _, _, _, _⟩ :: _) _; first | refine WPl.rdX (ReadR.sliceH rfl rfl hasA (by omega)) ?_ | refine WPl.rdX (ReadR.sliceL rfl rfl hasA (by omega)) ?_ | refine WPl.rdX (ReadR.sliceLH rfl rfl rfl hasA (by omega) (by omega)) ?_)
           | (refine WPl.spQ (fun hc => ?_) (fun hc => ?_) <;> try first | exact prA | (exfalso; first | omega))
           | fail)
          dsimp only [Nat.reduceAdd] at *
          obtain ⟨v27, hv27⟩ : ∃ v27, v27 = (e 5).1 := ⟨_, rfl⟩
          rw [← hv27]
          repeat' (first
           | refine WPl.nil ?_ | refine WPq.then ?_ | refine WPq.thenR ?_ | refine WPq.thenE ?_ | refine WPq.blockN ?_ | refine WPq.blockR ?_ | refine WPq.blockE ?_ | refine WPq.blockO rfl ?_ | refine WPc.seq ?_ | refine WPc.block ?_ | refine WPc.ret ?_ | refine WPc.exit ?_ | refine WPc.skip ?_ | refine WPc.region ?_
           | (refine isReg 8 ?_; refine WPc.drA [([15], [44, 45, 46, 47, 48, 49, 50, 51, 52]), ([0, 15], [40, 44, 45, 46, 47, 48, 49, 50, 51, 52]), ([0, 1, 15], [40, 41, 44, 45, 46, 47, 48, 49, 50, 51, 52]), ([0, 1, 2, 15], [40, 41, 42, 44, 45, 46, 47, 48, 49, 50, 51, 52]), ([15], [40, 41, 42, 43, 45, 48, 49, 50, 51, 52]), ([15], [40, 41, 42, 43, 44, 48, 49, 50, 51, 52]), ([4, 5, 15], [40, 41, 42, 43, 44, 45, 48, 49, 50, 51, 52]), ([4, 5, 6, 15], [40, 41, 42, 43, 44, 45, 46, 48, 49, 50, 51, 52]), ([15], [40, 41, 42, 43, 44, 45, 46, 47, 49, 50]), ([15], [40, 41, 42, 43, 44, 45, 46, 47, 48]), ([9, 15], [40, 41, 42, 43, 44, 45, 46, 47, 48, 49]), ([8, 9, 10, 15], [40, 41, 42, 43, 44, 45, 46, 47, 48, 49, 50]), ([8, 9, 10, 11, 15], [40, 41, 42, 43, 44, 45, 46, 47, 48, 49, 50, 51]), ([0, 1, 2, 3, 4, 5, 6, 7, 8, 9, 10, 11, 12, 15], [40, 41, 42, 43, 44, 45, 46, 47, 48, 49, 50, 51, 52]), ([0, 1, 2, 3, 4, 5, 6, 7, 8, 9, 10, 11, 12, 13, 15], [40, 41, 42, 43, 44, 45, 46, 47, 48, 49, 50, 51, 52, 53])] [(15, 14), (15, 0), (15, 1), (15, 2), (15, 3), (15, 4), (15, 5), (15, 6), (15, 7), (15, 8), (15, 9), (15, 10), (15, 11), (15, 12), (15, 13)] (Γx := [rowN 31 1 R.vL n (valsV cur)]) ?_; dsimp only [prev0, List.length_nil, List.length_cons])
           | (refine gAny ?_; first | (refine gD 46 ?_; refine RGl.rdX (fun e hk => by (try dsimp only [bndR, ensR, oksR, fcutR, List.append_nil, List.nil_append, List.cons_append, List.append_assoc] at hk ⊢); exact ReadR.indexE1 (i := st) rfl rfl hasA hlt) ?_) | (refine gD 47 ?_; refine RGl.rdX (fun e hk => by (try dsimp only [bndR, ensR, oksR, fcutR, List.append_nil, List.nil_append, List.cons_append, List.append_assoc] at hk ⊢); exact ReadR.loadE rfl hasA ha) ?_) | (refine gD 50 ?_; refine RGl.rdX (fun e hk => by (try dsimp only [bndR, ensR, oksR, fcutR, List.append_nil, List.nil_append, List.cons_append, List.append_assoc] at hk ⊢); exact ReadR.binE rfl rfl (BinR.subI (by omega) (by omega)) (congrArg (Value.int .i64) hqi)) ?_) | (refine gD 51 ?_; refine RGl.rdX (fun e hk => by (try dsimp only [bndR, ensR, oksR, fcutR, List.append_nil, List.nil_append, List.cons_append, List.append_assoc] at hk ⊢); exact ReadR.indexE1 (i := q) rfl rfl hasA hql) ?_) | (refine gD 52 ?_; refine RGl.rdX (fun e hk => by (try dsimp only [bndR, ensR, oksR, fcutR, List.append_nil, List.nil_append, List.cons_append, List.append_assoc] at hk ⊢); exact ReadR.loadE rfl hasA hxv) ?_) | (refine gD 53 ?_; refine RGl.rdX (fun e hk => by (try dsimp only [bndR, ensR, oksR, fcutR, List.append_nil, List.nil_append, List.cons_append, List.append_assoc] at hk ⊢); exact ReadR.indexE1 (i := j) rfl rfl hasA hjn) ?_) | (refine gOp ?_; (refine RGl.turn (fun e hk => by (try dsimp only [bndR, ensR, oksR, fcutR, List.append_nil, List.nil_append, List.cons_append, List.append_assoc] at hk ⊢); exact OpT.storeEN (i := j) rfl rfl takesA hone hjv) ?_)) | (refine gOp ?_; first | refine RGl.rdA ?_ | refine RGl.rdX (fun e hk => by (try dsimp only [bndR, ensR, oksR, fcutR, List.append_nil, List.nil_append, List.cons_append, List.append_assoc] at hk ⊢); exact readB) ?_) | (refine gSt ?_; refine RGl.stA ?_) | (refine RGl.fin (fun e hk => ?_); (try dsimp only [bndA, ensAR, oksA, List.append_nil, List.nil_append, List.cons_append, List.append_assoc] at hk ⊢); (repeat (obtain ⟨hk1, hk⟩ := hk))) | fail)
           | (refine isCond ?_; first | refine WPc.cT ?_ | refine WPc.cF ?_ | (refine WPc.cQ (fun hc => ?_) (fun hc => ?_) <;> try exact prA))
           | (refine isD 46 ?_; refine WPl.rdX (ReadR.indexE1 (i := st) rfl rfl hasA hlt) ?_)
           | (refine isD 47 ?_; refine WPl.rdX (ReadR.loadE rfl hasA ha) ?_)
           | (refine isD 50 ?_; refine WPl.rdX (ReadR.binE rfl rfl (BinR.subI (by omega) (by omega)) (congrArg (Value.int .i64) hqi)) ?_)
           | (refine isD 51 ?_; refine WPl.rdX (ReadR.indexE1 (i := q) rfl rfl hasA hql) ?_)
           | (refine isD 52 ?_; refine WPl.rdX (ReadR.loadE rfl hasA hxv) ?_)
           | (refine isD 53 ?_; refine WPl.rdX (ReadR.indexE1 (i := j) rfl rfl hasA hjn) ?_)
           | (refine isOp ?_; first | refine WPl.rd ?_ | refine WPl.sk ?_ | refine WPl.rdB ?_)
           | (refine isSt ?_; first | refine WPl.st1 ?_ | refine WPl.stA ?_ | refine WPl.stEB ?_ | refine WPl.stRB ?_)
           | (show WPl _ _ _ _ _ _ _ (⟨_, .indexAddr _ _ _, _, _, _, _⟩ :: _) _; refine WPl.rdX (ReadR.indexE rfl rfl hasA (by first | assumption | omega)) ?_)
           | (show WPl _ _ _ _ _ _ _ (⟨_, .fieldAddr _ _ _, _, _, _, _⟩ :: _) _; refine WPl.rdX (ReadR.fieldE rfl hasA (by first | assumption | omega)) ?_)
           | (show WPl _ _ _ _ _ _ _ (⟨_, .load _ _, _, _, _, _⟩ :: _) _; first | refine WPl.rdX (ReadR.loadE rfl hasA (by assumption)) ?_ | refine WPl.rdX (ReadR.loadES (by assumption) (by first | assumption | omega) rfl hasA) ?_)
           | (show WPl _ _ _ _ _ _ _ (⟨_, .slice _ _ _ _ _, _, _, _, _⟩ :: _) _; first | refine WPl.rdX (ReadR.sliceH rfl rfl hasA (by omega)) ?_ | refine WPl.rdX (ReadR.sliceL rfl rfl hasA (by omega)) ?_ | refine WPl.rdX (ReadR.sliceLH rfl rfl rfl hasA (by omega) (by omega)) ?_)
           | (refine WPl.spQ (fun hc => ?_) (fun hc => ?_) <;> try exact prA)
           | fail)
          rw [valsV_set (x := x), ← hstep]
          exact WPq.rnd (st + 1) (by omega) (by omega)
    · have he := hend (.inr hll)
      obtain ⟨cur, hcur⟩ : ∃ cur, cur = crT (fun j => vers R.Z (j : Int)) d0 l w st R.L := ⟨_, rfl⟩
      have hff := hfin he
      rw [← hcur] at hcl hff ⊢
      repeat' (first
       | refine WPl.nil ?_ | refine WPq.then ?_ | refine WPq.thenR ?_ | refine WPq.thenE ?_ | refine WPq.blockN ?_ | refine WPq.blockR ?_ | refine WPq.blockE ?_ | refine WPq.blockO rfl ?_ | refine WPc.seq ?_ | refine WPc.block ?_ | refine WPc.ret ?_ | refine WPc.exit ?_ | refine WPc.skip ?_ | refine WPc.region ?_
       | (refine isCond ?_; first | refine WPc.cT ?_ | refine WPc.cF ?_ | (refine WPc.cQ (fun hc => ?_) (fun hc => ?_) <;> try first | exact prA | (exfalso; first | omega)))
       | (refine isD 57 ?_; refine WPl.litS0 fun v57 hv57 => ?_)
       | (refine isD 58 ?_; refine WPl.litS0 fun v58 hv58 => ?_)
       | (refine isD 59 ?_; refine WPl.rdX (ReadR.buildF4 (.cons rfl rfl rfl (.cons rfl rfl rfl (.cons rfl rfl rfl (.cons rfl rfl rfl .nil))))) ?_)
       | (show WPl _ _ _ _ _ _ _ (⟨none, .store _ _ (.tmp 59), _, _, _, _⟩ :: _) _; refine WPl.stA (new := [(4, intsV f4)]) ?_ (hn := f4_ok))
       | (refine isOp ?_; first | refine WPl.rd ?_ | refine WPl.sk ?_ | refine WPl.rdB ?_)
       | (refine isSt ?_; first | refine WPl.st1 ?_ | refine WPl.stA ?_ | refine WPl.stEB ?_ | refine WPl.stRB ?_)
       | (show WPl _ _ _ _ _ _ _ (⟨_, .indexAddr _ _ _, _, _, _, _⟩ :: _) _; refine WPl.rdX (ReadR.indexE rfl rfl hasA (by first | assumption | omega)) ?_)
       | (show WPl _ _ _ _ _ _ _ (⟨_, .fieldAddr _ _ _, _, _, _, _⟩ :: _) _; refine WPl.rdX (ReadR.fieldE rfl hasA (by first | assumption | omega)) ?_)
       | (show WPl _ _ _ _ _ _ _ (⟨_, .load _ _, _, _, _, _⟩ :: _) _; first | refine WPl.rdX (ReadR.loadE rfl hasA (by assumption)) ?_ | refine WPl.rdX (ReadR.loadES (by assumption) (by first | assumption | omega) rfl hasA) ?_)
       | (show WPl _ _ _ _ _ _ _ (⟨_, .slice _ _ _ _ _, _, _, _, _⟩ :: _) _; first | refine WPl.rdX (ReadR.sliceH rfl rfl hasA (by omega)) ?_ | refine WPl.rdX (ReadR.sliceL rfl rfl hasA (by omega)) ?_ | refine WPl.rdX (ReadR.sliceLH rfl rfl rfl hasA (by omega) (by omega)) ?_)
       | (refine WPl.spQ (fun hc => ?_) (fun hc => ?_) <;> try first | exact prA | (exfalso; first | omega))
       | fail)
      obtain ⟨hf1, hf2⟩ := hff v57 v58 hv57 hv58
      rw [rz31, rz3, ← hcl]
      refine WPq.dX (ho := ownsW) (vs := []) (rsA gX ⟨R.vL, cur, v57, v58, [], f4, R.wr, R.rs⟩) ⟨_, rfl, hf1, by rw [hcl]; exact hf2, rfl⟩
  · have he := hend (.inl hlt)
    obtain ⟨cur, hcur⟩ : ∃ cur, cur = crT (fun j => vers R.Z (j : Int)) d0 l w st R.L := ⟨_, rfl⟩
    have hff := hfin he
    rw [← hcur] at hcl hff ⊢
    repeat' (first
     | refine WPl.nil ?_ | refine WPq.then ?_ | refine WPq.thenR ?_ | refine WPq.thenE ?_ | refine WPq.blockN ?_ | refine WPq.blockR ?_ | refine WPq.blockE ?_ | refine WPq.blockO rfl ?_ | refine WPc.seq ?_ | refine WPc.block ?_ | refine WPc.ret ?_ | refine WPc.exit ?_ | refine WPc.skip ?_ | refine WPc.region ?_
     | (refine isCond ?_; first | refine WPc.cT ?_ | refine WPc.cF ?_ | (refine WPc.cQ (fun hc => ?_) (fun hc => ?_) <;> try first | exact prA | (exfalso; first | omega)))
     | (refine isD 57 ?_; refine WPl.litS0 fun v57 hv57 => ?_)
     | (refine isD 58 ?_; refine WPl.litS0 fun v58 hv58 => ?_)
     | (refine isD 59 ?_; refine WPl.rdX (ReadR.buildF4 (.cons rfl rfl rfl (.cons rfl rfl rfl (.cons rfl rfl rfl (.cons rfl rfl rfl .nil))))) ?_)
     | (show WPl _ _ _ _ _ _ _ (⟨none, .store _ _ (.tmp 59), _, _, _, _⟩ :: _) _; refine WPl.stA (new := [(4, intsV f4)]) ?_ (hn := f4_ok))
     | (refine isOp ?_; first | refine WPl.rd ?_ | refine WPl.sk ?_ | refine WPl.rdB ?_)
     | (refine isSt ?_; first | refine WPl.st1 ?_ | refine WPl.stA ?_ | refine WPl.stEB ?_ | refine WPl.stRB ?_)
     | (show WPl _ _ _ _ _ _ _ (⟨_, .indexAddr _ _ _, _, _, _, _⟩ :: _) _; refine WPl.rdX (ReadR.indexE rfl rfl hasA (by first | assumption | omega)) ?_)
     | (show WPl _ _ _ _ _ _ _ (⟨_, .fieldAddr _ _ _, _, _, _, _⟩ :: _) _; refine WPl.rdX (ReadR.fieldE rfl hasA (by first | assumption | omega)) ?_)
     | (show WPl _ _ _ _ _ _ _ (⟨_, .load _ _, _, _, _, _⟩ :: _) _; first | refine WPl.rdX (ReadR.loadE rfl hasA (by assumption)) ?_ | refine WPl.rdX (ReadR.loadES (by assumption) (by first | assumption | omega) rfl hasA) ?_)
     | (show WPl _ _ _ _ _ _ _ (⟨_, .slice _ _ _ _ _, _, _, _, _⟩ :: _) _; first | refine WPl.rdX (ReadR.sliceH rfl rfl hasA (by omega)) ?_ | refine WPl.rdX (ReadR.sliceL rfl rfl hasA (by omega)) ?_ | refine WPl.rdX (ReadR.sliceLH rfl rfl rfl hasA (by omega) (by omega)) ?_)
     | (refine WPl.spQ (fun hc => ?_) (fun hc => ?_) <;> try first | exact prA | (exfalso; first | omega))
     | fail)
    obtain ⟨hf1, hf2⟩ := hff v57 v58 hv57 hv58
    rw [rz31, rz3, ← hcl]
    refine WPq.dX (ho := ownsW) (vs := []) (rsA gX ⟨R.vL, cur, v57, v58, [], f4, R.wr, R.rs⟩) ⟨_, rfl, hf1, by rw [hcl]; exact hf2, rfl⟩
end
end Go.Proofs.Ytepmikgjnmjheaa
