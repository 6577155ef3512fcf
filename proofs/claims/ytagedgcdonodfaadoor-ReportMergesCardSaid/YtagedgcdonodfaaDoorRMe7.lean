/- What the row of reportMerges_card_holds needs: part 7. -/
import Derived.Test.YtagedgcdonodfaaDoorRMe6
import Derived.Test.YtagedgcdonodfaaDoorRMe3
/- Report: the document's tallies: contracts. -/
namespace Go.Proofs.YtagedgcdonodfaaDoor
set_option linter.unusedVariables false
theorem tIns_at {p : Int × Int} {b : Int} : ∀ {k : Nat} {S : LT}, k ≤ S.length → (∀ x ∈ S.take k, ltP x.1 p = true) → (∀ x, S[k]? = some x → ltP x.1 p = false) →
    tIns p b S = match S[k]? with
      | none => S ++ [(p, (1, b))]
      | some x => if ltP p x.1 then S.take k ++ (p, (1, b)) :: S.drop k else S.set k (x.1, (x.2.1 + 1, x.2.2 + b))
  | 0, [], _, _, _ => rfl
  | 0, x :: r, _, _, h => by
    have := h x rfl
    simp only [tIns, this, List.getElem?_cons_zero, Bool.false_eq_true, if_false]
    rfl
  | k + 1, [], h, _, _ => by simp at h
  | k + 1, x :: r, h, h1, h2 => by
    have hx := h1 x (by simp)
    have ih := tIns_at (p := p) (b := b) (k := k) (S := r) (by simpa using h) (fun y hy => h1 y (by simp [hy])) (fun y hy => h2 y (by simpa using hy))
    simp only [tIns, hx, if_true, List.getElem?_cons_succ]
    rw [ih]
    cases r[k]? with
    | none => rfl
    | some y =>
      dsimp only
      split <;> simp
theorem talL_snoc (l : List An) (a : An) : talL (l ++ [a]) = if a.why = 1 then tIns (a.sv, a.bk) a.ln (talL l) else talL l := by
  unfold talL
  rw [List.foldl_append]
  rfl
theorem tls_set2 {S : LT} {i : Nat} {x : TE} (h : S[i]? = some x) (a b : Int) : ((tls S).set (i * 4 + 2) (.int .i64 a)).set (i * 4 + 3) (.int .i64 b) = tls (S.set i (x.1, (a, b))) := by
  unfold tls
  rw [rows_set (f := fun x : TE => flat (tlC x)) (sz := 4) (x := x) (y := (x.1, (a, x.2.2))) tlC_len rfl (by decide) h]
  have h2 : (S.set i (x.1, (a, x.2.2)))[i]? = some (x.1, (a, x.2.2)) := by
    rw [List.getElem?_set]
    have : i < S.length := (List.getElem?_eq_some_iff.1 h).1
    simp [this]
  rw [rows_set (f := fun x : TE => flat (tlC x)) (sz := 4) (x := (x.1, (a, x.2.2))) (y := (x.1, (a, b))) tlC_len rfl (by decide) h2, List.set_set]
theorem tls_take (S : LT) (k : Nat) : (tls S).take (k * 4) = tls (S.take k) := by
  induction S generalizing k with
  | nil => simp [tls]
  | cons x S ih =>
    cases k with
    | zero => simp [tls]
    | succ k =>
      have e : tls (x :: S) = flat (tlC x) ++ tls S := rfl
      have e2 : tls (x :: S.take k) = flat (tlC x) ++ tls (S.take k) := rfl
      rw [List.take_succ_cons, e, e2, ← ih k, Nat.succ_mul, Nat.add_comm, show 4 = (flat (tlC x)).length from rfl, List.take_length_add_append]
theorem tls_drop (S : LT) (k : Nat) : (tls S).drop (k * 4) = tls (S.drop k) := by
  induction S generalizing k with
  | nil => simp [tls]
  | cons x S ih =>
    cases k with
    | zero => simp [tls]
    | succ k =>
      have e : tls (x :: S) = flat (tlC x) ++ tls S := rfl
      rw [List.drop_succ_cons, e, ← ih k, Nat.succ_mul, Nat.add_comm, show 4 = (flat (tlC x)).length from rfl, List.drop_length_add_append]
theorem tls_app (A B : LT) : tls A ++ tls B = tls (A ++ B) := by unfold tls; simp
theorem tls_one (S : LT) : ∀ u ∈ tls S, u.oneCell' = true := by
  intro u hu
  unfold tls at hu
  obtain ⟨l, hl, hu⟩ := List.mem_flatten.1 hu
  obtain ⟨x, _, rfl⟩ := List.mem_map.1 hl
  exact (tlC_fok x).one u hu
theorem hat_vd {R : List AR} {i : Nat} {r : AR} (h : R[i]? = some r) : ((ars R).drop (i * 10 + 0)).take 6 = flat (vdC r) := by
  have h1 := ars_at h
  have := congrArg (List.take 6) h1
  rw [List.take_take] at this
  exact this.trans rfl
theorem has_take {Γ : List Asn} {v : Value} {S : LT} {k : Nat} (h : HasS Γ v S.length (tls S)) (hk : k ≤ S.length) : HasS Γ (subv 4 v 0 k) k (tls (S.take k)) := by
  have := h.sub (sz := 4) (k := 0) (n := k) (tls_len S) (by omega)
  rw [Nat.zero_mul, List.drop_zero, tls_take] at this
  exact this
theorem has_drop {Γ : List Asn} {v : Value} {S : LT} {k : Nat} (h : HasS Γ v S.length (tls S)) (hk : k ≤ S.length) : HasS Γ (subv 4 v k (S.length - k)) (S.length - k) (tls (S.drop k)) := by
  have := h.sub (sz := 4) (k := k) (n := S.length - k) (tls_len S) (by omega)
  rw [tls_drop, List.take_of_length_le (by rw [tls_len, List.length_drop]; exact Nat.le_refl _)] at this
  exact this
theorem tal_small {l : List An} (hln : ∀ a ∈ l, a.ln ≤ 60) {x : TE} (hx : x ∈ talL l) : 0 ≤ x.2.1 ∧ x.2.1 ≤ l.length ∧ 0 ≤ x.2.2 ∧ x.2.2 ≤ 60 * l.length := by
  obtain ⟨h1, h2⟩ := talL_ok l
  have h3 := (mem_find (srtT_nodup h1)).1 hx
  rw [(h2 x.1).2] at h3
  by_cases h0 : toN l x.1 = 0
  · rw [if_pos h0] at h3; cases h3
  · rw [if_neg h0] at h3
    have h4 := Option.some.inj h3
    have h5 := to_len (l := l) (p := x.1)
    have h6 := tob_len (p := x.1) hln
    rw [← h4]
    dsimp only
    omega
open Go.RowKit
set_option linter.unusedSimpArgs false
set_option linter.unusedVariables false
set_option maxRecDepth 20000
set_option maxHeartbeats 4000000
attribute [local irreducible] WPc WPl WPq ReadR OpT BinR HasS bx rdN rowN Take Takes Prov Triple ResF BuildP Done ag Int.decLt Int.decLe Int.instDecidableEq
attribute [local irreducible] mp rmp rg rgo mput mget mfind mdel mhas ars gbag rdA tls talL tIns
theorem talR_t (vl : Value) (R : List AR) (hR : ∀ r ∈ R, anW r) (hl : R.length ≤ 1000) (hln : ∀ r ∈ R, r.a.ln ≤ 60) : Triple Tryd.prog 27 #[vl] [rdN vl R.length (ars R)] (RRow 31 4 (talL (plL R)).length (tls (talL (plL R)))) := by
  have hlen2 := ars_len R
  have e0 : rowN 31 4 = fun v m xs => rowN 31 4 v m xs := rfl
  have et0 : tls [] = [] := by with_unfolding_all rfl
  refine Triple.enter Tryd.func27 rfl Tryd.ntmps27 rfl (fun W => ?_)
  dsimp only [argsF, Nat.reduceAdd]
  repeat' (first
   | refine WPl.nil ?_ | refine WPq.then ?_ | refine WPq.thenR ?_ | refine WPq.thenE ?_ | refine WPq.blockN ?_ | refine WPq.blockR ?_ | refine WPq.blockE ?_ | refine WPq.blockO rfl ?_ | refine WPc.seq ?_ | refine WPc.block ?_ | refine WPc.ret ?_ | refine WPc.exit ?_ | refine WPc.skip ?_ | refine WPc.region ?_
   | (refine isCond ?_; first | refine WPc.cT ?_ | refine WPc.cF ?_ | (refine WPc.cQ (fun hc => ?_) (fun hc => ?_) <;> try exact prA))
   | (refine isD 8 ?_; refine WPl.litS0 fun v8 hv8 => ?_)
   | (refine isOp ?_; first | refine WPl.rd ?_ | refine WPl.sk ?_ | refine WPl.rdB ?_)
   | (refine isAl ?_; refine WPl.nw fun g => ?_)
   | (refine isSt ?_; first | refine WPl.st1 ?_ | refine WPl.stA ?_ | refine WPl.stEB ?_ | refine WPl.stRB ?_)
   | (show WPl _ _ _ _ _ _ _ (⟨_, .indexAddr _ _ _, _, _, _, _⟩ :: _) _; refine WPl.rdX (ReadR.indexE rfl rfl hasA (by first | assumption | omega)) ?_)
   | (show WPl _ _ _ _ _ _ _ (⟨_, .fieldAddr _ _ _, _, _, _, _⟩ :: _) _; refine WPl.rdX (ReadR.fieldE rfl hasA (by first | assumption | omega)) ?_)
   | (show WPl _ _ _ _ _ _ _ (⟨_, .load _ _, _, _, _, _⟩ :: _) _; first | refine WPl.rdX (ReadR.loadE rfl hasA (by assumption)) ?_ | refine WPl.rdX (ReadR.loadES (by assumption) (by first | assumption | omega) rfl hasA) ?_)
   | (show WPl _ _ _ _ _ _ _ (⟨_, .slice _ _ _ _ _, _, _, _, _⟩ :: _) _; first | refine WPl.rdX (ReadR.sliceH rfl rfl hasA (by omega)) ?_ | refine WPl.rdX (ReadR.sliceL rfl rfl hasA (by omega)) ?_ | refine WPl.rdX (ReadR.sliceLH rfl rfl rfl hasA (by omega) (by omega)) ?_)
   | (refine WPl.spQ (fun hc => ?_) (fun hc => ?_) <;> try exact prA)
   | fail)
  rw [show rowN 31 4 v8 0 [] = rowN 31 4 v8 ([] : LT).length (tls []) from by rw [et0]; rfl]
  first | refine WPc.loop (σ := Nat × Value × LT) (fun st => st.1 ≤ R.length ∧ st.2.1.oneCell' = true ∧ st.2.2 = talL (plL (R.take st.1))) (fun st => [rdN vl R.length (ars R), rowN 31 4 st.2.1 st.2.2.length (tls st.2.2)]) (fun st => [(0, vl), (3, st.2.1), (4, .int .i64 (st.1 : Int))]) (fun st => R.length - st.1) (⟨0, v8, []⟩) ?_ takesA frsA (fun st km hx hk => ?_)
  · exact ⟨Nat.zero_le _, hv8, by with_unfolding_all rfl⟩
  obtain ⟨i, vo, S⟩ := st
  obtain ⟨hi, hvo, hS⟩ := hx
  dsimp only at hi hvo hS hk ⊢
  have hplen : (plL (R.take i)).length ≤ 1000 := by unfold plL; rw [List.length_map, List.length_take]; omega
  have hSl : S.length ≤ 1000 := by rw [hS]; exact Nat.le_trans (talL_len _) hplen
  have htl := tls_len S
  by_cases hin : i < R.length
  · obtain ⟨r, hr⟩ : ∃ r, R[i]? = some r := ⟨_, List.getElem?_eq_getElem hin⟩
    have hmem := List.mem_of_getElem? hr
    have hvd := hat_vd hr
    have htk := plL_take hr
    obtain ⟨w1, w2, w3, w4⟩ := hR r hmem
    have hrl := hln r hmem
    by_cases hw : r.a.why = 1
    · have hS2 : talL (plL (R.take (i + 1))) = tIns (r.a.sv, r.a.bk) r.a.ln S := by rw [htk, talL_snoc, if_pos hw, hS]
      repeat' (first
       | refine WPl.nil ?_ | refine WPq.then ?_ | refine WPq.thenR ?_ | refine WPq.thenE ?_ | refine WPq.blockN ?_ | refine WPq.blockR ?_ | refine WPq.blockE ?_ | refine WPq.blockO rfl ?_ | refine WPc.seq ?_ | refine WPc.block ?_ | refine WPc.ret ?_ | refine WPc.exit ?_ | refine WPc.skip ?_ | refine WPc.region ?_
       | (refine isCond ?_; first | refine WPc.cT ?_ | refine WPc.cF ?_ | (refine WPc.cQ (fun hc => ?_) (fun hc => ?_) <;> try exact prA))
       | (refine isD 12 ?_; refine WPl.rdX (ReadR.binE rfl rfl BinR.lss (congrArg Value.bool (decide_eq_true (show (i : Int) < (R.length : Int) by omega)))) ?_)
       | (refine isD 17 ?_; refine WPl.rdX (ReadR.indexE (i := i) rfl rfl hasA (by omega)) ?_)
       | (refine isD 19 ?_; refine WPl.rdX (ReadR.loadES (cs := vdC r) hvd (by omega) rfl hasA) ?_)
       | (refine isD 22 ?_; refine WPl.rdX (ReadR.binE rfl rfl BinR.neq (congrArg (fun q => Value.bool (!q)) (decide_eq_true hw))) ?_)
       | (refine isD 29 ?_; refine WPl.rdX (ReadR.lenLit rfl) ?_)
       | (refine isD 30 ?_; refine WPl.rdX (ReadR.build (cs' := tlC ((r.a.sv, r.a.bk), (1, (r.a.ln : Int)))) buildA) ?_)
       | (refine isD 6 ?_; first | (refine isAl ?_; refine WPl.nw fun g6 => ?_) | (refine isBx ?_; refine WPl.nw fun g6 => ?_))
       | (refine isD 5 ?_; first | (refine isAl ?_; refine WPl.nw fun g5 => ?_) | (refine isBx ?_; refine WPl.nw fun g5 => ?_))
       | (refine isOp ?_; first | refine WPl.rd ?_ | refine WPl.sk ?_ | refine WPl.rdB ?_)
       | (refine isAl ?_; refine WPl.nw fun g => ?_)
       | (refine isSt ?_; first | refine WPl.st1 ?_ | refine WPl.stA ?_ | refine WPl.stEB ?_ | refine WPl.stRB ?_)
       | (show WPl _ _ _ _ _ _ _ (⟨_, .indexAddr _ _ _, _, _, _, _⟩ :: _) _; refine WPl.rdX (ReadR.indexE rfl rfl hasA (by first | assumption | omega)) ?_)
       | (show WPl _ _ _ _ _ _ _ (⟨_, .fieldAddr _ _ _, _, _, _, _⟩ :: _) _; refine WPl.rdX (ReadR.fieldE rfl hasA (by first | assumption | omega)) ?_)
       | (show WPl _ _ _ _ _ _ _ (⟨_, .load _ _, _, _, _, _⟩ :: _) _; first | refine WPl.rdX (ReadR.loadE rfl hasA (by assumption)) ?_ | refine WPl.rdX (ReadR.loadES (by assumption) (by first | assumption | omega) rfl hasA) ?_)
       | (show WPl _ _ _ _ _ _ _ (⟨_, .slice _ _ _ _ _, _, _, _, _⟩ :: _) _; first | refine WPl.rdX (ReadR.sliceH rfl rfl hasA (by omega)) ?_ | refine WPl.rdX (ReadR.sliceL rfl rfl hasA (by omega)) ?_ | refine WPl.rdX (ReadR.sliceLH rfl rfl rfl hasA (by omega) (by omega)) ?_)
       | (refine WPl.spQ (fun hc => ?_) (fun hc => ?_) <;> try exact prA)
       | fail)
      first | refine WPc.loop (σ := Nat) (fun k => k ≤ S.length ∧ ∀ x ∈ S.take k, ltP x.1 (r.a.sv, r.a.bk) = true) (fun k => [bx g6 31 (tlC ((r.a.sv, r.a.bk), (1, (r.a.ln : Int)))), rdN vl R.length (ars R), rowN 31 4 vo S.length (tls S)]) (fun k => [(0, vl), (3, vo), (4, .int .i64 (i : Int)), (6, .pointer (some ⟨g6, 0, none⟩)), (7, .int .i64 (k : Int))]) (fun k => S.length - k) ((0 : Nat)) ?_ takesA frsA (fun st km hx hk => ?_)
      · exact ⟨Nat.zero_le _, by simp⟩
      obtain ⟨k, hkst⟩ : ∃ k, k = st := ⟨_, rfl⟩
      subst hkst
      obtain ⟨hkS, hpre⟩ := hx
      by_cases hkin : k < S.length
      · obtain ⟨x, hx⟩ : ∃ x, S[k]? = some x := ⟨_, List.getElem?_eq_getElem hkin⟩
        have hatx := tls_at hx
        have htI0 := tIns_at (p := (r.a.sv, r.a.bk)) (b := r.a.ln) (k := k) (S := S) hkS hpre
        rw [hx] at htI0
        by_cases hlt : ltP x.1 (r.a.sv, r.a.bk) = true
        · have c41 := lessR_t x ((r.a.sv, r.a.bk), (1, (r.a.ln : Int)))
          rw [hlt] at c41
          repeat' (first
           | refine WPl.nil ?_ | refine WPq.then ?_ | refine WPq.thenR ?_ | refine WPq.thenE ?_ | refine WPq.blockN ?_ | refine WPq.blockR ?_ | refine WPq.blockE ?_ | refine WPq.blockO rfl ?_ | refine WPc.seq ?_ | refine WPc.block ?_ | refine WPc.ret ?_ | refine WPc.exit ?_ | refine WPc.skip ?_ | refine WPc.region ?_
           | (refine isReg 8 ?_; refine WPc.drA [([], [32, 33]), ([], [31]), ([1], [31, 32]), ([0, 1, 2], [31, 32, 33]), ([0, 1, 2, 3], [31, 32, 33, 34]), ([0, 1, 2, 3, 4], [31, 32, 33, 34, 35, 37, 40]), ([0, 1, 2, 3, 4], [31, 32, 33, 34, 35, 36, 40]), ([0, 1, 2, 3, 4, 5, 6], [31, 32, 33, 34, 35, 36, 37, 40]), ([0, 1, 2, 3, 4, 5, 6, 7], [31, 32, 33, 34, 35, 36, 37, 38, 40]), ([0, 1, 2, 3, 4], [31, 32, 33, 34, 35, 36, 37, 38, 39]), ([0, 1, 2, 3, 4, 5, 6, 7, 8, 9], [31, 32, 33, 34, 35, 36, 37, 38, 39, 40]), ([0, 1, 2, 3, 4, 5, 6, 7, 8, 9, 10], [31, 32, 33, 34, 35, 36, 37, 38, 39, 40, 41])] [] (Γx := []) ?_; dsimp only [prev0, List.length_nil, List.length_cons])
           | (refine gAny ?_; first | (refine gGd ?_; refine RGl.skp ?_) | (refine gC 41 ?_; refine RGl.vl (fun e hk => OpT.callN (c41)) ?_) | (refine gD 34 ?_; refine RGl.rdX (fun e hk => by (try dsimp only [bndR, ensR, oksR, fcutR, List.append_nil, List.nil_append, List.cons_append, List.append_assoc] at hk ⊢); exact ReadR.binE rfl rfl BinR.lss (congrArg Value.bool (decide_eq_true (show (k : Int) < (S.length : Int) by omega)))) ?_) | (refine gD 34 ?_; refine RGl.rdX (fun e hk => by (try dsimp only [bndR, ensR, oksR, fcutR, List.append_nil, List.nil_append, List.cons_append, List.append_assoc] at hk ⊢); exact ReadR.binE rfl rfl BinR.lss (congrArg Value.bool (decide_eq_true (show (k : Int) < (S.length : Int) by omega)))) ?_) | (refine gD 38 ?_; refine RGl.rdX (fun e hk => by (try dsimp only [bndR, ensR, oksR, fcutR, List.append_nil, List.nil_append, List.cons_append, List.append_assoc] at hk ⊢); exact ReadR.indexE (i := k) rfl rfl hasA (by omega)) ?_) | (refine gD 39 ?_; refine RGl.rdX (fun e hk => by (try dsimp only [bndR, ensR, oksR, fcutR, List.append_nil, List.nil_append, List.cons_append, List.append_assoc] at hk ⊢); exact ReadR.loadES (cs := tlC x) hatx (by omega) rfl hasA) ?_) | (refine gOp ?_; first | refine RGl.rdA ?_ | refine RGl.rdX (fun e hk => by (try dsimp only [bndR, ensR, oksR, fcutR, List.append_nil, List.nil_append, List.cons_append, List.append_assoc] at hk ⊢); exact readB) ?_) | (refine RGl.fin (fun e hk => ?_); (try dsimp only [bndA, ensAR, oksA, List.append_nil, List.nil_append, List.cons_append, List.append_assoc] at hk ⊢); (repeat (obtain ⟨hk1, hk⟩ := hk))) | fail)
           | (refine isCond ?_; first | refine WPc.cT ?_ | refine WPc.cF ?_ | (refine WPc.cQ (fun hc => ?_) (fun hc => ?_) <;> try exact prA))
           | (refine isD 34 ?_; refine WPl.rdX (ReadR.binE rfl rfl BinR.lss (congrArg Value.bool (decide_eq_true (show (k : Int) < (S.length : Int) by omega)))) ?_)
           | (refine isC 41 ?_; refine WPl.cV (c41) ?_)
           | (refine isOp ?_; first | refine WPl.rd ?_ | refine WPl.sk ?_ | refine WPl.rdB ?_)
           | (refine isAl ?_; refine WPl.nw fun g => ?_)
           | (refine isSt ?_; first | refine WPl.st1 ?_ | refine WPl.stA ?_ | refine WPl.stEB ?_ | refine WPl.stRB ?_)
           | (show WPl _ _ _ _ _ _ _ (⟨_, .indexAddr _ _ _, _, _, _, _⟩ :: _) _; refine WPl.rdX (ReadR.indexE rfl rfl hasA (by first | assumption | omega)) ?_)
           | (show WPl _ _ _ _ _ _ _ (⟨_, .fieldAddr _ _ _, _, _, _, _⟩ :: _) _; refine WPl.rdX (ReadR.fieldE rfl hasA (by first | assumption | omega)) ?_)
           | (show WPl _ _ _ _ _ _ _ (⟨_, .load _ _, _, _, _, _⟩ :: _) _; first | refine WPl.rdX (ReadR.loadE rfl hasA (by assumption)) ?_ | refine WPl.rdX (ReadR.loadES (by assumption) (by first | assumption | omega) rfl hasA) ?_)
           | (show WPl _ _ _ _ _ _ _ (⟨_, .slice _ _ _ _ _, _, _, _, _⟩ :: _) _; first | refine WPl.rdX (ReadR.sliceH rfl rfl hasA (by omega)) ?_ | refine WPl.rdX (ReadR.sliceL rfl rfl hasA (by omega)) ?_ | refine WPl.rdX (ReadR.sliceLH rfl rfl rfl hasA (by omega) (by omega)) ?_)
           | (refine WPl.spQ (fun hc => ?_) (fun hc => ?_) <;> try exact prA)
           | fail)
          exact WPq.rnd (k + 1) ⟨by omega, fun y hy => by
            rw [List.take_add_one, hx] at hy
            rcases List.mem_append.1 hy with hy | hy
            · exact hpre y hy
            · have hyx : y = x := by simpa using hy
              rw [hyx]; exact hlt⟩ (by omega)
        have hlt' : ltP x.1 (r.a.sv, r.a.bk) = false := by simpa using hlt
        have c41 := lessR_t x ((r.a.sv, r.a.bk), (1, (r.a.ln : Int)))
        rw [hlt'] at c41
        have htI := htI0 (fun y hy => by cases hy; exact hlt')
        dsimp only at htI
        by_cases hgt : ltP (r.a.sv, r.a.bk) x.1 = true
        · rw [if_pos hgt] at htI
          have c55 := lessR_t ((r.a.sv, r.a.bk), (1, (r.a.ln : Int))) x
          rw [show ltP (((r.a.sv, r.a.bk), (1, (r.a.ln : Int))) : TE).1 x.1 = true from hgt] at c55
          repeat' (first
           | refine WPl.nil ?_ | refine WPq.then ?_ | refine WPq.thenR ?_ | refine WPq.thenE ?_ | refine WPq.blockN ?_ | refine WPq.blockR ?_ | refine WPq.blockE ?_ | refine WPq.blockO rfl ?_ | refine WPc.seq ?_ | refine WPc.block ?_ | refine WPc.ret ?_ | refine WPc.exit ?_ | refine WPc.skip ?_ | refine WPc.region ?_
           | (refine isReg 8 ?_; refine WPc.drA [([], [32, 33]), ([], [31]), ([1], [31, 32]), ([0, 1, 2], [31, 32, 33]), ([0, 1, 2, 3], [31, 32, 33, 34]), ([0, 1, 2, 3, 4], [31, 32, 33, 34, 35, 37, 40]), ([0, 1, 2, 3, 4], [31, 32, 33, 34, 35, 36, 40]), ([0, 1, 2, 3, 4, 5, 6], [31, 32, 33, 34, 35, 36, 37, 40]), ([0, 1, 2, 3, 4, 5, 6, 7], [31, 32, 33, 34, 35, 36, 37, 38, 40]), ([0, 1, 2, 3, 4], [31, 32, 33, 34, 35, 36, 37, 38, 39]), ([0, 1, 2, 3, 4, 5, 6, 7, 8, 9], [31, 32, 33, 34, 35, 36, 37, 38, 39, 40]), ([0, 1, 2, 3, 4, 5, 6, 7, 8, 9, 10], [31, 32, 33, 34, 35, 36, 37, 38, 39, 40, 41])] [] (Γx := []) ?_; dsimp only [prev0, List.length_nil, List.length_cons])
           | (refine isReg 10 ?_; refine WPc.drA [([], [46, 47]), ([], [45]), ([1], [45, 46]), ([0, 1, 2], [45, 46, 47]), ([0, 1, 2, 3], [45, 46, 47, 48]), ([0, 1, 2, 3, 4], [45, 46, 47, 48, 49, 51, 52, 53, 54]), ([0, 1, 2, 3, 4], [45, 46, 47, 48, 49, 50, 52]), ([0, 1, 2, 3, 4], [45, 46, 47, 48, 49, 50, 51]), ([0, 1, 2, 3, 4, 6, 7], [45, 46, 47, 48, 49, 50, 51, 52]), ([0, 1, 2, 3, 4, 6, 7, 8], [45, 46, 47, 48, 49, 50, 51, 52, 53]), ([0, 1, 2, 3, 4, 5, 6, 7, 8, 9], [45, 46, 47, 48, 49, 50, 51, 52, 53, 54]), ([0, 1, 2, 3, 4, 5, 6, 7, 8, 9, 10], [45, 46, 47, 48, 49, 50, 51, 52, 53, 54, 55]), ([0, 1, 2, 3, 4, 5, 6, 7, 8, 9, 10, 11], [45, 46, 47, 48, 49, 50, 51, 52, 53, 54, 55, 56])] [] (Γx := []) ?_; dsimp only [prev0, List.length_nil, List.length_cons])
           | (refine isReg 12 ?_; refine WPc.drA [([], [81, 82, 83, 85, 86, 88, 89, 90]), ([], [80, 82, 85, 86, 88, 89, 90]), ([], [80, 81, 85, 86, 88, 89, 90]), ([1, 2], [80, 81, 82, 85, 86, 88, 89, 90]), ([0, 1, 2, 3], [80, 81, 82, 83, 85, 86, 88, 89, 90]), ([], [80, 81, 82, 83, 84, 88, 89, 90]), ([5], [80, 81, 82, 83, 84, 85, 88, 89, 90]), ([0, 1, 2, 3, 4, 5, 6], [80, 81, 82, 83, 84, 85, 86, 88, 89, 90]), ([], [80, 81, 82, 83, 84, 85, 86, 87, 89]), ([], [80, 81, 82, 83, 84, 85, 86, 87, 88]), ([8, 9], [80, 81, 82, 83, 84, 85, 86, 87, 88, 89]), ([0, 1, 2, 3, 4, 5, 6, 7, 8, 9, 10], [80, 81, 82, 83, 84, 85, 86, 87, 88, 89, 90]), ([0, 1, 2, 3, 4, 5, 6, 7, 8, 9, 10, 11], [80, 81, 82, 83, 84, 85, 86, 87, 88, 89, 90, 91])] [(0, 4), (4, 7), (7, 11)] (Γx := []) ?_; dsimp only [prev0, List.length_nil, List.length_cons])
           | (refine gAny ?_; first | (refine gGd ?_; refine RGl.skp ?_) | (refine gC 41 ?_; refine RGl.vl (fun e hk => OpT.callN (c41)) ?_) | (refine gC 55 ?_; refine RGl.vl (fun e hk => OpT.callN (c55)) ?_) | (refine gD 80 ?_; refine RGl.row (Γ1 := fun _ => []) (fun e hk => by (try dsimp only [bndR, ensR, oksR, fcutR, List.append_nil, List.nil_append, List.cons_append, List.append_assoc] at hk ⊢); exact OpT.buildS0) ?_) | (refine gD 84 ?_; refine RGl.row (Γ1 := fun e => [rowN 31 4 (e 0).1 0 ([])]) (m := fun e => 0 + k) (xs := fun e => tls (S.take k)) (fun e hk => by (try dsimp only [bndR, ensR, oksR, fcutR, List.append_nil, List.nil_append, List.cons_append, List.append_assoc] at hk ⊢); exact OpT.appendN (m := 0) (m2 := k) (xs := []) (ys := tls (S.take k)) rfl rfl takesA (has_take hasA hkS) (by rw [tls_len, List.length_take]; omega) (tls_one _) (by omega)) ?_) | (refine gD 86 ?_; refine RGl.row (Γ1 := fun _ => []) (fun e hk => by (try dsimp only [bndR, ensR, oksR, fcutR, List.append_nil, List.nil_append, List.cons_append, List.append_assoc] at hk ⊢); exact OpT.buildS1 (ds := tlC ((r.a.sv, r.a.bk), (1, (r.a.ln : Int)))) rfl (tlC_fok _) (by first | assumption | rfl) rfl) ?_) | (refine gD 87 ?_; refine RGl.row (Γ1 := fun e => [rowN 31 4 (e 4).1 (0 + k) ((tls (S.take k)))]) (m := fun e => (0 + k) + 1) (xs := fun e => (tls (S.take k)) ++ flat (tlC ((r.a.sv, r.a.bk), (1, (r.a.ln : Int))))) (fun e hk => by (try dsimp only [bndR, ensR, oksR, fcutR, List.append_nil, List.nil_append, List.cons_append, List.append_assoc] at hk ⊢); exact OpT.appendN (m := (0 + k)) (m2 := 1) (xs := (tls (S.take k))) (ys := flat (tlC ((r.a.sv, r.a.bk), (1, (r.a.ln : Int))))) rfl rfl takesA (hasA) rfl (tlC_fok ((r.a.sv, r.a.bk), (1, (r.a.ln : Int)))).one (by omega)) ?_) | (refine gD 91 ?_; refine RGl.row (Γ1 := fun e => [rowN 31 4 (e 7).1 (0 + k + 1) ((tls (S.take k) ++ flat (tlC ((r.a.sv, r.a.bk), (1, (r.a.ln : Int))))))]) (m := fun e => (0 + k + 1) + (S.length - k)) (xs := fun e => (tls (S.take k) ++ flat (tlC ((r.a.sv, r.a.bk), (1, (r.a.ln : Int))))) ++ tls (S.drop k)) (fun e hk => by (try dsimp only [bndR, ensR, oksR, fcutR, List.append_nil, List.nil_append, List.cons_append, List.append_assoc] at hk ⊢); exact OpT.appendN (m := (0 + k + 1)) (m2 := (S.length - k)) (xs := (tls (S.take k) ++ flat (tlC ((r.a.sv, r.a.bk), (1, (r.a.ln : Int)))))) (ys := tls (S.drop k)) rfl rfl takesA (has_drop hasA hkS) (by rw [tls_len, List.length_drop]) (tls_one _) (by omega)) ?_) | (refine gD 34 ?_; refine RGl.rdX (fun e hk => by (try dsimp only [bndR, ensR, oksR, fcutR, List.append_nil, List.nil_append, List.cons_append, List.append_assoc] at hk ⊢); exact ReadR.binE rfl rfl BinR.lss (congrArg Value.bool (decide_eq_true (show (k : Int) < (S.length : Int) by omega)))) ?_) | (refine gD 34 ?_; refine RGl.rdX (fun e hk => by (try dsimp only [bndR, ensR, oksR, fcutR, List.append_nil, List.nil_append, List.cons_append, List.append_assoc] at hk ⊢); exact ReadR.binE rfl rfl BinR.lss (congrArg Value.bool (decide_eq_true (show (k : Int) < (S.length : Int) by omega)))) ?_) | (refine gD 38 ?_; refine RGl.rdX (fun e hk => by (try dsimp only [bndR, ensR, oksR, fcutR, List.append_nil, List.nil_append, List.cons_append, List.append_assoc] at hk ⊢); exact ReadR.indexE (i := k) rfl rfl hasA (by omega)) ?_) | (refine gD 39 ?_; refine RGl.rdX (fun e hk => by (try dsimp only [bndR, ensR, oksR, fcutR, List.append_nil, List.nil_append, List.cons_append, List.append_assoc] at hk ⊢); exact ReadR.loadES (cs := tlC x) hatx (by omega) rfl hasA) ?_) | (refine gD 48 ?_; refine RGl.rdX (fun e hk => by (try dsimp only [bndR, ensR, oksR, fcutR, List.append_nil, List.nil_append, List.cons_append, List.append_assoc] at hk ⊢); exact ReadR.binE rfl rfl BinR.lss (congrArg Value.bool (decide_eq_true (show (k : Int) < (S.length : Int) by omega)))) ?_) | (refine gD 53 ?_; refine RGl.rdX (fun e hk => by (try dsimp only [bndR, ensR, oksR, fcutR, List.append_nil, List.nil_append, List.cons_append, List.append_assoc] at hk ⊢); exact ReadR.indexE (i := k) rfl rfl hasA (by omega)) ?_) | (refine gD 54 ?_; refine RGl.rdX (fun e hk => by (try dsimp only [bndR, ensR, oksR, fcutR, List.append_nil, List.nil_append, List.cons_append, List.append_assoc] at hk ⊢); exact ReadR.loadES (cs := tlC x) hatx (by omega) rfl hasA) ?_) | (refine gOp ?_; first | refine RGl.rdA ?_ | refine RGl.rdX (fun e hk => by (try dsimp only [bndR, ensR, oksR, fcutR, List.append_nil, List.nil_append, List.cons_append, List.append_assoc] at hk ⊢); exact readB) ?_) | (refine gLit ?_; refine RGl.litA ?_) | (refine gApp ?_; refine RGl.appA ?_) | (refine RGl.fin (fun e hk => ?_); (try dsimp only [bndA, ensAR, oksA, List.append_nil, List.nil_append, List.cons_append, List.append_assoc] at hk ⊢); (repeat (obtain ⟨hk1, hk⟩ := hk))) | fail)
           | (refine isCond ?_; first | refine WPc.cT ?_ | refine WPc.cF ?_ | (refine WPc.cQ (fun hc => ?_) (fun hc => ?_) <;> try exact prA))
           | (refine isD 34 ?_; refine WPl.rdX (ReadR.binE rfl rfl BinR.lss (congrArg Value.bool (decide_eq_true (show (k : Int) < (S.length : Int) by omega)))) ?_)
           | (refine isC 41 ?_; refine WPl.cV (c41) ?_)
           | (refine isC 55 ?_; refine WPl.cV (c55) ?_)
           | (refine isOp ?_; first | refine WPl.rd ?_ | refine WPl.sk ?_ | refine WPl.rdB ?_)
           | (refine isAl ?_; refine WPl.nw fun g => ?_)
           | (refine isSt ?_; first | refine WPl.st1 ?_ | refine WPl.stA ?_ | refine WPl.stEB ?_ | refine WPl.stRB ?_)
           | (show WPl _ _ _ _ _ _ _ (⟨_, .indexAddr _ _ _, _, _, _, _⟩ :: _) _; refine WPl.rdX (ReadR.indexE rfl rfl hasA (by first | assumption | omega)) ?_)
           | (show WPl _ _ _ _ _ _ _ (⟨_, .fieldAddr _ _ _, _, _, _, _⟩ :: _) _; refine WPl.rdX (ReadR.fieldE rfl hasA (by first | assumption | omega)) ?_)
           | (show WPl _ _ _ _ _ _ _ (⟨_, .load _ _, _, _, _, _⟩ :: _) _; first | refine WPl.rdX (ReadR.loadE rfl hasA (by assumption)) ?_ | refine WPl.rdX (ReadR.loadES (by assumption) (by first | assumption | omega) rfl hasA) ?_)
           | (show WPl _ _ _ _ _ _ _ (⟨_, .slice _ _ _ _ _, _, _, _, _⟩ :: _) _; first | refine WPl.rdX (ReadR.sliceH rfl rfl hasA (by omega)) ?_ | refine WPl.rdX (ReadR.sliceL rfl rfl hasA (by omega)) ?_ | refine WPl.rdX (ReadR.sliceLH rfl rfl rfl hasA (by omega) (by omega)) ?_)
           | (refine WPl.spQ (fun hc => ?_) (fun hc => ?_) <;> try exact prA)
           | fail)
          have h11 : (e 11).1.oneCell' = true := by assumption
          dsimp only [Nat.reduceAdd]
          generalize (e 11).1 = v91 at h11 ⊢
          have hrow : rowN 31 4 v91 (0 + k + 1 + (S.length - k)) (tls (S.take k) ++ flat (tlC ((r.a.sv, r.a.bk), (1, (r.a.ln : Int)))) ++ tls (S.drop k)) = rowN 31 4 v91 (S.take k ++ ((r.a.sv, r.a.bk), (1, (r.a.ln : Int))) :: S.drop k).length (tls (S.take k ++ ((r.a.sv, r.a.bk), (1, (r.a.ln : Int))) :: S.drop k)) := by
            rw [tls_snoc, tls_app, List.append_assoc, List.length_append, List.length_cons, List.length_take, List.length_drop, Nat.min_eq_left hkS]
            congr 1
            omega
          rw [hrow]
          exact WPq.rnd (i + 1, v91, S.take k ++ ((r.a.sv, r.a.bk), (1, (r.a.ln : Int))) :: S.drop k) ⟨by dsimp only; omega, h11, by dsimp only; rw [hS2, htI]⟩ (by dsimp only; omega)

        have hgt' : ltP (r.a.sv, r.a.bk) x.1 = false := by simpa using hgt
        rw [hgt'] at htI
        have htI : tIns (r.a.sv, r.a.bk) r.a.ln S = S.set k (x.1, (x.2.1 + 1, x.2.2 + r.a.ln)) := htI
        have c55 := lessR_t ((r.a.sv, r.a.bk), (1, (r.a.ln : Int))) x
        rw [show ltP (((r.a.sv, r.a.bk), (1, (r.a.ln : Int))) : TE).1 x.1 = false from hgt'] at c55
        have hxm : x ∈ talL (plL (R.take i)) := by rw [← hS]; exact List.mem_of_getElem? hx
        have hsm := tal_small (fun a ha => by
          obtain ⟨q, hq, rfl⟩ := List.mem_map.1 ha
          exact hln q (List.mem_of_mem_take hq)) hxm
        have hp2 := tls_in (o := 2) hx (by omega) rfl
        have hp3 := tls_in (o := 3) hx (by omega) rfl
        repeat' (first
         | refine WPl.nil ?_ | refine WPq.then ?_ | refine WPq.thenR ?_ | refine WPq.thenE ?_ | refine WPq.blockN ?_ | refine WPq.blockR ?_ | refine WPq.blockE ?_ | refine WPq.blockO rfl ?_ | refine WPc.seq ?_ | refine WPc.block ?_ | refine WPc.ret ?_ | refine WPc.exit ?_ | refine WPc.skip ?_ | refine WPc.region ?_
         | (refine isReg 8 ?_; refine WPc.drA [([], [32, 33]), ([], [31]), ([1], [31, 32]), ([0, 1, 2], [31, 32, 33]), ([0, 1, 2, 3], [31, 32, 33, 34]), ([0, 1, 2, 3, 4], [31, 32, 33, 34, 35, 37, 40]), ([0, 1, 2, 3, 4], [31, 32, 33, 34, 35, 36, 40]), ([0, 1, 2, 3, 4, 5, 6], [31, 32, 33, 34, 35, 36, 37, 40]), ([0, 1, 2, 3, 4, 5, 6, 7], [31, 32, 33, 34, 35, 36, 37, 38, 40]), ([0, 1, 2, 3, 4], [31, 32, 33, 34, 35, 36, 37, 38, 39]), ([0, 1, 2, 3, 4, 5, 6, 7, 8, 9], [31, 32, 33, 34, 35, 36, 37, 38, 39, 40]), ([0, 1, 2, 3, 4, 5, 6, 7, 8, 9, 10], [31, 32, 33, 34, 35, 36, 37, 38, 39, 40, 41])] [] (Γx := []) ?_; dsimp only [prev0, List.length_nil, List.length_cons])
         | (refine isReg 10 ?_; refine WPc.drA [([], [46, 47]), ([], [45]), ([1], [45, 46]), ([0, 1, 2], [45, 46, 47]), ([0, 1, 2, 3], [45, 46, 47, 48]), ([0, 1, 2, 3, 4], [45, 46, 47, 48, 49, 51, 52, 53, 54]), ([0, 1, 2, 3, 4], [45, 46, 47, 48, 49, 50, 52]), ([0, 1, 2, 3, 4], [45, 46, 47, 48, 49, 50, 51]), ([0, 1, 2, 3, 4, 6, 7], [45, 46, 47, 48, 49, 50, 51, 52]), ([0, 1, 2, 3, 4, 6, 7, 8], [45, 46, 47, 48, 49, 50, 51, 52, 53]), ([0, 1, 2, 3, 4, 5, 6, 7, 8, 9], [45, 46, 47, 48, 49, 50, 51, 52, 53, 54]), ([0, 1, 2, 3, 4, 5, 6, 7, 8, 9, 10], [45, 46, 47, 48, 49, 50, 51, 52, 53, 54, 55]), ([0, 1, 2, 3, 4, 5, 6, 7, 8, 9, 10, 11], [45, 46, 47, 48, 49, 50, 51, 52, 53, 54, 55, 56])] [] (Γx := []) ?_; dsimp only [prev0, List.length_nil, List.length_cons])
         | (refine isReg 11 ?_; refine WPc.drA [([24], [59, 60, 61, 62, 63, 64, 65, 66, 67, 68, 69, 70, 71, 72, 73, 74, 75]), ([24], [58, 60, 61, 62, 63, 64, 65, 66, 67, 68, 69, 70, 71, 72, 73, 74, 75]), ([24], [58, 59, 61, 62, 63, 64, 65, 66, 67, 68, 69, 70, 71, 72, 73, 74, 75, 76, 77]), ([24], [58, 59, 60, 62, 63, 64, 65, 66, 67, 68, 69, 70, 71, 72, 73, 74, 75, 76, 77]), ([24], [58, 59, 60, 61, 63, 68, 69, 70, 71, 72, 73, 74, 75]), ([24], [58, 59, 60, 61, 62, 68, 69, 70, 71, 72, 73, 74, 75]), ([4, 5, 24], [58, 59, 60, 61, 62, 63, 68, 69, 70, 71, 72, 73, 74, 75]), ([4, 5, 6, 24], [58, 59, 60, 61, 62, 63, 64, 68, 69, 70, 71, 72, 73, 74, 75]), ([4, 5, 6, 7, 24], [58, 59, 60, 61, 62, 63, 64, 65, 68, 69, 70, 71, 72, 73, 74, 75]), ([4, 5, 6, 7, 8, 24], [58, 59, 60, 61, 62, 63, 64, 65, 66, 68, 69, 70, 71, 72, 73, 74, 75]), ([24], [58, 59, 60, 61, 62, 63, 64, 65, 66, 67, 69, 73, 74]), ([24], [58, 59, 60, 61, 62, 63, 64, 65, 66, 67, 68, 73, 74]), ([10, 11, 24], [58, 59, 60, 61, 62, 63, 64, 65, 66, 67, 68, 69, 73, 74]), ([10, 11, 12, 24], [58, 59, 60, 61, 62, 63, 64, 65, 66, 67, 68, 69, 70, 73, 74]), ([10, 11, 12, 13, 24], [58, 59, 60, 61, 62, 63, 64, 65, 66, 67, 68, 69, 70, 71, 73, 74]), ([24], [58, 59, 60, 61, 62, 63, 64, 65, 66, 67, 68, 69, 70, 71, 72, 76, 77]), ([15, 24], [58, 59, 60, 61, 62, 63, 64, 65, 66, 67, 68, 69, 70, 71, 72, 73, 76, 77]), ([10, 11, 12, 13, 14, 15, 16, 24], [58, 59, 60, 61, 62, 63, 64, 65, 66, 67, 68, 69, 70, 71, 72, 73, 74, 76, 77]), ([0, 1, 4, 5, 6, 7, 8, 9, 10, 11, 12, 13, 14, 24], [58, 59, 60, 61, 62, 63, 64, 65, 66, 67, 68, 69, 70, 71, 72, 73, 74, 75]), ([0, 1, 4, 5, 6, 7, 8, 9, 10, 11, 12, 13, 14, 18, 24], [58, 59, 60, 61, 62, 63, 64, 65, 66, 67, 68, 69, 70, 71, 72, 73, 74, 75, 76]), ([0, 1, 4, 5, 6, 7, 8, 9, 10, 11, 12, 13, 14, 18, 19, 24], [58, 59, 60, 61, 62, 63, 64, 65, 66, 67, 68, 69, 70, 71, 72, 73, 74, 75, 76, 77]), ([0, 1, 2, 3, 4, 5, 6, 7, 8, 9, 10, 11, 12, 13, 14, 15, 16, 17, 18, 19, 20, 24], [58, 59, 60, 61, 62, 63, 64, 65, 66, 67, 68, 69, 70, 71, 72, 73, 74, 75, 76, 77]), ([0, 1, 2, 3, 4, 5, 6, 7, 8, 9, 10, 11, 12, 13, 14, 15, 16, 17, 18, 19, 20, 21, 24], [58, 59, 60, 61, 62, 63, 64, 65, 66, 67, 68, 69, 70, 71, 72, 73, 74, 75, 76, 77, 78]), ([0, 1, 2, 3, 4, 5, 6, 7, 8, 9, 10, 11, 12, 13, 14, 15, 16, 17, 18, 19, 20, 21, 22, 24], [58, 59, 60, 61, 62, 63, 64, 65, 66, 67, 68, 69, 70, 71, 72, 73, 74, 75, 76, 77, 78, 79])] [(24, 20), (20, 23), (24, 0), (24, 1), (24, 4), (24, 5), (24, 6), (24, 7), (24, 8), (24, 9), (24, 10), (24, 11), (24, 12), (24, 13), (24, 14), (24, 18), (24, 19), (20, 21), (20, 22)] (Γx := [rowN 31 4 vo S.length (tls S)]) ?_; dsimp only [prev0, List.length_nil, List.length_cons])
         | (refine gAny ?_; first | (refine gGd ?_; refine RGl.skp ?_) | (refine gC 41 ?_; refine RGl.vl (fun e hk => OpT.callN (c41)) ?_) | (refine gC 55 ?_; refine RGl.vl (fun e hk => OpT.callN (c55)) ?_) | (refine gD 34 ?_; refine RGl.rdX (fun e hk => by (try dsimp only [bndR, ensR, oksR, fcutR, List.append_nil, List.nil_append, List.cons_append, List.append_assoc] at hk ⊢); exact ReadR.binE rfl rfl BinR.lss (congrArg Value.bool (decide_eq_true (show (k : Int) < (S.length : Int) by omega)))) ?_) | (refine gD 34 ?_; refine RGl.rdX (fun e hk => by (try dsimp only [bndR, ensR, oksR, fcutR, List.append_nil, List.nil_append, List.cons_append, List.append_assoc] at hk ⊢); exact ReadR.binE rfl rfl BinR.lss (congrArg Value.bool (decide_eq_true (show (k : Int) < (S.length : Int) by omega)))) ?_) | (refine gD 38 ?_; refine RGl.rdX (fun e hk => by (try dsimp only [bndR, ensR, oksR, fcutR, List.append_nil, List.nil_append, List.cons_append, List.append_assoc] at hk ⊢); exact ReadR.indexE (i := k) rfl rfl hasA (by omega)) ?_) | (refine gD 39 ?_; refine RGl.rdX (fun e hk => by (try dsimp only [bndR, ensR, oksR, fcutR, List.append_nil, List.nil_append, List.cons_append, List.append_assoc] at hk ⊢); exact ReadR.loadES (cs := tlC x) hatx (by omega) rfl hasA) ?_) | (refine gD 48 ?_; refine RGl.rdX (fun e hk => by (try dsimp only [bndR, ensR, oksR, fcutR, List.append_nil, List.nil_append, List.cons_append, List.append_assoc] at hk ⊢); exact ReadR.binE rfl rfl BinR.lss (congrArg Value.bool (decide_eq_true (show (k : Int) < (S.length : Int) by omega)))) ?_) | (refine gD 53 ?_; refine RGl.rdX (fun e hk => by (try dsimp only [bndR, ensR, oksR, fcutR, List.append_nil, List.nil_append, List.cons_append, List.append_assoc] at hk ⊢); exact ReadR.indexE (i := k) rfl rfl hasA (by omega)) ?_) | (refine gD 54 ?_; refine RGl.rdX (fun e hk => by (try dsimp only [bndR, ensR, oksR, fcutR, List.append_nil, List.nil_append, List.cons_append, List.append_assoc] at hk ⊢); exact ReadR.loadES (cs := tlC x) hatx (by omega) rfl hasA) ?_) | (refine gD 64 ?_; refine RGl.rdX (fun e hk => by (try dsimp only [bndR, ensR, oksR, fcutR, List.append_nil, List.nil_append, List.cons_append, List.append_assoc] at hk ⊢); exact ReadR.indexE (i := k) rfl rfl hasA (by omega)) ?_) | (refine gD 65 ?_; refine RGl.rdX (fun e hk => by (try dsimp only [bndR, ensR, oksR, fcutR, List.append_nil, List.nil_append, List.cons_append, List.append_assoc] at hk ⊢); exact ReadR.fieldE rfl hasA (by omega)) ?_) | (refine gD 66 ?_; refine RGl.rdX (fun e hk => by (try dsimp only [bndR, ensR, oksR, fcutR, List.append_nil, List.nil_append, List.cons_append, List.append_assoc] at hk ⊢); exact ReadR.loadE rfl hasA hp2) ?_) | (refine gD 70 ?_; refine RGl.rdX (fun e hk => by (try dsimp only [bndR, ensR, oksR, fcutR, List.append_nil, List.nil_append, List.cons_append, List.append_assoc] at hk ⊢); exact ReadR.indexE (i := k) rfl rfl hasA (by omega)) ?_) | (refine gD 71 ?_; refine RGl.rdX (fun e hk => by (try dsimp only [bndR, ensR, oksR, fcutR, List.append_nil, List.nil_append, List.cons_append, List.append_assoc] at hk ⊢); exact ReadR.fieldE rfl hasA (by omega)) ?_) | (refine gD 72 ?_; refine RGl.rdX (fun e hk => by (try dsimp only [bndR, ensR, oksR, fcutR, List.append_nil, List.nil_append, List.cons_append, List.append_assoc] at hk ⊢); exact ReadR.loadE rfl hasA hp3) ?_) | (refine gD 76 ?_; refine RGl.rdX (fun e hk => by (try dsimp only [bndR, ensR, oksR, fcutR, List.append_nil, List.nil_append, List.cons_append, List.append_assoc] at hk ⊢); exact ReadR.indexE (i := k) rfl rfl hasA (by omega)) ?_) | (refine gD 77 ?_; refine RGl.rdX (fun e hk => by (try dsimp only [bndR, ensR, oksR, fcutR, List.append_nil, List.nil_append, List.cons_append, List.append_assoc] at hk ⊢); exact ReadR.fieldE rfl hasA (by omega)) ?_) | (refine gD 78 ?_; refine RGl.rdX (fun e hk => by (try dsimp only [bndR, ensR, oksR, fcutR, List.append_nil, List.nil_append, List.cons_append, List.append_assoc] at hk ⊢); exact ReadR.indexE (i := k) rfl rfl hasA (by omega)) ?_) | (refine gD 79 ?_; refine RGl.rdX (fun e hk => by (try dsimp only [bndR, ensR, oksR, fcutR, List.append_nil, List.nil_append, List.cons_append, List.append_assoc] at hk ⊢); exact ReadR.fieldE rfl hasA (by rw [List.length_set]; omega)) ?_) | (refine gD 67 ?_; refine RGl.rdX (fun e hk => by (try dsimp only [bndR, ensR, oksR, fcutR, List.append_nil, List.nil_append, List.cons_append, List.append_assoc] at hk ⊢); exact ReadR.binE rfl rfl (BinR.addI (by omega) (by omega)) rfl) ?_) | (refine gD 75 ?_; refine RGl.rdX (fun e hk => by (try dsimp only [bndR, ensR, oksR, fcutR, List.append_nil, List.nil_append, List.cons_append, List.append_assoc] at hk ⊢); exact ReadR.binE rfl rfl (BinR.addI (by omega) (by omega)) rfl) ?_) | ((show RGl _ _ _ _ _ _ _ _ (⟨_, .store _ (.tmp 77) _, _, _, _, _⟩ :: _) _ _; refine RGl.turn (fun e hk => by (try dsimp only [bndR, ensR, oksR, fcutR, List.append_nil, List.nil_append, List.cons_append, List.append_assoc] at hk ⊢); exact OpT.storeEN rfl rfl takesA rfl (by omega)) ?_)) | ((show RGl _ _ _ _ _ _ _ _ (⟨_, .store _ (.tmp 79) _, _, _, _, _⟩ :: _) _ _; refine RGl.turn (fun e hk => by (try dsimp only [bndR, ensR, oksR, fcutR, List.append_nil, List.nil_append, List.cons_append, List.append_assoc] at hk ⊢); exact OpT.storeEN rfl rfl takesA rfl (by rw [List.length_set]; omega)) ?_)) | (refine gOp ?_; first | refine RGl.rdA ?_ | refine RGl.rdX (fun e hk => by (try dsimp only [bndR, ensR, oksR, fcutR, List.append_nil, List.nil_append, List.cons_append, List.append_assoc] at hk ⊢); exact readB) ?_) | (refine gSt ?_; refine RGl.stA ?_) | (refine RGl.fin (fun e hk => ?_); (try dsimp only [bndA, ensAR, oksA, List.append_nil, List.nil_append, List.cons_append, List.append_assoc] at hk ⊢); (repeat (obtain ⟨hk1, hk⟩ := hk))) | fail)
         | (refine isCond ?_; first | refine WPc.cT ?_ | refine WPc.cF ?_ | (refine WPc.cQ (fun hc => ?_) (fun hc => ?_) <;> try exact prA))
         | (refine isD 34 ?_; refine WPl.rdX (ReadR.binE rfl rfl BinR.lss (congrArg Value.bool (decide_eq_true (show (k : Int) < (S.length : Int) by omega)))) ?_)
         | (refine isC 41 ?_; refine WPl.cV (c41) ?_)
         | (refine isC 55 ?_; refine WPl.cV (c55) ?_)
         | (refine isOp ?_; first | refine WPl.rd ?_ | refine WPl.sk ?_ | refine WPl.rdB ?_)
         | (refine isAl ?_; refine WPl.nw fun g => ?_)
         | (refine isSt ?_; first | refine WPl.st1 ?_ | refine WPl.stA ?_ | refine WPl.stEB ?_ | refine WPl.stRB ?_)
         | (show WPl _ _ _ _ _ _ _ (⟨_, .indexAddr _ _ _, _, _, _, _⟩ :: _) _; refine WPl.rdX (ReadR.indexE rfl rfl hasA (by first | assumption | omega)) ?_)
         | (show WPl _ _ _ _ _ _ _ (⟨_, .fieldAddr _ _ _, _, _, _, _⟩ :: _) _; refine WPl.rdX (ReadR.fieldE rfl hasA (by first | assumption | omega)) ?_)
         | (show WPl _ _ _ _ _ _ _ (⟨_, .load _ _, _, _, _, _⟩ :: _) _; first | refine WPl.rdX (ReadR.loadE rfl hasA (by assumption)) ?_ | refine WPl.rdX (ReadR.loadES (by assumption) (by first | assumption | omega) rfl hasA) ?_)
         | (show WPl _ _ _ _ _ _ _ (⟨_, .slice _ _ _ _ _, _, _, _, _⟩ :: _) _; first | refine WPl.rdX (ReadR.sliceH rfl rfl hasA (by omega)) ?_ | refine WPl.rdX (ReadR.sliceL rfl rfl hasA (by omega)) ?_ | refine WPl.rdX (ReadR.sliceLH rfl rfl rfl hasA (by omega) (by omega)) ?_)
         | (refine WPl.spQ (fun hc => ?_) (fun hc => ?_) <;> try exact prA)
         | fail)
        rw [tls_set2 hx, show S.length = (S.set k (x.1, (x.2.1 + 1, x.2.2 + (r.a.ln : Int)))).length from (List.length_set).symm]
        exact WPq.rnd (i + 1, vo, S.set k (x.1, (x.2.1 + 1, x.2.2 + (r.a.ln : Int)))) ⟨by dsimp only; omega, hvo, by dsimp only; rw [hS2, htI]⟩ (by dsimp only; omega)
      · have hke : k = S.length := by omega
        have htI := tIns_at (p := (r.a.sv, r.a.bk)) (b := r.a.ln) (k := k) (S := S) hkS hpre (fun y hy => by rw [List.getElem?_eq_none (by omega)] at hy; cases hy)
        rw [List.getElem?_eq_none (by omega)] at htI
        have htI : tIns (r.a.sv, r.a.bk) r.a.ln S = S.take k ++ ((r.a.sv, r.a.bk), (1, (r.a.ln : Int))) :: S.drop k := by rw [htI, hke, List.take_length, List.drop_length]
        repeat' (first
         | refine WPl.nil ?_ | refine WPq.then ?_ | refine WPq.thenR ?_ | refine WPq.thenE ?_ | refine WPq.blockN ?_ | refine WPq.blockR ?_ | refine WPq.blockE ?_ | refine WPq.blockO rfl ?_ | refine WPc.seq ?_ | refine WPc.block ?_ | refine WPc.ret ?_ | refine WPc.exit ?_ | refine WPc.skip ?_ | refine WPc.region ?_
         | (refine isReg 8 ?_; refine WPc.drA [([], [32, 33]), ([], [31]), ([1], [31, 32]), ([0, 1, 2], [31, 32, 33]), ([0, 1, 2, 3], [31, 32, 33, 34]), ([0, 1, 2, 3, 4], [31, 32, 33, 34, 35, 37, 40]), ([0, 1, 2, 3, 4], [31, 32, 33, 34, 35, 36, 40]), ([0, 1, 2, 3, 4, 5, 6], [31, 32, 33, 34, 35, 36, 37, 40]), ([0, 1, 2, 3, 4, 5, 6, 7], [31, 32, 33, 34, 35, 36, 37, 38, 40]), ([0, 1, 2, 3, 4], [31, 32, 33, 34, 35, 36, 37, 38, 39]), ([0, 1, 2, 3, 4, 5, 6, 7, 8, 9], [31, 32, 33, 34, 35, 36, 37, 38, 39, 40]), ([0, 1, 2, 3, 4, 5, 6, 7, 8, 9, 10], [31, 32, 33, 34, 35, 36, 37, 38, 39, 40, 41])] [] (Γx := []) ?_; dsimp only [prev0, List.length_nil, List.length_cons])
         | (refine isReg 10 ?_; refine WPc.drA [([], [46, 47]), ([], [45]), ([1], [45, 46]), ([0, 1, 2], [45, 46, 47]), ([0, 1, 2, 3], [45, 46, 47, 48]), ([0, 1, 2, 3, 4], [45, 46, 47, 48, 49, 51, 52, 53, 54]), ([0, 1, 2, 3, 4], [45, 46, 47, 48, 49, 50, 52]), ([0, 1, 2, 3, 4], [45, 46, 47, 48, 49, 50, 51]), ([0, 1, 2, 3, 4, 6, 7], [45, 46, 47, 48, 49, 50, 51, 52]), ([0, 1, 2, 3, 4, 6, 7, 8], [45, 46, 47, 48, 49, 50, 51, 52, 53]), ([0, 1, 2, 3, 4, 5, 6, 7, 8, 9], [45, 46, 47, 48, 49, 50, 51, 52, 53, 54]), ([0, 1, 2, 3, 4, 5, 6, 7, 8, 9, 10], [45, 46, 47, 48, 49, 50, 51, 52, 53, 54, 55]), ([0, 1, 2, 3, 4, 5, 6, 7, 8, 9, 10, 11], [45, 46, 47, 48, 49, 50, 51, 52, 53, 54, 55, 56])] [] (Γx := []) ?_; dsimp only [prev0, List.length_nil, List.length_cons])
         | (refine isReg 12 ?_; refine WPc.drA [([], [81, 82, 83, 85, 86, 88, 89, 90]), ([], [80, 82, 85, 86, 88, 89, 90]), ([], [80, 81, 85, 86, 88, 89, 90]), ([1, 2], [80, 81, 82, 85, 86, 88, 89, 90]), ([0, 1, 2, 3], [80, 81, 82, 83, 85, 86, 88, 89, 90]), ([], [80, 81, 82, 83, 84, 88, 89, 90]), ([5], [80, 81, 82, 83, 84, 85, 88, 89, 90]), ([0, 1, 2, 3, 4, 5, 6], [80, 81, 82, 83, 84, 85, 86, 88, 89, 90]), ([], [80, 81, 82, 83, 84, 85, 86, 87, 89]), ([], [80, 81, 82, 83, 84, 85, 86, 87, 88]), ([8, 9], [80, 81, 82, 83, 84, 85, 86, 87, 88, 89]), ([0, 1, 2, 3, 4, 5, 6, 7, 8, 9, 10], [80, 81, 82, 83, 84, 85, 86, 87, 88, 89, 90]), ([0, 1, 2, 3, 4, 5, 6, 7, 8, 9, 10, 11], [80, 81, 82, 83, 84, 85, 86, 87, 88, 89, 90, 91])] [(0, 4), (4, 7), (7, 11)] (Γx := []) ?_; dsimp only [prev0, List.length_nil, List.length_cons])
         | (refine gAny ?_; first | (refine gGd ?_; refine RGl.skp ?_) | (refine gD 80 ?_; refine RGl.row (Γ1 := fun _ => []) (fun e hk => by (try dsimp only [bndR, ensR, oksR, fcutR, List.append_nil, List.nil_append, List.cons_append, List.append_assoc] at hk ⊢); exact OpT.buildS0) ?_) | (refine gD 84 ?_; refine RGl.row (Γ1 := fun e => [rowN 31 4 (e 0).1 0 ([])]) (m := fun e => 0 + k) (xs := fun e => tls (S.take k)) (fun e hk => by (try dsimp only [bndR, ensR, oksR, fcutR, List.append_nil, List.nil_append, List.cons_append, List.append_assoc] at hk ⊢); exact OpT.appendN (m := 0) (m2 := k) (xs := []) (ys := tls (S.take k)) rfl rfl takesA (has_take hasA hkS) (by rw [tls_len, List.length_take]; omega) (tls_one _) (by omega)) ?_) | (refine gD 86 ?_; refine RGl.row (Γ1 := fun _ => []) (fun e hk => by (try dsimp only [bndR, ensR, oksR, fcutR, List.append_nil, List.nil_append, List.cons_append, List.append_assoc] at hk ⊢); exact OpT.buildS1 (ds := tlC ((r.a.sv, r.a.bk), (1, (r.a.ln : Int)))) rfl (tlC_fok _) (by first | assumption | rfl) rfl) ?_) | (refine gD 87 ?_; refine RGl.row (Γ1 := fun e => [rowN 31 4 (e 4).1 (0 + k) ((tls (S.take k)))]) (m := fun e => (0 + k) + 1) (xs := fun e => (tls (S.take k)) ++ flat (tlC ((r.a.sv, r.a.bk), (1, (r.a.ln : Int))))) (fun e hk => by (try dsimp only [bndR, ensR, oksR, fcutR, List.append_nil, List.nil_append, List.cons_append, List.append_assoc] at hk ⊢); exact OpT.appendN (m := (0 + k)) (m2 := 1) (xs := (tls (S.take k))) (ys := flat (tlC ((r.a.sv, r.a.bk), (1, (r.a.ln : Int))))) rfl rfl takesA (hasA) rfl (tlC_fok ((r.a.sv, r.a.bk), (1, (r.a.ln : Int)))).one (by omega)) ?_) | (refine gD 91 ?_; refine RGl.row (Γ1 := fun e => [rowN 31 4 (e 7).1 (0 + k + 1) ((tls (S.take k) ++ flat (tlC ((r.a.sv, r.a.bk), (1, (r.a.ln : Int))))))]) (m := fun e => (0 + k + 1) + (S.length - k)) (xs := fun e => (tls (S.take k) ++ flat (tlC ((r.a.sv, r.a.bk), (1, (r.a.ln : Int))))) ++ tls (S.drop k)) (fun e hk => by (try dsimp only [bndR, ensR, oksR, fcutR, List.append_nil, List.nil_append, List.cons_append, List.append_assoc] at hk ⊢); exact OpT.appendN (m := (0 + k + 1)) (m2 := (S.length - k)) (xs := (tls (S.take k) ++ flat (tlC ((r.a.sv, r.a.bk), (1, (r.a.ln : Int)))))) (ys := tls (S.drop k)) rfl rfl takesA (has_drop hasA hkS) (by rw [tls_len, List.length_drop]) (tls_one _) (by omega)) ?_) | (refine gD 34 ?_; refine RGl.rdX (fun e hk => by (try dsimp only [bndR, ensR, oksR, fcutR, List.append_nil, List.nil_append, List.cons_append, List.append_assoc] at hk ⊢); exact ReadR.binE rfl rfl BinR.lss (congrArg Value.bool (decide_eq_false (show ¬ (k : Int) < (S.length : Int) by omega)))) ?_) | (refine gD 48 ?_; refine RGl.rdX (fun e hk => by (try dsimp only [bndR, ensR, oksR, fcutR, List.append_nil, List.nil_append, List.cons_append, List.append_assoc] at hk ⊢); exact ReadR.binE rfl rfl BinR.lss (congrArg Value.bool (decide_eq_false (show ¬ (k : Int) < (S.length : Int) by omega)))) ?_) | (refine gOp ?_; first | refine RGl.rdA ?_ | refine RGl.rdX (fun e hk => by (try dsimp only [bndR, ensR, oksR, fcutR, List.append_nil, List.nil_append, List.cons_append, List.append_assoc] at hk ⊢); exact readB) ?_) | (refine gLit ?_; refine RGl.litA ?_) | (refine gApp ?_; refine RGl.appA ?_) | (refine RGl.fin (fun e hk => ?_); (try dsimp only [bndA, ensAR, oksA, List.append_nil, List.nil_append, List.cons_append, List.append_assoc] at hk ⊢); (repeat (obtain ⟨hk1, hk⟩ := hk))) | fail)
         | (refine isCond ?_; first | refine WPc.cT ?_ | refine WPc.cF ?_ | (refine WPc.cQ (fun hc => ?_) (fun hc => ?_) <;> try exact prA))
         | (refine isOp ?_; first | refine WPl.rd ?_ | refine WPl.sk ?_ | refine WPl.rdB ?_)
         | (refine isAl ?_; refine WPl.nw fun g => ?_)
         | (refine isSt ?_; first | refine WPl.st1 ?_ | refine WPl.stA ?_ | refine WPl.stEB ?_ | refine WPl.stRB ?_)
         | (show WPl _ _ _ _ _ _ _ (⟨_, .indexAddr _ _ _, _, _, _, _⟩ :: _) _; refine WPl.rdX (ReadR.indexE rfl rfl hasA (by first | assumption | omega)) ?_)
         | (show WPl _ _ _ _ _ _ _ (⟨_, .fieldAddr _ _ _, _, _, _, _⟩ :: _) _; refine WPl.rdX (ReadR.fieldE rfl hasA (by first | assumption | omega)) ?_)
         | (show WPl _ _ _ _ _ _ _ (⟨_, .load _ _, _, _, _, _⟩ :: _) _; first | refine WPl.rdX (ReadR.loadE rfl hasA (by assumption)) ?_ | refine WPl.rdX (ReadR.loadES (by assumption) (by first | assumption | omega) rfl hasA) ?_)
         | (show WPl _ _ _ _ _ _ _ (⟨_, .slice _ _ _ _ _, _, _, _, _⟩ :: _) _; first | refine WPl.rdX (ReadR.sliceH rfl rfl hasA (by omega)) ?_ | refine WPl.rdX (ReadR.sliceL rfl rfl hasA (by omega)) ?_ | refine WPl.rdX (ReadR.sliceLH rfl rfl rfl hasA (by omega) (by omega)) ?_)
         | (refine WPl.spQ (fun hc => ?_) (fun hc => ?_) <;> try exact prA)
         | fail)
        have h11 : (e 11).1.oneCell' = true := by assumption
        dsimp only [Nat.reduceAdd]
        generalize (e 11).1 = v91 at h11 ⊢
        have hrow : rowN 31 4 v91 (0 + k + 1 + (S.length - k)) (tls (S.take k) ++ flat (tlC ((r.a.sv, r.a.bk), (1, (r.a.ln : Int)))) ++ tls (S.drop k)) = rowN 31 4 v91 (S.take k ++ ((r.a.sv, r.a.bk), (1, (r.a.ln : Int))) :: S.drop k).length (tls (S.take k ++ ((r.a.sv, r.a.bk), (1, (r.a.ln : Int))) :: S.drop k)) := by
          rw [tls_snoc, tls_app, List.append_assoc, List.length_append, List.length_cons, List.length_take, List.length_drop, Nat.min_eq_left hkS]
          congr 1
          omega
        rw [hrow]
        exact WPq.rnd (i + 1, v91, S.take k ++ ((r.a.sv, r.a.bk), (1, (r.a.ln : Int))) :: S.drop k) ⟨by dsimp only; omega, h11, by dsimp only; rw [hS2, htI]⟩ (by dsimp only; omega)

    · have hS2 : talL (plL (R.take (i + 1))) = S := by rw [htk, talL_snoc, if_neg hw, hS]
      repeat' (first
       | refine WPl.nil ?_ | refine WPq.then ?_ | refine WPq.thenR ?_ | refine WPq.thenE ?_ | refine WPq.blockN ?_ | refine WPq.blockR ?_ | refine WPq.blockE ?_ | refine WPq.blockO rfl ?_ | refine WPc.seq ?_ | refine WPc.block ?_ | refine WPc.ret ?_ | refine WPc.exit ?_ | refine WPc.skip ?_ | refine WPc.region ?_
       | (refine isCond ?_; first | refine WPc.cT ?_ | refine WPc.cF ?_ | (refine WPc.cQ (fun hc => ?_) (fun hc => ?_) <;> try exact prA))
       | (refine isD 12 ?_; refine WPl.rdX (ReadR.binE rfl rfl BinR.lss (congrArg Value.bool (decide_eq_true (show (i : Int) < (R.length : Int) by omega)))) ?_)
       | (refine isD 17 ?_; refine WPl.rdX (ReadR.indexE (i := i) rfl rfl hasA (by omega)) ?_)
       | (refine isD 19 ?_; refine WPl.rdX (ReadR.loadES (cs := vdC r) hvd (by omega) rfl hasA) ?_)
       | (refine isD 22 ?_; refine WPl.rdX (ReadR.binE rfl rfl BinR.neq (congrArg (fun q => Value.bool (!q)) (decide_eq_false hw))) ?_)
       | (refine isD 5 ?_; first | (refine isAl ?_; refine WPl.nw fun g5 => ?_) | (refine isBx ?_; refine WPl.nw fun g5 => ?_))
       | (refine isOp ?_; first | refine WPl.rd ?_ | refine WPl.sk ?_ | refine WPl.rdB ?_)
       | (refine isAl ?_; refine WPl.nw fun g => ?_)
       | (refine isSt ?_; first | refine WPl.st1 ?_ | refine WPl.stA ?_ | refine WPl.stEB ?_ | refine WPl.stRB ?_)
       | (show WPl _ _ _ _ _ _ _ (⟨_, .indexAddr _ _ _, _, _, _, _⟩ :: _) _; refine WPl.rdX (ReadR.indexE rfl rfl hasA (by first | assumption | omega)) ?_)
       | (show WPl _ _ _ _ _ _ _ (⟨_, .fieldAddr _ _ _, _, _, _, _⟩ :: _) _; refine WPl.rdX (ReadR.fieldE rfl hasA (by first | assumption | omega)) ?_)
       | (show WPl _ _ _ _ _ _ _ (⟨_, .load _ _, _, _, _, _⟩ :: _) _; first | refine WPl.rdX (ReadR.loadE rfl hasA (by assumption)) ?_ | refine WPl.rdX (ReadR.loadES (by assumption) (by first | assumption | omega) rfl hasA) ?_)
       | (show WPl _ _ _ _ _ _ _ (⟨_, .slice _ _ _ _ _, _, _, _, _⟩ :: _) _; first | refine WPl.rdX (ReadR.sliceH rfl rfl hasA (by omega)) ?_ | refine WPl.rdX (ReadR.sliceL rfl rfl hasA (by omega)) ?_ | refine WPl.rdX (ReadR.sliceLH rfl rfl rfl hasA (by omega) (by omega)) ?_)
       | (refine WPl.spQ (fun hc => ?_) (fun hc => ?_) <;> try exact prA)
       | fail)
      exact WPq.rnd (i + 1, vo, S) ⟨by dsimp only; omega, hvo, hS2.symm⟩ (by dsimp only; omega)
  · have hie : i = R.length := by omega
    subst hie
    rw [List.take_length] at hS
    repeat' (first
     | refine WPl.nil ?_ | refine WPq.then ?_ | refine WPq.thenR ?_ | refine WPq.thenE ?_ | refine WPq.blockN ?_ | refine WPq.blockR ?_ | refine WPq.blockE ?_ | refine WPq.blockO rfl ?_ | refine WPc.seq ?_ | refine WPc.block ?_ | refine WPc.ret ?_ | refine WPc.exit ?_ | refine WPc.skip ?_ | refine WPc.region ?_
     | (refine isCond ?_; first | refine WPc.cT ?_ | refine WPc.cF ?_ | (refine WPc.cQ (fun hc => ?_) (fun hc => ?_) <;> try exact prA))
     | (refine isD 12 ?_; refine WPl.rdX (ReadR.binE rfl rfl BinR.lss (congrArg Value.bool (decide_eq_false (show ¬ (R.length : Int) < (R.length : Int) by omega)))) ?_)
     | (refine isOp ?_; first | refine WPl.rd ?_ | refine WPl.sk ?_ | refine WPl.rdB ?_)
     | (refine isAl ?_; refine WPl.nw fun g => ?_)
     | (refine isSt ?_; first | refine WPl.st1 ?_ | refine WPl.stA ?_ | refine WPl.stEB ?_ | refine WPl.stRB ?_)
     | (show WPl _ _ _ _ _ _ _ (⟨_, .indexAddr _ _ _, _, _, _, _⟩ :: _) _; refine WPl.rdX (ReadR.indexE rfl rfl hasA (by first | assumption | omega)) ?_)
     | (show WPl _ _ _ _ _ _ _ (⟨_, .fieldAddr _ _ _, _, _, _, _⟩ :: _) _; refine WPl.rdX (ReadR.fieldE rfl hasA (by first | assumption | omega)) ?_)
     | (show WPl _ _ _ _ _ _ _ (⟨_, .load _ _, _, _, _, _⟩ :: _) _; first | refine WPl.rdX (ReadR.loadE rfl hasA (by assumption)) ?_ | refine WPl.rdX (ReadR.loadES (by assumption) (by first | assumption | omega) rfl hasA) ?_)
     | (show WPl _ _ _ _ _ _ _ (⟨_, .slice _ _ _ _ _, _, _, _, _⟩ :: _) _; first | refine WPl.rdX (ReadR.sliceH rfl rfl hasA (by omega)) ?_ | refine WPl.rdX (ReadR.sliceL rfl rfl hasA (by omega)) ?_ | refine WPl.rdX (ReadR.sliceLH rfl rfl rfl hasA (by omega) (by omega)) ?_)
     | (refine WPl.spQ (fun hc => ?_) (fun hc => ?_) <;> try exact prA)
     | fail)
    rw [← hS]
    all_goals try (first | exact WPq.dTp | exact WPq.dTs | exact WPq.dV | exact WPq.dR | exact WPq.dR2 | exact WPq.dH | exact WPq.dBH | exact WPq.dT)
end Go.Proofs.YtagedgcdonodfaaDoor
/- Report: its text: the walk. -/
namespace Go.Proofs.YtagedgcdonodfaaDoor
open Go.RowKit
set_option linter.unusedSimpArgs false
set_option linter.unusedVariables false
set_option maxRecDepth 20000
set_option maxHeartbeats 2000000
attribute [local irreducible] WPc WPl WPq ReadR OpT BinR HasS bx rdN rowN Take Takes Prov Triple ResF BuildP Done ag Int.decLt Int.decLe Int.instDecidableEq
attribute [local irreducible] mp rmp rg rgo mput mget mfind mdel mhas tls whysL errsL talL lineW lineE lineT lineP
theorem text_t (gR mW mE mT : Nat) (C E : LN) (T : LT) (l : List An) (hrep : Rep l C E T) (hl : l.length ≤ 1000) (hln : ∀ a ∈ l, a.ln ≤ 60) (hes : ∀ a ∈ l, in64 a.er) (hsv : ∀ a ∈ l, in64 a.sv ∧ in64 a.bk) :
    Triple Tryd.prog 18 #[pB0 gR] (rpA gR mW mE mT C E T ++ [tP, tS]) (RTurns (sV (txtL l)) (rpA gR mW mE mT C E T)) := by
  have cnt_le : l.countP cntA ≤ l.length := List.countP_le_length
  show Triple _ _ _ [bx gR 52 (rpC mW mE mT), mp whM mW C, mp whM mE E, mp toM mT T, tP, tS] _
  refine Triple.enter Tryd.func18 rfl Tryd.ntmps18 rfl (fun W => ?_)
  dsimp only [argsF, Nat.reduceAdd]
  refine WPc.mkeys (M := whM) (m := mW) (l := C) memA fun hnC hwC => ?_
  refine WPc.mkeys (M := whM) (m := mE) (l := E) memA fun hnE hwE => ?_
  refine WPc.mkeys (M := toM) (m := mT) (l := T) memA fun hnT hwT => ?_
  refine WPc.nilRowN 5 1 ?_
  rw [show rowN 5 1 (.slice none 0 0) 0 [] = ob (.slice none 0 0) [] from by with_unfolding_all rfl]
  obtain ⟨hall, hCl⟩ := rep_all hrep hnC hl
  have hEl := rep_err hrep hnE
  have hTl := rep_tlen hrep hnT hl
  have c16 := all_t mW C hall
  rw [hrep.sw] at c16
  have c18 := fun g3 v17 => putM_t false g3 (.slice none 0 0) rfl [] [112, 97, 99, 107, 101, 116, 115] v17 [((l.countP cntA : Nat) : Int)] (by intro n hn; rw [List.mem_singleton.1 hn]; exact in64_nat (by omega)) (by decide) (by simp) (by simp)
  simp only [line_P] at c18
  have c23 := rising_t mW C (by omega)
  rw [whys_sorted hrep.w hnC, show C.length = (whysL l).length from by rw [← whys_sorted hrep.w hnC, List.length_mergeSort, List.length_map]] at c23
  have c46 := rising_t mE E (by omega)
  rw [errs_sorted hrep.e hnE, show E.length = (errsL l).length from by rw [← errs_sorted hrep.e hnE, List.length_mergeSort, List.length_map]] at c46
  have c63 := tallies_t gR mW mE mT T (by omega)
  have hP := lineP_len l hl
  repeat' (first
   | refine WPl.nil ?_ | refine WPq.then ?_ | refine WPq.thenR ?_ | refine WPq.thenE ?_ | refine WPq.blockN ?_ | refine WPq.blockR ?_ | refine WPq.blockE ?_ | refine WPq.blockO rfl ?_ | refine WPc.seq ?_ | refine WPc.block ?_ | refine WPc.ret ?_ | refine WPc.exit ?_ | refine WPc.skip ?_ | refine WPc.region ?_
   | (refine isCond ?_; first | refine WPc.cT ?_ | refine WPc.cF ?_ | (refine WPc.cQ (fun hc => ?_) (fun hc => ?_) <;> try exact prA))
   | (refine isD 11 ?_; refine WPl.rdX (readP) ?_)
   | (refine isD 3 ?_; first | (refine isAl ?_; refine WPl.nw fun g3 => ?_) | (refine isBx ?_; refine WPl.nw fun g3 => ?_))
   | (refine isC 16 ?_; refine WPl.cTs (c16) ?_; (try dsimp only [putF, List.cons_append, List.nil_append]))
   | (refine isD 17 ?_; refine WPl.row .nil rfl rfl rfl (OpT.buildSlice (m := 1) (vs := [.int .i64 ((l.countP cntA : Nat) : Int)]) evpA oneA rfl rfl) fun v17 hv17 => ?_)
   | (refine isC 18 ?_; refine WPl.cM (c18 _ _) ?_ (fun vq Γ1 hR => ?_) (hΔ := provsR2); exact fpR memA memA; obtain ⟨v18, hv18, rfl, rfl⟩ := hR; (try dsimp only [putF, List.cons_append, List.nil_append]))
   | (refine isC 23 ?_; refine WPl.cR c23 (fun v23 hv23 => ?_) (hΔ := provsM))
   | (refine isOp ?_; first | refine WPl.rd ?_ | refine WPl.sk ?_ | refine WPl.rdB ?_)
   | (refine isAl ?_; refine WPl.nw fun g => ?_)
   | (refine isSt ?_; first | refine WPl.st1 ?_ | refine WPl.stA ?_ | refine WPl.stEB ?_ | refine WPl.stRB ?_)
   | (show WPl _ _ _ _ _ _ _ (⟨_, .indexAddr _ _ _, _, _, _, _⟩ :: _) _; refine WPl.rdX (ReadR.indexE rfl rfl hasA (by first | assumption | omega)) ?_)
   | (show WPl _ _ _ _ _ _ _ (⟨_, .fieldAddr _ _ _, _, _, _, _⟩ :: _) _; refine WPl.rdX (ReadR.fieldE rfl hasA (by first | assumption | omega)) ?_)
   | (show WPl _ _ _ _ _ _ _ (⟨_, .load _ _, _, _, _, _⟩ :: _) _; first | refine WPl.rdX (ReadR.loadE rfl hasA (by assumption)) ?_ | refine WPl.rdX (ReadR.loadES (by assumption) (by first | assumption | omega) rfl hasA) ?_)
   | (show WPl _ _ _ _ _ _ _ (⟨_, .slice _ _ _ _ _, _, _, _, _⟩ :: _) _; first | refine WPl.rdX (ReadR.sliceH rfl rfl hasA (by omega)) ?_ | refine WPl.rdX (ReadR.sliceL rfl rfl hasA (by omega)) ?_ | refine WPl.rdX (ReadR.sliceLH rfl rfl rfl hasA (by omega) (by omega)) ?_)
   | (refine WPl.spQ (fun hc => ?_) (fun hc => ?_) <;> try exact prA)
   | fail)
  first | refine WPc.loop (σ := Nat × Value × List UInt8) (fun st => st.1 ≤ (whysL l).length ∧ st.2.1.oneCell' = true ∧ st.2.2 = lineP l ++ (((whysL l).take st.1).map (lineW l)).flatten) (fun st => [bx g3 70 (bdC true g3 st.2.1), ob st.2.1 st.2.2, rowN 3 1 v23 (whysL l).length (intsV (whysL l)), bx gR 52 (rpC mW mE mT), mp whM mW C, mp whM mE E, mp toM mT T, tP, tS]) (fun st => [(0, pB0 gR), (3, pB0 g3), (23, v23), (24, .int .i64 ((whysL l).length : Int)), (25, .int .i64 (st.1 : Int))]) (fun st => (whysL l).length - st.1) (⟨0, v18, lineP l⟩) ?_ takesA frsA (fun st km hx hk => ?_)
  · exact ⟨Nat.zero_le _, hv18, by simp⟩
  obtain ⟨i, vb, tx⟩ := st
  obtain ⟨hi, hvb, htx⟩ := hx
  dsimp only at hi hvb htx hk ⊢
  have hWl := whysL_len l
  have htl : tx.length ≤ 10000 := by
    rw [htx, List.length_append]
    have h1 := lines_len (f := lineW l) (n := 200) (L := (whysL l).take i) fun x _ => lineW_len l x hl
    have h2 : ((whysL l).take i).length ≤ 7 := by rw [List.length_take]; omega
    omega
  have hvl : (intsV (whysL l)).length = (whysL l).length := by unfold intsV; rw [List.length_map]
  by_cases hin : i < (whysL l).length
  · obtain ⟨k, hk1'⟩ : ∃ k, (whysL l)[i]? = some k := ⟨_, List.getElem?_eq_getElem hin⟩
    obtain ⟨j, rfl, hj1, hj7⟩ := whysL_mem (List.mem_of_getElem? hk1')
    obtain ⟨k, hkj⟩ : ∃ k : Int, k = (j : Int) := ⟨_, rfl⟩
    rw [← hkj] at hk1'
    have hnv : (intsV (whysL l))[i]? = some (.int .i64 (Int.ofNat j)) := by unfold intsV; rw [List.getElem?_map, hk1', hkj]; rfl
    have hkw : whM.wf k := by rw [hkj]; exact in64_nat (by omega)
    obtain ⟨n, hn⟩ : ∃ n : Int, n = (whyN l k : Int) := ⟨_, rfl⟩
    have hn64 : in64 n := by rw [hn]; exact in64_nat (Nat.le_trans (why_len (l := l) (k := k)) (by omega))
    have hget : whM.vc (mget whM C k) = .int .i64 n := by rw [hrep.w.get, hn]
    have c40 := fun vn => putM_t true g3 vb hvb tx (nameL k) vn [n] (by intro q hq; rw [List.mem_singleton.1 hq]; exact hn64) (Nat.le_trans (nameL_len k) (by decide)) (by omega) (by simp)
    rw [hn, line_W, ← hn] at c40
    have hwj : (wordsL.map sV)[j]? = some (sV (nameL k)) := by rw [hkj]; exact word_at hj1 hj7
    have hv40 : ∀ v Γ', RPut g3 (tx ++ lineW l k) v Γ' → v = resV [] ∧ ∃ s : Value, Γ' = [bx g3 70 (bdC true g3 s), ob s (tx ++ lineW l k)] ∧ s.oneCell' = true := fun v Γ' h => by
      obtain ⟨v', h1, h2, h3⟩ := h
      exact ⟨h2, v', h3, h1⟩
    have hwl8 : (wordsL.map sV).length = 8 := rfl
    rw [← show (j : Int) = k from hkj.symm] at hget
    repeat' (first
     | refine WPl.nil ?_ | refine WPq.then ?_ | refine WPq.thenR ?_ | refine WPq.thenE ?_ | refine WPq.blockN ?_ | refine WPq.blockR ?_ | refine WPq.blockE ?_ | refine WPq.blockO rfl ?_ | refine WPc.seq ?_ | refine WPc.block ?_ | refine WPc.ret ?_ | refine WPc.exit ?_ | refine WPc.skip ?_ | refine WPc.region ?_
     | (refine isReg 8 ?_; refine WPc.drA [([12, 13], [30, 33, 34, 35, 36, 37, 38, 39]), ([12, 13], [29, 33, 34, 35, 36, 37, 38, 39]), ([0, 1, 12, 13], [29, 30, 33, 34, 35, 36, 37, 38, 39]), ([0, 1, 2, 12, 13], [29, 30, 31, 33, 34, 35, 36, 37, 38, 39]), ([12, 13], [29, 30, 31, 32, 37]), ([4, 12, 13], [29, 30, 31, 32, 33, 37]), ([4, 5, 12, 13], [29, 30, 31, 32, 33, 34, 37]), ([4, 5, 6, 12, 13], [29, 30, 31, 32, 33, 34, 35, 37]), ([12, 13], [29, 30, 31, 32, 33, 34, 35, 36]), ([4, 5, 6, 7, 8, 12, 13], [29, 30, 31, 32, 33, 34, 35, 36, 37]), ([4, 5, 6, 7, 8, 9, 12, 13], [29, 30, 31, 32, 33, 34, 35, 36, 37, 38]), ([0, 1, 2, 3, 4, 5, 6, 7, 8, 9, 10, 12, 13], [29, 30, 31, 32, 33, 34, 35, 36, 37, 38, 39])] [(12, 11), (13, 11), (12, 0), (12, 1), (12, 2), (12, 3), (12, 4), (12, 5), (12, 6), (12, 7), (12, 8), (12, 9), (12, 10), (13, 0), (13, 1), (13, 2), (13, 3), (13, 4), (13, 5), (13, 6), (13, 7), (13, 8), (13, 9), (13, 10)] (Γx := [bx g3 70 (bdC true g3 vb), ob vb tx]) ?_; dsimp only [prev0, List.length_nil, List.length_cons])
     | (refine gAny ?_; first | (refine gD 26 ?_; refine RGl.rdX (fun e hk => by (try dsimp only [bndR, ensR, oksR, fcutR, List.append_nil, List.nil_append, List.cons_append, List.append_assoc] at hk ⊢); exact ReadR.binE rfl rfl BinR.lss (congrArg Value.bool (decide_eq_true (show (i : Int) < ((whysL l).length : Int) by omega)))) ?_) | (refine gD 27 ?_; refine RGl.rdX (fun e hk => by (try dsimp only [bndR, ensR, oksR, fcutR, List.append_nil, List.nil_append, List.cons_append, List.append_assoc] at hk ⊢); exact ReadR.indexE1 (i := i) rfl rfl hasA (by omega)) ?_) | (refine gD 28 ?_; refine RGl.rdX (fun e hk => by (try dsimp only [bndR, ensR, oksR, fcutR, List.append_nil, List.nil_append, List.cons_append, List.append_assoc] at hk ⊢); exact ReadR.loadE rfl hasA hnv) ?_) | ((refine gC 29 ?_; refine RGl.row (Γ1 := fun _ => []) (fun e hk => OpT.callN names_t (hΔ := by (try dsimp only [bndR, ensR, oksR, fcutR, List.append_nil, List.nil_append, List.cons_append, List.append_assoc] at hk ⊢); exact provsR)) ?_)) | (refine gD 31 ?_; refine RGl.rdX (fun e hk => by (try dsimp only [bndR, ensR, oksR, fcutR, List.append_nil, List.nil_append, List.cons_append, List.append_assoc] at hk ⊢); exact ReadR.indexE1 (i := j) rfl rfl hasA (by omega)) ?_) | (refine gD 32 ?_; refine RGl.rdX (fun e hk => by (try dsimp only [bndR, ensR, oksR, fcutR, List.append_nil, List.nil_append, List.cons_append, List.append_assoc] at hk ⊢); exact ReadR.loadE rfl hasA hwj) ?_) | (refine gD 38 ?_; refine RGl.rdX (fun e hk => by (try dsimp only [bndR, ensR, oksR, fcutR, List.append_nil, List.nil_append, List.cons_append, List.append_assoc] at hk ⊢); exact ReadR.look (M := whM) (k := (j : Int)) (hkj ▸ hkw) rfl rfl memA hget) ?_) | ((refine gD 39 ?_; refine RGl.row (Γ1 := fun _ => []) (fun e hk => by (try dsimp only [bndR, ensR, oksR, fcutR, List.append_nil, List.nil_append, List.cons_append, List.append_assoc] at hk ⊢); exact OpT.buildSlice (m := 1) (vs := [.int .i64 n]) evpA oneA rfl rfl) ?_)) | ((refine gC 40 ?_; refine RGl.relG (resV []) (fun s : Value => [bx g3 70 (bdC true g3 s), ob s (tx ++ lineW l k)]) (fun s => s.oneCell' = true) hv40 (fun e hk => by (try dsimp only [bndR, ensR, oksR, fcutR, List.append_nil, List.nil_append, List.cons_append, List.append_assoc] at hk ⊢); exact OpT.callM (c40 (e 10).1) evsA takesA provsR2 (fpR memA memA) (by kernel_rfl)) ?_)) | (refine gOp ?_; first | refine RGl.rdA ?_ | refine RGl.rdX (fun e hk => by (try dsimp only [bndR, ensR, oksR, fcutR, List.append_nil, List.nil_append, List.cons_append, List.append_assoc] at hk ⊢); exact readB) ?_) | (refine gLit ?_; refine RGl.litA ?_) | (refine RGl.fin (fun e hk => ?_); (try dsimp only [bndA, ensAR, oksA, List.append_nil, List.nil_append, List.cons_append, List.append_assoc] at hk ⊢); (repeat (obtain ⟨hk1, hk⟩ := hk))) | fail)
     | (refine isCond ?_; first | refine WPc.cT ?_ | refine WPc.cF ?_ | (refine WPc.cQ (fun hc => ?_) (fun hc => ?_) <;> try exact prA))
     | (refine isD 26 ?_; refine WPl.rdX (ReadR.binE rfl rfl BinR.lss (congrArg Value.bool (decide_eq_true (show (i : Int) < ((whysL l).length : Int) by omega)))) ?_)
     | (refine isD 27 ?_; refine WPl.rdX (ReadR.indexE1 (i := i) rfl rfl hasA (by omega)) ?_)
     | (refine isD 28 ?_; refine WPl.rdX (ReadR.loadE rfl hasA hnv) ?_)
     | (refine isOp ?_; first | refine WPl.rd ?_ | refine WPl.sk ?_ | refine WPl.rdB ?_)
     | (refine isAl ?_; refine WPl.nw fun g => ?_)
     | (refine isSt ?_; first | refine WPl.st1 ?_ | refine WPl.stA ?_ | refine WPl.stEB ?_ | refine WPl.stRB ?_)
     | (show WPl _ _ _ _ _ _ _ (⟨_, .indexAddr _ _ _, _, _, _, _⟩ :: _) _; refine WPl.rdX (ReadR.indexE rfl rfl hasA (by first | assumption | omega)) ?_)
     | (show WPl _ _ _ _ _ _ _ (⟨_, .fieldAddr _ _ _, _, _, _, _⟩ :: _) _; refine WPl.rdX (ReadR.fieldE rfl hasA (by first | assumption | omega)) ?_)
     | (show WPl _ _ _ _ _ _ _ (⟨_, .load _ _, _, _, _, _⟩ :: _) _; first | refine WPl.rdX (ReadR.loadE rfl hasA (by assumption)) ?_ | refine WPl.rdX (ReadR.loadES (by assumption) (by first | assumption | omega) rfl hasA) ?_)
     | (show WPl _ _ _ _ _ _ _ (⟨_, .slice _ _ _ _ _, _, _, _, _⟩ :: _) _; first | refine WPl.rdX (ReadR.sliceH rfl rfl hasA (by omega)) ?_ | refine WPl.rdX (ReadR.sliceL rfl rfl hasA (by omega)) ?_ | refine WPl.rdX (ReadR.sliceLH rfl rfl rfl hasA (by omega) (by omega)) ?_)
     | (refine WPl.spQ (fun hc => ?_) (fun hc => ?_) <;> try exact prA)
     | fail)
    dsimp only [Nat.reduceAdd]
    have hA : (pickG (fun s : Value => [bx g3 70 (bdC true g3 s), ob s (tx ++ lineW l k)]) (fun s => s.oneCell' = true) (e 11).2).oneCell' = true := by assumption
    generalize pickG (fun s : Value => [bx g3 70 (bdC true g3 s), ob s (tx ++ lineW l k)]) (fun s => s.oneCell' = true) (e 11).2 = v3 at hA ⊢
    exact WPq.rnd (i + 1, v3, tx ++ lineW l k) ⟨by dsimp only; omega, hA, by dsimp only; rw [htx, map_take hk1', List.append_assoc]⟩ (by dsimp only; omega)
  have hie : i = (whysL l).length := by omega
  subst hie
  rw [List.take_length] at htx
  obtain ⟨tw, htw⟩ : ∃ tw, tw = tx := ⟨_, rfl⟩
  rw [← htw] at htx htl ⊢
  clear hk htw hin hi
  repeat' (first
   | refine WPl.nil ?_ | refine WPq.then ?_ | refine WPq.thenR ?_ | refine WPq.thenE ?_ | refine WPq.blockN ?_ | refine WPq.blockR ?_ | refine WPq.blockE ?_ | refine WPq.blockO rfl ?_ | refine WPc.seq ?_ | refine WPc.block ?_ | refine WPc.ret ?_ | refine WPc.exit ?_ | refine WPc.skip ?_ | refine WPc.region ?_
   | (refine isCond ?_; first | refine WPc.cT ?_ | refine WPc.cF ?_ | (refine WPc.cQ (fun hc => ?_) (fun hc => ?_) <;> try exact prA))
   | (refine isD 26 ?_; refine WPl.rdX (ReadR.binE rfl rfl BinR.lss (congrArg Value.bool (decide_eq_false (show ¬ ((whysL l).length : Int) < ((whysL l).length : Int) by omega)))) ?_)
   | (refine isC 46 ?_; refine WPl.cR c46 (fun v46 hv46 => ?_) (hΔ := provsM))
   | (refine isOp ?_; first | refine WPl.rd ?_ | refine WPl.sk ?_ | refine WPl.rdB ?_)
   | (refine isAl ?_; refine WPl.nw fun g => ?_)
   | (refine isSt ?_; first | refine WPl.st1 ?_ | refine WPl.stA ?_ | refine WPl.stEB ?_ | refine WPl.stRB ?_)
   | (show WPl _ _ _ _ _ _ _ (⟨_, .indexAddr _ _ _, _, _, _, _⟩ :: _) _; refine WPl.rdX (ReadR.indexE rfl rfl hasA (by first | assumption | omega)) ?_)
   | (show WPl _ _ _ _ _ _ _ (⟨_, .fieldAddr _ _ _, _, _, _, _⟩ :: _) _; refine WPl.rdX (ReadR.fieldE rfl hasA (by first | assumption | omega)) ?_)
   | (show WPl _ _ _ _ _ _ _ (⟨_, .load _ _, _, _, _, _⟩ :: _) _; first | refine WPl.rdX (ReadR.loadE rfl hasA (by assumption)) ?_ | refine WPl.rdX (ReadR.loadES (by assumption) (by first | assumption | omega) rfl hasA) ?_)
   | (show WPl _ _ _ _ _ _ _ (⟨_, .slice _ _ _ _ _, _, _, _, _⟩ :: _) _; first | refine WPl.rdX (ReadR.sliceH rfl rfl hasA (by omega)) ?_ | refine WPl.rdX (ReadR.sliceL rfl rfl hasA (by omega)) ?_ | refine WPl.rdX (ReadR.sliceLH rfl rfl rfl hasA (by omega) (by omega)) ?_)
   | (refine WPl.spQ (fun hc => ?_) (fun hc => ?_) <;> try exact prA)
   | fail)
  have hel : (intsV (errsL l)).length = (errsL l).length := by unfold intsV; rw [List.length_map]
  have hEl2 := errsL_len l
  first | refine WPc.loop (σ := Nat × Value × List UInt8) (fun st => st.1 ≤ (errsL l).length ∧ st.2.1.oneCell' = true ∧ st.2.2 = tw ++ (((errsL l).take st.1).map (lineE l)).flatten) (fun st => [bx g3 70 (bdC true g3 st.2.1), ob st.2.1 st.2.2, rowN 3 1 v46 (errsL l).length (intsV (errsL l)), bx gR 52 (rpC mW mE mT), mp whM mW C, mp whM mE E, mp toM mT T, tP, tS]) (fun st => [(0, pB0 gR), (3, pB0 g3), (46, v46), (47, .int .i64 ((errsL l).length : Int)), (48, .int .i64 (st.1 : Int))]) (fun st => (errsL l).length - st.1) (⟨0, vb, tw⟩) ?_ takesA frsA (fun st km hx hk => ?_)
  · exact ⟨Nat.zero_le _, hvb, by simp⟩
  obtain ⟨i, vc, tx⟩ := st
  obtain ⟨hi, hvc, hte⟩ := hx
  dsimp only at hi hvc hte hk ⊢
  have htl2 : tx.length ≤ 1000000 := by
    rw [hte, List.length_append]
    have h1 := lines_len (f := lineE l) (n := 200) (L := (errsL l).take i) fun x hx => lineE_len l (err_in hes (List.mem_of_mem_take hx)) hl
    have h2 : ((errsL l).take i).length ≤ 1000 := by rw [List.length_take]; omega
    omega
  by_cases hin : i < (errsL l).length
  · obtain ⟨k, hk1'⟩ : ∃ k, (errsL l)[i]? = some k := ⟨_, List.getElem?_eq_getElem hin⟩
    have hnv : (intsV (errsL l))[i]? = some (.int .i64 k) := by unfold intsV; rw [List.getElem?_map, hk1']; rfl
    have hk64 := err_in hes (List.mem_of_getElem? hk1')
    have hkw : whM.wf k := hk64
    obtain ⟨n, hn⟩ : ∃ n : Int, n = (errN l k : Int) := ⟨_, rfl⟩
    have hn64 : in64 n := by rw [hn]; exact in64_nat (Nat.le_trans (err_len (l := l) (k := k)) (by omega))
    have hget : whM.vc (mget whM E k) = .int .i64 n := by rw [hrep.e.get, hn]
    have c60 := fun vn => putM_t true g3 vc hvc tx [101, 114, 114, 111, 114] vn [k, n] (by intro q hq; simp only [List.mem_cons, List.not_mem_nil, or_false] at hq; rcases hq with rfl | rfl; exact hk64; exact hn64) (by decide) (by omega) (by simp)
    rw [hn, line_E, ← hn] at c60
    repeat' (first
     | refine WPl.nil ?_ | refine WPq.then ?_ | refine WPq.thenR ?_ | refine WPq.thenE ?_ | refine WPq.blockN ?_ | refine WPq.blockR ?_ | refine WPq.blockE ?_ | refine WPq.blockO rfl ?_ | refine WPc.seq ?_ | refine WPc.block ?_ | refine WPc.ret ?_ | refine WPc.exit ?_ | refine WPc.skip ?_ | refine WPc.region ?_
     | (refine isCond ?_; first | refine WPc.cT ?_ | refine WPc.cF ?_ | (refine WPc.cQ (fun hc => ?_) (fun hc => ?_) <;> try exact prA))
     | (refine isD 49 ?_; refine WPl.rdX (ReadR.binE rfl rfl BinR.lss (congrArg Value.bool (decide_eq_true (show (i : Int) < ((errsL l).length : Int) by omega)))) ?_)
     | (refine isD 50 ?_; refine WPl.rdX (ReadR.indexE1 (i := i) rfl rfl hasA (by omega)) ?_)
     | (refine isD 51 ?_; refine WPl.rdX (ReadR.loadE rfl hasA hnv) ?_)
     | (refine isD 58 ?_; refine WPl.rdX (ReadR.look (M := whM) (k := k) hkw rfl rfl memA hget) ?_)
     | (refine isD 59 ?_; refine WPl.row .nil rfl rfl rfl (OpT.buildSlice (m := 2) (vs := [.int .i64 k, .int .i64 n]) evpA oneA rfl rfl) fun v59 hv59 => ?_)
     | (refine isC 60 ?_; refine WPl.cM (c60 _) ?_ (fun vq Γ1 hR => ?_) (hΔ := provsR2); exact fpR memA memA; obtain ⟨v60, hv60, rfl, rfl⟩ := hR; (try dsimp only [putF, List.cons_append, List.nil_append]))
     | (refine isOp ?_; first | refine WPl.rd ?_ | refine WPl.sk ?_ | refine WPl.rdB ?_)
     | (refine isAl ?_; refine WPl.nw fun g => ?_)
     | (refine isSt ?_; first | refine WPl.st1 ?_ | refine WPl.stA ?_ | refine WPl.stEB ?_ | refine WPl.stRB ?_)
     | (show WPl _ _ _ _ _ _ _ (⟨_, .indexAddr _ _ _, _, _, _, _⟩ :: _) _; refine WPl.rdX (ReadR.indexE rfl rfl hasA (by first | assumption | omega)) ?_)
     | (show WPl _ _ _ _ _ _ _ (⟨_, .fieldAddr _ _ _, _, _, _, _⟩ :: _) _; refine WPl.rdX (ReadR.fieldE rfl hasA (by first | assumption | omega)) ?_)
     | (show WPl _ _ _ _ _ _ _ (⟨_, .load _ _, _, _, _, _⟩ :: _) _; first | refine WPl.rdX (ReadR.loadE rfl hasA (by assumption)) ?_ | refine WPl.rdX (ReadR.loadES (by assumption) (by first | assumption | omega) rfl hasA) ?_)
     | (show WPl _ _ _ _ _ _ _ (⟨_, .slice _ _ _ _ _, _, _, _, _⟩ :: _) _; first | refine WPl.rdX (ReadR.sliceH rfl rfl hasA (by omega)) ?_ | refine WPl.rdX (ReadR.sliceL rfl rfl hasA (by omega)) ?_ | refine WPl.rdX (ReadR.sliceLH rfl rfl rfl hasA (by omega) (by omega)) ?_)
     | (refine WPl.spQ (fun hc => ?_) (fun hc => ?_) <;> try exact prA)
     | fail)
    exact WPq.rnd (i + 1, v60, tx ++ lineE l k) ⟨by dsimp only; omega, hv60, by dsimp only; rw [hte, map_take hk1', List.append_assoc]⟩ (by dsimp only; omega)
  have hie : i = (errsL l).length := by omega
  subst hie
  rw [List.take_length] at hte
  obtain ⟨te, hte2⟩ : ∃ te, te = tx := ⟨_, rfl⟩
  rw [← hte2] at hte htl2 ⊢
  clear hk hte2 hin hi
  repeat' (first
   | refine WPl.nil ?_ | refine WPq.then ?_ | refine WPq.thenR ?_ | refine WPq.thenE ?_ | refine WPq.blockN ?_ | refine WPq.blockR ?_ | refine WPq.blockE ?_ | refine WPq.blockO rfl ?_ | refine WPc.seq ?_ | refine WPc.block ?_ | refine WPc.ret ?_ | refine WPc.exit ?_ | refine WPc.skip ?_ | refine WPc.region ?_
   | (refine isCond ?_; first | refine WPc.cT ?_ | refine WPc.cF ?_ | (refine WPc.cQ (fun hc => ?_) (fun hc => ?_) <;> try exact prA))
   | (refine isD 49 ?_; refine WPl.rdX (ReadR.binE rfl rfl BinR.lss (congrArg Value.bool (decide_eq_false (show ¬ ((errsL l).length : Int) < ((errsL l).length : Int) by omega)))) ?_)
   | (refine isC 63 ?_; refine WPl.cXs (c63) fun v63 Γ1 hR => ?_; (obtain ⟨S, hv63, rfl, hS1, hS2⟩ := hR; obtain rfl := tal_sorted hrep.t hnT hS1 hS2); (try dsimp only [putF, List.cons_append, List.nil_append]))
   | (refine isOp ?_; first | refine WPl.rd ?_ | refine WPl.sk ?_ | refine WPl.rdB ?_)
   | (refine isAl ?_; refine WPl.nw fun g => ?_)
   | (refine isSt ?_; first | refine WPl.st1 ?_ | refine WPl.stA ?_ | refine WPl.stEB ?_ | refine WPl.stRB ?_)
   | (show WPl _ _ _ _ _ _ _ (⟨_, .indexAddr _ _ _, _, _, _, _⟩ :: _) _; refine WPl.rdX (ReadR.indexE rfl rfl hasA (by first | assumption | omega)) ?_)
   | (show WPl _ _ _ _ _ _ _ (⟨_, .fieldAddr _ _ _, _, _, _, _⟩ :: _) _; refine WPl.rdX (ReadR.fieldE rfl hasA (by first | assumption | omega)) ?_)
   | (show WPl _ _ _ _ _ _ _ (⟨_, .load _ _, _, _, _, _⟩ :: _) _; first | refine WPl.rdX (ReadR.loadE rfl hasA (by assumption)) ?_ | refine WPl.rdX (ReadR.loadES (by assumption) (by first | assumption | omega) rfl hasA) ?_)
   | (show WPl _ _ _ _ _ _ _ (⟨_, .slice _ _ _ _ _, _, _, _, _⟩ :: _) _; first | refine WPl.rdX (ReadR.sliceH rfl rfl hasA (by omega)) ?_ | refine WPl.rdX (ReadR.sliceL rfl rfl hasA (by omega)) ?_ | refine WPl.rdX (ReadR.sliceLH rfl rfl rfl hasA (by omega) (by omega)) ?_)
   | (refine WPl.spQ (fun hc => ?_) (fun hc => ?_) <;> try exact prA)
   | fail)
  have htal := talL_len l
  have htls := tls_len (talL l)
  first | refine WPc.loop (σ := Nat × Value × List UInt8) (fun st => st.1 ≤ (talL l).length ∧ st.2.1.oneCell' = true ∧ st.2.2 = te ++ (((talL l).take st.1).map lineT).flatten) (fun st => [bx g3 70 (bdC true g3 st.2.1), ob st.2.1 st.2.2, rowN 31 4 v63 (talL l).length (tls (talL l)), bx gR 52 (rpC mW mE mT), mp whM mW C, mp whM mE E, mp toM mT T, tP, tS]) (fun st => [(0, pB0 gR), (3, pB0 g3), (63, v63), (64, .int .i64 ((talL l).length : Int)), (65, .int .i64 (st.1 : Int))]) (fun st => (talL l).length - st.1) (⟨0, vc, te⟩) ?_ takesA frsA (fun st km hx hk => ?_)
  · exact ⟨Nat.zero_le _, hvc, by simp⟩
  obtain ⟨i, vd, tx⟩ := st
  obtain ⟨hi, hvd, htt⟩ := hx
  dsimp only at hi hvd htt hk ⊢
  have htl3 : tx.length ≤ 2000000 := by
    rw [htt, List.length_append]
    have h1 := lines_len (f := lineT) (n := 200) (L := (talL l).take i) fun x hx => lineT_len (tal_in hln hl hsv (List.mem_of_mem_take hx))
    have h2 : ((talL l).take i).length ≤ 1000 := by rw [List.length_take]; omega
    omega
  by_cases hin : i < (talL l).length
  · obtain ⟨x, hk1'⟩ : ∃ x, (talL l)[i]? = some x := ⟨_, List.getElem?_eq_getElem hin⟩
    have hat := tls_at hk1'
    obtain ⟨x1, x2, x3, x4⟩ := tal_in hln hl hsv (List.mem_of_getElem? hk1')
    have c78 := fun vn => putM_t true g3 vd hvd tx [116, 111] vn [x.1.1, x.1.2, x.2.1, x.2.2] (by intro q hq; simp only [List.mem_cons, List.not_mem_nil, or_false] at hq; rcases hq with rfl | rfl | rfl | rfl; exact x1; exact x2; exact x3; exact x4) (by decide) (by omega) (by simp)
    rw [line_T] at c78
    repeat' (first
     | refine WPl.nil ?_ | refine WPq.then ?_ | refine WPq.thenR ?_ | refine WPq.thenE ?_ | refine WPq.blockN ?_ | refine WPq.blockR ?_ | refine WPq.blockE ?_ | refine WPq.blockO rfl ?_ | refine WPc.seq ?_ | refine WPc.block ?_ | refine WPc.ret ?_ | refine WPc.exit ?_ | refine WPc.skip ?_ | refine WPc.region ?_
     | (refine isCond ?_; first | refine WPc.cT ?_ | refine WPc.cF ?_ | (refine WPc.cQ (fun hc => ?_) (fun hc => ?_) <;> try exact prA))
     | (refine isD 66 ?_; refine WPl.rdX (ReadR.binE rfl rfl BinR.lss (congrArg Value.bool (decide_eq_true (show (i : Int) < ((talL l).length : Int) by omega)))) ?_)
     | (refine isD 67 ?_; refine WPl.rdX (ReadR.indexE (i := i) rfl rfl hasA (by omega)) ?_)
     | (refine isD 68 ?_; refine WPl.rdX (ReadR.loadES (cs := tlC x) hat (by omega) rfl hasA) ?_)
     | (refine isD 77 ?_; refine WPl.row .nil rfl rfl rfl (OpT.buildSlice (m := 4) (vs := [.int .i64 x.1.1, .int .i64 x.1.2, .int .i64 x.2.1, .int .i64 x.2.2]) evpA oneA rfl rfl) fun v77 hv77 => ?_)
     | (refine isC 78 ?_; refine WPl.cM (c78 _) ?_ (fun vq Γ1 hR => ?_) (hΔ := provsR2); exact fpR memA memA; obtain ⟨v78, hv78, rfl, rfl⟩ := hR; (try dsimp only [putF, List.cons_append, List.nil_append]))
     | (refine isOp ?_; first | refine WPl.rd ?_ | refine WPl.sk ?_ | refine WPl.rdB ?_)
     | (refine isAl ?_; refine WPl.nw fun g => ?_)
     | (refine isSt ?_; first | refine WPl.st1 ?_ | refine WPl.stA ?_ | refine WPl.stEB ?_ | refine WPl.stRB ?_)
     | (show WPl _ _ _ _ _ _ _ (⟨_, .indexAddr _ _ _, _, _, _, _⟩ :: _) _; refine WPl.rdX (ReadR.indexE rfl rfl hasA (by first | assumption | omega)) ?_)
     | (show WPl _ _ _ _ _ _ _ (⟨_, .fieldAddr _ _ _, _, _, _, _⟩ :: _) _; refine WPl.rdX (ReadR.fieldE rfl hasA (by first | assumption | omega)) ?_)
     | (show WPl _ _ _ _ _ _ _ (⟨_, .load _ _, _, _, _, _⟩ :: _) _; first | refine WPl.rdX (ReadR.loadE rfl hasA (by assumption)) ?_ | refine WPl.rdX (ReadR.loadES (by assumption) (by first | assumption | omega) rfl hasA) ?_)
     | (show WPl _ _ _ _ _ _ _ (⟨_, .slice _ _ _ _ _, _, _, _, _⟩ :: _) _; first | refine WPl.rdX (ReadR.sliceH rfl rfl hasA (by omega)) ?_ | refine WPl.rdX (ReadR.sliceL rfl rfl hasA (by omega)) ?_ | refine WPl.rdX (ReadR.sliceLH rfl rfl rfl hasA (by omega) (by omega)) ?_)
     | (refine WPl.spQ (fun hc => ?_) (fun hc => ?_) <;> try exact prA)
     | fail)
    exact WPq.rnd (i + 1, v78, tx ++ lineT x) ⟨by dsimp only; omega, hv78, by dsimp only; rw [htt, map_take hk1', List.append_assoc]⟩ (by dsimp only; omega)
  have hie : i = (talL l).length := by omega
  subst hie
  rw [List.take_length] at htt
  have hfin : tx = txtL l := by rw [htt, hte, htx]; rfl
  have c81 : Triple Tryd.prog 34 #[pB0 g3] [bx g3 70 (bdC true g3 vd), ob vd tx] (RTurns (sV (txtL l)) []) := by
    rw [← hfin]
    refine bstr_t g3 vd hvd tx ?_ (by omega)
    rw [hfin]
    unfold txtL
    simp [hP.2]
  repeat' (first
   | refine WPl.nil ?_ | refine WPq.then ?_ | refine WPq.thenR ?_ | refine WPq.thenE ?_ | refine WPq.blockN ?_ | refine WPq.blockR ?_ | refine WPq.blockE ?_ | refine WPq.blockO rfl ?_ | refine WPc.seq ?_ | refine WPc.block ?_ | refine WPc.ret ?_ | refine WPc.exit ?_ | refine WPc.skip ?_ | refine WPc.region ?_
   | (refine isCond ?_; first | refine WPc.cT ?_ | refine WPc.cF ?_ | (refine WPc.cQ (fun hc => ?_) (fun hc => ?_) <;> try exact prA))
   | (refine isD 66 ?_; refine WPl.rdX (ReadR.binE rfl rfl BinR.lss (congrArg Value.bool (decide_eq_false (show ¬ ((talL l).length : Int) < ((talL l).length : Int) by omega)))) ?_)
   | (refine isC 81 ?_; refine WPl.cTs (c81) ?_; (try dsimp only [putF, List.cons_append, List.nil_append]))
   | (refine isOp ?_; first | refine WPl.rd ?_ | refine WPl.sk ?_ | refine WPl.rdB ?_)
   | (refine isAl ?_; refine WPl.nw fun g => ?_)
   | (refine isSt ?_; first | refine WPl.st1 ?_ | refine WPl.stA ?_ | refine WPl.stEB ?_ | refine WPl.stRB ?_)
   | (show WPl _ _ _ _ _ _ _ (⟨_, .indexAddr _ _ _, _, _, _, _⟩ :: _) _; refine WPl.rdX (ReadR.indexE rfl rfl hasA (by first | assumption | omega)) ?_)
   | (show WPl _ _ _ _ _ _ _ (⟨_, .fieldAddr _ _ _, _, _, _, _⟩ :: _) _; refine WPl.rdX (ReadR.fieldE rfl hasA (by first | assumption | omega)) ?_)
   | (show WPl _ _ _ _ _ _ _ (⟨_, .load _ _, _, _, _, _⟩ :: _) _; first | refine WPl.rdX (ReadR.loadE rfl hasA (by assumption)) ?_ | refine WPl.rdX (ReadR.loadES (by assumption) (by first | assumption | omega) rfl hasA) ?_)
   | (show WPl _ _ _ _ _ _ _ (⟨_, .slice _ _ _ _ _, _, _, _, _⟩ :: _) _; first | refine WPl.rdX (ReadR.sliceH rfl rfl hasA (by omega)) ?_ | refine WPl.rdX (ReadR.sliceL rfl rfl hasA (by omega)) ?_ | refine WPl.rdX (ReadR.sliceLH rfl rfl rfl hasA (by omega) (by omega)) ?_)
   | (refine WPl.spQ (fun hc => ?_) (fun hc => ?_) <;> try exact prA)
   | fail)
  all_goals try (first | exact WPq.dTp | exact WPq.dTs | exact WPq.dV | exact WPq.dR | exact WPq.dR2 | exact WPq.dH | exact WPq.dBH | exact WPq.dT)
end Go.Proofs.YtagedgcdonodfaaDoor
