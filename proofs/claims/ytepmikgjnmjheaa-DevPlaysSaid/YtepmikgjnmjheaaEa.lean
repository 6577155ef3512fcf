/- Reference of layer 3 (dev): its memory; contracts: burns, versions, Now, has. -/
import Derived.Test.YtepmikgjnmjheaaCr
namespace Go.Proofs.Ytepmikgjnmjheaa
open Go.RowKit
set_option linter.unusedSimpArgs false
set_option linter.unusedVariables false
set_option maxRecDepth 20000
set_option maxHeartbeats 4000000
attribute [local irreducible] WPc WPl WPq ReadR OpT BinR HasS bx rdN rowN Take Takes Prov Triple ResF BuildP Done ag Int.decLt Int.decLe Int.instDecidableEq
attribute [local irreducible] mp rmp rg rgo bag vrow secs mput mget mfind mdel intsV skeys vault pickG fburn fb1
instance slEltN : EltN Try.prog 31 1 := ⟨by kernel_rfl⟩
/-- Bytes that are held, as values. -/
def valsV (l : List (Value × Sec)) : List Value := l.map (·.1)
theorem valsV_len {l : List (Value × Sec)} : (valsV l).length = l.length := by unfold valsV; rw [List.length_map]
theorem valsV_at {l : List (Value × Sec)} {i : Nat} {x : Value × Sec} (h : l[i]? = some x) : (valsV l)[i]? = some x.1 := by unfold valsV; rw [List.getElem?_map, h]; rfl
theorem valsV_app {l k : List (Value × Sec)} : valsV (l ++ k) = valsV l ++ valsV k := by unfold valsV; rw [List.map_append]
theorem valsV_set {l : List (Value × Sec)} {i : Nat} {x : Value × Sec} : (valsV l).set i x.1 = valsV (l.set i x) := by unfold valsV; rw [List.map_set]
/-- What waits: a sector's number, and its bytes. -/
abbrev Zl := List (Int × (Value × Sec))
def zAt (Z : Zl) : List Int := Z.map (·.1)
def zB (Z : Zl) : List (Value × Sec) := Z.map (·.2)
def vers (Z : Zl) (i : Int) : List (Value × Sec) := (Z.filter fun z => decide (z.1 = i)).map (·.2)
theorem zAt_len {Z : Zl} : (zAt Z).length = Z.length := by unfold zAt; rw [List.length_map]
theorem zB_len {Z : Zl} : (zB Z).length = Z.length := by unfold zB; rw [List.length_map]
theorem vers_len {Z : Zl} {i : Int} : (vers Z i).length ≤ Z.length := by
  unfold vers; rw [List.length_map]; exact List.length_filter_le _ _
theorem vers_next {Z : Zl} {i : Int} {k : Nat} {z : Int × (Value × Sec)} (h : Z[k]? = some z) : vers (Z.take (k + 1)) i = vers (Z.take k) i ++ if z.1 = i then [z.2] else [] := by
  unfold vers
  rw [List.take_add_one, h, List.filter_append, List.map_append]
  congr 1
  show List.map _ (List.filter _ [z]) = _
  rw [List.filter_cons]
  by_cases hz : z.1 = i
  · rw [if_pos (by simpa using hz), if_pos hz]; rfl
  · rw [if_neg (by simpa using hz), if_neg hz]; rfl
abbrev rdc (vL vA vB : Value) (fu : List Int) (wr : Int) : Ch := [(1, [vL]), (1, [vA]), (1, [vB]), (4, intsV fu), (1, [.int .i64 wr])]
structure RfS where
  vL : Value
  L : List (Value × Sec)
  vA : Value
  vB : Value
  Z : Zl
  fu : List Int
  wr : Int
  rs : List (Value × Sec)
abbrev rsA (gX : Nat) (R : RfS) : List Asn := [bx gX 51 (rdc R.vL R.vA R.vB R.fu R.wr), rowN 31 1 R.vL R.L.length (valsV R.L), rowN 3 1 R.vA R.Z.length (intsV (zAt R.Z)), rowN 31 1 R.vB R.Z.length (valsV (zB R.Z)), vault R.rs]
structure RInv (n k : Nat) (R : RfS) : Prop where
  one : R.vL.oneCell' = true ∧ R.vA.oneCell' = true ∧ R.vB.oneCell' = true
  f4 : R.fu.length = 4
  fb : ∀ j, j < 4 → -1 ≤ R.fu.getD j 0 ∧ R.fu.getD j 0 ≤ 9223372036854775807
  nl : R.L.length = n
  lz : R.Z.length ≤ k
  at' : ∀ z ∈ R.Z, ∃ j : Nat, z.1 = (j : Int) ∧ j < n
  inL : ∀ x ∈ R.L, x ∈ R.rs ∧ x.1.oneCell' = true
  inZ : ∀ z ∈ R.Z, z.2 ∈ R.rs ∧ z.2.1.oneCell' = true
  w0 : 0 ≤ R.wr
  w1 : R.wr ≤ k
def nowR (R : RfS) (j : Nat) : Value × Sec := (vers R.Z (j : Int)).getLastD (R.L.getD j (.slice none 0 0, secF 0))
theorem vers_mem {Z : Zl} {i : Int} {x : Value × Sec} (h : x ∈ vers Z i) : ∃ z ∈ Z, z.1 = i ∧ z.2 = x := by
  unfold vers at h
  obtain ⟨z, hz, rfl⟩ := List.mem_map.1 h
  rw [List.mem_filter, decide_eq_true_eq] at hz
  exact ⟨z, hz.1, hz.2, rfl⟩
theorem RInv.now {n k : Nat} {R : RfS} (h : RInv n k R) {j : Nat} (hj : j < n) : nowR R j ∈ R.rs ∧ (nowR R j).1.oneCell' = true := by
  unfold nowR
  cases hv : (vers R.Z (j : Int)).getLast? with
  | none =>
    rw [List.getLastD_eq_getLast?, hv]
    have hl : j < R.L.length := by rw [h.nl]; exact hj
    rw [show (none : Option (Value × Sec)).getD (R.L.getD j (.slice none 0 0, secF 0)) = R.L.getD j (.slice none 0 0, secF 0) from rfl, List.getD_eq_getElem?_getD, List.getElem?_eq_getElem hl]
    exact h.inL _ (List.getElem_mem hl)
  | some x =>
    rw [List.getLastD_eq_getLast?, hv]
    obtain ⟨z, hz, _, rfl⟩ := vers_mem (List.mem_of_getLast? hv)
    exact h.inZ z hz
section
variable (gX : Nat) (n k : Nat) (R : RfS)
theorem rburns_t (j : Nat) (a : Int) (h4 : R.fu.length = 4) (hj : j < 4) (ha : R.fu[j]? = some a) (hlo : -1 ≤ a) (hhi : a ≤ 9223372036854775807) :
    Triple Try.prog 71 #[hD gX, .int .i64 (j : Int)] [bx gX 51 (rdc R.vL R.vA R.vB R.fu R.wr)] (RTurns (.bool (decide (a = 0))) [bx gX 51 (rdc R.vL R.vA R.vB (fburn R.fu j a) R.wr)]) := by
  have hv0 := intsV_at ha
  have hlen : j < (intsV R.fu).length := by rw [intsV_len, h4]; exact hj
  have hv1 : ((intsV R.fu).set j (.int .i64 (a - 1)))[j]? = some (.int .i64 (a - 1)) := List.getElem?_set_self hlen
  have hlen1 : j < ((intsV R.fu).set j (.int .i64 (a - 1))).length := by rw [List.length_set]; exact hlen
  by_cases h1 : a = -1
  · subst h1
    have h3 : rdc R.vL R.vA R.vB (fburn R.fu j (-1)) R.wr = [(1, [R.vL]), (1, [R.vA]), (1, [R.vB]), (4, ((intsV R.fu).set j (.int .i64 (-1 - 1))).set j (.int .i64 (-1))), (1, [.int .i64 R.wr])] := by
      rw [List.set_set, intsV_set]; with_unfolding_all rfl
    rw [show decide ((-1 : Int) = 0) = false by simp, h3]
    refine Triple.enter Try.func71 rfl Try.ntmps71 rfl (fun W => ?_)
    dsimp only [argsF, Nat.reduceAdd]
    repeat' (first
     | refine WPl.nil ?_ | refine WPq.then ?_ | refine WPq.thenR ?_ | refine WPq.thenE ?_ | refine WPq.blockN ?_ | refine WPq.blockR ?_ | refine WPq.blockE ?_ | refine WPq.blockO rfl ?_ | refine WPc.seq ?_ | refine WPc.block ?_ | refine WPc.ret ?_ | refine WPc.exit ?_ | refine WPc.skip ?_ | refine WPc.region ?_
     | (refine isReg 1 ?_; refine WPc.drA [([13], [6, 7, 8, 9, 10, 11, 12, 13]), ([13], [5, 7, 8, 9, 10, 11, 12, 13, 14, 15]), ([13], [5, 6, 8, 14, 15]), ([13], [5, 6, 7, 9, 10, 14, 15]), ([2, 13], [5, 6, 7, 8, 14, 15]), ([2, 4, 13], [5, 6, 7, 8, 9, 14, 15]), ([2, 3, 4, 5, 13], [5, 6, 7, 8, 9, 10, 14, 15]), ([2, 3, 4, 5, 6, 13], [5, 6, 7, 8, 9, 10, 11, 14, 15]), ([2, 3, 4, 5, 6, 7, 13], [5, 6, 7, 8, 9, 10, 11, 12, 14, 15]), ([0, 13], [5, 6, 7, 8, 9, 10, 11, 12, 13]), ([0, 9, 13], [5, 6, 7, 8, 9, 10, 11, 12, 13, 14]), ([0, 1, 2, 3, 4, 5, 6, 7, 8, 9, 10, 13], [5, 6, 7, 8, 9, 10, 11, 12, 13, 14, 15]), ([0, 1, 2, 3, 4, 5, 6, 7, 8, 9, 10, 11, 13], [5, 6, 7, 8, 9, 10, 11, 12, 13, 14, 15, 16])] [(13, 12), (13, 0), (13, 1), (13, 2), (13, 3), (13, 4), (13, 5), (13, 6), (13, 7), (13, 8), (13, 9), (13, 10), (13, 11)] (Γx := [bx gX 51 (rdc R.vL R.vA R.vB R.fu R.wr)]) ?_; dsimp only [prev0, List.length_nil, List.length_cons])
     | (refine gAny ?_; first | (refine gD 12 ?_; refine RGl.rdX (fun e hk => by (try dsimp only [bndR, ensR, oksR, fcutR, List.append_nil, List.nil_append, List.cons_append, List.append_assoc] at hk ⊢); exact ReadR.loadR rfl memA rfl hv0) ?_) | (refine gD 13 ?_; refine RGl.rdX (fun e hk => by (try dsimp only [bndR, ensR, oksR, fcutR, List.append_nil, List.nil_append, List.cons_append, List.append_assoc] at hk ⊢); exact ReadR.binE rfl rfl (BinR.subI (by omega) (by omega)) rfl) ?_) | (refine gOp ?_; (refine RGl.turn (fun e hk => by (try dsimp only [bndR, ensR, oksR, fcutR, List.append_nil, List.nil_append, List.cons_append, List.append_assoc] at hk ⊢); exact OpT.storeR rfl rfl takesA rfl rfl hlen rfl) ?_)) | (refine gD 22 ?_; refine RGl.rdX (fun e hk => by (try dsimp only [bndR, ensR, oksR, fcutR, List.append_nil, List.nil_append, List.cons_append, List.append_assoc] at hk ⊢); exact ReadR.loadR rfl memA rfl hv1) ?_) | (refine gD 23 ?_; refine RGl.rdX (fun e hk => by (try dsimp only [bndR, ensR, oksR, fcutR, List.append_nil, List.nil_append, List.cons_append, List.append_assoc] at hk ⊢); exact ReadR.binE rfl rfl BinR.lss (congrArg Value.bool (decide_eq_true (by omega)))) ?_) | (refine gOp ?_; first | refine RGl.rdA ?_ | refine RGl.rdX (fun e hk => by (try dsimp only [bndR, ensR, oksR, fcutR, List.append_nil, List.nil_append, List.cons_append, List.append_assoc] at hk ⊢); exact readB) ?_) | (refine gSt ?_; refine RGl.stA ?_) | (refine RGl.fin (fun e hk => ?_); (try dsimp only [bndA, ensAR, oksA, List.append_nil, List.nil_append, List.cons_append, List.append_assoc] at hk ⊢); (repeat (obtain ⟨hk1, hk⟩ := hk))) | fail)
     | (refine isCond ?_; first | refine WPc.cT ?_ | refine WPc.cF ?_ | (refine WPc.cQ (fun hc => ?_) (fun hc => ?_) <;> try exact prA))
     | (refine isD 22 ?_; refine WPl.rdX (ReadR.loadR rfl memA rfl hv1) ?_)
     | (refine isD 23 ?_; refine WPl.rdX (ReadR.binE rfl rfl BinR.lss (congrArg Value.bool (decide_eq_true (by omega)))) ?_)
     | (show WPl _ _ _ _ _ _ _ (⟨none, .store _ _ (.const _), _, _, _, _⟩ :: _) _; refine WPl.turn (.cons takeA .nil) rfl rfl (OpT.storeR rfl rfl (.cons takeA .nil) rfl rfl hlen1 rfl) ?_)
     | (refine isOp ?_; first | refine WPl.rd ?_ | refine WPl.sk ?_ | refine WPl.rdB ?_)
     | (refine isSt ?_; first | refine WPl.st1 ?_ | refine WPl.stA ?_ | refine WPl.stEB ?_ | refine WPl.stRB ?_)
     | (show WPl _ _ _ _ _ _ _ (⟨_, .indexAddr _ _ _, _, _, _, _⟩ :: _) _; refine WPl.rdX (ReadR.indexE rfl rfl hasA (by first | assumption | omega)) ?_)
     | (show WPl _ _ _ _ _ _ _ (⟨_, .fieldAddr _ _ _, _, _, _, _⟩ :: _) _; refine WPl.rdX (ReadR.fieldE rfl hasA (by first | assumption | omega)) ?_)
     | (show WPl _ _ _ _ _ _ _ (⟨_, .load _ _, _, _, _, _⟩ :: _) _; first | refine WPl.rdX (ReadR.loadE rfl hasA (by assumption)) ?_ | refine WPl.rdX (ReadR.loadES (by assumption) (by first | assumption | omega) rfl hasA) ?_)
     | (show WPl _ _ _ _ _ _ _ (⟨_, .slice _ _ _ _ _, _, _, _, _⟩ :: _) _; first | refine WPl.rdX (ReadR.sliceH rfl rfl hasA (by omega)) ?_ | refine WPl.rdX (ReadR.sliceL rfl rfl hasA (by omega)) ?_ | refine WPl.rdX (ReadR.sliceLH rfl rfl rfl hasA (by omega) (by omega)) ?_)
     | (refine WPl.spQ (fun hc => ?_) (fun hc => ?_) <;> try exact prA)
     | fail)
    exact WPq.dTs
  · have h3 : rdc R.vL R.vA R.vB (fburn R.fu j a) R.wr = [(1, [R.vL]), (1, [R.vA]), (1, [R.vB]), (4, (intsV R.fu).set j (.int .i64 (a - 1))), (1, [.int .i64 R.wr])] := by
      rw [intsV_set]
      have : fburn R.fu j a = R.fu.set j (a - 1) := by
        with_unfolding_all (unfold fburn fb1; rw [if_neg h1]; split; (first | (rename_i h0; rw [h0]; rfl) | rfl); rfl)
      rw [this]
    have hd : decide (a - 1 = -1) = decide (a = 0) := by rw [Bool.eq_iff_iff, decide_eq_true_eq, decide_eq_true_eq]; omega
    rw [h3]
    refine Triple.enter Try.func71 rfl Try.ntmps71 rfl (fun W => ?_)
    dsimp only [argsF, Nat.reduceAdd]
    repeat' (first
     | refine WPl.nil ?_ | refine WPq.then ?_ | refine WPq.thenR ?_ | refine WPq.thenE ?_ | refine WPq.blockN ?_ | refine WPq.blockR ?_ | refine WPq.blockE ?_ | refine WPq.blockO rfl ?_ | refine WPc.seq ?_ | refine WPc.block ?_ | refine WPc.ret ?_ | refine WPc.exit ?_ | refine WPc.skip ?_ | refine WPc.region ?_
     | (refine isReg 1 ?_; refine WPc.drA [([13], [6, 7, 8, 9, 10, 11, 12, 13]), ([13], [5, 7, 8, 9, 10, 11, 12, 13, 14, 15]), ([13], [5, 6, 8, 14, 15]), ([13], [5, 6, 7, 9, 10, 14, 15]), ([2, 13], [5, 6, 7, 8, 14, 15]), ([2, 4, 13], [5, 6, 7, 8, 9, 14, 15]), ([2, 3, 4, 5, 13], [5, 6, 7, 8, 9, 10, 14, 15]), ([2, 3, 4, 5, 6, 13], [5, 6, 7, 8, 9, 10, 11, 14, 15]), ([2, 3, 4, 5, 6, 7, 13], [5, 6, 7, 8, 9, 10, 11, 12, 14, 15]), ([0, 13], [5, 6, 7, 8, 9, 10, 11, 12, 13]), ([0, 9, 13], [5, 6, 7, 8, 9, 10, 11, 12, 13, 14]), ([0, 1, 2, 3, 4, 5, 6, 7, 8, 9, 10, 13], [5, 6, 7, 8, 9, 10, 11, 12, 13, 14, 15]), ([0, 1, 2, 3, 4, 5, 6, 7, 8, 9, 10, 11, 13], [5, 6, 7, 8, 9, 10, 11, 12, 13, 14, 15, 16])] [(13, 12), (13, 0), (13, 1), (13, 2), (13, 3), (13, 4), (13, 5), (13, 6), (13, 7), (13, 8), (13, 9), (13, 10), (13, 11)] (Γx := [bx gX 51 (rdc R.vL R.vA R.vB R.fu R.wr)]) ?_; dsimp only [prev0, List.length_nil, List.length_cons])
     | (refine gAny ?_; first | (refine gD 12 ?_; refine RGl.rdX (fun e hk => by (try dsimp only [bndR, ensR, oksR, fcutR, List.append_nil, List.nil_append, List.cons_append, List.append_assoc] at hk ⊢); exact ReadR.loadR rfl memA rfl hv0) ?_) | (refine gD 13 ?_; refine RGl.rdX (fun e hk => by (try dsimp only [bndR, ensR, oksR, fcutR, List.append_nil, List.nil_append, List.cons_append, List.append_assoc] at hk ⊢); exact ReadR.binE rfl rfl (BinR.subI (by omega) (by omega)) rfl) ?_) | (refine gOp ?_; (refine RGl.turn (fun e hk => by (try dsimp only [bndR, ensR, oksR, fcutR, List.append_nil, List.nil_append, List.cons_append, List.append_assoc] at hk ⊢); exact OpT.storeR rfl rfl takesA rfl rfl hlen rfl) ?_)) | (refine gD 22 ?_; refine RGl.rdX (fun e hk => by (try dsimp only [bndR, ensR, oksR, fcutR, List.append_nil, List.nil_append, List.cons_append, List.append_assoc] at hk ⊢); exact ReadR.loadR rfl memA rfl hv1) ?_) | (refine gD 23 ?_; refine RGl.rdX (fun e hk => by (try dsimp only [bndR, ensR, oksR, fcutR, List.append_nil, List.nil_append, List.cons_append, List.append_assoc] at hk ⊢); exact ReadR.binE rfl rfl BinR.lss (congrArg Value.bool (decide_eq_false (by omega)))) ?_) | (refine gD 34 ?_; refine RGl.rdX (fun e hk => by (try dsimp only [bndR, ensR, oksR, fcutR, List.append_nil, List.nil_append, List.cons_append, List.append_assoc] at hk ⊢); exact ReadR.loadR rfl memA rfl hv1) ?_) | (refine gD 35 ?_; refine RGl.rdX (fun e hk => by (try dsimp only [bndR, ensR, oksR, fcutR, List.append_nil, List.nil_append, List.cons_append, List.append_assoc] at hk ⊢); exact ReadR.binE rfl rfl BinR.eql (congrArg Value.bool hd)) ?_) | (refine gOp ?_; first | refine RGl.rdA ?_ | refine RGl.rdX (fun e hk => by (try dsimp only [bndR, ensR, oksR, fcutR, List.append_nil, List.nil_append, List.cons_append, List.append_assoc] at hk ⊢); exact readB) ?_) | (refine gSt ?_; refine RGl.stA ?_) | (refine RGl.fin (fun e hk => ?_); (try dsimp only [bndA, ensAR, oksA, List.append_nil, List.nil_append, List.cons_append, List.append_assoc] at hk ⊢); (repeat (obtain ⟨hk1, hk⟩ := hk))) | fail)
     | (refine isCond ?_; first | refine WPc.cT ?_ | refine WPc.cF ?_ | (refine WPc.cQ (fun hc => ?_) (fun hc => ?_) <;> try exact prA))
     | (refine isD 22 ?_; refine WPl.rdX (ReadR.loadR rfl memA rfl hv1) ?_)
     | (refine isD 23 ?_; refine WPl.rdX (ReadR.binE rfl rfl BinR.lss (congrArg Value.bool (decide_eq_false (by omega)))) ?_)
     | (refine isD 34 ?_; refine WPl.rdX (ReadR.loadR rfl memA rfl hv1) ?_)
     | (refine isD 35 ?_; refine WPl.rdX (ReadR.binE rfl rfl BinR.eql (congrArg Value.bool hd)) ?_)
     | (refine isOp ?_; first | refine WPl.rd ?_ | refine WPl.sk ?_ | refine WPl.rdB ?_)
     | (refine isSt ?_; first | refine WPl.st1 ?_ | refine WPl.stA ?_ | refine WPl.stEB ?_ | refine WPl.stRB ?_)
     | (show WPl _ _ _ _ _ _ _ (⟨_, .indexAddr _ _ _, _, _, _, _⟩ :: _) _; refine WPl.rdX (ReadR.indexE rfl rfl hasA (by first | assumption | omega)) ?_)
     | (show WPl _ _ _ _ _ _ _ (⟨_, .fieldAddr _ _ _, _, _, _, _⟩ :: _) _; refine WPl.rdX (ReadR.fieldE rfl hasA (by first | assumption | omega)) ?_)
     | (show WPl _ _ _ _ _ _ _ (⟨_, .load _ _, _, _, _, _⟩ :: _) _; first | refine WPl.rdX (ReadR.loadE rfl hasA (by assumption)) ?_ | refine WPl.rdX (ReadR.loadES (by assumption) (by first | assumption | omega) rfl hasA) ?_)
     | (show WPl _ _ _ _ _ _ _ (⟨_, .slice _ _ _ _ _, _, _, _, _⟩ :: _) _; first | refine WPl.rdX (ReadR.sliceH rfl rfl hasA (by omega)) ?_ | refine WPl.rdX (ReadR.sliceL rfl rfl hasA (by omega)) ?_ | refine WPl.rdX (ReadR.sliceLH rfl rfl rfl hasA (by omega) (by omega)) ?_)
     | (refine WPl.spQ (fun hc => ?_) (fun hc => ?_) <;> try exact prA)
     | fail)
    exact WPq.dTs
theorem rvers_t (i : Int) (h : RInv n k R) (hk0 : k ≤ 100000) : Triple Try.prog 54 #[hD gX, .int .i64 i] [rbx gX 51 (rdc R.vL R.vA R.vB R.fu R.wr), rdN R.vA R.Z.length (intsV (zAt R.Z)), rdN R.vB R.Z.length (valsV (zB R.Z))] (RRow 31 1 (vers R.Z i).length (valsV (vers R.Z i))) := by
  have hlz := h.lz
  have e1 : ∀ v, rowN 31 1 v 0 [] = rowN 31 1 v (vers (R.Z.take 0) i).length (valsV (vers (R.Z.take 0) i)) := fun v => by rw [List.take_zero]; rfl
  refine Triple.enter Try.func54 rfl Try.ntmps54 rfl (fun W => ?_)
  dsimp only [argsF, Nat.reduceAdd]
  repeat' (first
   | refine WPl.nil ?_ | refine WPq.then ?_ | refine WPq.thenR ?_ | refine WPq.thenE ?_ | refine WPq.blockN ?_ | refine WPq.blockR ?_ | refine WPq.blockE ?_ | refine WPq.blockO rfl ?_ | refine WPc.seq ?_ | refine WPc.block ?_ | refine WPc.ret ?_ | refine WPc.exit ?_ | refine WPc.skip ?_ | refine WPc.region ?_
   | (refine isCond ?_; first | refine WPc.cT ?_ | refine WPc.cF ?_ | (refine WPc.cQ (fun hc => ?_) (fun hc => ?_) <;> try exact prA))
   | (refine isD 7 ?_; refine WPl.litS0 fun v7 hv7 => ?_)
   | (refine isOp ?_; first | refine WPl.rd ?_ | refine WPl.sk ?_ | refine WPl.rdB ?_)
   | (show WPl _ _ _ _ _ _ _ (⟨_, .indexAddr _ _ _, _, _, _, _⟩ :: _) _; refine WPl.rdX (ReadR.indexE rfl rfl hasA (by first | assumption | omega)) ?_)
   | (show WPl _ _ _ _ _ _ _ (⟨_, .fieldAddr _ _ _, _, _, _, _⟩ :: _) _; refine WPl.rdX (ReadR.fieldE rfl hasA (by first | assumption | omega)) ?_)
   | (show WPl _ _ _ _ _ _ _ (⟨_, .load _ _, _, _, _, _⟩ :: _) _; first | refine WPl.rdX (ReadR.loadE rfl hasA (by assumption)) ?_ | refine WPl.rdX (ReadR.loadES (by assumption) (by first | assumption | omega) rfl hasA) ?_)
   | (show WPl _ _ _ _ _ _ _ (⟨_, .slice _ _ _ _ _, _, _, _, _⟩ :: _) _; first | refine WPl.rdX (ReadR.sliceH rfl rfl hasA (by omega)) ?_ | refine WPl.rdX (ReadR.sliceL rfl rfl hasA (by omega)) ?_ | refine WPl.rdX (ReadR.sliceLH rfl rfl rfl hasA (by omega) (by omega)) ?_)
   | (refine WPl.spQ (fun hc => ?_) (fun hc => ?_) <;> try exact prA)
   | fail)
  rw [e1]
  first | refine WPc.loop (σ := Nat × Value) (fun st => st.1 ≤ R.Z.length ∧ st.2.oneCell' = true) (fun st => [rbx gX 51 (rdc R.vL R.vA R.vB R.fu R.wr), rdN R.vA R.Z.length (intsV (zAt R.Z)), rdN R.vB R.Z.length (valsV (zB R.Z)), rowN 31 1 st.2 (vers (R.Z.take st.1) i).length (valsV (vers (R.Z.take st.1) i))]) (fun st => [(0, hD gX), (1, .int .i64 i), (5, st.2), (6, .int .i64 (st.1 : Int))]) (fun st => R.Z.length - st.1) ((0, v7)) ?_ takesA frsA (fun st km hx hk => ?_)
  · exact ⟨Nat.zero_le _, hv7⟩
  obtain ⟨q, vo⟩ := st
  obtain ⟨hq, hvo⟩ := hx
  dsimp only at hq hvo hk ⊢
  have hkm : km = R.Z.length - q := hk
  clear hk
  have hvl := vers_len (Z := R.Z.take q) (i := i)
  rw [List.length_take] at hvl
  by_cases hlt : q < R.Z.length
  · obtain ⟨z, hz⟩ : ∃ z, R.Z[q]? = some z := ⟨_, List.getElem?_eq_getElem hlt⟩
    have ha : (intsV (zAt R.Z))[q]? = some (.int .i64 z.1) := intsV_at (by unfold zAt; rw [List.getElem?_map, hz]; rfl)
    have hb : (valsV (zB R.Z))[q]? = some z.2.1 := valsV_at (by unfold zB; rw [List.getElem?_map, hz]; rfl)
    have hone := (h.inZ z (List.mem_of_getElem? hz)).2
    have hnx := vers_next (i := i) hz
    by_cases hzi : z.1 = i
    · rw [if_pos hzi] at hnx
      have hrow : ∀ v2, rowN 31 1 v2 ((vers (R.Z.take q) i).length + 1) (valsV (vers (R.Z.take q) i) ++ [z.2.1]) = rowN 31 1 v2 (vers (R.Z.take (q + 1)) i).length (valsV (vers (R.Z.take (q + 1)) i)) := fun v2 => by
        rw [hnx, List.length_append, valsV_app]; rfl
      repeat' (first
       | refine WPl.nil ?_ | refine WPq.then ?_ | refine WPq.thenR ?_ | refine WPq.thenE ?_ | refine WPq.blockN ?_ | refine WPq.blockR ?_ | refine WPq.blockE ?_ | refine WPq.blockO rfl ?_ | refine WPc.seq ?_ | refine WPc.block ?_ | refine WPc.ret ?_ | refine WPc.exit ?_ | refine WPc.skip ?_ | refine WPc.region ?_
       | (refine isCond ?_; first | refine WPc.cT ?_ | refine WPc.cF ?_ | (refine WPc.cQ (fun hc => ?_) (fun hc => ?_) <;> try first | exact prA | (exfalso; first | omega)))
       | (refine isD 12 ?_; refine WPl.rdX (ReadR.loadO memA rfl rfl) ?_)
       | (refine isD 20 ?_; refine WPl.rdX (ReadR.loadO memA rfl rfl) ?_)
       | (refine isD 30 ?_; refine WPl.rdX (ReadR.loadO memA rfl rfl) ?_)
       | (refine isD 22 ?_; refine WPl.rdX (ReadR.indexE1 (i := q) rfl rfl hasA hlt) ?_)
       | (refine isD 23 ?_; refine WPl.rdX (ReadR.loadE rfl hasA ha) ?_)
       | (refine isD 25 ?_; refine WPl.rdX (ReadR.binE rfl rfl BinR.eql (congrArg Value.bool (decide_eq_true hzi))) ?_)
       | (refine isD 32 ?_; refine WPl.rdX (ReadR.indexE1 (i := q) rfl rfl hasA hlt) ?_)
       | (refine isD 33 ?_; refine WPl.rdX (ReadR.loadE rfl hasA hb) ?_)
       | (refine isLit ?_; refine WPl.lits fun w34 hw34 => ?_)
       | (refine isD 35 ?_; refine WPl.appN (m := (vers (R.Z.take q) i).length) (m2 := 1) (xs := valsV (vers (R.Z.take q) i)) (ys := [z.2.1]) rfl (fun u hu => by rw [List.mem_singleton.1 hu]; exact hone) (by omega) fun v2 hv2 => ?_)
       | (refine isOp ?_; first | refine WPl.rd ?_ | refine WPl.sk ?_ | refine WPl.rdB ?_)
       | (show WPl _ _ _ _ _ _ _ (⟨_, .indexAddr _ _ _, _, _, _, _⟩ :: _) _; refine WPl.rdX (ReadR.indexE rfl rfl hasA (by first | assumption | omega)) ?_)
       | (show WPl _ _ _ _ _ _ _ (⟨_, .fieldAddr _ _ _, _, _, _, _⟩ :: _) _; refine WPl.rdX (ReadR.fieldE rfl hasA (by first | assumption | omega)) ?_)
       | (show WPl _ _ _ _ _ _ _ (⟨_, .load _ _, _, _, _, _⟩ :: _) _; first | refine WPl.rdX (ReadR.loadE rfl hasA (by assumption)) ?_ | refine WPl.rdX (ReadR.loadES (by assumption) (by first | assumption | omega) rfl hasA) ?_)
       | (show WPl _ _ _ _ _ _ _ (⟨_, .slice _ _ _ _ _, _, _, _, _⟩ :: _) _; first | refine WPl.rdX (ReadR.sliceH rfl rfl hasA (by omega)) ?_ | refine WPl.rdX (ReadR.sliceL rfl rfl hasA (by omega)) ?_ | refine WPl.rdX (ReadR.sliceLH rfl rfl rfl hasA (by omega) (by omega)) ?_)
       | (refine WPl.spQ (fun hc => ?_) (fun hc => ?_) <;> try first | exact prA | (exfalso; first | omega))
       | fail)
      rw [hrow]
      exact WPq.rnd (q + 1, v2) ⟨hlt, hv2⟩ (by dsimp only; omega)
    · rw [if_neg hzi, List.append_nil] at hnx
      repeat' (first
       | refine WPl.nil ?_ | refine WPq.then ?_ | refine WPq.thenR ?_ | refine WPq.thenE ?_ | refine WPq.blockN ?_ | refine WPq.blockR ?_ | refine WPq.blockE ?_ | refine WPq.blockO rfl ?_ | refine WPc.seq ?_ | refine WPc.block ?_ | refine WPc.ret ?_ | refine WPc.exit ?_ | refine WPc.skip ?_ | refine WPc.region ?_
       | (refine isCond ?_; first | refine WPc.cT ?_ | refine WPc.cF ?_ | (refine WPc.cQ (fun hc => ?_) (fun hc => ?_) <;> try first | exact prA | (exfalso; first | omega)))
       | (refine isD 12 ?_; refine WPl.rdX (ReadR.loadO memA rfl rfl) ?_)
       | (refine isD 20 ?_; refine WPl.rdX (ReadR.loadO memA rfl rfl) ?_)
       | (refine isD 22 ?_; refine WPl.rdX (ReadR.indexE1 (i := q) rfl rfl hasA hlt) ?_)
       | (refine isD 23 ?_; refine WPl.rdX (ReadR.loadE rfl hasA ha) ?_)
       | (refine isD 25 ?_; refine WPl.rdX (ReadR.binE rfl rfl BinR.eql (congrArg Value.bool (decide_eq_false hzi))) ?_)
       | (refine isOp ?_; first | refine WPl.rd ?_ | refine WPl.sk ?_ | refine WPl.rdB ?_)
       | (show WPl _ _ _ _ _ _ _ (⟨_, .indexAddr _ _ _, _, _, _, _⟩ :: _) _; refine WPl.rdX (ReadR.indexE rfl rfl hasA (by first | assumption | omega)) ?_)
       | (show WPl _ _ _ _ _ _ _ (⟨_, .fieldAddr _ _ _, _, _, _, _⟩ :: _) _; refine WPl.rdX (ReadR.fieldE rfl hasA (by first | assumption | omega)) ?_)
       | (show WPl _ _ _ _ _ _ _ (⟨_, .load _ _, _, _, _, _⟩ :: _) _; first | refine WPl.rdX (ReadR.loadE rfl hasA (by assumption)) ?_ | refine WPl.rdX (ReadR.loadES (by assumption) (by first | assumption | omega) rfl hasA) ?_)
       | (show WPl _ _ _ _ _ _ _ (⟨_, .slice _ _ _ _ _, _, _, _, _⟩ :: _) _; first | refine WPl.rdX (ReadR.sliceH rfl rfl hasA (by omega)) ?_ | refine WPl.rdX (ReadR.sliceL rfl rfl hasA (by omega)) ?_ | refine WPl.rdX (ReadR.sliceLH rfl rfl rfl hasA (by omega) (by omega)) ?_)
       | (refine WPl.spQ (fun hc => ?_) (fun hc => ?_) <;> try first | exact prA | (exfalso; first | omega))
       | fail)
      rw [← hnx]
      exact WPq.rnd (q + 1, vo) ⟨hlt, hvo⟩ (by dsimp only; omega)
  · have hil : R.Z.take q = R.Z := List.take_of_length_le (by omega)
    rw [hil]
    repeat' (first
     | refine WPl.nil ?_ | refine WPq.then ?_ | refine WPq.thenR ?_ | refine WPq.thenE ?_ | refine WPq.blockN ?_ | refine WPq.blockR ?_ | refine WPq.blockE ?_ | refine WPq.blockO rfl ?_ | refine WPc.seq ?_ | refine WPc.block ?_ | refine WPc.ret ?_ | refine WPc.exit ?_ | refine WPc.skip ?_ | refine WPc.region ?_
     | (refine isCond ?_; first | refine WPc.cT ?_ | refine WPc.cF ?_ | (refine WPc.cQ (fun hc => ?_) (fun hc => ?_) <;> try first | exact prA | (exfalso; first | omega)))
     | (refine isD 12 ?_; refine WPl.rdX (ReadR.loadO memA rfl rfl) ?_)
     | (refine isOp ?_; first | refine WPl.rd ?_ | refine WPl.sk ?_ | refine WPl.rdB ?_)
     | (show WPl _ _ _ _ _ _ _ (⟨_, .indexAddr _ _ _, _, _, _, _⟩ :: _) _; refine WPl.rdX (ReadR.indexE rfl rfl hasA (by first | assumption | omega)) ?_)
     | (show WPl _ _ _ _ _ _ _ (⟨_, .fieldAddr _ _ _, _, _, _, _⟩ :: _) _; refine WPl.rdX (ReadR.fieldE rfl hasA (by first | assumption | omega)) ?_)
     | (show WPl _ _ _ _ _ _ _ (⟨_, .load _ _, _, _, _, _⟩ :: _) _; first | refine WPl.rdX (ReadR.loadE rfl hasA (by assumption)) ?_ | refine WPl.rdX (ReadR.loadES (by assumption) (by first | assumption | omega) rfl hasA) ?_)
     | (show WPl _ _ _ _ _ _ _ (⟨_, .slice _ _ _ _ _, _, _, _, _⟩ :: _) _; first | refine WPl.rdX (ReadR.sliceH rfl rfl hasA (by omega)) ?_ | refine WPl.rdX (ReadR.sliceL rfl rfl hasA (by omega)) ?_ | refine WPl.rdX (ReadR.sliceLH rfl rfl rfl hasA (by omega) (by omega)) ?_)
     | (refine WPl.spQ (fun hc => ?_) (fun hc => ?_) <;> try first | exact prA | (exfalso; first | omega))
     | fail)
    exact WPq.dR
theorem rnow_t (j : Nat) (h : RInv n k R) (hk0 : k ≤ 100000) (hn : n ≤ 100000) (hj : j < n) : Triple Try.prog 27 #[hD gX, .int .i64 (j : Int)] [rbx gX 51 (rdc R.vL R.vA R.vB R.fu R.wr), rdN R.vL R.L.length (valsV R.L), rdN R.vA R.Z.length (intsV (zAt R.Z)), rdN R.vB R.Z.length (valsV (zB R.Z))] (RVal (nowR R j).1) := by
  have c8 := rvers_t gX n k R (j : Int) h hk0
  have hnl := h.nl
  have hvl := vers_len (Z := R.Z) (i := (j : Int))
  have hlz := h.lz
  by_cases hv : (vers R.Z (j : Int)).length > 0
  · obtain ⟨q, hq⟩ : ∃ q, (vers R.Z (j : Int)).length = q + 1 := ⟨(vers R.Z (j : Int)).length - 1, by omega⟩
    have hx : (vers R.Z (j : Int))[q]? = some (nowR R j) := by
      unfold nowR
      rw [List.getLastD_eq_getLast?, List.getLast?_eq_getElem?, hq, Nat.add_sub_cancel, List.getElem?_eq_getElem (by omega)]
      rfl
    have hxv := valsV_at hx
    have hqi : ((vers R.Z (j : Int)).length : Int) - 1 = (q : Int) := by omega
    have hql : q < (vers R.Z (j : Int)).length := by omega
    have hgt : ((vers R.Z (j : Int)).length : Int) > 0 := by omega
    refine Triple.enter Try.func27 rfl Try.ntmps27 rfl (fun W => ?_)
    dsimp only [argsF, Nat.reduceAdd]
    repeat' (first
     | refine WPl.nil ?_ | refine WPq.then ?_ | refine WPq.thenR ?_ | refine WPq.thenE ?_ | refine WPq.blockN ?_ | refine WPq.blockR ?_ | refine WPq.blockE ?_ | refine WPq.blockO rfl ?_ | refine WPc.seq ?_ | refine WPc.block ?_ | refine WPc.ret ?_ | refine WPc.exit ?_ | refine WPc.skip ?_ | refine WPc.region ?_
     | (refine isCond ?_; first | refine WPc.cT ?_ | refine WPc.cF ?_ | (refine WPc.cQ (fun hc => ?_) (fun hc => ?_) <;> try exact prA))
     | (refine isC 8 ?_; refine WPl.cR c8 (fun v8 hv8 => ?_) (hΔ := provsW))
     | (refine isD 11 ?_; refine WPl.rdX (ReadR.binE rfl rfl BinR.gtr (congrArg Value.bool (decide_eq_true hgt))) ?_)
     | (refine isD 15 ?_; refine WPl.rdX (ReadR.binE rfl rfl (BinR.subI (by omega) (by omega)) (congrArg (Value.int .i64) hqi)) ?_)
     | (refine isD 16 ?_; refine WPl.rdX (ReadR.indexE1 (i := q) rfl rfl hasA hql) ?_)
     | (refine isD 17 ?_; refine WPl.rdX (ReadR.loadE rfl hasA hxv) ?_)
     | (refine isOp ?_; first | refine WPl.rd ?_ | refine WPl.sk ?_ | refine WPl.rdB ?_)
     | (show WPl _ _ _ _ _ _ _ (⟨_, .indexAddr _ _ _, _, _, _, _⟩ :: _) _; refine WPl.rdX (ReadR.indexE rfl rfl hasA (by first | assumption | omega)) ?_)
     | (show WPl _ _ _ _ _ _ _ (⟨_, .fieldAddr _ _ _, _, _, _, _⟩ :: _) _; refine WPl.rdX (ReadR.fieldE rfl hasA (by first | assumption | omega)) ?_)
     | (show WPl _ _ _ _ _ _ _ (⟨_, .load _ _, _, _, _, _⟩ :: _) _; first | refine WPl.rdX (ReadR.loadE rfl hasA (by assumption)) ?_ | refine WPl.rdX (ReadR.loadES (by assumption) (by first | assumption | omega) rfl hasA) ?_)
     | (show WPl _ _ _ _ _ _ _ (⟨_, .slice _ _ _ _ _, _, _, _, _⟩ :: _) _; first | refine WPl.rdX (ReadR.sliceH rfl rfl hasA (by omega)) ?_ | refine WPl.rdX (ReadR.sliceL rfl rfl hasA (by omega)) ?_ | refine WPl.rdX (ReadR.sliceLH rfl rfl rfl hasA (by omega) (by omega)) ?_)
     | (refine WPl.spQ (fun hc => ?_) (fun hc => ?_) <;> try exact prA)
     | fail)
    exact WPq.dV
  · have hjl : j < R.L.length := by omega
    have hx : R.L[j]? = some (nowR R j) := by
      unfold nowR
      rw [List.length_eq_zero_iff.1 (show (vers R.Z (j : Int)).length = 0 by omega), List.getLastD_nil, List.getD_eq_getElem?_getD, List.getElem?_eq_getElem hjl]
      rfl
    have hxv := valsV_at hx
    have hgt : ¬ ((vers R.Z (j : Int)).length : Int) > 0 := by omega
    refine Triple.enter Try.func27 rfl Try.ntmps27 rfl (fun W => ?_)
    dsimp only [argsF, Nat.reduceAdd]
    repeat' (first
     | refine WPl.nil ?_ | refine WPq.then ?_ | refine WPq.thenR ?_ | refine WPq.thenE ?_ | refine WPq.blockN ?_ | refine WPq.blockR ?_ | refine WPq.blockE ?_ | refine WPq.blockO rfl ?_ | refine WPc.seq ?_ | refine WPc.block ?_ | refine WPc.ret ?_ | refine WPc.exit ?_ | refine WPc.skip ?_ | refine WPc.region ?_
     | (refine isCond ?_; first | refine WPc.cT ?_ | refine WPc.cF ?_ | (refine WPc.cQ (fun hc => ?_) (fun hc => ?_) <;> try exact prA))
     | (refine isC 8 ?_; refine WPl.cR c8 (fun v8 hv8 => ?_) (hΔ := provsW))
     | (refine isD 11 ?_; refine WPl.rdX (ReadR.binE rfl rfl BinR.gtr (congrArg Value.bool (decide_eq_false hgt))) ?_)
     | (refine isD 21 ?_; refine WPl.rdX (ReadR.loadO memA rfl rfl) ?_)
     | (refine isD 23 ?_; refine WPl.rdX (ReadR.indexE1 (i := j) rfl rfl hasA hjl) ?_)
     | (refine isD 24 ?_; refine WPl.rdX (ReadR.loadE rfl hasA hxv) ?_)
     | (refine isOp ?_; first | refine WPl.rd ?_ | refine WPl.sk ?_ | refine WPl.rdB ?_)
     | (show WPl _ _ _ _ _ _ _ (⟨_, .indexAddr _ _ _, _, _, _, _⟩ :: _) _; refine WPl.rdX (ReadR.indexE rfl rfl hasA (by first | assumption | omega)) ?_)
     | (show WPl _ _ _ _ _ _ _ (⟨_, .fieldAddr _ _ _, _, _, _, _⟩ :: _) _; refine WPl.rdX (ReadR.fieldE rfl hasA (by first | assumption | omega)) ?_)
     | (show WPl _ _ _ _ _ _ _ (⟨_, .load _ _, _, _, _, _⟩ :: _) _; first | refine WPl.rdX (ReadR.loadE rfl hasA (by assumption)) ?_ | refine WPl.rdX (ReadR.loadES (by assumption) (by first | assumption | omega) rfl hasA) ?_)
     | (show WPl _ _ _ _ _ _ _ (⟨_, .slice _ _ _ _ _, _, _, _, _⟩ :: _) _; first | refine WPl.rdX (ReadR.sliceH rfl rfl hasA (by omega)) ?_ | refine WPl.rdX (ReadR.sliceL rfl rfl hasA (by omega)) ?_ | refine WPl.rdX (ReadR.sliceLH rfl rfl rfl hasA (by omega) (by omega)) ?_)
     | (refine WPl.spQ (fun hc => ?_) (fun hc => ?_) <;> try exact prA)
     | fail)
    exact WPq.dV
theorem rhas_t (i : Int) (hn : R.L.length ≤ 1000000) : Triple Try.prog 70 #[hD gX, .int .i64 i] [rbx gX 51 (rdc R.vL R.vA R.vB R.fu R.wr), rdN R.vL R.L.length (valsV R.L)] (RVal (.bool (decide (0 ≤ i) && decide (i < (R.L.length : Int))))) := by
  by_cases h0 : i ≥ 0
  · have h0' : 0 ≤ i := h0
    refine Triple.enter Try.func70 rfl Try.ntmps70 rfl (fun W => ?_)
    dsimp only [argsF, Nat.reduceAdd]
    repeat' (first
     | refine WPl.nil ?_ | refine WPq.then ?_ | refine WPq.thenR ?_ | refine WPq.thenE ?_ | refine WPq.blockN ?_ | refine WPq.blockR ?_ | refine WPq.blockE ?_ | refine WPq.blockO rfl ?_ | refine WPc.seq ?_ | refine WPc.block ?_ | refine WPc.ret ?_ | refine WPc.exit ?_ | refine WPc.skip ?_ | refine WPc.region ?_
     | (refine isCond ?_; first | refine WPc.cT ?_ | refine WPc.cF ?_ | (refine WPc.cQ (fun hc => ?_) (fun hc => ?_) <;> try exact prA))
     | (refine isD 6 ?_; refine WPl.rdX (ReadR.binE rfl rfl BinR.geq (congrArg Value.bool (decide_eq_true h0))) ?_)
     | (refine isD 12 ?_; refine WPl.rdX (ReadR.loadO memA rfl rfl) ?_)
     | (refine isOp ?_; first | refine WPl.rd ?_ | refine WPl.sk ?_ | refine WPl.rdB ?_)
     | (show WPl _ _ _ _ _ _ _ (⟨_, .indexAddr _ _ _, _, _, _, _⟩ :: _) _; refine WPl.rdX (ReadR.indexE rfl rfl hasA (by first | assumption | omega)) ?_)
     | (show WPl _ _ _ _ _ _ _ (⟨_, .fieldAddr _ _ _, _, _, _, _⟩ :: _) _; refine WPl.rdX (ReadR.fieldE rfl hasA (by first | assumption | omega)) ?_)
     | (show WPl _ _ _ _ _ _ _ (⟨_, .load _ _, _, _, _, _⟩ :: _) _; first | refine WPl.rdX (ReadR.loadE rfl hasA (by assumption)) ?_ | refine WPl.rdX (ReadR.loadES (by assumption) (by first | assumption | omega) rfl hasA) ?_)
     | (show WPl _ _ _ _ _ _ _ (⟨_, .slice _ _ _ _ _, _, _, _, _⟩ :: _) _; first | refine WPl.rdX (ReadR.sliceH rfl rfl hasA (by omega)) ?_ | refine WPl.rdX (ReadR.sliceL rfl rfl hasA (by omega)) ?_ | refine WPl.rdX (ReadR.sliceLH rfl rfl rfl hasA (by omega) (by omega)) ?_)
     | (refine WPl.spQ (fun hc => ?_) (fun hc => ?_) <;> try exact prA)
     | fail)
    exact WPq.dV (hc := by simp [resV, h0'])
  · have h0' : ¬ 0 ≤ i := h0
    refine Triple.enter Try.func70 rfl Try.ntmps70 rfl (fun W => ?_)
    dsimp only [argsF, Nat.reduceAdd]
    repeat' (first
     | refine WPl.nil ?_ | refine WPq.then ?_ | refine WPq.thenR ?_ | refine WPq.thenE ?_ | refine WPq.blockN ?_ | refine WPq.blockR ?_ | refine WPq.blockE ?_ | refine WPq.blockO rfl ?_ | refine WPc.seq ?_ | refine WPc.block ?_ | refine WPc.ret ?_ | refine WPc.exit ?_ | refine WPc.skip ?_ | refine WPc.region ?_
     | (refine isCond ?_; first | refine WPc.cT ?_ | refine WPc.cF ?_ | (refine WPc.cQ (fun hc => ?_) (fun hc => ?_) <;> try exact prA))
     | (refine isD 6 ?_; refine WPl.rdX (ReadR.binE rfl rfl BinR.geq (congrArg Value.bool (decide_eq_false h0))) ?_)
     | (refine isOp ?_; first | refine WPl.rd ?_ | refine WPl.sk ?_ | refine WPl.rdB ?_)
     | (show WPl _ _ _ _ _ _ _ (⟨_, .indexAddr _ _ _, _, _, _, _⟩ :: _) _; refine WPl.rdX (ReadR.indexE rfl rfl hasA (by first | assumption | omega)) ?_)
     | (show WPl _ _ _ _ _ _ _ (⟨_, .fieldAddr _ _ _, _, _, _, _⟩ :: _) _; refine WPl.rdX (ReadR.fieldE rfl hasA (by first | assumption | omega)) ?_)
     | (show WPl _ _ _ _ _ _ _ (⟨_, .load _ _, _, _, _, _⟩ :: _) _; first | refine WPl.rdX (ReadR.loadE rfl hasA (by assumption)) ?_ | refine WPl.rdX (ReadR.loadES (by assumption) (by first | assumption | omega) rfl hasA) ?_)
     | (show WPl _ _ _ _ _ _ _ (⟨_, .slice _ _ _ _ _, _, _, _, _⟩ :: _) _; first | refine WPl.rdX (ReadR.sliceH rfl rfl hasA (by omega)) ?_ | refine WPl.rdX (ReadR.sliceL rfl rfl hasA (by omega)) ?_ | refine WPl.rdX (ReadR.sliceLH rfl rfl rfl hasA (by omega) (by omega)) ?_)
     | (refine WPl.spQ (fun hc => ?_) (fun hc => ?_) <;> try exact prA)
     | fail)
    exact WPq.dV (hc := by simp [resV, h0'])
end
end Go.Proofs.Ytepmikgjnmjheaa
