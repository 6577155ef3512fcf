/- What the row of farmPlays_holds needs: part 9. -/
import Derived.Test.YtpjfkomicehinaaFPl8
/- Layer 20: the reference: AddBackend. -/
namespace Go.Proofs.Ytpjfkomicehinaa
theorem shC_split {s : Sh} {v : Value} : flat (shC s v) = ([.int .i64 s.id, .bool s.ad.six] ++ u8s s.ad.b ++ [.int .u16 (s.port : Int), .int .u8 ((s.proto.toNat : Nat) : Int), .int .i64 s.bits, .int .u64 s.lasts]) ++ [v] := by simp [flat_eq]
theorem sh22l {s : Sh} : ([.int .i64 s.id, .bool s.ad.six] ++ u8s s.ad.b ++ [.int .u16 (s.port : Int), .int .u8 ((s.proto.toNat : Nat) : Int), .int .i64 s.bits, .int .u64 s.lasts] : List Value).length = 22 := by simp [u8s_length, s.ad.len]
theorem sh22 {s : Sh} {v : Value} : (flat (shC s v))[22]? = some v := by
  rw [shC_split, List.getElem?_append_right (by rw [sh22l]; omega), sh22l]
  rfl
theorem sh22s {s : Sh} {v v' : Value} : flat (shC s v') = (flat (shC s v)).set 22 v' := by
  rw [shC_split, shC_split (v := v), List.set_append_right _ _ (by rw [sh22l]; omega), sh22l]
  rfl
theorem svs_set {L : List SX} {i : Nat} {x : SX} (h : L[i]? = some x) (v' : Value) (bs' : List Bk) : (svs L).set (i * 23 + 22) v' = svs (L.set i ⟨v', x.s, bs'⟩) := by
  unfold svs
  refine rows_set (f := fun x : SX => flat (shC x.s x.v)) svC_len (o := 22) (u := v') ?_ (by omega) h
  exact sh22s
theorem updR_set {L : List SX} {i : Nat} {x : SX} {id : Int} (hs : SrtL (L.map SX.sb)) (hx : L[i]? = some x) (hi : x.s.id = id) (v' : Value) (f : List Bk → List Bk) : updB (L.map SX.sb) id f = (L.set i ⟨v', x.s, f x.bs⟩).map SX.sb := by
  have hil := (List.getElem?_eq_some_iff.1 hx).1
  apply List.ext_getElem?
  intro j
  unfold updB
  rw [List.getElem?_map, List.getElem?_map, List.getElem?_map, List.getElem?_set]
  by_cases hij : i = j
  · subst hij
    rw [if_pos rfl, if_pos hil, hx]
    show some (if x.s.id = id then _ else _) = _
    rw [if_pos hi]
    rfl
  · rw [if_neg hij]
    cases hj : L[j]? with
    | none => rfl
    | some z =>
      show some (if z.s.id = id then _ else _) = _
      rw [if_neg]
      · rfl
      intro he
      have h1 : (L.map SX.sb)[j]? = some z.sb := by rw [List.getElem?_map, hj]; rfl
      have h2 : (L.map SX.sb)[i]? = some x.sb := by rw [List.getElem?_map, hx]; rfl
      obtain ⟨q1, e1⟩ := List.getElem?_eq_some_iff.1 h1
      obtain ⟨q2, e2⟩ := List.getElem?_eq_some_iff.1 h2
      have hzx : z.sb.s.id = x.sb.s.id := he.trans hi.symm
      rcases Nat.lt_or_gt_of_ne hij with hl | hl
      · have := List.pairwise_iff_getElem.1 hs i j q2 q1 hl
        rw [e1, e2] at this
        omega
      · have := List.pairwise_iff_getElem.1 hs j i q1 q2 hl
        rw [e1, e2] at this
        omega
theorem RGok_set {K : RG} (hK : RGok K) {i : Nat} {v' : Value} {s : Sh} {bs : List Bk} (hv : v'.oneCell' = true) : RGok ⟨K.vL, K.L.set i ⟨v', s, bs⟩, (v', bs) :: K.B⟩ := fun y hy => by
  rcases List.mem_or_eq_of_mem_set hy with hy | rfl
  · exact ⟨(hK y hy).1, List.mem_cons_of_mem _ (hK y hy).2⟩
  · exact ⟨hv, List.mem_cons_self ..⟩
theorem hasI_hasB {l : List Bk} {id : Int} : hasB l id = (hasI l id).isSome := by
  unfold hasB hasI
  rw [List.findIdx?_isSome]
theorem insB_of {l : List Bk} {c : Bk} {i : Nat} (h1 : ∀ k b, k < i → l[k]? = some b → b.id < c.id) (h2 : ∀ k b, i ≤ k → l[k]? = some b → ¬ b.id < c.id) : insB c l = l.take i ++ c :: l.drop i := by
  obtain ⟨f1, f2⟩ := fsplit (l := l) (q := fun b => decide (b.id < c.id)) (i := i) (fun k b hk hb => decide_eq_true (h1 k b hk hb)) (fun k b hk hb => decide_eq_false (h2 k b hk hb))
  unfold insB
  rw [f1, f2]
theorem bks_sub {l : List Bk} {k j : Nat} (h : k + j ≤ l.length) : ((bks l).drop (k * 21)).take (j * 21) = bks ((l.drop k).take j) := by unfold bks; exact rows_sub (c := bkC) bkC_len l k j h
theorem bksT {D : List Bk} {i : Nat} (h : i ≤ D.length) : ((bks D).drop (0 * 21)).take (i * 21) = bks (D.take i) := by
  have := bks_sub (l := D) (k := 0) (j := i) (by omega)
  rwa [List.drop_zero] at this
theorem bksD {D : List Bk} {i k : Nat} (h : i + k = D.length) : ((bks D).drop (i * 21)).take (k * 21) = bks (D.drop i) := by
  have := bks_sub (l := D) (k := i) (j := k) (by omega)
  rwa [List.take_of_length_le (l := D.drop i) (by rw [List.length_drop]; omega)] at this
theorem bks_ones {D : List Bk} : ∀ u ∈ bks D, u.oneCell' = true := fun u hu => by
  unfold bks at hu
  obtain ⟨L, hL, hu⟩ := List.mem_flatten.1 hu
  obtain ⟨c, hc, rfl⟩ := List.mem_map.1 hL
  exact (bkC_ok c).one u hu
open Go.RowKit
set_option linter.unusedSimpArgs false
set_option linter.unusedVariables false
set_option maxRecDepth 20000
set_option maxHeartbeats 4000000
attribute [local irreducible] WPc WPl WPq ReadR OpT BinR HasS bx rdN rowN Take Takes Prov Triple ResF BuildP Done ag Int.decLt Int.decLe Int.instDecidableEq
attribute [local irreducible] mp rmp rg rgo mput mget mfind mdel gbag bks ies svs insB
section
variable (gX : Nat) (K : RG) (hK : RGok K) (hm : K.L.length ≤ 1000) (hv0 : K.vL.oneCell' = true)
include hK hm hv0
theorem raddB_t (hs : SrtL K.sb) (hbs : ∀ x ∈ K.L, SrtB x.bs ∧ x.bs.length ≤ 16) (id : Int) (b : Bk) : Triple Try.prog 34 #[hF gX, .int .i64 id, ag (bkC b)] (rfA gX K) (RXm gX (addB K.sb id b).2 (addB K.sb id b).1) := by
  have c12 := rat20_t gX K.vL K.L hm id
  have hcl := svs_len (l := K.L)
  have hbl := b.ad.len
  cases hat : atR K.L id with
  | none =>
    rw [hat] at c12
    have c12 : Triple Try.prog 40 #[hF gX, .int .i64 id] [rbx gX 49 (rfc K.vL), rdN K.vL K.L.length (svs K.L)] (RVal (.int .i64 (-1))) := c12
    have e : addB K.sb id b = (K.sb, 6) := by unfold addB; rw [atR_no hat]
    rw [e]
    refine Triple.enter Try.func34 rfl Try.ntmps34 rfl (fun W => ?_)
    dsimp only [argsF, Nat.reduceAdd]
    repeat' (first
     | refine WPl.nil ?_ | refine WPq.then ?_ | refine WPq.thenR ?_ | refine WPq.thenE ?_ | refine WPq.blockN ?_ | refine WPq.blockR ?_ | refine WPq.blockE ?_ | refine WPq.blockO rfl ?_ | refine WPc.seq ?_ | refine WPc.block ?_ | refine WPc.ret ?_ | refine WPc.exit ?_ | refine WPc.skip ?_ | refine WPc.region ?_
     | (refine isCond ?_; first | refine WPc.cT ?_ | refine WPc.cF ?_ | (refine WPc.cQ (fun hc => ?_) (fun hc => ?_) <;> try exact prA))
     | (refine isC 12 ?_; refine WPl.cV c12 ?_ (hΔ := provsX))
     | (refine isD 14 ?_; refine WPl.rdX (ReadR.binE rfl rfl BinR.lss (congrArg Value.bool (decide_eq_true (show (-1 : Int) < 0 by decide)))) ?_)
     | (refine isOp ?_; first | refine WPl.rd ?_ | refine WPl.sk ?_ | refine WPl.rdB ?_)
     | (refine isBx ?_; refine WPl.nw fun g => ?_)
     | (refine isSt ?_; first | refine WPl.st1 ?_ | refine WPl.stA ?_ | refine WPl.stEB ?_ | refine WPl.stRB ?_)
     | (show WPl _ _ _ _ _ _ _ (⟨_, .indexAddr _ _ _, _, _, _, _⟩ :: _) _; refine WPl.rdX (ReadR.indexE rfl rfl hasA (by first | assumption | omega)) ?_)
     | (show WPl _ _ _ _ _ _ _ (⟨_, .fieldAddr _ _ _, _, _, _, _⟩ :: _) _; refine WPl.rdX (ReadR.fieldE rfl hasA (by first | assumption | omega)) ?_)
     | (show WPl _ _ _ _ _ _ _ (⟨_, .load _ _, _, _, _, _⟩ :: _) _; first | refine WPl.rdX (ReadR.loadE rfl hasA (by assumption)) ?_ | refine WPl.rdX (ReadR.loadES (by assumption) (by first | assumption | omega) rfl hasA) ?_)
     | (show WPl _ _ _ _ _ _ _ (⟨_, .slice _ _ _ _ _, _, _, _, _⟩ :: _) _; first | refine WPl.rdX (ReadR.sliceH rfl rfl hasA (by omega)) ?_ | refine WPl.rdX (ReadR.sliceL rfl rfl hasA (by omega)) ?_ | refine WPl.rdX (ReadR.sliceLH rfl rfl rfl hasA (by omega) (by omega)) ?_)
     | (refine WPl.spQ (fun hc => ?_) (fun hc => ?_) <;> try exact prA)
     | fail)
    exact WPq.dX (vs := [.int .i64 6]) (rfA gX K) ⟨K, rfl, hK, rfl, hv0, rfl⟩ (ho := rfA_own)
  | some i =>
    rw [hat] at c12
    obtain ⟨x, hx, hxi⟩ := atR_some hat
    have hil := (List.getElem?_eq_some_iff.1 hx).1
    have hxm := List.mem_of_getElem? hx
    have c12 : Triple Try.prog 40 #[hF gX, .int .i64 id] [rbx gX 49 (rfc K.vL), rdN K.vL K.L.length (svs K.L)] (RVal (.int .i64 (i : Int))) := c12
    have hi0 : ¬ (i : Int) < 0 := by omega
    have hfd := atR_find hat hx
    have hx3 := svs_at hx
    have hxl := x.s.ad.len
    have hx22 : (svs K.L)[i * 23 + 22]? = some x.v := by
      rw [svs_cell hx (by omega)]
      exact sh22
    obtain ⟨hxv, hxB⟩ := hK x hxm
    obtain ⟨hsx, hlx⟩ := hbs x hxm
    obtain ⟨BA, BB, hBB⟩ := List.append_of_mem hxB
    have hpp : K.B.Perm ((x.v, x.bs) :: (BA ++ BB)) := by rw [hBB]; exact List.perm_middle
    have hfx := shC_ok (s := x.s) hxv
    have c23 := rcan_t x.s x.v hxv b
    have c34 := rhas_t x.s x.v hxv x.bs (by omega) b.id
    have hL := bks_len (l := x.bs)
    cases hcan : canB x.s b with
    | false =>
      rw [hcan] at c23
      have e : addB K.sb id b = (K.sb, 1) := by unfold addB; rw [hfd]; show (if canB x.s b = true then _ else _) = _; rw [hcan]; rfl
      rw [e]
      refine Triple.enter Try.func34 rfl Try.ntmps34 rfl (fun W => ?_)
      dsimp only [argsF, Nat.reduceAdd]
      repeat' (first
       | refine WPl.nil ?_ | refine WPq.then ?_ | refine WPq.thenR ?_ | refine WPq.thenE ?_ | refine WPq.blockN ?_ | refine WPq.blockR ?_ | refine WPq.blockE ?_ | refine WPq.blockO rfl ?_ | refine WPc.seq ?_ | refine WPc.block ?_ | refine WPc.ret ?_ | refine WPc.exit ?_ | refine WPc.skip ?_ | refine WPc.region ?_
       | (refine isReg 4 ?_; refine WPc.drA [([], [19, 22]), ([0], [15, 19, 22]), ([0, 1], [15, 16, 19, 22]), ([0, 1, 2], [15, 16, 17, 19, 22]), ([], [15, 16, 17, 18, 22]), ([0, 1, 2, 3, 4], [15, 16, 17, 18, 19, 22]), ([0, 1, 2, 3, 4, 5], [15, 16, 17, 18, 19, 20, 22]), ([], [15, 16, 17, 18, 19, 20, 21]), ([0, 1, 2, 3, 4, 5, 6, 7], [15, 16, 17, 18, 19, 20, 21, 22]), ([0, 1, 2, 3, 4, 5, 6, 7, 8], [15, 16, 17, 18, 19, 20, 21, 22, 23])] [] (Γx := []) ?_; dsimp only [prev0, List.length_nil, List.length_cons])
       | (refine gAny ?_; first | (refine gC 23 ?_; refine RGl.vl (fun e hk => OpT.callN (c23)) ?_) | (refine gD 14 ?_; refine RGl.rdX (fun e hk => by (try dsimp only [bndR, ensR, oksR, fcutR, List.append_nil, List.nil_append, List.cons_append, List.append_assoc] at hk ⊢); exact ReadR.binE rfl rfl BinR.lss (congrArg Value.bool (decide_eq_false hi0))) ?_) | (refine gD 20 ?_; refine RGl.rdX (fun e hk => by (try dsimp only [bndR, ensR, oksR, fcutR, List.append_nil, List.nil_append, List.cons_append, List.append_assoc] at hk ⊢); exact ReadR.indexE (i := i) rfl rfl hasA hil) ?_) | (refine gD 21 ?_; refine RGl.rdX (fun e hk => by (try dsimp only [bndR, ensR, oksR, fcutR, List.append_nil, List.nil_append, List.cons_append, List.append_assoc] at hk ⊢); exact ReadR.loadES (cs := shC x.s x.v) hx3 (by omega) rfl hasA) ?_) | (refine gOp ?_; first | refine RGl.rdA ?_ | refine RGl.rdX (fun e hk => by (try dsimp only [bndR, ensR, oksR, fcutR, List.append_nil, List.nil_append, List.cons_append, List.append_assoc] at hk ⊢); exact readB) ?_) | (refine RGl.fin (fun e hk => ?_); (try dsimp only [bndA, ensAR, oksA, List.append_nil, List.nil_append, List.cons_append, List.append_assoc] at hk ⊢); (repeat (obtain ⟨hk1, hk⟩ := hk))) | fail)
       | (refine isCond ?_; first | refine WPc.cT ?_ | refine WPc.cF ?_ | (refine WPc.cQ (fun hc => ?_) (fun hc => ?_) <;> try exact prA))
       | (refine isC 12 ?_; refine WPl.cV c12 ?_ (hΔ := provsX))
       | (refine isD 14 ?_; refine WPl.rdX (ReadR.binE rfl rfl BinR.lss (congrArg Value.bool (decide_eq_false hi0))) ?_)
       | (refine isD 20 ?_; refine WPl.rdX (ReadR.indexE (i := i) rfl rfl hasA hil) ?_)
       | (refine isD 21 ?_; refine WPl.rdX (ReadR.loadES (cs := shC x.s x.v) hx3 (by omega) rfl hasA) ?_)
       | (refine isC 23 ?_; refine WPl.cV (c23) ?_)
       | (refine isOp ?_; first | refine WPl.rd ?_ | refine WPl.sk ?_ | refine WPl.rdB ?_)
       | (refine isBx ?_; refine WPl.nw fun g => ?_)
       | (refine isSt ?_; first | refine WPl.st1 ?_ | refine WPl.stA ?_ | refine WPl.stEB ?_ | refine WPl.stRB ?_)
       | (show WPl _ _ _ _ _ _ _ (⟨_, .indexAddr _ _ _, _, _, _, _⟩ :: _) _; refine WPl.rdX (ReadR.indexE rfl rfl hasA (by first | assumption | omega)) ?_)
       | (show WPl _ _ _ _ _ _ _ (⟨_, .fieldAddr _ _ _, _, _, _, _⟩ :: _) _; refine WPl.rdX (ReadR.fieldE rfl hasA (by first | assumption | omega)) ?_)
       | (show WPl _ _ _ _ _ _ _ (⟨_, .load _ _, _, _, _, _⟩ :: _) _; first | refine WPl.rdX (ReadR.loadE rfl hasA (by assumption)) ?_ | refine WPl.rdX (ReadR.loadES (by assumption) (by first | assumption | omega) rfl hasA) ?_)
       | (show WPl _ _ _ _ _ _ _ (⟨_, .slice _ _ _ _ _, _, _, _, _⟩ :: _) _; first | refine WPl.rdX (ReadR.sliceH rfl rfl hasA (by omega)) ?_ | refine WPl.rdX (ReadR.sliceL rfl rfl hasA (by omega)) ?_ | refine WPl.rdX (ReadR.sliceLH rfl rfl rfl hasA (by omega) (by omega)) ?_)
       | (refine WPl.spQ (fun hc => ?_) (fun hc => ?_) <;> try exact prA)
       | fail)
      exact WPq.dX (vs := [.int .i64 1]) (rfA gX K) ⟨K, rfl, hK, rfl, hv0, rfl⟩ (ho := rfA_own)
    | true =>
    rw [hcan] at c23
    cases hha : hasI x.bs b.id with
    | some k =>
      rw [hha] at c34
      have c34 : Triple Try.prog 41 #[ag (shC x.s x.v), .int .i64 b.id] [rdN x.v x.bs.length (bks x.bs)] (RVal (.int .i64 (k : Int))) := c34
      have e : addB K.sb id b = (K.sb, 7) := by unfold addB; rw [hfd]; show (if canB x.s b = true then (if hasB x.bs b.id = true then _ else _) else _) = _; rw [hcan, hasI_hasB, hha]; rfl
      rw [e]
      have hk0' : (k : Int) ≥ 0 := by omega
      refine Triple.enter Try.func34 rfl Try.ntmps34 rfl (fun W => ?_)
      dsimp only [argsF, Nat.reduceAdd]
      refine WPc.gbagO (row := brow) brow_own hpp ?_
      rw [show brow (x.v, x.bs) = [rowN 36 21 x.v x.bs.length (bks x.bs)] from rfl, List.cons_append, List.nil_append]
      repeat' (first
       | refine WPl.nil ?_ | refine WPq.then ?_ | refine WPq.thenR ?_ | refine WPq.thenE ?_ | refine WPq.blockN ?_ | refine WPq.blockR ?_ | refine WPq.blockE ?_ | refine WPq.blockO rfl ?_ | refine WPc.seq ?_ | refine WPc.block ?_ | refine WPc.ret ?_ | refine WPc.exit ?_ | refine WPc.skip ?_ | refine WPc.region ?_
       | (refine isReg 4 ?_; refine WPc.drA [([], [19, 22]), ([0], [15, 19, 22]), ([0, 1], [15, 16, 19, 22]), ([0, 1, 2], [15, 16, 17, 19, 22]), ([], [15, 16, 17, 18, 22]), ([0, 1, 2, 3, 4], [15, 16, 17, 18, 19, 22]), ([0, 1, 2, 3, 4, 5], [15, 16, 17, 18, 19, 20, 22]), ([], [15, 16, 17, 18, 19, 20, 21]), ([0, 1, 2, 3, 4, 5, 6, 7], [15, 16, 17, 18, 19, 20, 21, 22]), ([0, 1, 2, 3, 4, 5, 6, 7, 8], [15, 16, 17, 18, 19, 20, 21, 22, 23])] [] (Γx := []) ?_; dsimp only [prev0, List.length_nil, List.length_cons])
       | (refine isReg 6 ?_; refine WPc.drA [([], [29, 32, 33]), ([0], [25, 29, 32, 33]), ([0, 1], [25, 26, 29, 32, 33]), ([0, 1, 2], [25, 26, 27, 29, 32, 33]), ([], [25, 26, 27, 28, 32, 33]), ([0, 1, 2, 3, 4], [25, 26, 27, 28, 29, 32, 33]), ([0, 1, 2, 3, 4, 5], [25, 26, 27, 28, 29, 30, 32, 33]), ([], [25, 26, 27, 28, 29, 30, 31]), ([7], [25, 26, 27, 28, 29, 30, 31, 32]), ([0, 1, 2, 3, 4, 5, 6, 7, 8], [25, 26, 27, 28, 29, 30, 31, 32, 33]), ([0, 1, 2, 3, 4, 5, 6, 7, 8, 9], [25, 26, 27, 28, 29, 30, 31, 32, 33, 34])] [] (Γx := []) ?_; dsimp only [prev0, List.length_nil, List.length_cons])
       | (refine gAny ?_; first | (refine gC 23 ?_; refine RGl.vl (fun e hk => OpT.callN (c23)) ?_) | (refine gC 34 ?_; refine RGl.vl (fun e hk => OpT.callN (c34)) ?_) | (refine gD 14 ?_; refine RGl.rdX (fun e hk => by (try dsimp only [bndR, ensR, oksR, fcutR, List.append_nil, List.nil_append, List.cons_append, List.append_assoc] at hk ⊢); exact ReadR.binE rfl rfl BinR.lss (congrArg Value.bool (decide_eq_false hi0))) ?_) | (refine gD 20 ?_; refine RGl.rdX (fun e hk => by (try dsimp only [bndR, ensR, oksR, fcutR, List.append_nil, List.nil_append, List.cons_append, List.append_assoc] at hk ⊢); exact ReadR.indexE (i := i) rfl rfl hasA hil) ?_) | (refine gD 21 ?_; refine RGl.rdX (fun e hk => by (try dsimp only [bndR, ensR, oksR, fcutR, List.append_nil, List.nil_append, List.cons_append, List.append_assoc] at hk ⊢); exact ReadR.loadES (cs := shC x.s x.v) hx3 (by omega) rfl hasA) ?_) | (refine gD 30 ?_; refine RGl.rdX (fun e hk => by (try dsimp only [bndR, ensR, oksR, fcutR, List.append_nil, List.nil_append, List.cons_append, List.append_assoc] at hk ⊢); exact ReadR.indexE (i := i) rfl rfl hasA hil) ?_) | (refine gD 31 ?_; refine RGl.rdX (fun e hk => by (try dsimp only [bndR, ensR, oksR, fcutR, List.append_nil, List.nil_append, List.cons_append, List.append_assoc] at hk ⊢); exact ReadR.loadES (cs := shC x.s x.v) hx3 (by omega) rfl hasA) ?_) | (refine gD 35 ?_; refine RGl.rdX (fun e hk => by (try dsimp only [bndR, ensR, oksR, fcutR, List.append_nil, List.nil_append, List.cons_append, List.append_assoc] at hk ⊢); exact ReadR.binE rfl rfl BinR.geq (congrArg Value.bool (decide_eq_true hk0'))) ?_) | (refine gOp ?_; first | refine RGl.rdA ?_ | refine RGl.rdX (fun e hk => by (try dsimp only [bndR, ensR, oksR, fcutR, List.append_nil, List.nil_append, List.cons_append, List.append_assoc] at hk ⊢); exact readB) ?_) | (refine RGl.fin (fun e hk => ?_); (try dsimp only [bndA, ensAR, oksA, List.append_nil, List.nil_append, List.cons_append, List.append_assoc] at hk ⊢); (repeat (obtain ⟨hk1, hk⟩ := hk))) | fail)
       | (refine isCond ?_; first | refine WPc.cT ?_ | refine WPc.cF ?_ | (refine WPc.cQ (fun hc => ?_) (fun hc => ?_) <;> try exact prA))
       | (refine isC 12 ?_; refine WPl.cV c12 ?_ (hΔ := provsX))
       | (refine isD 14 ?_; refine WPl.rdX (ReadR.binE rfl rfl BinR.lss (congrArg Value.bool (decide_eq_false hi0))) ?_)
       | (refine isD 20 ?_; refine WPl.rdX (ReadR.indexE (i := i) rfl rfl hasA hil) ?_)
       | (refine isD 21 ?_; refine WPl.rdX (ReadR.loadES (cs := shC x.s x.v) hx3 (by omega) rfl hasA) ?_)
       | (refine isC 23 ?_; refine WPl.cV (c23) ?_)
       | (refine isD 30 ?_; refine WPl.rdX (ReadR.indexE (i := i) rfl rfl hasA hil) ?_)
       | (refine isD 31 ?_; refine WPl.rdX (ReadR.loadES (cs := shC x.s x.v) hx3 (by omega) rfl hasA) ?_)
       | (refine isC 34 ?_; refine WPl.cV (c34) ?_)
       | (refine isD 35 ?_; refine WPl.rdX (ReadR.binE rfl rfl BinR.geq (congrArg Value.bool (decide_eq_true hk0'))) ?_)
       | (refine isOp ?_; first | refine WPl.rd ?_ | refine WPl.sk ?_ | refine WPl.rdB ?_)
       | (refine isBx ?_; refine WPl.nw fun g => ?_)
       | (refine isSt ?_; first | refine WPl.st1 ?_ | refine WPl.stA ?_ | refine WPl.stEB ?_ | refine WPl.stRB ?_)
       | (show WPl _ _ _ _ _ _ _ (⟨_, .indexAddr _ _ _, _, _, _, _⟩ :: _) _; refine WPl.rdX (ReadR.indexE rfl rfl hasA (by first | assumption | omega)) ?_)
       | (show WPl _ _ _ _ _ _ _ (⟨_, .fieldAddr _ _ _, _, _, _, _⟩ :: _) _; refine WPl.rdX (ReadR.fieldE rfl hasA (by first | assumption | omega)) ?_)
       | (show WPl _ _ _ _ _ _ _ (⟨_, .load _ _, _, _, _, _⟩ :: _) _; first | refine WPl.rdX (ReadR.loadE rfl hasA (by assumption)) ?_ | refine WPl.rdX (ReadR.loadES (by assumption) (by first | assumption | omega) rfl hasA) ?_)
       | (show WPl _ _ _ _ _ _ _ (⟨_, .slice _ _ _ _ _, _, _, _, _⟩ :: _) _; first | refine WPl.rdX (ReadR.sliceH rfl rfl hasA (by omega)) ?_ | refine WPl.rdX (ReadR.sliceL rfl rfl hasA (by omega)) ?_ | refine WPl.rdX (ReadR.sliceLH rfl rfl rfl hasA (by omega) (by omega)) ?_)
       | (refine WPl.spQ (fun hc => ?_) (fun hc => ?_) <;> try exact prA)
       | fail)
      refine WPq.gbagI (row := brow) (es := K.B) (es' := BA ++ BB) (x := (x.v, x.bs)) brow_own hpp (by show Takes _ [gbag brow (BA ++ BB), rowN 36 21 x.v x.bs.length (bks x.bs)] _; exact takesA) ?_
      exact WPq.dX (vs := [.int .i64 7]) (rfA gX K) ⟨K, rfl, hK, rfl, hv0, rfl⟩ (ho := rfA_own)
    | none =>
    rw [hha] at c34
    have c34 : Triple Try.prog 41 #[ag (shC x.s x.v), .int .i64 b.id] [rdN x.v x.bs.length (bks x.bs)] (RVal (.int .i64 (-1))) := c34
    have e : addB K.sb id b = if 16 ≤ x.bs.length then (K.sb, 2) else (updB K.sb id (insB b), 0) := by unfold addB; rw [hfd]; show (if canB x.s b = true then (if hasB x.bs b.id = true then _ else _) else _) = _; rw [hcan, hasI_hasB, hha]; rfl
    have hk0' : ¬ (-1 : Int) ≥ 0 := by omega
    rw [e]
    by_cases h16 : 16 ≤ x.bs.length
    · rw [if_pos h16]
      refine Triple.enter Try.func34 rfl Try.ntmps34 rfl (fun W => ?_)
      dsimp only [argsF, Nat.reduceAdd]
      refine WPc.gbagO (row := brow) brow_own hpp ?_
      rw [show brow (x.v, x.bs) = [rowN 36 21 x.v x.bs.length (bks x.bs)] from rfl, List.cons_append, List.nil_append]
      repeat' (first
       | refine WPl.nil ?_ | refine WPq.then ?_ | refine WPq.thenR ?_ | refine WPq.thenE ?_ | refine WPq.blockN ?_ | refine WPq.blockR ?_ | refine WPq.blockE ?_ | refine WPq.blockO rfl ?_ | refine WPc.seq ?_ | refine WPc.block ?_ | refine WPc.ret ?_ | refine WPc.exit ?_ | refine WPc.skip ?_ | refine WPc.region ?_
       | (refine isReg 4 ?_; refine WPc.drA [([], [19, 22]), ([0], [15, 19, 22]), ([0, 1], [15, 16, 19, 22]), ([0, 1, 2], [15, 16, 17, 19, 22]), ([], [15, 16, 17, 18, 22]), ([0, 1, 2, 3, 4], [15, 16, 17, 18, 19, 22]), ([0, 1, 2, 3, 4, 5], [15, 16, 17, 18, 19, 20, 22]), ([], [15, 16, 17, 18, 19, 20, 21]), ([0, 1, 2, 3, 4, 5, 6, 7], [15, 16, 17, 18, 19, 20, 21, 22]), ([0, 1, 2, 3, 4, 5, 6, 7, 8], [15, 16, 17, 18, 19, 20, 21, 22, 23])] [] (Γx := []) ?_; dsimp only [prev0, List.length_nil, List.length_cons])
       | (refine isReg 6 ?_; refine WPc.drA [([], [29, 32, 33]), ([0], [25, 29, 32, 33]), ([0, 1], [25, 26, 29, 32, 33]), ([0, 1, 2], [25, 26, 27, 29, 32, 33]), ([], [25, 26, 27, 28, 32, 33]), ([0, 1, 2, 3, 4], [25, 26, 27, 28, 29, 32, 33]), ([0, 1, 2, 3, 4, 5], [25, 26, 27, 28, 29, 30, 32, 33]), ([], [25, 26, 27, 28, 29, 30, 31]), ([7], [25, 26, 27, 28, 29, 30, 31, 32]), ([0, 1, 2, 3, 4, 5, 6, 7, 8], [25, 26, 27, 28, 29, 30, 31, 32, 33]), ([0, 1, 2, 3, 4, 5, 6, 7, 8, 9], [25, 26, 27, 28, 29, 30, 31, 32, 33, 34])] [] (Γx := []) ?_; dsimp only [prev0, List.length_nil, List.length_cons])
       | (refine gAny ?_; first | (refine gC 23 ?_; refine RGl.vl (fun e hk => OpT.callN (c23)) ?_) | (refine gC 34 ?_; refine RGl.vl (fun e hk => OpT.callN (c34)) ?_) | (refine gD 14 ?_; refine RGl.rdX (fun e hk => by (try dsimp only [bndR, ensR, oksR, fcutR, List.append_nil, List.nil_append, List.cons_append, List.append_assoc] at hk ⊢); exact ReadR.binE rfl rfl BinR.lss (congrArg Value.bool (decide_eq_false hi0))) ?_) | (refine gD 20 ?_; refine RGl.rdX (fun e hk => by (try dsimp only [bndR, ensR, oksR, fcutR, List.append_nil, List.nil_append, List.cons_append, List.append_assoc] at hk ⊢); exact ReadR.indexE (i := i) rfl rfl hasA hil) ?_) | (refine gD 21 ?_; refine RGl.rdX (fun e hk => by (try dsimp only [bndR, ensR, oksR, fcutR, List.append_nil, List.nil_append, List.cons_append, List.append_assoc] at hk ⊢); exact ReadR.loadES (cs := shC x.s x.v) hx3 (by omega) rfl hasA) ?_) | (refine gD 30 ?_; refine RGl.rdX (fun e hk => by (try dsimp only [bndR, ensR, oksR, fcutR, List.append_nil, List.nil_append, List.cons_append, List.append_assoc] at hk ⊢); exact ReadR.indexE (i := i) rfl rfl hasA hil) ?_) | (refine gD 31 ?_; refine RGl.rdX (fun e hk => by (try dsimp only [bndR, ensR, oksR, fcutR, List.append_nil, List.nil_append, List.cons_append, List.append_assoc] at hk ⊢); exact ReadR.loadES (cs := shC x.s x.v) hx3 (by omega) rfl hasA) ?_) | (refine gD 35 ?_; refine RGl.rdX (fun e hk => by (try dsimp only [bndR, ensR, oksR, fcutR, List.append_nil, List.nil_append, List.cons_append, List.append_assoc] at hk ⊢); exact ReadR.binE rfl rfl BinR.geq (congrArg Value.bool (decide_eq_false hk0'))) ?_) | (refine gD 41 ?_; refine RGl.rdX (fun e hk => by (try dsimp only [bndR, ensR, oksR, fcutR, List.append_nil, List.nil_append, List.cons_append, List.append_assoc] at hk ⊢); exact ReadR.indexE (i := i) rfl rfl hasA hil) ?_) | (refine gD 42 ?_; refine RGl.rdX (fun e hk => by (try dsimp only [bndR, ensR, oksR, fcutR, List.append_nil, List.nil_append, List.cons_append, List.append_assoc] at hk ⊢); exact ReadR.fieldE rfl hasA (by omega)) ?_) | (refine gD 43 ?_; refine RGl.rdX (fun e hk => by (try dsimp only [bndR, ensR, oksR, fcutR, List.append_nil, List.nil_append, List.cons_append, List.append_assoc] at hk ⊢); exact ReadR.loadE rfl hasA hx22) ?_) | (refine gD 46 ?_; refine RGl.rdX (fun e hk => by (try dsimp only [bndR, ensR, oksR, fcutR, List.append_nil, List.nil_append, List.cons_append, List.append_assoc] at hk ⊢); exact ReadR.binE rfl rfl BinR.geq (congrArg Value.bool (decide_eq_true (by omega)))) ?_) | (refine gOp ?_; first | refine RGl.rdA ?_ | refine RGl.rdX (fun e hk => by (try dsimp only [bndR, ensR, oksR, fcutR, List.append_nil, List.nil_append, List.cons_append, List.append_assoc] at hk ⊢); exact readB) ?_) | (refine RGl.fin (fun e hk => ?_); (try dsimp only [bndA, ensAR, oksA, List.append_nil, List.nil_append, List.cons_append, List.append_assoc] at hk ⊢); (repeat (obtain ⟨hk1, hk⟩ := hk))) | fail)
       | (refine isCond ?_; first | refine WPc.cT ?_ | refine WPc.cF ?_ | (refine WPc.cQ (fun hc => ?_) (fun hc => ?_) <;> try exact prA))
       | (refine isC 12 ?_; refine WPl.cV c12 ?_ (hΔ := provsX))
       | (refine isD 14 ?_; refine WPl.rdX (ReadR.binE rfl rfl BinR.lss (congrArg Value.bool (decide_eq_false hi0))) ?_)
       | (refine isD 20 ?_; refine WPl.rdX (ReadR.indexE (i := i) rfl rfl hasA hil) ?_)
       | (refine isD 21 ?_; refine WPl.rdX (ReadR.loadES (cs := shC x.s x.v) hx3 (by omega) rfl hasA) ?_)
       | (refine isC 23 ?_; refine WPl.cV (c23) ?_)
       | (refine isD 30 ?_; refine WPl.rdX (ReadR.indexE (i := i) rfl rfl hasA hil) ?_)
       | (refine isD 31 ?_; refine WPl.rdX (ReadR.loadES (cs := shC x.s x.v) hx3 (by omega) rfl hasA) ?_)
       | (refine isC 34 ?_; refine WPl.cV (c34) ?_)
       | (refine isD 35 ?_; refine WPl.rdX (ReadR.binE rfl rfl BinR.geq (congrArg Value.bool (decide_eq_false hk0'))) ?_)
       | (refine isD 41 ?_; refine WPl.rdX (ReadR.indexE (i := i) rfl rfl hasA hil) ?_)
       | (refine isD 42 ?_; refine WPl.rdX (ReadR.fieldE rfl hasA (by omega)) ?_)
       | (refine isD 43 ?_; refine WPl.rdX (ReadR.loadE rfl hasA hx22) ?_)
       | (refine isD 46 ?_; refine WPl.rdX (ReadR.binE rfl rfl BinR.geq (congrArg Value.bool (decide_eq_true (by omega)))) ?_)
       | (refine isOp ?_; first | refine WPl.rd ?_ | refine WPl.sk ?_ | refine WPl.rdB ?_)
       | (refine isBx ?_; refine WPl.nw fun g => ?_)
       | (refine isSt ?_; first | refine WPl.st1 ?_ | refine WPl.stA ?_ | refine WPl.stEB ?_ | refine WPl.stRB ?_)
       | (show WPl _ _ _ _ _ _ _ (⟨_, .indexAddr _ _ _, _, _, _, _⟩ :: _) _; refine WPl.rdX (ReadR.indexE rfl rfl hasA (by first | assumption | omega)) ?_)
       | (show WPl _ _ _ _ _ _ _ (⟨_, .fieldAddr _ _ _, _, _, _, _⟩ :: _) _; refine WPl.rdX (ReadR.fieldE rfl hasA (by first | assumption | omega)) ?_)
       | (show WPl _ _ _ _ _ _ _ (⟨_, .load _ _, _, _, _, _⟩ :: _) _; first | refine WPl.rdX (ReadR.loadE rfl hasA (by assumption)) ?_ | refine WPl.rdX (ReadR.loadES (by assumption) (by first | assumption | omega) rfl hasA) ?_)
       | (show WPl _ _ _ _ _ _ _ (⟨_, .slice _ _ _ _ _, _, _, _, _⟩ :: _) _; first | refine WPl.rdX (ReadR.sliceH rfl rfl hasA (by omega)) ?_ | refine WPl.rdX (ReadR.sliceL rfl rfl hasA (by omega)) ?_ | refine WPl.rdX (ReadR.sliceLH rfl rfl rfl hasA (by omega) (by omega)) ?_)
       | (refine WPl.spQ (fun hc => ?_) (fun hc => ?_) <;> try exact prA)
       | fail)
      refine WPq.gbagI (row := brow) (es := K.B) (es' := BA ++ BB) (x := (x.v, x.bs)) brow_own hpp (by show Takes _ [gbag brow (BA ++ BB), rowN 36 21 x.v x.bs.length (bks x.bs)] _; exact takesA) ?_
      exact WPq.dX (vs := [.int .i64 2]) (rfA gX K) ⟨K, rfl, hK, rfl, hv0, rfl⟩ (ho := rfA_own)
    rw [if_neg h16]
    refine Triple.enter Try.func34 rfl Try.ntmps34 rfl (fun W => ?_)
    dsimp only [argsF, Nat.reduceAdd]
    refine WPc.gbagO (row := brow) brow_own hpp ?_
    rw [show brow (x.v, x.bs) = [rowN 36 21 x.v x.bs.length (bks x.bs)] from rfl, List.cons_append, List.nil_append]
    repeat' (first
     | refine WPl.nil ?_ | refine WPq.then ?_ | refine WPq.thenR ?_ | refine WPq.thenE ?_ | refine WPq.blockN ?_ | refine WPq.blockR ?_ | refine WPq.blockE ?_ | refine WPq.blockO rfl ?_ | refine WPc.seq ?_ | refine WPc.block ?_ | refine WPc.ret ?_ | refine WPc.exit ?_ | refine WPc.skip ?_ | refine WPc.region ?_
     | (refine isReg 4 ?_; refine WPc.drA [([], [19, 22]), ([0], [15, 19, 22]), ([0, 1], [15, 16, 19, 22]), ([0, 1, 2], [15, 16, 17, 19, 22]), ([], [15, 16, 17, 18, 22]), ([0, 1, 2, 3, 4], [15, 16, 17, 18, 19, 22]), ([0, 1, 2, 3, 4, 5], [15, 16, 17, 18, 19, 20, 22]), ([], [15, 16, 17, 18, 19, 20, 21]), ([0, 1, 2, 3, 4, 5, 6, 7], [15, 16, 17, 18, 19, 20, 21, 22]), ([0, 1, 2, 3, 4, 5, 6, 7, 8], [15, 16, 17, 18, 19, 20, 21, 22, 23])] [] (Γx := []) ?_; dsimp only [prev0, List.length_nil, List.length_cons])
     | (refine isReg 6 ?_; refine WPc.drA [([], [29, 32, 33]), ([0], [25, 29, 32, 33]), ([0, 1], [25, 26, 29, 32, 33]), ([0, 1, 2], [25, 26, 27, 29, 32, 33]), ([], [25, 26, 27, 28, 32, 33]), ([0, 1, 2, 3, 4], [25, 26, 27, 28, 29, 32, 33]), ([0, 1, 2, 3, 4, 5], [25, 26, 27, 28, 29, 30, 32, 33]), ([], [25, 26, 27, 28, 29, 30, 31]), ([7], [25, 26, 27, 28, 29, 30, 31, 32]), ([0, 1, 2, 3, 4, 5, 6, 7, 8], [25, 26, 27, 28, 29, 30, 31, 32, 33]), ([0, 1, 2, 3, 4, 5, 6, 7, 8, 9], [25, 26, 27, 28, 29, 30, 31, 32, 33, 34])] [] (Γx := []) ?_; dsimp only [prev0, List.length_nil, List.length_cons])
     | (refine gAny ?_; first | (refine gC 23 ?_; refine RGl.vl (fun e hk => OpT.callN (c23)) ?_) | (refine gC 34 ?_; refine RGl.vl (fun e hk => OpT.callN (c34)) ?_) | (refine gD 14 ?_; refine RGl.rdX (fun e hk => by (try dsimp only [bndR, ensR, oksR, fcutR, List.append_nil, List.nil_append, List.cons_append, List.append_assoc] at hk ⊢); exact ReadR.binE rfl rfl BinR.lss (congrArg Value.bool (decide_eq_false hi0))) ?_) | (refine gD 20 ?_; refine RGl.rdX (fun e hk => by (try dsimp only [bndR, ensR, oksR, fcutR, List.append_nil, List.nil_append, List.cons_append, List.append_assoc] at hk ⊢); exact ReadR.indexE (i := i) rfl rfl hasA hil) ?_) | (refine gD 21 ?_; refine RGl.rdX (fun e hk => by (try dsimp only [bndR, ensR, oksR, fcutR, List.append_nil, List.nil_append, List.cons_append, List.append_assoc] at hk ⊢); exact ReadR.loadES (cs := shC x.s x.v) hx3 (by omega) rfl hasA) ?_) | (refine gD 30 ?_; refine RGl.rdX (fun e hk => by (try dsimp only [bndR, ensR, oksR, fcutR, List.append_nil, List.nil_append, List.cons_append, List.append_assoc] at hk ⊢); exact ReadR.indexE (i := i) rfl rfl hasA hil) ?_) | (refine gD 31 ?_; refine RGl.rdX (fun e hk => by (try dsimp only [bndR, ensR, oksR, fcutR, List.append_nil, List.nil_append, List.cons_append, List.append_assoc] at hk ⊢); exact ReadR.loadES (cs := shC x.s x.v) hx3 (by omega) rfl hasA) ?_) | (refine gD 35 ?_; refine RGl.rdX (fun e hk => by (try dsimp only [bndR, ensR, oksR, fcutR, List.append_nil, List.nil_append, List.cons_append, List.append_assoc] at hk ⊢); exact ReadR.binE rfl rfl BinR.geq (congrArg Value.bool (decide_eq_false hk0'))) ?_) | (refine gD 41 ?_; refine RGl.rdX (fun e hk => by (try dsimp only [bndR, ensR, oksR, fcutR, List.append_nil, List.nil_append, List.cons_append, List.append_assoc] at hk ⊢); exact ReadR.indexE (i := i) rfl rfl hasA hil) ?_) | (refine gD 42 ?_; refine RGl.rdX (fun e hk => by (try dsimp only [bndR, ensR, oksR, fcutR, List.append_nil, List.nil_append, List.cons_append, List.append_assoc] at hk ⊢); exact ReadR.fieldE rfl hasA (by omega)) ?_) | (refine gD 43 ?_; refine RGl.rdX (fun e hk => by (try dsimp only [bndR, ensR, oksR, fcutR, List.append_nil, List.nil_append, List.cons_append, List.append_assoc] at hk ⊢); exact ReadR.loadE rfl hasA hx22) ?_) | (refine gD 46 ?_; refine RGl.rdX (fun e hk => by (try dsimp only [bndR, ensR, oksR, fcutR, List.append_nil, List.nil_append, List.cons_append, List.append_assoc] at hk ⊢); exact ReadR.binE rfl rfl BinR.geq (congrArg Value.bool (decide_eq_false (by omega)))) ?_) | (refine gOp ?_; first | refine RGl.rdA ?_ | refine RGl.rdX (fun e hk => by (try dsimp only [bndR, ensR, oksR, fcutR, List.append_nil, List.nil_append, List.cons_append, List.append_assoc] at hk ⊢); exact readB) ?_) | (refine RGl.fin (fun e hk => ?_); (try dsimp only [bndA, ensAR, oksA, List.append_nil, List.nil_append, List.cons_append, List.append_assoc] at hk ⊢); (repeat (obtain ⟨hk1, hk⟩ := hk))) | fail)
     | (refine isCond ?_; first | refine WPc.cT ?_ | refine WPc.cF ?_ | (refine WPc.cQ (fun hc => ?_) (fun hc => ?_) <;> try exact prA))
     | (refine isC 12 ?_; refine WPl.cV c12 ?_ (hΔ := provsX))
     | (refine isD 14 ?_; refine WPl.rdX (ReadR.binE rfl rfl BinR.lss (congrArg Value.bool (decide_eq_false hi0))) ?_)
     | (refine isD 20 ?_; refine WPl.rdX (ReadR.indexE (i := i) rfl rfl hasA hil) ?_)
     | (refine isD 21 ?_; refine WPl.rdX (ReadR.loadES (cs := shC x.s x.v) hx3 (by omega) rfl hasA) ?_)
     | (refine isC 23 ?_; refine WPl.cV (c23) ?_)
     | (refine isD 30 ?_; refine WPl.rdX (ReadR.indexE (i := i) rfl rfl hasA hil) ?_)
     | (refine isD 31 ?_; refine WPl.rdX (ReadR.loadES (cs := shC x.s x.v) hx3 (by omega) rfl hasA) ?_)
     | (refine isC 34 ?_; refine WPl.cV (c34) ?_)
     | (refine isD 35 ?_; refine WPl.rdX (ReadR.binE rfl rfl BinR.geq (congrArg Value.bool (decide_eq_false hk0'))) ?_)
     | (refine isD 41 ?_; refine WPl.rdX (ReadR.indexE (i := i) rfl rfl hasA hil) ?_)
     | (refine isD 42 ?_; refine WPl.rdX (ReadR.fieldE rfl hasA (by omega)) ?_)
     | (refine isD 43 ?_; refine WPl.rdX (ReadR.loadE rfl hasA hx22) ?_)
     | (refine isD 46 ?_; refine WPl.rdX (ReadR.binE rfl rfl BinR.geq (congrArg Value.bool (decide_eq_false (by omega)))) ?_)
     | (refine isOp ?_; first | refine WPl.rd ?_ | refine WPl.sk ?_ | refine WPl.rdB ?_)
     | (refine isBx ?_; refine WPl.nw fun g => ?_)
     | (refine isSt ?_; first | refine WPl.st1 ?_ | refine WPl.stA ?_ | refine WPl.stEB ?_ | refine WPl.stRB ?_)
     | (show WPl _ _ _ _ _ _ _ (⟨_, .indexAddr _ _ _, _, _, _, _⟩ :: _) _; refine WPl.rdX (ReadR.indexE rfl rfl hasA (by first | assumption | omega)) ?_)
     | (show WPl _ _ _ _ _ _ _ (⟨_, .fieldAddr _ _ _, _, _, _, _⟩ :: _) _; refine WPl.rdX (ReadR.fieldE rfl hasA (by first | assumption | omega)) ?_)
     | (show WPl _ _ _ _ _ _ _ (⟨_, .load _ _, _, _, _, _⟩ :: _) _; first | refine WPl.rdX (ReadR.loadE rfl hasA (by assumption)) ?_ | refine WPl.rdX (ReadR.loadES (by assumption) (by first | assumption | omega) rfl hasA) ?_)
     | (show WPl _ _ _ _ _ _ _ (⟨_, .slice _ _ _ _ _, _, _, _, _⟩ :: _) _; first | refine WPl.rdX (ReadR.sliceH rfl rfl hasA (by omega)) ?_ | refine WPl.rdX (ReadR.sliceL rfl rfl hasA (by omega)) ?_ | refine WPl.rdX (ReadR.sliceLH rfl rfl rfl hasA (by omega) (by omega)) ?_)
     | (refine WPl.spQ (fun hc => ?_) (fun hc => ?_) <;> try exact prA)
     | fail)
    first | refine WPc.loop (σ := Nat) (fun st => st ≤ x.bs.length ∧ ∀ j f, j < st → x.bs[j]? = some f → f.id < b.id) (fun st => [bx g 36 (bkC b), gbag brow (BA ++ BB), rowN 36 21 x.v x.bs.length (bks x.bs), bx gX 49 (rfc K.vL), rowN 33 23 K.vL K.L.length (svs K.L)]) (fun st => [(0, hF gX), (5, hF g), (7, .int .i64 (i : Int)), (8, x.v), (9, .int .i64 (st : Int))]) (fun st => x.bs.length - st) (0) ?_ takesA frsA (fun st km hx hk => ?_)
    · exact ⟨Nat.zero_le _, fun j f hj => absurd hj (Nat.not_lt_zero _)⟩
    obtain ⟨at', rfl⟩ : ∃ i, i = st := ⟨_, rfl⟩
    obtain ⟨ha, hlo⟩ := hx
    have hkm : km = x.bs.length - at' := hk
    clear hk
    have hT := bksT (D := x.bs) (i := at') (by omega)
    have hU := bksD (D := x.bs) (i := at') (k := x.bs.length - at') (by omega)
    by_cases hlt : at' < x.bs.length
    · have hlt' : (at' : Int) < (x.bs.length : Int) := by omega
      obtain ⟨f, hf⟩ : ∃ f, x.bs[at']? = some f := ⟨_, List.getElem?_eq_getElem hlt⟩
      have hb0 : (bks x.bs)[at' * 21 + 0]? = some (.int .i64 f.id) := bks_cell hf (by omega)
      by_cases hfb : f.id < b.id
      · skip
        repeat' (first
         | refine WPl.nil ?_ | refine WPq.then ?_ | refine WPq.thenR ?_ | refine WPq.thenE ?_ | refine WPq.blockN ?_ | refine WPq.blockR ?_ | refine WPq.blockE ?_ | refine WPq.blockO rfl ?_ | refine WPc.seq ?_ | refine WPc.block ?_ | refine WPc.ret ?_ | refine WPc.exit ?_ | refine WPc.skip ?_ | refine WPc.region ?_
         | (refine isReg 11 ?_; refine WPc.drA [([], [48, 49]), ([], [47]), ([1], [47, 48]), ([0, 1, 2], [47, 48, 49]), ([0, 1, 2, 3], [47, 48, 49, 50]), ([0, 1, 2, 3, 4], [47, 48, 49, 50, 51, 53, 57, 58]), ([0, 1, 2, 3, 4], [47, 48, 49, 50, 51, 52, 57, 58]), ([0, 1, 2, 3, 4, 5, 6], [47, 48, 49, 50, 51, 52, 53, 57, 58]), ([0, 1, 2, 3, 4, 5, 6, 7], [47, 48, 49, 50, 51, 52, 53, 54, 57, 58]), ([0, 1, 2, 3, 4, 5, 6, 7, 8], [47, 48, 49, 50, 51, 52, 53, 54, 55, 57, 58]), ([0, 1, 2, 3, 4], [47, 48, 49, 50, 51, 52, 53, 54, 55, 56]), ([0, 1, 2, 3, 4, 10], [47, 48, 49, 50, 51, 52, 53, 54, 55, 56, 57]), ([0, 1, 2, 3, 4, 5, 6, 7, 8, 9, 10, 11], [47, 48, 49, 50, 51, 52, 53, 54, 55, 56, 57, 58]), ([0, 1, 2, 3, 4, 5, 6, 7, 8, 9, 10, 11, 12], [47, 48, 49, 50, 51, 52, 53, 54, 55, 56, 57, 58, 59])] [] (Γx := []) ?_; dsimp only [prev0, List.length_nil, List.length_cons])
         | (refine gAny ?_; first | (refine gGd ?_; refine RGl.skp ?_) | (refine gD 50 ?_; refine RGl.rdX (fun e hk => by (try dsimp only [bndR, ensR, oksR, fcutR, List.append_nil, List.nil_append, List.cons_append, List.append_assoc] at hk ⊢); exact ReadR.binE rfl rfl BinR.lss (congrArg Value.bool (decide_eq_true hlt'))) ?_) | (refine gD 54 ?_; refine RGl.rdX (fun e hk => by (try dsimp only [bndR, ensR, oksR, fcutR, List.append_nil, List.nil_append, List.cons_append, List.append_assoc] at hk ⊢); exact ReadR.indexE (i := at') rfl rfl hasA hlt) ?_) | (refine gD 55 ?_; refine RGl.rdX (fun e hk => by (try dsimp only [bndR, ensR, oksR, fcutR, List.append_nil, List.nil_append, List.cons_append, List.append_assoc] at hk ⊢); exact ReadR.fieldE rfl hasA (by omega)) ?_) | (refine gD 56 ?_; refine RGl.rdX (fun e hk => by (try dsimp only [bndR, ensR, oksR, fcutR, List.append_nil, List.nil_append, List.cons_append, List.append_assoc] at hk ⊢); exact ReadR.loadE rfl hasA hb0) ?_) | (refine gD 59 ?_; refine RGl.rdX (fun e hk => by (try dsimp only [bndR, ensR, oksR, fcutR, List.append_nil, List.nil_append, List.cons_append, List.append_assoc] at hk ⊢); exact ReadR.binE rfl rfl BinR.lss (congrArg Value.bool (decide_eq_true hfb))) ?_) | (refine gOp ?_; first | refine RGl.rdA ?_ | refine RGl.rdX (fun e hk => by (try dsimp only [bndR, ensR, oksR, fcutR, List.append_nil, List.nil_append, List.cons_append, List.append_assoc] at hk ⊢); exact readB) ?_) | (refine RGl.fin (fun e hk => ?_); (try dsimp only [bndA, ensAR, oksA, List.append_nil, List.nil_append, List.cons_append, List.append_assoc] at hk ⊢); (repeat (obtain ⟨hk1, hk⟩ := hk))) | fail)
         | (refine isCond ?_; first | refine WPc.cT ?_ | refine WPc.cF ?_ | (refine WPc.cQ (fun hc => ?_) (fun hc => ?_) <;> try first | exact prA | (exfalso; first | omega)))
         | (refine isD 50 ?_; refine WPl.rdX (ReadR.binE rfl rfl BinR.lss (congrArg Value.bool (decide_eq_true hlt'))) ?_)
         | (refine isD 54 ?_; refine WPl.rdX (ReadR.indexE (i := at') rfl rfl hasA hlt) ?_)
         | (refine isD 55 ?_; refine WPl.rdX (ReadR.fieldE rfl hasA (by omega)) ?_)
         | (refine isD 56 ?_; refine WPl.rdX (ReadR.loadE rfl hasA hb0) ?_)
         | (refine isD 59 ?_; refine WPl.rdX (ReadR.binE rfl rfl BinR.lss (congrArg Value.bool (decide_eq_true hfb))) ?_)
         | (refine isOp ?_; first | refine WPl.rd ?_ | refine WPl.sk ?_ | refine WPl.rdB ?_)
         | (refine isBx ?_; refine WPl.nw fun g => ?_)
         | (refine isSt ?_; first | refine WPl.st1 ?_ | refine WPl.stA ?_ | refine WPl.stEB ?_ | refine WPl.stRB ?_)
         | (show WPl _ _ _ _ _ _ _ (⟨_, .indexAddr _ _ _, _, _, _, _⟩ :: _) _; refine WPl.rdX (ReadR.indexE rfl rfl hasA (by first | assumption | omega)) ?_)
         | (show WPl _ _ _ _ _ _ _ (⟨_, .fieldAddr _ _ _, _, _, _, _⟩ :: _) _; refine WPl.rdX (ReadR.fieldE rfl hasA (by first | assumption | omega)) ?_)
         | (show WPl _ _ _ _ _ _ _ (⟨_, .load _ _, _, _, _, _⟩ :: _) _; first | refine WPl.rdX (ReadR.loadE rfl hasA (by assumption)) ?_ | refine WPl.rdX (ReadR.loadES (by assumption) (by first | assumption | omega) rfl hasA) ?_)
         | (show WPl _ _ _ _ _ _ _ (⟨_, .slice _ _ _ _ _, _, _, _, _⟩ :: _) _; first | refine WPl.rdX (ReadR.sliceH rfl rfl hasA (by omega)) ?_ | refine WPl.rdX (ReadR.sliceL rfl rfl hasA (by omega)) ?_ | refine WPl.rdX (ReadR.sliceLH rfl rfl rfl hasA (by omega) (by omega)) ?_)
         | (refine WPl.spQ (fun hc => ?_) (fun hc => ?_) <;> try first | exact prA | (exfalso; first | omega))
         | fail)
        exact WPq.rnd (at' + 1) ⟨hlt, fun j g hj hg => by
          by_cases e : j = at'
          · subst e; rw [hf] at hg; cases hg; exact hfb
          · exact hlo j g (by omega) hg⟩ (by omega)
      · have hins : insB b x.bs = x.bs.take at' ++ b :: x.bs.drop at' := insB_of hlo fun k z hkz hz => by
          by_cases e : k = at'
          · subst e; rw [hf] at hz; cases hz; exact hfb
          · have := srt_lt hsx hf hz (by omega); omega
        repeat' (first
         | refine WPl.nil ?_ | refine WPq.then ?_ | refine WPq.thenR ?_ | refine WPq.thenE ?_ | refine WPq.blockN ?_ | refine WPq.blockR ?_ | refine WPq.blockE ?_ | refine WPq.blockO rfl ?_ | refine WPc.seq ?_ | refine WPc.block ?_ | refine WPc.ret ?_ | refine WPc.exit ?_ | refine WPc.skip ?_ | refine WPc.region ?_
         | (refine isReg 11 ?_; refine WPc.drA [([], [48, 49]), ([], [47]), ([1], [47, 48]), ([0, 1, 2], [47, 48, 49]), ([0, 1, 2, 3], [47, 48, 49, 50]), ([0, 1, 2, 3, 4], [47, 48, 49, 50, 51, 53, 57, 58]), ([0, 1, 2, 3, 4], [47, 48, 49, 50, 51, 52, 57, 58]), ([0, 1, 2, 3, 4, 5, 6], [47, 48, 49, 50, 51, 52, 53, 57, 58]), ([0, 1, 2, 3, 4, 5, 6, 7], [47, 48, 49, 50, 51, 52, 53, 54, 57, 58]), ([0, 1, 2, 3, 4, 5, 6, 7, 8], [47, 48, 49, 50, 51, 52, 53, 54, 55, 57, 58]), ([0, 1, 2, 3, 4], [47, 48, 49, 50, 51, 52, 53, 54, 55, 56]), ([0, 1, 2, 3, 4, 10], [47, 48, 49, 50, 51, 52, 53, 54, 55, 56, 57]), ([0, 1, 2, 3, 4, 5, 6, 7, 8, 9, 10, 11], [47, 48, 49, 50, 51, 52, 53, 54, 55, 56, 57, 58]), ([0, 1, 2, 3, 4, 5, 6, 7, 8, 9, 10, 11, 12], [47, 48, 49, 50, 51, 52, 53, 54, 55, 56, 57, 58, 59])] [] (Γx := []) ?_; dsimp only [prev0, List.length_nil, List.length_cons])
         | (refine gAny ?_; first | (refine gGd ?_; refine RGl.skp ?_) | (refine gD 50 ?_; refine RGl.rdX (fun e hk => by (try dsimp only [bndR, ensR, oksR, fcutR, List.append_nil, List.nil_append, List.cons_append, List.append_assoc] at hk ⊢); exact ReadR.binE rfl rfl BinR.lss (congrArg Value.bool (decide_eq_true hlt'))) ?_) | (refine gD 54 ?_; refine RGl.rdX (fun e hk => by (try dsimp only [bndR, ensR, oksR, fcutR, List.append_nil, List.nil_append, List.cons_append, List.append_assoc] at hk ⊢); exact ReadR.indexE (i := at') rfl rfl hasA hlt) ?_) | (refine gD 55 ?_; refine RGl.rdX (fun e hk => by (try dsimp only [bndR, ensR, oksR, fcutR, List.append_nil, List.nil_append, List.cons_append, List.append_assoc] at hk ⊢); exact ReadR.fieldE rfl hasA (by omega)) ?_) | (refine gD 56 ?_; refine RGl.rdX (fun e hk => by (try dsimp only [bndR, ensR, oksR, fcutR, List.append_nil, List.nil_append, List.cons_append, List.append_assoc] at hk ⊢); exact ReadR.loadE rfl hasA hb0) ?_) | (refine gD 59 ?_; refine RGl.rdX (fun e hk => by (try dsimp only [bndR, ensR, oksR, fcutR, List.append_nil, List.nil_append, List.cons_append, List.append_assoc] at hk ⊢); exact ReadR.binE rfl rfl BinR.lss (congrArg Value.bool (decide_eq_false hfb))) ?_) | (refine gOp ?_; first | refine RGl.rdA ?_ | refine RGl.rdX (fun e hk => by (try dsimp only [bndR, ensR, oksR, fcutR, List.append_nil, List.nil_append, List.cons_append, List.append_assoc] at hk ⊢); exact readB) ?_) | (refine RGl.fin (fun e hk => ?_); (try dsimp only [bndA, ensAR, oksA, List.append_nil, List.nil_append, List.cons_append, List.append_assoc] at hk ⊢); (repeat (obtain ⟨hk1, hk⟩ := hk))) | fail)
         | (refine isCond ?_; first | refine WPc.cT ?_ | refine WPc.cF ?_ | (refine WPc.cQ (fun hc => ?_) (fun hc => ?_) <;> try first | exact prA | (exfalso; first | omega)))
         | (refine isD 50 ?_; refine WPl.rdX (ReadR.binE rfl rfl BinR.lss (congrArg Value.bool (decide_eq_true hlt'))) ?_)
         | (refine isD 54 ?_; refine WPl.rdX (ReadR.indexE (i := at') rfl rfl hasA hlt) ?_)
         | (refine isD 55 ?_; refine WPl.rdX (ReadR.fieldE rfl hasA (by omega)) ?_)
         | (refine isD 56 ?_; refine WPl.rdX (ReadR.loadE rfl hasA hb0) ?_)
         | (refine isD 59 ?_; refine WPl.rdX (ReadR.binE rfl rfl BinR.lss (congrArg Value.bool (decide_eq_false hfb))) ?_)
         | (refine isOp ?_; first | refine WPl.rd ?_ | refine WPl.sk ?_ | refine WPl.rdB ?_)
         | (refine isBx ?_; refine WPl.nw fun g => ?_)
         | (refine isSt ?_; first | refine WPl.st1 ?_ | refine WPl.stA ?_ | refine WPl.stEB ?_ | refine WPl.stRB ?_)
         | (show WPl _ _ _ _ _ _ _ (⟨_, .indexAddr _ _ _, _, _, _, _⟩ :: _) _; refine WPl.rdX (ReadR.indexE rfl rfl hasA (by first | assumption | omega)) ?_)
         | (show WPl _ _ _ _ _ _ _ (⟨_, .fieldAddr _ _ _, _, _, _, _⟩ :: _) _; refine WPl.rdX (ReadR.fieldE rfl hasA (by first | assumption | omega)) ?_)
         | (show WPl _ _ _ _ _ _ _ (⟨_, .load _ _, _, _, _, _⟩ :: _) _; first | refine WPl.rdX (ReadR.loadE rfl hasA (by assumption)) ?_ | refine WPl.rdX (ReadR.loadES (by assumption) (by first | assumption | omega) rfl hasA) ?_)
         | (show WPl _ _ _ _ _ _ _ (⟨_, .slice _ _ _ _ _, _, _, _, _⟩ :: _) _; first | refine WPl.rdX (ReadR.sliceH rfl rfl hasA (by omega)) ?_ | refine WPl.rdX (ReadR.sliceL rfl rfl hasA (by omega)) ?_ | refine WPl.rdX (ReadR.sliceLH rfl rfl rfl hasA (by omega) (by omega)) ?_)
         | (refine WPl.spQ (fun hc => ?_) (fun hc => ?_) <;> try first | exact prA | (exfalso; first | omega))
         | fail)
        repeat' (first
         | refine WPl.nil ?_ | refine WPq.then ?_ | refine WPq.thenR ?_ | refine WPq.thenE ?_ | refine WPq.blockN ?_ | refine WPq.blockR ?_ | refine WPq.blockE ?_ | refine WPq.blockO rfl ?_ | refine WPc.seq ?_ | refine WPc.block ?_ | refine WPc.ret ?_ | refine WPc.exit ?_ | refine WPc.skip ?_ | refine WPc.region ?_
         | (refine isReg 13 ?_; refine WPc.drA [([20], [67, 68, 69, 70, 71, 72, 73, 74, 75, 76, 77, 78, 79]), ([0, 20], [63, 67, 68, 69, 70, 71, 72, 73, 74, 75, 76, 77, 78, 79]), ([0, 1, 20], [63, 64, 67, 68, 69, 70, 71, 72, 73, 74, 75, 76, 77, 78, 79]), ([0, 1, 2, 20], [63, 64, 65, 67, 68, 69, 70, 71, 72, 73, 74, 75, 76, 77, 78, 79]), ([20], [63, 64, 65, 66, 68, 69, 70, 71, 72, 73, 74, 75, 76, 77, 78, 79]), ([20], [63, 64, 65, 66, 67, 69, 70, 71, 73, 74, 76, 77, 78]), ([20], [63, 64, 65, 66, 67, 68, 70, 73, 74, 76, 77, 78]), ([20], [63, 64, 65, 66, 67, 68, 69, 73, 74, 76, 77, 78]), ([6, 7, 20], [63, 64, 65, 66, 67, 68, 69, 70, 73, 74, 76, 77, 78]), ([5, 6, 7, 8, 20], [63, 64, 65, 66, 67, 68, 69, 70, 71, 73, 74, 76, 77, 78]), ([20], [63, 64, 65, 66, 67, 68, 69, 70, 71, 72, 76, 77, 78]), ([10, 20], [63, 64, 65, 66, 67, 68, 69, 70, 71, 72, 73, 76, 77, 78]), ([5, 6, 7, 8, 9, 10, 11, 20], [63, 64, 65, 66, 67, 68, 69, 70, 71, 72, 73, 74, 76, 77, 78]), ([20], [63, 64, 65, 66, 67, 68, 69, 70, 71, 72, 73, 74, 75, 77]), ([20], [63, 64, 65, 66, 67, 68, 69, 70, 71, 72, 73, 74, 75, 76]), ([13, 14, 20], [63, 64, 65, 66, 67, 68, 69, 70, 71, 72, 73, 74, 75, 76, 77]), ([5, 6, 7, 8, 9, 10, 11, 12, 13, 14, 15, 20], [63, 64, 65, 66, 67, 68, 69, 70, 71, 72, 73, 74, 75, 76, 77, 78]), ([0, 1, 2, 3, 4, 5, 6, 7, 8, 9, 10, 11, 12, 13, 14, 15, 16, 20], [63, 64, 65, 66, 67, 68, 69, 70, 71, 72, 73, 74, 75, 76, 77, 78, 79]), ([0, 1, 2, 3, 4, 5, 6, 7, 8, 9, 10, 11, 12, 13, 14, 15, 16, 17, 20], [63, 64, 65, 66, 67, 68, 69, 70, 71, 72, 73, 74, 75, 76, 77, 78, 79, 80]), ([0, 1, 2, 3, 4, 5, 6, 7, 8, 9, 10, 11, 12, 13, 14, 15, 16, 17, 18, 20], [63, 64, 65, 66, 67, 68, 69, 70, 71, 72, 73, 74, 75, 76, 77, 78, 79, 80, 81])] [(5, 9), (9, 12), (12, 16), (20, 19), (20, 0), (20, 1), (20, 2), (20, 3), (20, 4), (20, 5), (20, 6), (20, 7), (20, 8), (20, 9), (20, 10), (20, 11), (20, 12), (20, 13), (20, 14), (20, 15), (20, 16), (20, 17), (20, 18)] (Γx := [rowN 33 23 K.vL K.L.length (svs K.L)]) ?_; dsimp only [prev0, List.length_nil, List.length_cons])
         | (refine gAny ?_; first | (refine gD 68 ?_; refine RGl.row (Γ1 := fun _ => []) (fun e hk => by (try dsimp only [bndR, ensR, oksR, fcutR, List.append_nil, List.nil_append, List.cons_append, List.append_assoc] at hk ⊢); exact OpT.buildS0) ?_) | (refine gD 72 ?_; refine RGl.row (Γ1 := fun e => [rowN 36 21 (e 5).1 0 ([])]) (m := fun e => 0 + at') (xs := fun e => bks (x.bs.take at')) (fun e hk => by (try dsimp only [bndR, ensR, oksR, fcutR, List.append_nil, List.nil_append, List.cons_append, List.append_assoc] at hk ⊢); exact OpT.appendN (m := 0) (m2 := at') (xs := []) (ys := bks (x.bs.take at')) rfl rfl takesA (hT ▸ HasS.sub (k := 0) (n := at') (sz := 21) hasA bks_len (by omega)) (by rw [bks_len, List.length_take]; congr 1; omega) bks_ones (by omega)) ?_) | (refine gD 74 ?_; refine RGl.row (Γ1 := fun _ => []) (fun e hk => by (try dsimp only [bndR, ensR, oksR, fcutR, List.append_nil, List.nil_append, List.cons_append, List.append_assoc] at hk ⊢); exact OpT.buildS1 (ds := bkC b) rfl (bkC_ok b) (by first | assumption | rfl) rfl) ?_) | (refine gD 75 ?_; refine RGl.row (Γ1 := fun e => [rowN 36 21 (e 9).1 (0 + at') ((bks (x.bs.take at')))]) (m := fun e => (0 + at') + 1) (xs := fun e => (bks (x.bs.take at')) ++ flat (bkC b)) (fun e hk => by (try dsimp only [bndR, ensR, oksR, fcutR, List.append_nil, List.nil_append, List.cons_append, List.append_assoc] at hk ⊢); exact OpT.appendN (m := (0 + at')) (m2 := 1) (xs := (bks (x.bs.take at'))) (ys := flat (bkC b)) rfl rfl takesA (hasA) (by rw [bkC_len]) (bkC_ok b).one (by omega)) ?_) | (refine gD 79 ?_; refine RGl.row (Γ1 := fun e => [rowN 36 21 (e 12).1 (0 + at' + 1) ((bks (x.bs.take at') ++ flat (bkC b)))]) (m := fun e => (0 + at' + 1) + (x.bs.length - at')) (xs := fun e => (bks (x.bs.take at') ++ flat (bkC b)) ++ bks (x.bs.drop at')) (fun e hk => by (try dsimp only [bndR, ensR, oksR, fcutR, List.append_nil, List.nil_append, List.cons_append, List.append_assoc] at hk ⊢); exact OpT.appendN (m := (0 + at' + 1)) (m2 := (x.bs.length - at')) (xs := (bks (x.bs.take at') ++ flat (bkC b))) (ys := bks (x.bs.drop at')) rfl rfl takesA (hU ▸ HasS.sub (k := at') (n := x.bs.length - at') (sz := 21) hasA bks_len (by omega)) (by rw [bks_len, List.length_drop]) bks_ones (by omega)) ?_) | (refine gD 71 ?_; refine RGl.rdX (fun e hk => by (try dsimp only [bndR, ensR, oksR, fcutR, List.append_nil, List.nil_append, List.cons_append, List.append_assoc] at hk ⊢); exact ReadR.sliceH (j := at') rfl rfl hasA (by omega)) ?_) | (refine gD 78 ?_; refine RGl.rdX (fun e hk => by (try dsimp only [bndR, ensR, oksR, fcutR, List.append_nil, List.nil_append, List.cons_append, List.append_assoc] at hk ⊢); exact ReadR.sliceL (i := at') rfl rfl hasA (by omega)) ?_) | (refine gD 80 ?_; refine RGl.rdX (fun e hk => by (try dsimp only [bndR, ensR, oksR, fcutR, List.append_nil, List.nil_append, List.cons_append, List.append_assoc] at hk ⊢); exact ReadR.indexE (i := i) rfl rfl hasA hil) ?_) | (refine gD 81 ?_; refine RGl.rdX (fun e hk => by (try dsimp only [bndR, ensR, oksR, fcutR, List.append_nil, List.nil_append, List.cons_append, List.append_assoc] at hk ⊢); exact ReadR.fieldE rfl hasA (by omega)) ?_) | (refine gOp ?_; (show RGl _ _ _ _ _ _ _ _ (⟨_, .store _ _ _, _, _, _, _⟩ :: _) _ _; refine RGl.turn (fun e hk => by (try dsimp only [bndR, ensR, oksR, fcutR, List.append_nil, List.nil_append, List.cons_append, List.append_assoc] at hk ⊢); exact OpT.storeEN (i := i * 23 + 22) (m := K.L.length) (xs := svs K.L) (v := (e 16).1) rfl rfl takesA (by (repeat (obtain ⟨hk1, hk⟩ := hk)) <;> assumption) (by omega)) ?_)) | (refine gOp ?_; first | refine RGl.rdA ?_ | refine RGl.rdX (fun e hk => by (try dsimp only [bndR, ensR, oksR, fcutR, List.append_nil, List.nil_append, List.cons_append, List.append_assoc] at hk ⊢); exact readB) ?_) | (refine gLit ?_; refine RGl.litA ?_) | (refine gApp ?_; refine RGl.appA ?_) | (refine gSt ?_; refine RGl.stA ?_) | (refine RGl.fin (fun e hk => ?_); (try dsimp only [bndA, ensAR, oksA, List.append_nil, List.nil_append, List.cons_append, List.append_assoc] at hk ⊢); (repeat (obtain ⟨hk1, hk⟩ := hk))) | fail)
         | (refine isCond ?_; first | refine WPc.cT ?_ | refine WPc.cF ?_ | (refine WPc.cQ (fun hc => ?_) (fun hc => ?_) <;> try exact prA))
         | (refine isD 71 ?_; refine WPl.rdX (ReadR.sliceH (j := at') rfl rfl hasA (by omega)) ?_)
         | (refine isD 78 ?_; refine WPl.rdX (ReadR.sliceL (i := at') rfl rfl hasA (by omega)) ?_)
         | (refine isD 80 ?_; refine WPl.rdX (ReadR.indexE (i := i) rfl rfl hasA hil) ?_)
         | (refine isD 81 ?_; refine WPl.rdX (ReadR.fieldE rfl hasA (by omega)) ?_)
         | (refine isOp ?_; first | refine WPl.rd ?_ | refine WPl.sk ?_ | refine WPl.rdB ?_)
         | (refine isBx ?_; refine WPl.nw fun g => ?_)
         | (refine isSt ?_; first | refine WPl.st1 ?_ | refine WPl.stA ?_ | refine WPl.stEB ?_ | refine WPl.stRB ?_)
         | (show WPl _ _ _ _ _ _ _ (⟨_, .indexAddr _ _ _, _, _, _, _⟩ :: _) _; refine WPl.rdX (ReadR.indexE rfl rfl hasA (by first | assumption | omega)) ?_)
         | (show WPl _ _ _ _ _ _ _ (⟨_, .fieldAddr _ _ _, _, _, _, _⟩ :: _) _; refine WPl.rdX (ReadR.fieldE rfl hasA (by first | assumption | omega)) ?_)
         | (show WPl _ _ _ _ _ _ _ (⟨_, .load _ _, _, _, _, _⟩ :: _) _; first | refine WPl.rdX (ReadR.loadE rfl hasA (by assumption)) ?_ | refine WPl.rdX (ReadR.loadES (by assumption) (by first | assumption | omega) rfl hasA) ?_)
         | (show WPl _ _ _ _ _ _ _ (⟨_, .slice _ _ _ _ _, _, _, _, _⟩ :: _) _; first | refine WPl.rdX (ReadR.sliceH rfl rfl hasA (by omega)) ?_ | refine WPl.rdX (ReadR.sliceL rfl rfl hasA (by omega)) ?_ | refine WPl.rdX (ReadR.sliceLH rfl rfl rfl hasA (by omega) (by omega)) ?_)
         | (refine WPl.spQ (fun hc => ?_) (fun hc => ?_) <;> try exact prA)
         | fail)
        have hone : (e 16).1.oneCell' = true := by assumption
        rw [svs_set hx (e 16).1 (insB b x.bs)]
        have hln : 0 + at' + 1 + (x.bs.length - at') = (insB b x.bs).length := by rw [insB_len]; omega
        have hap : bks (x.bs.take at') ++ flat (bkC b) ++ bks (x.bs.drop at') = bks (insB b x.bs) := by
          rw [hins, List.append_assoc, ← bks_one (b := b), ← bks_app, ← bks_app]
          rfl
        rw [hln, hap]
        refine WPq.gbagI (row := brow) (es := K.B) (es' := BA ++ BB) (x := (x.v, x.bs)) brow_own hpp (by show Takes _ [gbag brow (BA ++ BB), rowN 36 21 x.v x.bs.length (bks x.bs)] _; exact takesA) ?_
        refine WPq.gbagI (row := brow) (es := ((e 16).1, insB b x.bs) :: K.B) (es' := K.B) (x := ((e 16).1, insB b x.bs)) brow_own (List.Perm.refl _) (by show Takes _ [gbag brow K.B, rowN 36 21 (e 16).1 (insB b x.bs).length (bks (insB b x.bs))] _; exact takesA) ?_
        rw [show K.L.length = (K.L.set i ⟨(e 16).1, x.s, insB b x.bs⟩).length from List.length_set.symm]
        exact WPq.dX (vs := [.int .i64 0]) (rfA gX ⟨K.vL, K.L.set i ⟨(e 16).1, x.s, insB b x.bs⟩, ((e 16).1, insB b x.bs) :: K.B⟩) ⟨⟨K.vL, K.L.set i ⟨(e 16).1, x.s, insB b x.bs⟩, ((e 16).1, insB b x.bs) :: K.B⟩, rfl, RGok_set hK hone, (updR_set hs hx hxi _ _).symm, hv0, rfl⟩ (ho := rfA_own)
    · have hlt' : ¬ (at' : Int) < (x.bs.length : Int) := by omega
      have hins : insB b x.bs = x.bs.take at' ++ b :: x.bs.drop at' := insB_of hlo fun k z hkz hz => by
        have := (List.getElem?_eq_some_iff.1 hz).1; omega
      repeat' (first
       | refine WPl.nil ?_ | refine WPq.then ?_ | refine WPq.thenR ?_ | refine WPq.thenE ?_ | refine WPq.blockN ?_ | refine WPq.blockR ?_ | refine WPq.blockE ?_ | refine WPq.blockO rfl ?_ | refine WPc.seq ?_ | refine WPc.block ?_ | refine WPc.ret ?_ | refine WPc.exit ?_ | refine WPc.skip ?_ | refine WPc.region ?_
       | (refine isReg 11 ?_; refine WPc.drA [([], [48, 49]), ([], [47]), ([1], [47, 48]), ([0, 1, 2], [47, 48, 49]), ([0, 1, 2, 3], [47, 48, 49, 50]), ([0, 1, 2, 3, 4], [47, 48, 49, 50, 51, 53, 57, 58]), ([0, 1, 2, 3, 4], [47, 48, 49, 50, 51, 52, 57, 58]), ([0, 1, 2, 3, 4, 5, 6], [47, 48, 49, 50, 51, 52, 53, 57, 58]), ([0, 1, 2, 3, 4, 5, 6, 7], [47, 48, 49, 50, 51, 52, 53, 54, 57, 58]), ([0, 1, 2, 3, 4, 5, 6, 7, 8], [47, 48, 49, 50, 51, 52, 53, 54, 55, 57, 58]), ([0, 1, 2, 3, 4], [47, 48, 49, 50, 51, 52, 53, 54, 55, 56]), ([0, 1, 2, 3, 4, 10], [47, 48, 49, 50, 51, 52, 53, 54, 55, 56, 57]), ([0, 1, 2, 3, 4, 5, 6, 7, 8, 9, 10, 11], [47, 48, 49, 50, 51, 52, 53, 54, 55, 56, 57, 58]), ([0, 1, 2, 3, 4, 5, 6, 7, 8, 9, 10, 11, 12], [47, 48, 49, 50, 51, 52, 53, 54, 55, 56, 57, 58, 59])] [] (Γx := []) ?_; dsimp only [prev0, List.length_nil, List.length_cons])
       | (refine gAny ?_; first | (refine gGd ?_; refine RGl.skp ?_) | (refine gD 50 ?_; refine RGl.rdX (fun e hk => by (try dsimp only [bndR, ensR, oksR, fcutR, List.append_nil, List.nil_append, List.cons_append, List.append_assoc] at hk ⊢); exact ReadR.binE rfl rfl BinR.lss (congrArg Value.bool (decide_eq_false hlt'))) ?_) | (refine gOp ?_; first | refine RGl.rdA ?_ | refine RGl.rdX (fun e hk => by (try dsimp only [bndR, ensR, oksR, fcutR, List.append_nil, List.nil_append, List.cons_append, List.append_assoc] at hk ⊢); exact readB) ?_) | (refine RGl.fin (fun e hk => ?_); (try dsimp only [bndA, ensAR, oksA, List.append_nil, List.nil_append, List.cons_append, List.append_assoc] at hk ⊢); (repeat (obtain ⟨hk1, hk⟩ := hk))) | fail)
       | (refine isCond ?_; first | refine WPc.cT ?_ | refine WPc.cF ?_ | (refine WPc.cQ (fun hc => ?_) (fun hc => ?_) <;> try first | exact prA | (exfalso; first | omega)))
       | (refine isD 50 ?_; refine WPl.rdX (ReadR.binE rfl rfl BinR.lss (congrArg Value.bool (decide_eq_false hlt'))) ?_)
       | (refine isOp ?_; first | refine WPl.rd ?_ | refine WPl.sk ?_ | refine WPl.rdB ?_)
       | (refine isBx ?_; refine WPl.nw fun g => ?_)
       | (refine isSt ?_; first | refine WPl.st1 ?_ | refine WPl.stA ?_ | refine WPl.stEB ?_ | refine WPl.stRB ?_)
       | (show WPl _ _ _ _ _ _ _ (⟨_, .indexAddr _ _ _, _, _, _, _⟩ :: _) _; refine WPl.rdX (ReadR.indexE rfl rfl hasA (by first | assumption | omega)) ?_)
       | (show WPl _ _ _ _ _ _ _ (⟨_, .fieldAddr _ _ _, _, _, _, _⟩ :: _) _; refine WPl.rdX (ReadR.fieldE rfl hasA (by first | assumption | omega)) ?_)
       | (show WPl _ _ _ _ _ _ _ (⟨_, .load _ _, _, _, _, _⟩ :: _) _; first | refine WPl.rdX (ReadR.loadE rfl hasA (by assumption)) ?_ | refine WPl.rdX (ReadR.loadES (by assumption) (by first | assumption | omega) rfl hasA) ?_)
       | (show WPl _ _ _ _ _ _ _ (⟨_, .slice _ _ _ _ _, _, _, _, _⟩ :: _) _; first | refine WPl.rdX (ReadR.sliceH rfl rfl hasA (by omega)) ?_ | refine WPl.rdX (ReadR.sliceL rfl rfl hasA (by omega)) ?_ | refine WPl.rdX (ReadR.sliceLH rfl rfl rfl hasA (by omega) (by omega)) ?_)
       | (refine WPl.spQ (fun hc => ?_) (fun hc => ?_) <;> try first | exact prA | (exfalso; first | omega))
       | fail)
      repeat' (first
       | refine WPl.nil ?_ | refine WPq.then ?_ | refine WPq.thenR ?_ | refine WPq.thenE ?_ | refine WPq.blockN ?_ | refine WPq.blockR ?_ | refine WPq.blockE ?_ | refine WPq.blockO rfl ?_ | refine WPc.seq ?_ | refine WPc.block ?_ | refine WPc.ret ?_ | refine WPc.exit ?_ | refine WPc.skip ?_ | refine WPc.region ?_
       | (refine isReg 13 ?_; refine WPc.drA [([20], [67, 68, 69, 70, 71, 72, 73, 74, 75, 76, 77, 78, 79]), ([0, 20], [63, 67, 68, 69, 70, 71, 72, 73, 74, 75, 76, 77, 78, 79]), ([0, 1, 20], [63, 64, 67, 68, 69, 70, 71, 72, 73, 74, 75, 76, 77, 78, 79]), ([0, 1, 2, 20], [63, 64, 65, 67, 68, 69, 70, 71, 72, 73, 74, 75, 76, 77, 78, 79]), ([20], [63, 64, 65, 66, 68, 69, 70, 71, 72, 73, 74, 75, 76, 77, 78, 79]), ([20], [63, 64, 65, 66, 67, 69, 70, 71, 73, 74, 76, 77, 78]), ([20], [63, 64, 65, 66, 67, 68, 70, 73, 74, 76, 77, 78]), ([20], [63, 64, 65, 66, 67, 68, 69, 73, 74, 76, 77, 78]), ([6, 7, 20], [63, 64, 65, 66, 67, 68, 69, 70, 73, 74, 76, 77, 78]), ([5, 6, 7, 8, 20], [63, 64, 65, 66, 67, 68, 69, 70, 71, 73, 74, 76, 77, 78]), ([20], [63, 64, 65, 66, 67, 68, 69, 70, 71, 72, 76, 77, 78]), ([10, 20], [63, 64, 65, 66, 67, 68, 69, 70, 71, 72, 73, 76, 77, 78]), ([5, 6, 7, 8, 9, 10, 11, 20], [63, 64, 65, 66, 67, 68, 69, 70, 71, 72, 73, 74, 76, 77, 78]), ([20], [63, 64, 65, 66, 67, 68, 69, 70, 71, 72, 73, 74, 75, 77]), ([20], [63, 64, 65, 66, 67, 68, 69, 70, 71, 72, 73, 74, 75, 76]), ([13, 14, 20], [63, 64, 65, 66, 67, 68, 69, 70, 71, 72, 73, 74, 75, 76, 77]), ([5, 6, 7, 8, 9, 10, 11, 12, 13, 14, 15, 20], [63, 64, 65, 66, 67, 68, 69, 70, 71, 72, 73, 74, 75, 76, 77, 78]), ([0, 1, 2, 3, 4, 5, 6, 7, 8, 9, 10, 11, 12, 13, 14, 15, 16, 20], [63, 64, 65, 66, 67, 68, 69, 70, 71, 72, 73, 74, 75, 76, 77, 78, 79]), ([0, 1, 2, 3, 4, 5, 6, 7, 8, 9, 10, 11, 12, 13, 14, 15, 16, 17, 20], [63, 64, 65, 66, 67, 68, 69, 70, 71, 72, 73, 74, 75, 76, 77, 78, 79, 80]), ([0, 1, 2, 3, 4, 5, 6, 7, 8, 9, 10, 11, 12, 13, 14, 15, 16, 17, 18, 20], [63, 64, 65, 66, 67, 68, 69, 70, 71, 72, 73, 74, 75, 76, 77, 78, 79, 80, 81])] [(5, 9), (9, 12), (12, 16), (20, 19), (20, 0), (20, 1), (20, 2), (20, 3), (20, 4), (20, 5), (20, 6), (20, 7), (20, 8), (20, 9), (20, 10), (20, 11), (20, 12), (20, 13), (20, 14), (20, 15), (20, 16), (20, 17), (20, 18)] (Γx := [rowN 33 23 K.vL K.L.length (svs K.L)]) ?_; dsimp only [prev0, List.length_nil, List.length_cons])
       | (refine gAny ?_; first | (refine gD 68 ?_; refine RGl.row (Γ1 := fun _ => []) (fun e hk => by (try dsimp only [bndR, ensR, oksR, fcutR, List.append_nil, List.nil_append, List.cons_append, List.append_assoc] at hk ⊢); exact OpT.buildS0) ?_) | (refine gD 72 ?_; refine RGl.row (Γ1 := fun e => [rowN 36 21 (e 5).1 0 ([])]) (m := fun e => 0 + at') (xs := fun e => bks (x.bs.take at')) (fun e hk => by (try dsimp only [bndR, ensR, oksR, fcutR, List.append_nil, List.nil_append, List.cons_append, List.append_assoc] at hk ⊢); exact OpT.appendN (m := 0) (m2 := at') (xs := []) (ys := bks (x.bs.take at')) rfl rfl takesA (hT ▸ HasS.sub (k := 0) (n := at') (sz := 21) hasA bks_len (by omega)) (by rw [bks_len, List.length_take]; congr 1; omega) bks_ones (by omega)) ?_) | (refine gD 74 ?_; refine RGl.row (Γ1 := fun _ => []) (fun e hk => by (try dsimp only [bndR, ensR, oksR, fcutR, List.append_nil, List.nil_append, List.cons_append, List.append_assoc] at hk ⊢); exact OpT.buildS1 (ds := bkC b) rfl (bkC_ok b) (by first | assumption | rfl) rfl) ?_) | (refine gD 75 ?_; refine RGl.row (Γ1 := fun e => [rowN 36 21 (e 9).1 (0 + at') ((bks (x.bs.take at')))]) (m := fun e => (0 + at') + 1) (xs := fun e => (bks (x.bs.take at')) ++ flat (bkC b)) (fun e hk => by (try dsimp only [bndR, ensR, oksR, fcutR, List.append_nil, List.nil_append, List.cons_append, List.append_assoc] at hk ⊢); exact OpT.appendN (m := (0 + at')) (m2 := 1) (xs := (bks (x.bs.take at'))) (ys := flat (bkC b)) rfl rfl takesA (hasA) (by rw [bkC_len]) (bkC_ok b).one (by omega)) ?_) | (refine gD 79 ?_; refine RGl.row (Γ1 := fun e => [rowN 36 21 (e 12).1 (0 + at' + 1) ((bks (x.bs.take at') ++ flat (bkC b)))]) (m := fun e => (0 + at' + 1) + (x.bs.length - at')) (xs := fun e => (bks (x.bs.take at') ++ flat (bkC b)) ++ bks (x.bs.drop at')) (fun e hk => by (try dsimp only [bndR, ensR, oksR, fcutR, List.append_nil, List.nil_append, List.cons_append, List.append_assoc] at hk ⊢); exact OpT.appendN (m := (0 + at' + 1)) (m2 := (x.bs.length - at')) (xs := (bks (x.bs.take at') ++ flat (bkC b))) (ys := bks (x.bs.drop at')) rfl rfl takesA (hU ▸ HasS.sub (k := at') (n := x.bs.length - at') (sz := 21) hasA bks_len (by omega)) (by rw [bks_len, List.length_drop]) bks_ones (by omega)) ?_) | (refine gD 71 ?_; refine RGl.rdX (fun e hk => by (try dsimp only [bndR, ensR, oksR, fcutR, List.append_nil, List.nil_append, List.cons_append, List.append_assoc] at hk ⊢); exact ReadR.sliceH (j := at') rfl rfl hasA (by omega)) ?_) | (refine gD 78 ?_; refine RGl.rdX (fun e hk => by (try dsimp only [bndR, ensR, oksR, fcutR, List.append_nil, List.nil_append, List.cons_append, List.append_assoc] at hk ⊢); exact ReadR.sliceL (i := at') rfl rfl hasA (by omega)) ?_) | (refine gD 80 ?_; refine RGl.rdX (fun e hk => by (try dsimp only [bndR, ensR, oksR, fcutR, List.append_nil, List.nil_append, List.cons_append, List.append_assoc] at hk ⊢); exact ReadR.indexE (i := i) rfl rfl hasA hil) ?_) | (refine gD 81 ?_; refine RGl.rdX (fun e hk => by (try dsimp only [bndR, ensR, oksR, fcutR, List.append_nil, List.nil_append, List.cons_append, List.append_assoc] at hk ⊢); exact ReadR.fieldE rfl hasA (by omega)) ?_) | (refine gOp ?_; (show RGl _ _ _ _ _ _ _ _ (⟨_, .store _ _ _, _, _, _, _⟩ :: _) _ _; refine RGl.turn (fun e hk => by (try dsimp only [bndR, ensR, oksR, fcutR, List.append_nil, List.nil_append, List.cons_append, List.append_assoc] at hk ⊢); exact OpT.storeEN (i := i * 23 + 22) (m := K.L.length) (xs := svs K.L) (v := (e 16).1) rfl rfl takesA (by (repeat (obtain ⟨hk1, hk⟩ := hk)) <;> assumption) (by omega)) ?_)) | (refine gOp ?_; first | refine RGl.rdA ?_ | refine RGl.rdX (fun e hk => by (try dsimp only [bndR, ensR, oksR, fcutR, List.append_nil, List.nil_append, List.cons_append, List.append_assoc] at hk ⊢); exact readB) ?_) | (refine gLit ?_; refine RGl.litA ?_) | (refine gApp ?_; refine RGl.appA ?_) | (refine gSt ?_; refine RGl.stA ?_) | (refine RGl.fin (fun e hk => ?_); (try dsimp only [bndA, ensAR, oksA, List.append_nil, List.nil_append, List.cons_append, List.append_assoc] at hk ⊢); (repeat (obtain ⟨hk1, hk⟩ := hk))) | fail)
       | (refine isCond ?_; first | refine WPc.cT ?_ | refine WPc.cF ?_ | (refine WPc.cQ (fun hc => ?_) (fun hc => ?_) <;> try exact prA))
       | (refine isD 71 ?_; refine WPl.rdX (ReadR.sliceH (j := at') rfl rfl hasA (by omega)) ?_)
       | (refine isD 78 ?_; refine WPl.rdX (ReadR.sliceL (i := at') rfl rfl hasA (by omega)) ?_)
       | (refine isD 80 ?_; refine WPl.rdX (ReadR.indexE (i := i) rfl rfl hasA hil) ?_)
       | (refine isD 81 ?_; refine WPl.rdX (ReadR.fieldE rfl hasA (by omega)) ?_)
       | (refine isOp ?_; first | refine WPl.rd ?_ | refine WPl.sk ?_ | refine WPl.rdB ?_)
       | (refine isBx ?_; refine WPl.nw fun g => ?_)
       | (refine isSt ?_; first | refine WPl.st1 ?_ | refine WPl.stA ?_ | refine WPl.stEB ?_ | refine WPl.stRB ?_)
       | (show WPl _ _ _ _ _ _ _ (⟨_, .indexAddr _ _ _, _, _, _, _⟩ :: _) _; refine WPl.rdX (ReadR.indexE rfl rfl hasA (by first | assumption | omega)) ?_)
       | (show WPl _ _ _ _ _ _ _ (⟨_, .fieldAddr _ _ _, _, _, _, _⟩ :: _) _; refine WPl.rdX (ReadR.fieldE rfl hasA (by first | assumption | omega)) ?_)
       | (show WPl _ _ _ _ _ _ _ (⟨_, .load _ _, _, _, _, _⟩ :: _) _; first | refine WPl.rdX (ReadR.loadE rfl hasA (by assumption)) ?_ | refine WPl.rdX (ReadR.loadES (by assumption) (by first | assumption | omega) rfl hasA) ?_)
       | (show WPl _ _ _ _ _ _ _ (⟨_, .slice _ _ _ _ _, _, _, _, _⟩ :: _) _; first | refine WPl.rdX (ReadR.sliceH rfl rfl hasA (by omega)) ?_ | refine WPl.rdX (ReadR.sliceL rfl rfl hasA (by omega)) ?_ | refine WPl.rdX (ReadR.sliceLH rfl rfl rfl hasA (by omega) (by omega)) ?_)
       | (refine WPl.spQ (fun hc => ?_) (fun hc => ?_) <;> try exact prA)
       | fail)
      have hone : (e 16).1.oneCell' = true := by assumption
      rw [svs_set hx (e 16).1 (insB b x.bs)]
      have hln : 0 + at' + 1 + (x.bs.length - at') = (insB b x.bs).length := by rw [insB_len]; omega
      have hap : bks (x.bs.take at') ++ flat (bkC b) ++ bks (x.bs.drop at') = bks (insB b x.bs) := by
        rw [hins, List.append_assoc, ← bks_one (b := b), ← bks_app, ← bks_app]
        rfl
      rw [hln, hap]
      refine WPq.gbagI (row := brow) (es := K.B) (es' := BA ++ BB) (x := (x.v, x.bs)) brow_own hpp (by show Takes _ [gbag brow (BA ++ BB), rowN 36 21 x.v x.bs.length (bks x.bs)] _; exact takesA) ?_
      refine WPq.gbagI (row := brow) (es := ((e 16).1, insB b x.bs) :: K.B) (es' := K.B) (x := ((e 16).1, insB b x.bs)) brow_own (List.Perm.refl _) (by show Takes _ [gbag brow K.B, rowN 36 21 (e 16).1 (insB b x.bs).length (bks (insB b x.bs))] _; exact takesA) ?_
      rw [show K.L.length = (K.L.set i ⟨(e 16).1, x.s, insB b x.bs⟩).length from List.length_set.symm]
      exact WPq.dX (vs := [.int .i64 0]) (rfA gX ⟨K.vL, K.L.set i ⟨(e 16).1, x.s, insB b x.bs⟩, ((e 16).1, insB b x.bs) :: K.B⟩) ⟨⟨K.vL, K.L.set i ⟨(e 16).1, x.s, insB b x.bs⟩, ((e 16).1, insB b x.bs) :: K.B⟩, rfl, RGok_set hK hone, (updR_set hs hx hxi _ _).symm, hv0, rfl⟩ (ho := rfA_own)
end
end Go.Proofs.Ytpjfkomicehinaa
/- Layer 20: the reference: Turn (drained, not any more, a weight). -/
namespace Go.Proofs.Ytpjfkomicehinaa
theorem hasI_some {l : List Bk} {id : Int} {i : Nat} (h : hasI l id = some i) : ∃ z, l[i]? = some z ∧ z.id = id := by
  unfold hasI at h
  obtain ⟨hl, h1, _⟩ := List.findIdx?_eq_some_iff_getElem.1 h
  exact ⟨l[i], List.getElem?_eq_getElem hl, by simpa using h1⟩
open Go.RowKit
set_option linter.unusedSimpArgs false
set_option linter.unusedVariables false
set_option maxRecDepth 20000
set_option maxHeartbeats 4000000
attribute [local irreducible] WPc WPl WPq ReadR OpT BinR HasS bx rdN rowN Take Takes Prov Triple ResF BuildP Done ag Int.decLt Int.decLe Int.instDecidableEq
attribute [local irreducible] mp rmp rg rgo mput mget mfind mdel gbag bks ies svs setBy
section
variable (gX : Nat) (K : RG) (hK : RGok K) (hm : K.L.length ≤ 1000) (hv0 : K.vL.oneCell' = true)
include hK hm hv0
theorem rturn1_t (hs : SrtL K.sb) (hbs : ∀ x ∈ K.L, SrtB x.bs ∧ x.bs.length ≤ 16) (id bd : Int) : Triple Try.prog 35 #[hF gX, .int .i64 id, .int .i64 bd, .int .i64 1, .int .i64 0] (rfA gX K) (RXm gX (turnS K.sb id bd (setBy bd fun k => { k with dr := true })).2 (turnS K.sb id bd (setBy bd fun k => { k with dr := true })).1) := by
  have c16 := rat20_t gX K.vL K.L hm id
  have hcl := svs_len (l := K.L)
  cases hat : atR K.L id with
  | none =>
    rw [hat] at c16
    have c16 : Triple Try.prog 40 #[hF gX, .int .i64 id] [rbx gX 49 (rfc K.vL), rdN K.vL K.L.length (svs K.L)] (RVal (.int .i64 (-1))) := c16
    have e : turnS K.sb id bd (setBy bd fun k => { k with dr := true }) = (K.sb, 6) := by unfold turnS; rw [atR_no hat]
    rw [e]
    refine Triple.enter Try.func35 rfl Try.ntmps35 rfl (fun W => ?_)
    dsimp only [argsF, Nat.reduceAdd]
    repeat' (first
     | refine WPl.nil ?_ | refine WPq.then ?_ | refine WPq.thenR ?_ | refine WPq.thenE ?_ | refine WPq.blockN ?_ | refine WPq.blockR ?_ | refine WPq.blockE ?_ | refine WPq.blockO rfl ?_ | refine WPc.seq ?_ | refine WPc.block ?_ | refine WPc.ret ?_ | refine WPc.exit ?_ | refine WPc.skip ?_ | refine WPc.region ?_
     | (refine isCond ?_; first | refine WPc.cT ?_ | refine WPc.cF ?_ | (refine WPc.cQ (fun hc => ?_) (fun hc => ?_) <;> try exact prA))
     | (refine isC 16 ?_; refine WPl.cV c16 ?_ (hΔ := provsX))
     | (refine isD 18 ?_; refine WPl.rdX (ReadR.binE rfl rfl BinR.lss (congrArg Value.bool (decide_eq_true (show (-1 : Int) < 0 by omega)))) ?_)
     | (refine isOp ?_; first | refine WPl.rd ?_ | refine WPl.sk ?_ | refine WPl.rdB ?_)
     | (refine isSt ?_; first | refine WPl.st1 ?_ | refine WPl.stA ?_ | refine WPl.stEB ?_ | refine WPl.stRB ?_)
     | (show WPl _ _ _ _ _ _ _ (⟨_, .indexAddr _ _ _, _, _, _, _⟩ :: _) _; refine WPl.rdX (ReadR.indexE rfl rfl hasA (by first | assumption | omega)) ?_)
     | (show WPl _ _ _ _ _ _ _ (⟨_, .fieldAddr _ _ _, _, _, _, _⟩ :: _) _; refine WPl.rdX (ReadR.fieldE rfl hasA (by first | assumption | omega)) ?_)
     | (show WPl _ _ _ _ _ _ _ (⟨_, .load _ _, _, _, _, _⟩ :: _) _; first | refine WPl.rdX (ReadR.loadE rfl hasA (by assumption)) ?_ | refine WPl.rdX (ReadR.loadES (by assumption) (by first | assumption | omega) rfl hasA) ?_)
     | (show WPl _ _ _ _ _ _ _ (⟨_, .slice _ _ _ _ _, _, _, _, _⟩ :: _) _; first | refine WPl.rdX (ReadR.sliceH rfl rfl hasA (by omega)) ?_ | refine WPl.rdX (ReadR.sliceL rfl rfl hasA (by omega)) ?_ | refine WPl.rdX (ReadR.sliceLH rfl rfl rfl hasA (by omega) (by omega)) ?_)
     | (refine WPl.spQ (fun hc => ?_) (fun hc => ?_) <;> try exact prA)
     | fail)
    exact WPq.dX (vs := [.int .i64 6]) (rfA gX K) ⟨K, rfl, hK, rfl, hv0, rfl⟩ (ho := rfA_own)
  | some i =>
    rw [hat] at c16
    obtain ⟨x, hx, hxi⟩ := atR_some hat
    have hil := (List.getElem?_eq_some_iff.1 hx).1
    have hxm := List.mem_of_getElem? hx
    have c16 : Triple Try.prog 40 #[hF gX, .int .i64 id] [rbx gX 49 (rfc K.vL), rdN K.vL K.L.length (svs K.L)] (RVal (.int .i64 (i : Int))) := c16
    have hi0 : ¬ (i : Int) < 0 := by omega
    have hfd : findS K.sb id = some x.sb := atR_find hat hx
    have hx3 := svs_at hx
    have hxl := x.s.ad.len
    have hx22 : (svs K.L)[i * 23 + 22]? = some x.v := by
      rw [svs_cell hx (by omega)]
      exact sh22
    obtain ⟨hxv, hxB⟩ := hK x hxm
    obtain ⟨hsx, hlx⟩ := hbs x hxm
    obtain ⟨BA, BB, hBB⟩ := List.append_of_mem hxB
    have hpp : K.B.Perm ((x.v, x.bs) :: (BA ++ BB)) := by rw [hBB]; exact List.perm_middle
    have hfx := shC_ok (s := x.s) hxv
    have c27 := rhas_t x.s x.v hxv x.bs (by omega) bd
    have hL := bks_len (l := x.bs)
    have hxlen : x.bs.length < 1000 := by omega
    have hone0 := bks_ones (D := x.bs)
    cases hha : hasI x.bs bd with
    | none =>
      rw [hha] at c27
      have c27 : Triple Try.prog 41 #[ag (shC x.s x.v), .int .i64 bd] [rdN x.v x.bs.length (bks x.bs)] (RVal (.int .i64 (-1))) := c27
      have hhb : hasB x.bs bd = false := by rw [hasI_hasB, hha]; rfl
      have e : turnS K.sb id bd (setBy bd fun k => { k with dr := true }) = (K.sb, 6) := by unfold turnS; rw [hfd]; simp only [hhb]; simp
      rw [e]
      refine Triple.enter Try.func35 rfl Try.ntmps35 rfl (fun W => ?_)
      dsimp only [argsF, Nat.reduceAdd]
      refine WPc.gbagO (row := brow) brow_own hpp ?_
      rw [show brow (x.v, x.bs) = [rowN 36 21 x.v x.bs.length (bks x.bs)] from rfl, List.cons_append, List.nil_append]
      repeat' (first
       | refine WPl.nil ?_ | refine WPq.then ?_ | refine WPq.thenR ?_ | refine WPq.thenE ?_ | refine WPq.blockN ?_ | refine WPq.blockR ?_ | refine WPq.blockE ?_ | refine WPq.blockO rfl ?_ | refine WPc.seq ?_ | refine WPc.block ?_ | refine WPc.ret ?_ | refine WPc.exit ?_ | refine WPc.skip ?_ | refine WPc.region ?_
       | (refine isCond ?_; first | refine WPc.cT ?_ | refine WPc.cF ?_ | (refine WPc.cQ (fun hc => ?_) (fun hc => ?_) <;> try exact prA))
       | (refine isC 16 ?_; refine WPl.cV c16 ?_ (hΔ := provsX))
       | (refine isD 18 ?_; refine WPl.rdX (ReadR.binE rfl rfl BinR.lss (congrArg Value.bool (decide_eq_false hi0))) ?_)
       | (refine isD 24 ?_; refine WPl.rdX (ReadR.indexE (i := i) rfl rfl hasA hil) ?_)
       | (refine isD 25 ?_; refine WPl.rdX (ReadR.loadES (cs := shC x.s x.v) hx3 (by omega) rfl hasA) ?_)
       | (refine isC 27 ?_; refine WPl.cV (c27) ?_)
       | (refine isD 29 ?_; refine WPl.rdX (ReadR.binE rfl rfl BinR.lss (congrArg Value.bool (decide_eq_true (show (-1 : Int) < 0 by omega)))) ?_)
       | (refine isOp ?_; first | refine WPl.rd ?_ | refine WPl.sk ?_ | refine WPl.rdB ?_)
       | (refine isSt ?_; first | refine WPl.st1 ?_ | refine WPl.stA ?_ | refine WPl.stEB ?_ | refine WPl.stRB ?_)
       | (show WPl _ _ _ _ _ _ _ (⟨_, .indexAddr _ _ _, _, _, _, _⟩ :: _) _; refine WPl.rdX (ReadR.indexE rfl rfl hasA (by first | assumption | omega)) ?_)
       | (show WPl _ _ _ _ _ _ _ (⟨_, .fieldAddr _ _ _, _, _, _, _⟩ :: _) _; refine WPl.rdX (ReadR.fieldE rfl hasA (by first | assumption | omega)) ?_)
       | (show WPl _ _ _ _ _ _ _ (⟨_, .load _ _, _, _, _, _⟩ :: _) _; first | refine WPl.rdX (ReadR.loadE rfl hasA (by assumption)) ?_ | refine WPl.rdX (ReadR.loadES (by assumption) (by first | assumption | omega) rfl hasA) ?_)
       | (show WPl _ _ _ _ _ _ _ (⟨_, .slice _ _ _ _ _, _, _, _, _⟩ :: _) _; first | refine WPl.rdX (ReadR.sliceH rfl rfl hasA (by omega)) ?_ | refine WPl.rdX (ReadR.sliceL rfl rfl hasA (by omega)) ?_ | refine WPl.rdX (ReadR.sliceLH rfl rfl rfl hasA (by omega) (by omega)) ?_)
       | (refine WPl.spQ (fun hc => ?_) (fun hc => ?_) <;> try exact prA)
       | fail)
      refine WPq.gbagI (row := brow) (es := K.B) (es' := BA ++ BB) (x := (x.v, x.bs)) brow_own hpp (by show Takes _ [gbag brow (BA ++ BB), rowN 36 21 x.v x.bs.length (bks x.bs)] _; exact takesA) ?_
      exact WPq.dX (vs := [.int .i64 6]) (rfA gX K) ⟨K, rfl, hK, rfl, hv0, rfl⟩ (ho := rfA_own)
    | some k =>
      rw [hha] at c27
      have c27 : Triple Try.prog 41 #[ag (shC x.s x.v), .int .i64 bd] [rdN x.v x.bs.length (bks x.bs)] (RVal (.int .i64 (k : Int))) := c27
      have hhb : hasB x.bs bd = true := by rw [hasI_hasB, hha]; rfl
      have hk00 : ¬ (k : Int) < 0 := by omega
      obtain ⟨z, hz, hzi⟩ := hasI_some hha
      have hkl := (List.getElem?_eq_some_iff.1 hz).1
      have e : turnS K.sb id bd (setBy bd fun k => { k with dr := true }) = (updB K.sb id (setBy bd fun k => { k with dr := true }), 0) := by unfold turnS; rw [hfd]; show (if hasB x.bs bd = true then _ else _) = _; rw [if_pos hhb]
      rw [e]
      have hset : _ = setBy bd (fun k => { k with dr := true }) x.bs := (set_setBy hsx hz (fun k => { k with dr := true })).trans (by rw [hzi])
      have hs1 := bks_1 (b' := { z with dr := true }) (o := 20) (u := .bool true) hz (by omega) (by simp [flat_eq, z.ad.len, u8s_length])
      obtain ⟨bs', hbs'⟩ : ∃ bs', bs' = setBy bd (fun k => { k with dr := true }) x.bs := ⟨_, rfl⟩
      have hlb' : bs'.length = x.bs.length := by rw [hbs', setBy_len]
      refine Triple.enter Try.func35 rfl Try.ntmps35 rfl (fun W => ?_)
      dsimp only [argsF, Nat.reduceAdd]
      refine WPc.gbagO (row := brow) brow_own hpp ?_
      rw [show brow (x.v, x.bs) = [rowN 36 21 x.v x.bs.length (bks x.bs)] from rfl, List.cons_append, List.nil_append]
      repeat' (first
       | refine WPl.nil ?_ | refine WPq.then ?_ | refine WPq.thenR ?_ | refine WPq.thenE ?_ | refine WPq.blockN ?_ | refine WPq.blockR ?_ | refine WPq.blockE ?_ | refine WPq.blockO rfl ?_ | refine WPc.seq ?_ | refine WPc.block ?_ | refine WPc.ret ?_ | refine WPc.exit ?_ | refine WPc.skip ?_ | refine WPc.region ?_
       | (refine isCond ?_; first | refine WPc.cT ?_ | refine WPc.cF ?_ | (refine WPc.cQ (fun hc => ?_) (fun hc => ?_) <;> try exact prA))
       | (refine isC 16 ?_; refine WPl.cV c16 ?_ (hΔ := provsX))
       | (refine isD 18 ?_; refine WPl.rdX (ReadR.binE rfl rfl BinR.lss (congrArg Value.bool (decide_eq_false hi0))) ?_)
       | (refine isD 24 ?_; refine WPl.rdX (ReadR.indexE (i := i) rfl rfl hasA hil) ?_)
       | (refine isD 25 ?_; refine WPl.rdX (ReadR.loadES (cs := shC x.s x.v) hx3 (by omega) rfl hasA) ?_)
       | (refine isC 27 ?_; refine WPl.cV (c27) ?_)
       | (refine isD 29 ?_; refine WPl.rdX (ReadR.binE rfl rfl BinR.lss (congrArg Value.bool (decide_eq_false hk00))) ?_)
       | (refine isD 31 ?_; refine WPl.rdX (ReadR.binE rfl rfl BinR.eql (congrArg Value.bool (decide_eq_false (by omega)))) ?_)
       | (refine isD 46 ?_; refine WPl.rdX (ReadR.indexE (i := i) rfl rfl hasA hil) ?_)
       | (refine isD 47 ?_; refine WPl.rdX (ReadR.fieldE rfl hasA (by omega)) ?_)
       | (refine isD 48 ?_; refine WPl.rdX (ReadR.loadE rfl hasA hx22) ?_)
       | (refine isD 40 ?_; refine WPl.litS0 fun v40 hv40 => ?_)
       | (refine isD 49 ?_; refine WPl.appN (m := 0) (m2 := x.bs.length) (xs := []) (ys := bks x.bs) bks_len bks_ones (by omega) (fun v49 hv49 => ?_); rw [Nat.zero_add x.bs.length, List.nil_append (bks x.bs)])
       | (refine isD 51 ?_; refine WPl.rdX (ReadR.binE rfl rfl BinR.eql (congrArg Value.bool (decide_eq_true (by omega)))) ?_)
       | (refine isD 59 ?_; refine WPl.rdX (ReadR.binE rfl rfl BinR.eql (congrArg Value.bool (decide_eq_true (by omega)))) ?_)
       | (refine isD 63 ?_; refine WPl.rdX (ReadR.binE rfl rfl BinR.eql (congrArg Value.bool (decide_eq_false (by omega)))) ?_)
       | (refine isD 70 ?_; refine WPl.rdX (ReadR.binE rfl rfl BinR.eql (congrArg Value.bool (decide_eq_false (by omega)))) ?_)
       | (refine isD 60 ?_; refine WPl.rdX (ReadR.indexE (i := k) rfl rfl hasA hkl) ?_)
       | (refine isD 61 ?_; refine WPl.rdX (ReadR.fieldE rfl hasA (by omega)) ?_)
       | (show WPl _ _ _ _ _ _ _ (⟨_, .store _ (.tmp 61) _, _, _, _, _⟩ :: _) _; refine WPl.stEN (i := k * 21 + 20) (m := x.bs.length) (xs := bks x.bs) (by omega) ?_)
       | (refine isD 85 ?_; refine WPl.rdX (ReadR.indexE (i := i) rfl rfl hasA hil) ?_)
       | (refine isD 86 ?_; refine WPl.rdX (ReadR.fieldE rfl hasA (by omega)) ?_)
       | (show WPl _ _ _ _ _ _ _ (⟨_, .store _ (.tmp 86) _, _, _, _, _⟩ :: _) _; refine WPl.stEN (i := i * 23 + 22) (m := K.L.length) (xs := svs K.L) (by omega) ?_)
       | (refine isOp ?_; first | refine WPl.rd ?_ | refine WPl.sk ?_ | refine WPl.rdB ?_)
       | (refine isSt ?_; first | refine WPl.st1 ?_ | refine WPl.stA ?_ | refine WPl.stEB ?_ | refine WPl.stRB ?_)
       | (show WPl _ _ _ _ _ _ _ (⟨_, .indexAddr _ _ _, _, _, _, _⟩ :: _) _; refine WPl.rdX (ReadR.indexE rfl rfl hasA (by first | assumption | omega)) ?_)
       | (show WPl _ _ _ _ _ _ _ (⟨_, .fieldAddr _ _ _, _, _, _, _⟩ :: _) _; refine WPl.rdX (ReadR.fieldE rfl hasA (by first | assumption | omega)) ?_)
       | (show WPl _ _ _ _ _ _ _ (⟨_, .load _ _, _, _, _, _⟩ :: _) _; first | refine WPl.rdX (ReadR.loadE rfl hasA (by assumption)) ?_ | refine WPl.rdX (ReadR.loadES (by assumption) (by first | assumption | omega) rfl hasA) ?_)
       | (show WPl _ _ _ _ _ _ _ (⟨_, .slice _ _ _ _ _, _, _, _, _⟩ :: _) _; first | refine WPl.rdX (ReadR.sliceH rfl rfl hasA (by omega)) ?_ | refine WPl.rdX (ReadR.sliceL rfl rfl hasA (by omega)) ?_ | refine WPl.rdX (ReadR.sliceLH rfl rfl rfl hasA (by omega) (by omega)) ?_)
       | (refine WPl.spQ (fun hc => ?_) (fun hc => ?_) <;> try exact prA)
       | fail)
      refine WPq.gbagI (row := brow) (es := K.B) (es' := BA ++ BB) (x := (x.v, x.bs)) brow_own hpp (by show Takes _ [gbag brow (BA ++ BB), rowN 36 21 x.v x.bs.length (bks x.bs)] _; exact takesA) ?_
      rw [hs1, hset, ← hbs', ← hlb', svs_set hx v49 bs', show K.L.length = (K.L.set i ⟨v49, x.s, bs'⟩).length from List.length_set.symm]
      have hup : updB K.sb id (setBy bd (fun k => { k with dr := true })) = (K.L.set i ⟨v49, x.s, bs'⟩).map SX.sb := by rw [hbs']; exact updR_set hs hx hxi v49 _
      rw [hup]
      refine WPq.gbagI (row := brow) (es := (v49, bs') :: K.B) (es' := K.B) (x := (v49, bs')) brow_own (List.Perm.refl _) (by show Takes _ [gbag brow K.B, rowN 36 21 v49 bs'.length (bks bs')] _; exact takesA) ?_
      exact WPq.dX (vs := [.int .i64 0]) (rfA gX ⟨K.vL, K.L.set i ⟨v49, x.s, bs'⟩, (v49, bs') :: K.B⟩) ⟨⟨K.vL, K.L.set i ⟨v49, x.s, bs'⟩, (v49, bs') :: K.B⟩, rfl, RGok_set hK hv49, rfl, hv0, rfl⟩ (ho := rfA_own)
theorem rturn2_t (hs : SrtL K.sb) (hbs : ∀ x ∈ K.L, SrtB x.bs ∧ x.bs.length ≤ 16) (id bd : Int) : Triple Try.prog 35 #[hF gX, .int .i64 id, .int .i64 bd, .int .i64 2, .int .i64 0] (rfA gX K) (RXm gX (turnS K.sb id bd (setBy bd fun k => { k with dr := false })).2 (turnS K.sb id bd (setBy bd fun k => { k with dr := false })).1) := by
  have c16 := rat20_t gX K.vL K.L hm id
  have hcl := svs_len (l := K.L)
  cases hat : atR K.L id with
  | none =>
    rw [hat] at c16
    have c16 : Triple Try.prog 40 #[hF gX, .int .i64 id] [rbx gX 49 (rfc K.vL), rdN K.vL K.L.length (svs K.L)] (RVal (.int .i64 (-1))) := c16
    have e : turnS K.sb id bd (setBy bd fun k => { k with dr := false }) = (K.sb, 6) := by unfold turnS; rw [atR_no hat]
    rw [e]
    refine Triple.enter Try.func35 rfl Try.ntmps35 rfl (fun W => ?_)
    dsimp only [argsF, Nat.reduceAdd]
    repeat' (first
     | refine WPl.nil ?_ | refine WPq.then ?_ | refine WPq.thenR ?_ | refine WPq.thenE ?_ | refine WPq.blockN ?_ | refine WPq.blockR ?_ | refine WPq.blockE ?_ | refine WPq.blockO rfl ?_ | refine WPc.seq ?_ | refine WPc.block ?_ | refine WPc.ret ?_ | refine WPc.exit ?_ | refine WPc.skip ?_ | refine WPc.region ?_
     | (refine isCond ?_; first | refine WPc.cT ?_ | refine WPc.cF ?_ | (refine WPc.cQ (fun hc => ?_) (fun hc => ?_) <;> try exact prA))
     | (refine isC 16 ?_; refine WPl.cV c16 ?_ (hΔ := provsX))
     | (refine isD 18 ?_; refine WPl.rdX (ReadR.binE rfl rfl BinR.lss (congrArg Value.bool (decide_eq_true (show (-1 : Int) < 0 by omega)))) ?_)
     | (refine isOp ?_; first | refine WPl.rd ?_ | refine WPl.sk ?_ | refine WPl.rdB ?_)
     | (refine isSt ?_; first | refine WPl.st1 ?_ | refine WPl.stA ?_ | refine WPl.stEB ?_ | refine WPl.stRB ?_)
     | (show WPl _ _ _ _ _ _ _ (⟨_, .indexAddr _ _ _, _, _, _, _⟩ :: _) _; refine WPl.rdX (ReadR.indexE rfl rfl hasA (by first | assumption | omega)) ?_)
     | (show WPl _ _ _ _ _ _ _ (⟨_, .fieldAddr _ _ _, _, _, _, _⟩ :: _) _; refine WPl.rdX (ReadR.fieldE rfl hasA (by first | assumption | omega)) ?_)
     | (show WPl _ _ _ _ _ _ _ (⟨_, .load _ _, _, _, _, _⟩ :: _) _; first | refine WPl.rdX (ReadR.loadE rfl hasA (by assumption)) ?_ | refine WPl.rdX (ReadR.loadES (by assumption) (by first | assumption | omega) rfl hasA) ?_)
     | (show WPl _ _ _ _ _ _ _ (⟨_, .slice _ _ _ _ _, _, _, _, _⟩ :: _) _; first | refine WPl.rdX (ReadR.sliceH rfl rfl hasA (by omega)) ?_ | refine WPl.rdX (ReadR.sliceL rfl rfl hasA (by omega)) ?_ | refine WPl.rdX (ReadR.sliceLH rfl rfl rfl hasA (by omega) (by omega)) ?_)
     | (refine WPl.spQ (fun hc => ?_) (fun hc => ?_) <;> try exact prA)
     | fail)
    exact WPq.dX (vs := [.int .i64 6]) (rfA gX K) ⟨K, rfl, hK, rfl, hv0, rfl⟩ (ho := rfA_own)
  | some i =>
    rw [hat] at c16
    obtain ⟨x, hx, hxi⟩ := atR_some hat
    have hil := (List.getElem?_eq_some_iff.1 hx).1
    have hxm := List.mem_of_getElem? hx
    have c16 : Triple Try.prog 40 #[hF gX, .int .i64 id] [rbx gX 49 (rfc K.vL), rdN K.vL K.L.length (svs K.L)] (RVal (.int .i64 (i : Int))) := c16
    have hi0 : ¬ (i : Int) < 0 := by omega
    have hfd : findS K.sb id = some x.sb := atR_find hat hx
    have hx3 := svs_at hx
    have hxl := x.s.ad.len
    have hx22 : (svs K.L)[i * 23 + 22]? = some x.v := by
      rw [svs_cell hx (by omega)]
      exact sh22
    obtain ⟨hxv, hxB⟩ := hK x hxm
    obtain ⟨hsx, hlx⟩ := hbs x hxm
    obtain ⟨BA, BB, hBB⟩ := List.append_of_mem hxB
    have hpp : K.B.Perm ((x.v, x.bs) :: (BA ++ BB)) := by rw [hBB]; exact List.perm_middle
    have hfx := shC_ok (s := x.s) hxv
    have c27 := rhas_t x.s x.v hxv x.bs (by omega) bd
    have hL := bks_len (l := x.bs)
    have hxlen : x.bs.length < 1000 := by omega
    have hone0 := bks_ones (D := x.bs)
    cases hha : hasI x.bs bd with
    | none =>
      rw [hha] at c27
      have c27 : Triple Try.prog 41 #[ag (shC x.s x.v), .int .i64 bd] [rdN x.v x.bs.length (bks x.bs)] (RVal (.int .i64 (-1))) := c27
      have hhb : hasB x.bs bd = false := by rw [hasI_hasB, hha]; rfl
      have e : turnS K.sb id bd (setBy bd fun k => { k with dr := false }) = (K.sb, 6) := by unfold turnS; rw [hfd]; simp only [hhb]; simp
      rw [e]
      refine Triple.enter Try.func35 rfl Try.ntmps35 rfl (fun W => ?_)
      dsimp only [argsF, Nat.reduceAdd]
      refine WPc.gbagO (row := brow) brow_own hpp ?_
      rw [show brow (x.v, x.bs) = [rowN 36 21 x.v x.bs.length (bks x.bs)] from rfl, List.cons_append, List.nil_append]
      repeat' (first
       | refine WPl.nil ?_ | refine WPq.then ?_ | refine WPq.thenR ?_ | refine WPq.thenE ?_ | refine WPq.blockN ?_ | refine WPq.blockR ?_ | refine WPq.blockE ?_ | refine WPq.blockO rfl ?_ | refine WPc.seq ?_ | refine WPc.block ?_ | refine WPc.ret ?_ | refine WPc.exit ?_ | refine WPc.skip ?_ | refine WPc.region ?_
       | (refine isCond ?_; first | refine WPc.cT ?_ | refine WPc.cF ?_ | (refine WPc.cQ (fun hc => ?_) (fun hc => ?_) <;> try exact prA))
       | (refine isC 16 ?_; refine WPl.cV c16 ?_ (hΔ := provsX))
       | (refine isD 18 ?_; refine WPl.rdX (ReadR.binE rfl rfl BinR.lss (congrArg Value.bool (decide_eq_false hi0))) ?_)
       | (refine isD 24 ?_; refine WPl.rdX (ReadR.indexE (i := i) rfl rfl hasA hil) ?_)
       | (refine isD 25 ?_; refine WPl.rdX (ReadR.loadES (cs := shC x.s x.v) hx3 (by omega) rfl hasA) ?_)
       | (refine isC 27 ?_; refine WPl.cV (c27) ?_)
       | (refine isD 29 ?_; refine WPl.rdX (ReadR.binE rfl rfl BinR.lss (congrArg Value.bool (decide_eq_true (show (-1 : Int) < 0 by omega)))) ?_)
       | (refine isOp ?_; first | refine WPl.rd ?_ | refine WPl.sk ?_ | refine WPl.rdB ?_)
       | (refine isSt ?_; first | refine WPl.st1 ?_ | refine WPl.stA ?_ | refine WPl.stEB ?_ | refine WPl.stRB ?_)
       | (show WPl _ _ _ _ _ _ _ (⟨_, .indexAddr _ _ _, _, _, _, _⟩ :: _) _; refine WPl.rdX (ReadR.indexE rfl rfl hasA (by first | assumption | omega)) ?_)
       | (show WPl _ _ _ _ _ _ _ (⟨_, .fieldAddr _ _ _, _, _, _, _⟩ :: _) _; refine WPl.rdX (ReadR.fieldE rfl hasA (by first | assumption | omega)) ?_)
       | (show WPl _ _ _ _ _ _ _ (⟨_, .load _ _, _, _, _, _⟩ :: _) _; first | refine WPl.rdX (ReadR.loadE rfl hasA (by assumption)) ?_ | refine WPl.rdX (ReadR.loadES (by assumption) (by first | assumption | omega) rfl hasA) ?_)
       | (show WPl _ _ _ _ _ _ _ (⟨_, .slice _ _ _ _ _, _, _, _, _⟩ :: _) _; first | refine WPl.rdX (ReadR.sliceH rfl rfl hasA (by omega)) ?_ | refine WPl.rdX (ReadR.sliceL rfl rfl hasA (by omega)) ?_ | refine WPl.rdX (ReadR.sliceLH rfl rfl rfl hasA (by omega) (by omega)) ?_)
       | (refine WPl.spQ (fun hc => ?_) (fun hc => ?_) <;> try exact prA)
       | fail)
      refine WPq.gbagI (row := brow) (es := K.B) (es' := BA ++ BB) (x := (x.v, x.bs)) brow_own hpp (by show Takes _ [gbag brow (BA ++ BB), rowN 36 21 x.v x.bs.length (bks x.bs)] _; exact takesA) ?_
      exact WPq.dX (vs := [.int .i64 6]) (rfA gX K) ⟨K, rfl, hK, rfl, hv0, rfl⟩ (ho := rfA_own)
    | some k =>
      rw [hha] at c27
      have c27 : Triple Try.prog 41 #[ag (shC x.s x.v), .int .i64 bd] [rdN x.v x.bs.length (bks x.bs)] (RVal (.int .i64 (k : Int))) := c27
      have hhb : hasB x.bs bd = true := by rw [hasI_hasB, hha]; rfl
      have hk00 : ¬ (k : Int) < 0 := by omega
      obtain ⟨z, hz, hzi⟩ := hasI_some hha
      have hkl := (List.getElem?_eq_some_iff.1 hz).1
      have e : turnS K.sb id bd (setBy bd fun k => { k with dr := false }) = (updB K.sb id (setBy bd fun k => { k with dr := false }), 0) := by unfold turnS; rw [hfd]; show (if hasB x.bs bd = true then _ else _) = _; rw [if_pos hhb]
      rw [e]
      have hset : _ = setBy bd (fun k => { k with dr := false }) x.bs := (set_setBy hsx hz (fun k => { k with dr := false })).trans (by rw [hzi])
      have hs1 := bks_1 (b' := { z with dr := false }) (o := 20) (u := .bool false) hz (by omega) (by simp [flat_eq, z.ad.len, u8s_length])
      obtain ⟨bs', hbs'⟩ : ∃ bs', bs' = setBy bd (fun k => { k with dr := false }) x.bs := ⟨_, rfl⟩
      have hlb' : bs'.length = x.bs.length := by rw [hbs', setBy_len]
      refine Triple.enter Try.func35 rfl Try.ntmps35 rfl (fun W => ?_)
      dsimp only [argsF, Nat.reduceAdd]
      refine WPc.gbagO (row := brow) brow_own hpp ?_
      rw [show brow (x.v, x.bs) = [rowN 36 21 x.v x.bs.length (bks x.bs)] from rfl, List.cons_append, List.nil_append]
      repeat' (first
       | refine WPl.nil ?_ | refine WPq.then ?_ | refine WPq.thenR ?_ | refine WPq.thenE ?_ | refine WPq.blockN ?_ | refine WPq.blockR ?_ | refine WPq.blockE ?_ | refine WPq.blockO rfl ?_ | refine WPc.seq ?_ | refine WPc.block ?_ | refine WPc.ret ?_ | refine WPc.exit ?_ | refine WPc.skip ?_ | refine WPc.region ?_
       | (refine isCond ?_; first | refine WPc.cT ?_ | refine WPc.cF ?_ | (refine WPc.cQ (fun hc => ?_) (fun hc => ?_) <;> try exact prA))
       | (refine isC 16 ?_; refine WPl.cV c16 ?_ (hΔ := provsX))
       | (refine isD 18 ?_; refine WPl.rdX (ReadR.binE rfl rfl BinR.lss (congrArg Value.bool (decide_eq_false hi0))) ?_)
       | (refine isD 24 ?_; refine WPl.rdX (ReadR.indexE (i := i) rfl rfl hasA hil) ?_)
       | (refine isD 25 ?_; refine WPl.rdX (ReadR.loadES (cs := shC x.s x.v) hx3 (by omega) rfl hasA) ?_)
       | (refine isC 27 ?_; refine WPl.cV (c27) ?_)
       | (refine isD 29 ?_; refine WPl.rdX (ReadR.binE rfl rfl BinR.lss (congrArg Value.bool (decide_eq_false hk00))) ?_)
       | (refine isD 31 ?_; refine WPl.rdX (ReadR.binE rfl rfl BinR.eql (congrArg Value.bool (decide_eq_false (by omega)))) ?_)
       | (refine isD 46 ?_; refine WPl.rdX (ReadR.indexE (i := i) rfl rfl hasA hil) ?_)
       | (refine isD 47 ?_; refine WPl.rdX (ReadR.fieldE rfl hasA (by omega)) ?_)
       | (refine isD 48 ?_; refine WPl.rdX (ReadR.loadE rfl hasA hx22) ?_)
       | (refine isD 40 ?_; refine WPl.litS0 fun v40 hv40 => ?_)
       | (refine isD 49 ?_; refine WPl.appN (m := 0) (m2 := x.bs.length) (xs := []) (ys := bks x.bs) bks_len bks_ones (by omega) (fun v49 hv49 => ?_); rw [Nat.zero_add x.bs.length, List.nil_append (bks x.bs)])
       | (refine isD 51 ?_; refine WPl.rdX (ReadR.binE rfl rfl BinR.eql (congrArg Value.bool (decide_eq_false (by omega)))) ?_)
       | (refine isD 54 ?_; refine WPl.rdX (ReadR.binE rfl rfl BinR.eql (congrArg Value.bool (decide_eq_true (by omega)))) ?_)
       | (refine isD 59 ?_; refine WPl.rdX (ReadR.binE rfl rfl BinR.eql (congrArg Value.bool (decide_eq_false (by omega)))) ?_)
       | (refine isD 63 ?_; refine WPl.rdX (ReadR.binE rfl rfl BinR.eql (congrArg Value.bool (decide_eq_false (by omega)))) ?_)
       | (refine isD 70 ?_; refine WPl.rdX (ReadR.binE rfl rfl BinR.eql (congrArg Value.bool (decide_eq_false (by omega)))) ?_)
       | (refine isD 60 ?_; refine WPl.rdX (ReadR.indexE (i := k) rfl rfl hasA hkl) ?_)
       | (refine isD 61 ?_; refine WPl.rdX (ReadR.fieldE rfl hasA (by omega)) ?_)
       | (show WPl _ _ _ _ _ _ _ (⟨_, .store _ (.tmp 61) _, _, _, _, _⟩ :: _) _; refine WPl.stEN (i := k * 21 + 20) (m := x.bs.length) (xs := bks x.bs) (by omega) ?_)
       | (refine isD 85 ?_; refine WPl.rdX (ReadR.indexE (i := i) rfl rfl hasA hil) ?_)
       | (refine isD 86 ?_; refine WPl.rdX (ReadR.fieldE rfl hasA (by omega)) ?_)
       | (show WPl _ _ _ _ _ _ _ (⟨_, .store _ (.tmp 86) _, _, _, _, _⟩ :: _) _; refine WPl.stEN (i := i * 23 + 22) (m := K.L.length) (xs := svs K.L) (by omega) ?_)
       | (refine isOp ?_; first | refine WPl.rd ?_ | refine WPl.sk ?_ | refine WPl.rdB ?_)
       | (refine isSt ?_; first | refine WPl.st1 ?_ | refine WPl.stA ?_ | refine WPl.stEB ?_ | refine WPl.stRB ?_)
       | (show WPl _ _ _ _ _ _ _ (⟨_, .indexAddr _ _ _, _, _, _, _⟩ :: _) _; refine WPl.rdX (ReadR.indexE rfl rfl hasA (by first | assumption | omega)) ?_)
       | (show WPl _ _ _ _ _ _ _ (⟨_, .fieldAddr _ _ _, _, _, _, _⟩ :: _) _; refine WPl.rdX (ReadR.fieldE rfl hasA (by first | assumption | omega)) ?_)
       | (show WPl _ _ _ _ _ _ _ (⟨_, .load _ _, _, _, _, _⟩ :: _) _; first | refine WPl.rdX (ReadR.loadE rfl hasA (by assumption)) ?_ | refine WPl.rdX (ReadR.loadES (by assumption) (by first | assumption | omega) rfl hasA) ?_)
       | (show WPl _ _ _ _ _ _ _ (⟨_, .slice _ _ _ _ _, _, _, _, _⟩ :: _) _; first | refine WPl.rdX (ReadR.sliceH rfl rfl hasA (by omega)) ?_ | refine WPl.rdX (ReadR.sliceL rfl rfl hasA (by omega)) ?_ | refine WPl.rdX (ReadR.sliceLH rfl rfl rfl hasA (by omega) (by omega)) ?_)
       | (refine WPl.spQ (fun hc => ?_) (fun hc => ?_) <;> try exact prA)
       | fail)
      refine WPq.gbagI (row := brow) (es := K.B) (es' := BA ++ BB) (x := (x.v, x.bs)) brow_own hpp (by show Takes _ [gbag brow (BA ++ BB), rowN 36 21 x.v x.bs.length (bks x.bs)] _; exact takesA) ?_
      rw [hs1, hset, ← hbs', ← hlb', svs_set hx v49 bs', show K.L.length = (K.L.set i ⟨v49, x.s, bs'⟩).length from List.length_set.symm]
      have hup : updB K.sb id (setBy bd (fun k => { k with dr := false })) = (K.L.set i ⟨v49, x.s, bs'⟩).map SX.sb := by rw [hbs']; exact updR_set hs hx hxi v49 _
      rw [hup]
      refine WPq.gbagI (row := brow) (es := (v49, bs') :: K.B) (es' := K.B) (x := (v49, bs')) brow_own (List.Perm.refl _) (by show Takes _ [gbag brow K.B, rowN 36 21 v49 bs'.length (bks bs')] _; exact takesA) ?_
      exact WPq.dX (vs := [.int .i64 0]) (rfA gX ⟨K.vL, K.L.set i ⟨v49, x.s, bs'⟩, (v49, bs') :: K.B⟩) ⟨⟨K.vL, K.L.set i ⟨v49, x.s, bs'⟩, (v49, bs') :: K.B⟩, rfl, RGok_set hK hv49, rfl, hv0, rfl⟩ (ho := rfA_own)
theorem rturn3_t (hs : SrtL K.sb) (hbs : ∀ x ∈ K.L, SrtB x.bs ∧ x.bs.length ≤ 16) (id bd n : Int) : Triple Try.prog 35 #[hF gX, .int .i64 id, .int .i64 bd, .int .i64 3, .int .i64 n] (rfA gX K) (RXm gX (weighS K.sb id bd n).2 (weighS K.sb id bd n).1) := by
  have c16 := rat20_t gX K.vL K.L hm id
  have hcl := svs_len (l := K.L)
  cases hat : atR K.L id with
  | none =>
    rw [hat] at c16
    have c16 : Triple Try.prog 40 #[hF gX, .int .i64 id] [rbx gX 49 (rfc K.vL), rdN K.vL K.L.length (svs K.L)] (RVal (.int .i64 (-1))) := c16
    have e : weighS K.sb id bd n = (K.sb, 6) := by unfold weighS turnS; rw [atR_no hat]
    rw [e]
    refine Triple.enter Try.func35 rfl Try.ntmps35 rfl (fun W => ?_)
    dsimp only [argsF, Nat.reduceAdd]
    repeat' (first
     | refine WPl.nil ?_ | refine WPq.then ?_ | refine WPq.thenR ?_ | refine WPq.thenE ?_ | refine WPq.blockN ?_ | refine WPq.blockR ?_ | refine WPq.blockE ?_ | refine WPq.blockO rfl ?_ | refine WPc.seq ?_ | refine WPc.block ?_ | refine WPc.ret ?_ | refine WPc.exit ?_ | refine WPc.skip ?_ | refine WPc.region ?_
     | (refine isCond ?_; first | refine WPc.cT ?_ | refine WPc.cF ?_ | (refine WPc.cQ (fun hc => ?_) (fun hc => ?_) <;> try exact prA))
     | (refine isC 16 ?_; refine WPl.cV c16 ?_ (hΔ := provsX))
     | (refine isD 18 ?_; refine WPl.rdX (ReadR.binE rfl rfl BinR.lss (congrArg Value.bool (decide_eq_true (show (-1 : Int) < 0 by omega)))) ?_)
     | (refine isOp ?_; first | refine WPl.rd ?_ | refine WPl.sk ?_ | refine WPl.rdB ?_)
     | (refine isSt ?_; first | refine WPl.st1 ?_ | refine WPl.stA ?_ | refine WPl.stEB ?_ | refine WPl.stRB ?_)
     | (show WPl _ _ _ _ _ _ _ (⟨_, .indexAddr _ _ _, _, _, _, _⟩ :: _) _; refine WPl.rdX (ReadR.indexE rfl rfl hasA (by first | assumption | omega)) ?_)
     | (show WPl _ _ _ _ _ _ _ (⟨_, .fieldAddr _ _ _, _, _, _, _⟩ :: _) _; refine WPl.rdX (ReadR.fieldE rfl hasA (by first | assumption | omega)) ?_)
     | (show WPl _ _ _ _ _ _ _ (⟨_, .load _ _, _, _, _, _⟩ :: _) _; first | refine WPl.rdX (ReadR.loadE rfl hasA (by assumption)) ?_ | refine WPl.rdX (ReadR.loadES (by assumption) (by first | assumption | omega) rfl hasA) ?_)
     | (show WPl _ _ _ _ _ _ _ (⟨_, .slice _ _ _ _ _, _, _, _, _⟩ :: _) _; first | refine WPl.rdX (ReadR.sliceH rfl rfl hasA (by omega)) ?_ | refine WPl.rdX (ReadR.sliceL rfl rfl hasA (by omega)) ?_ | refine WPl.rdX (ReadR.sliceLH rfl rfl rfl hasA (by omega) (by omega)) ?_)
     | (refine WPl.spQ (fun hc => ?_) (fun hc => ?_) <;> try exact prA)
     | fail)
    exact WPq.dX (vs := [.int .i64 6]) (rfA gX K) ⟨K, rfl, hK, rfl, hv0, rfl⟩ (ho := rfA_own)
  | some i =>
    rw [hat] at c16
    obtain ⟨x, hx, hxi⟩ := atR_some hat
    have hil := (List.getElem?_eq_some_iff.1 hx).1
    have hxm := List.mem_of_getElem? hx
    have c16 : Triple Try.prog 40 #[hF gX, .int .i64 id] [rbx gX 49 (rfc K.vL), rdN K.vL K.L.length (svs K.L)] (RVal (.int .i64 (i : Int))) := c16
    have hi0 : ¬ (i : Int) < 0 := by omega
    have hfd : findS K.sb id = some x.sb := atR_find hat hx
    have hx3 := svs_at hx
    have hxl := x.s.ad.len
    have hx22 : (svs K.L)[i * 23 + 22]? = some x.v := by
      rw [svs_cell hx (by omega)]
      exact sh22
    obtain ⟨hxv, hxB⟩ := hK x hxm
    obtain ⟨hsx, hlx⟩ := hbs x hxm
    obtain ⟨BA, BB, hBB⟩ := List.append_of_mem hxB
    have hpp : K.B.Perm ((x.v, x.bs) :: (BA ++ BB)) := by rw [hBB]; exact List.perm_middle
    have hfx := shC_ok (s := x.s) hxv
    have c27 := rhas_t x.s x.v hxv x.bs (by omega) bd
    have hL := bks_len (l := x.bs)
    have hxlen : x.bs.length < 1000 := by omega
    have hone0 := bks_ones (D := x.bs)
    cases hha : hasI x.bs bd with
    | none =>
      rw [hha] at c27
      have c27 : Triple Try.prog 41 #[ag (shC x.s x.v), .int .i64 bd] [rdN x.v x.bs.length (bks x.bs)] (RVal (.int .i64 (-1))) := c27
      have hhb : hasB x.bs bd = false := by rw [hasI_hasB, hha]; rfl
      have e : weighS K.sb id bd n = (K.sb, 6) := by unfold weighS turnS; rw [hfd]; simp only [hhb]; simp
      rw [e]
      refine Triple.enter Try.func35 rfl Try.ntmps35 rfl (fun W => ?_)
      dsimp only [argsF, Nat.reduceAdd]
      refine WPc.gbagO (row := brow) brow_own hpp ?_
      rw [show brow (x.v, x.bs) = [rowN 36 21 x.v x.bs.length (bks x.bs)] from rfl, List.cons_append, List.nil_append]
      repeat' (first
       | refine WPl.nil ?_ | refine WPq.then ?_ | refine WPq.thenR ?_ | refine WPq.thenE ?_ | refine WPq.blockN ?_ | refine WPq.blockR ?_ | refine WPq.blockE ?_ | refine WPq.blockO rfl ?_ | refine WPc.seq ?_ | refine WPc.block ?_ | refine WPc.ret ?_ | refine WPc.exit ?_ | refine WPc.skip ?_ | refine WPc.region ?_
       | (refine isCond ?_; first | refine WPc.cT ?_ | refine WPc.cF ?_ | (refine WPc.cQ (fun hc => ?_) (fun hc => ?_) <;> try exact prA))
       | (refine isC 16 ?_; refine WPl.cV c16 ?_ (hΔ := provsX))
       | (refine isD 18 ?_; refine WPl.rdX (ReadR.binE rfl rfl BinR.lss (congrArg Value.bool (decide_eq_false hi0))) ?_)
       | (refine isD 24 ?_; refine WPl.rdX (ReadR.indexE (i := i) rfl rfl hasA hil) ?_)
       | (refine isD 25 ?_; refine WPl.rdX (ReadR.loadES (cs := shC x.s x.v) hx3 (by omega) rfl hasA) ?_)
       | (refine isC 27 ?_; refine WPl.cV (c27) ?_)
       | (refine isD 29 ?_; refine WPl.rdX (ReadR.binE rfl rfl BinR.lss (congrArg Value.bool (decide_eq_true (show (-1 : Int) < 0 by omega)))) ?_)
       | (refine isOp ?_; first | refine WPl.rd ?_ | refine WPl.sk ?_ | refine WPl.rdB ?_)
       | (refine isSt ?_; first | refine WPl.st1 ?_ | refine WPl.stA ?_ | refine WPl.stEB ?_ | refine WPl.stRB ?_)
       | (show WPl _ _ _ _ _ _ _ (⟨_, .indexAddr _ _ _, _, _, _, _⟩ :: _) _; refine WPl.rdX (ReadR.indexE rfl rfl hasA (by first | assumption | omega)) ?_)
       | (show WPl _ _ _ _ _ _ _ (⟨_, .fieldAddr _ _ _, _, _, _, _⟩ :: _) _; refine WPl.rdX (ReadR.fieldE rfl hasA (by first | assumption | omega)) ?_)
       | (show WPl _ _ _ _ _ _ _ (⟨_, .load _ _, _, _, _, _⟩ :: _) _; first | refine WPl.rdX (ReadR.loadE rfl hasA (by assumption)) ?_ | refine WPl.rdX (ReadR.loadES (by assumption) (by first | assumption | omega) rfl hasA) ?_)
       | (show WPl _ _ _ _ _ _ _ (⟨_, .slice _ _ _ _ _, _, _, _, _⟩ :: _) _; first | refine WPl.rdX (ReadR.sliceH rfl rfl hasA (by omega)) ?_ | refine WPl.rdX (ReadR.sliceL rfl rfl hasA (by omega)) ?_ | refine WPl.rdX (ReadR.sliceLH rfl rfl rfl hasA (by omega) (by omega)) ?_)
       | (refine WPl.spQ (fun hc => ?_) (fun hc => ?_) <;> try exact prA)
       | fail)
      refine WPq.gbagI (row := brow) (es := K.B) (es' := BA ++ BB) (x := (x.v, x.bs)) brow_own hpp (by show Takes _ [gbag brow (BA ++ BB), rowN 36 21 x.v x.bs.length (bks x.bs)] _; exact takesA) ?_
      exact WPq.dX (vs := [.int .i64 6]) (rfA gX K) ⟨K, rfl, hK, rfl, hv0, rfl⟩ (ho := rfA_own)
    | some k =>
      rw [hha] at c27
      have c27 : Triple Try.prog 41 #[ag (shC x.s x.v), .int .i64 bd] [rdN x.v x.bs.length (bks x.bs)] (RVal (.int .i64 (k : Int))) := c27
      have hhb : hasB x.bs bd = true := by rw [hasI_hasB, hha]; rfl
      have hk00 : ¬ (k : Int) < 0 := by omega
      obtain ⟨z, hz, hzi⟩ := hasI_some hha
      have hkl := (List.getElem?_eq_some_iff.1 hz).1
      by_cases hn0 : n < 0
      · have e : weighS K.sb id bd n = (K.sb, 1) := by unfold weighS turnS; rw [hfd]; show (if hasB x.bs bd = true ∧ ¬ (0 ≤ n ∧ n ≤ 10) then _ else _) = _; rw [if_pos ⟨hhb, by omega⟩]
        rw [e]
        refine Triple.enter Try.func35 rfl Try.ntmps35 rfl (fun W => ?_)
        dsimp only [argsF, Nat.reduceAdd]
        refine WPc.gbagO (row := brow) brow_own hpp ?_
        rw [show brow (x.v, x.bs) = [rowN 36 21 x.v x.bs.length (bks x.bs)] from rfl, List.cons_append, List.nil_append]
        repeat' (first
         | refine WPl.nil ?_ | refine WPq.then ?_ | refine WPq.thenR ?_ | refine WPq.thenE ?_ | refine WPq.blockN ?_ | refine WPq.blockR ?_ | refine WPq.blockE ?_ | refine WPq.blockO rfl ?_ | refine WPc.seq ?_ | refine WPc.block ?_ | refine WPc.ret ?_ | refine WPc.exit ?_ | refine WPc.skip ?_ | refine WPc.region ?_
         | (refine isCond ?_; first | refine WPc.cT ?_ | refine WPc.cF ?_ | (refine WPc.cQ (fun hc => ?_) (fun hc => ?_) <;> try exact prA))
         | (refine isC 16 ?_; refine WPl.cV c16 ?_ (hΔ := provsX))
         | (refine isD 18 ?_; refine WPl.rdX (ReadR.binE rfl rfl BinR.lss (congrArg Value.bool (decide_eq_false hi0))) ?_)
         | (refine isD 24 ?_; refine WPl.rdX (ReadR.indexE (i := i) rfl rfl hasA hil) ?_)
         | (refine isD 25 ?_; refine WPl.rdX (ReadR.loadES (cs := shC x.s x.v) hx3 (by omega) rfl hasA) ?_)
         | (refine isC 27 ?_; refine WPl.cV (c27) ?_)
         | (refine isD 29 ?_; refine WPl.rdX (ReadR.binE rfl rfl BinR.lss (congrArg Value.bool (decide_eq_false hk00))) ?_)
         | (refine isD 31 ?_; refine WPl.rdX (ReadR.binE rfl rfl BinR.eql (congrArg Value.bool (decide_eq_true (by omega)))) ?_)
         | (refine isD 34 ?_; refine WPl.rdX (ReadR.binE rfl rfl BinR.lss (congrArg Value.bool (decide_eq_true hn0))) ?_)
         | (refine isOp ?_; first | refine WPl.rd ?_ | refine WPl.sk ?_ | refine WPl.rdB ?_)
         | (refine isSt ?_; first | refine WPl.st1 ?_ | refine WPl.stA ?_ | refine WPl.stEB ?_ | refine WPl.stRB ?_)
         | (show WPl _ _ _ _ _ _ _ (⟨_, .indexAddr _ _ _, _, _, _, _⟩ :: _) _; refine WPl.rdX (ReadR.indexE rfl rfl hasA (by first | assumption | omega)) ?_)
         | (show WPl _ _ _ _ _ _ _ (⟨_, .fieldAddr _ _ _, _, _, _, _⟩ :: _) _; refine WPl.rdX (ReadR.fieldE rfl hasA (by first | assumption | omega)) ?_)
         | (show WPl _ _ _ _ _ _ _ (⟨_, .load _ _, _, _, _, _⟩ :: _) _; first | refine WPl.rdX (ReadR.loadE rfl hasA (by assumption)) ?_ | refine WPl.rdX (ReadR.loadES (by assumption) (by first | assumption | omega) rfl hasA) ?_)
         | (show WPl _ _ _ _ _ _ _ (⟨_, .slice _ _ _ _ _, _, _, _, _⟩ :: _) _; first | refine WPl.rdX (ReadR.sliceH rfl rfl hasA (by omega)) ?_ | refine WPl.rdX (ReadR.sliceL rfl rfl hasA (by omega)) ?_ | refine WPl.rdX (ReadR.sliceLH rfl rfl rfl hasA (by omega) (by omega)) ?_)
         | (refine WPl.spQ (fun hc => ?_) (fun hc => ?_) <;> try exact prA)
         | fail)
        refine WPq.gbagI (row := brow) (es := K.B) (es' := BA ++ BB) (x := (x.v, x.bs)) brow_own hpp (by show Takes _ [gbag brow (BA ++ BB), rowN 36 21 x.v x.bs.length (bks x.bs)] _; exact takesA) ?_
        exact WPq.dX (vs := [.int .i64 1]) (rfA gX K) ⟨K, rfl, hK, rfl, hv0, rfl⟩ (ho := rfA_own)
      by_cases hn1 : n > 10
      · have e : weighS K.sb id bd n = (K.sb, 1) := by unfold weighS turnS; rw [hfd]; show (if hasB x.bs bd = true ∧ ¬ (0 ≤ n ∧ n ≤ 10) then _ else _) = _; rw [if_pos ⟨hhb, by omega⟩]
        rw [e]
        refine Triple.enter Try.func35 rfl Try.ntmps35 rfl (fun W => ?_)
        dsimp only [argsF, Nat.reduceAdd]
        refine WPc.gbagO (row := brow) brow_own hpp ?_
        rw [show brow (x.v, x.bs) = [rowN 36 21 x.v x.bs.length (bks x.bs)] from rfl, List.cons_append, List.nil_append]
        repeat' (first
         | refine WPl.nil ?_ | refine WPq.then ?_ | refine WPq.thenR ?_ | refine WPq.thenE ?_ | refine WPq.blockN ?_ | refine WPq.blockR ?_ | refine WPq.blockE ?_ | refine WPq.blockO rfl ?_ | refine WPc.seq ?_ | refine WPc.block ?_ | refine WPc.ret ?_ | refine WPc.exit ?_ | refine WPc.skip ?_ | refine WPc.region ?_
         | (refine isCond ?_; first | refine WPc.cT ?_ | refine WPc.cF ?_ | (refine WPc.cQ (fun hc => ?_) (fun hc => ?_) <;> try exact prA))
         | (refine isC 16 ?_; refine WPl.cV c16 ?_ (hΔ := provsX))
         | (refine isD 18 ?_; refine WPl.rdX (ReadR.binE rfl rfl BinR.lss (congrArg Value.bool (decide_eq_false hi0))) ?_)
         | (refine isD 24 ?_; refine WPl.rdX (ReadR.indexE (i := i) rfl rfl hasA hil) ?_)
         | (refine isD 25 ?_; refine WPl.rdX (ReadR.loadES (cs := shC x.s x.v) hx3 (by omega) rfl hasA) ?_)
         | (refine isC 27 ?_; refine WPl.cV (c27) ?_)
         | (refine isD 29 ?_; refine WPl.rdX (ReadR.binE rfl rfl BinR.lss (congrArg Value.bool (decide_eq_false hk00))) ?_)
         | (refine isD 31 ?_; refine WPl.rdX (ReadR.binE rfl rfl BinR.eql (congrArg Value.bool (decide_eq_true (by omega)))) ?_)
         | (refine isD 34 ?_; refine WPl.rdX (ReadR.binE rfl rfl BinR.lss (congrArg Value.bool (decide_eq_false hn0))) ?_)
         | (refine isD 37 ?_; refine WPl.rdX (ReadR.binE rfl rfl BinR.gtr (congrArg Value.bool (decide_eq_true hn1))) ?_)
         | (refine isOp ?_; first | refine WPl.rd ?_ | refine WPl.sk ?_ | refine WPl.rdB ?_)
         | (refine isSt ?_; first | refine WPl.st1 ?_ | refine WPl.stA ?_ | refine WPl.stEB ?_ | refine WPl.stRB ?_)
         | (show WPl _ _ _ _ _ _ _ (⟨_, .indexAddr _ _ _, _, _, _, _⟩ :: _) _; refine WPl.rdX (ReadR.indexE rfl rfl hasA (by first | assumption | omega)) ?_)
         | (show WPl _ _ _ _ _ _ _ (⟨_, .fieldAddr _ _ _, _, _, _, _⟩ :: _) _; refine WPl.rdX (ReadR.fieldE rfl hasA (by first | assumption | omega)) ?_)
         | (show WPl _ _ _ _ _ _ _ (⟨_, .load _ _, _, _, _, _⟩ :: _) _; first | refine WPl.rdX (ReadR.loadE rfl hasA (by assumption)) ?_ | refine WPl.rdX (ReadR.loadES (by assumption) (by first | assumption | omega) rfl hasA) ?_)
         | (show WPl _ _ _ _ _ _ _ (⟨_, .slice _ _ _ _ _, _, _, _, _⟩ :: _) _; first | refine WPl.rdX (ReadR.sliceH rfl rfl hasA (by omega)) ?_ | refine WPl.rdX (ReadR.sliceL rfl rfl hasA (by omega)) ?_ | refine WPl.rdX (ReadR.sliceLH rfl rfl rfl hasA (by omega) (by omega)) ?_)
         | (refine WPl.spQ (fun hc => ?_) (fun hc => ?_) <;> try exact prA)
         | fail)
        refine WPq.gbagI (row := brow) (es := K.B) (es' := BA ++ BB) (x := (x.v, x.bs)) brow_own hpp (by show Takes _ [gbag brow (BA ++ BB), rowN 36 21 x.v x.bs.length (bks x.bs)] _; exact takesA) ?_
        exact WPq.dX (vs := [.int .i64 1]) (rfA gX K) ⟨K, rfl, hK, rfl, hv0, rfl⟩ (ho := rfA_own)
      have e : weighS K.sb id bd n = (updB K.sb id (setBy bd fun k => { k with wt := n }), 0) := by unfold weighS turnS; rw [hfd]; show (if hasB x.bs bd = true ∧ ¬ (0 ≤ n ∧ n ≤ 10) then _ else (if hasB x.bs bd = true then _ else _)) = _; rw [if_neg (by omega), if_pos hhb]
      rw [e]
      have hset : _ = setBy bd (fun k => { k with wt := n }) x.bs := (set_setBy hsx hz (fun k => { k with wt := n })).trans (by rw [hzi])
      have hs1 := bks_1 (b' := { z with wt := n }) (o := 19) (u := .int .i64 n) hz (by omega) (by simp [flat_eq, z.ad.len, u8s_length])
      obtain ⟨bs', hbs'⟩ : ∃ bs', bs' = setBy bd (fun k => { k with wt := n }) x.bs := ⟨_, rfl⟩
      have hlb' : bs'.length = x.bs.length := by rw [hbs', setBy_len]
      refine Triple.enter Try.func35 rfl Try.ntmps35 rfl (fun W => ?_)
      dsimp only [argsF, Nat.reduceAdd]
      refine WPc.gbagO (row := brow) brow_own hpp ?_
      rw [show brow (x.v, x.bs) = [rowN 36 21 x.v x.bs.length (bks x.bs)] from rfl, List.cons_append, List.nil_append]
      repeat' (first
       | refine WPl.nil ?_ | refine WPq.then ?_ | refine WPq.thenR ?_ | refine WPq.thenE ?_ | refine WPq.blockN ?_ | refine WPq.blockR ?_ | refine WPq.blockE ?_ | refine WPq.blockO rfl ?_ | refine WPc.seq ?_ | refine WPc.block ?_ | refine WPc.ret ?_ | refine WPc.exit ?_ | refine WPc.skip ?_ | refine WPc.region ?_
       | (refine isCond ?_; first | refine WPc.cT ?_ | refine WPc.cF ?_ | (refine WPc.cQ (fun hc => ?_) (fun hc => ?_) <;> try exact prA))
       | (refine isC 16 ?_; refine WPl.cV c16 ?_ (hΔ := provsX))
       | (refine isD 18 ?_; refine WPl.rdX (ReadR.binE rfl rfl BinR.lss (congrArg Value.bool (decide_eq_false hi0))) ?_)
       | (refine isD 24 ?_; refine WPl.rdX (ReadR.indexE (i := i) rfl rfl hasA hil) ?_)
       | (refine isD 25 ?_; refine WPl.rdX (ReadR.loadES (cs := shC x.s x.v) hx3 (by omega) rfl hasA) ?_)
       | (refine isC 27 ?_; refine WPl.cV (c27) ?_)
       | (refine isD 29 ?_; refine WPl.rdX (ReadR.binE rfl rfl BinR.lss (congrArg Value.bool (decide_eq_false hk00))) ?_)
       | (refine isD 31 ?_; refine WPl.rdX (ReadR.binE rfl rfl BinR.eql (congrArg Value.bool (decide_eq_true (by omega)))) ?_)
       | (refine isD 34 ?_; refine WPl.rdX (ReadR.binE rfl rfl BinR.lss (congrArg Value.bool (decide_eq_false hn0))) ?_)
       | (refine isD 37 ?_; refine WPl.rdX (ReadR.binE rfl rfl BinR.gtr (congrArg Value.bool (decide_eq_false hn1))) ?_)
       | (refine isD 46 ?_; refine WPl.rdX (ReadR.indexE (i := i) rfl rfl hasA hil) ?_)
       | (refine isD 47 ?_; refine WPl.rdX (ReadR.fieldE rfl hasA (by omega)) ?_)
       | (refine isD 48 ?_; refine WPl.rdX (ReadR.loadE rfl hasA hx22) ?_)
       | (refine isD 40 ?_; refine WPl.litS0 fun v40 hv40 => ?_)
       | (refine isD 49 ?_; refine WPl.appN (m := 0) (m2 := x.bs.length) (xs := []) (ys := bks x.bs) bks_len bks_ones (by omega) (fun v49 hv49 => ?_); rw [Nat.zero_add x.bs.length, List.nil_append (bks x.bs)])
       | (refine isD 51 ?_; refine WPl.rdX (ReadR.binE rfl rfl BinR.eql (congrArg Value.bool (decide_eq_false (by omega)))) ?_)
       | (refine isD 54 ?_; refine WPl.rdX (ReadR.binE rfl rfl BinR.eql (congrArg Value.bool (decide_eq_false (by omega)))) ?_)
       | (refine isD 63 ?_; refine WPl.rdX (ReadR.binE rfl rfl BinR.eql (congrArg Value.bool (decide_eq_true (by omega)))) ?_)
       | (refine isD 70 ?_; refine WPl.rdX (ReadR.binE rfl rfl BinR.eql (congrArg Value.bool (decide_eq_false (by omega)))) ?_)
       | (refine isD 67 ?_; refine WPl.rdX (ReadR.indexE (i := k) rfl rfl hasA hkl) ?_)
       | (refine isD 68 ?_; refine WPl.rdX (ReadR.fieldE rfl hasA (by omega)) ?_)
       | (show WPl _ _ _ _ _ _ _ (⟨_, .store _ (.tmp 68) _, _, _, _, _⟩ :: _) _; refine WPl.stEN (i := k * 21 + 19) (m := x.bs.length) (xs := bks x.bs) (by omega) ?_)
       | (refine isD 85 ?_; refine WPl.rdX (ReadR.indexE (i := i) rfl rfl hasA hil) ?_)
       | (refine isD 86 ?_; refine WPl.rdX (ReadR.fieldE rfl hasA (by omega)) ?_)
       | (show WPl _ _ _ _ _ _ _ (⟨_, .store _ (.tmp 86) _, _, _, _, _⟩ :: _) _; refine WPl.stEN (i := i * 23 + 22) (m := K.L.length) (xs := svs K.L) (by omega) ?_)
       | (refine isOp ?_; first | refine WPl.rd ?_ | refine WPl.sk ?_ | refine WPl.rdB ?_)
       | (refine isSt ?_; first | refine WPl.st1 ?_ | refine WPl.stA ?_ | refine WPl.stEB ?_ | refine WPl.stRB ?_)
       | (show WPl _ _ _ _ _ _ _ (⟨_, .indexAddr _ _ _, _, _, _, _⟩ :: _) _; refine WPl.rdX (ReadR.indexE rfl rfl hasA (by first | assumption | omega)) ?_)
       | (show WPl _ _ _ _ _ _ _ (⟨_, .fieldAddr _ _ _, _, _, _, _⟩ :: _) _; refine WPl.rdX (ReadR.fieldE rfl hasA (by first | assumption | omega)) ?_)
       | (show WPl _ _ _ _ _ _ _ (⟨_, .load _ _, _, _, _, _⟩ :: _) _; first | refine WPl.rdX (ReadR.loadE rfl hasA (by assumption)) ?_ | refine WPl.rdX (ReadR.loadES (by assumption) (by first | assumption | omega) rfl hasA) ?_)
       | (show WPl _ _ _ _ _ _ _ (⟨_, .slice _ _ _ _ _, _, _, _, _⟩ :: _) _; first | refine WPl.rdX (ReadR.sliceH rfl rfl hasA (by omega)) ?_ | refine WPl.rdX (ReadR.sliceL rfl rfl hasA (by omega)) ?_ | refine WPl.rdX (ReadR.sliceLH rfl rfl rfl hasA (by omega) (by omega)) ?_)
       | (refine WPl.spQ (fun hc => ?_) (fun hc => ?_) <;> try exact prA)
       | fail)
      refine WPq.gbagI (row := brow) (es := K.B) (es' := BA ++ BB) (x := (x.v, x.bs)) brow_own hpp (by show Takes _ [gbag brow (BA ++ BB), rowN 36 21 x.v x.bs.length (bks x.bs)] _; exact takesA) ?_
      rw [hs1, hset, ← hbs', ← hlb', svs_set hx v49 bs', show K.L.length = (K.L.set i ⟨v49, x.s, bs'⟩).length from List.length_set.symm]
      have hup : updB K.sb id (setBy bd (fun k => { k with wt := n })) = (K.L.set i ⟨v49, x.s, bs'⟩).map SX.sb := by rw [hbs']; exact updR_set hs hx hxi v49 _
      rw [hup]
      refine WPq.gbagI (row := brow) (es := (v49, bs') :: K.B) (es' := K.B) (x := (v49, bs')) brow_own (List.Perm.refl _) (by show Takes _ [gbag brow K.B, rowN 36 21 v49 bs'.length (bks bs')] _; exact takesA) ?_
      exact WPq.dX (vs := [.int .i64 0]) (rfA gX ⟨K.vL, K.L.set i ⟨v49, x.s, bs'⟩, (v49, bs') :: K.B⟩) ⟨⟨K.vL, K.L.set i ⟨v49, x.s, bs'⟩, (v49, bs') :: K.B⟩, rfl, RGok_set hK hv49, rfl, hv0, rfl⟩ (ho := rfA_own)
end
end Go.Proofs.Ytpjfkomicehinaa
/- Layer 20: the reference: Turn (gone). -/
namespace Go.Proofs.Ytpjfkomicehinaa
set_option linter.unusedSimpArgs false
section
variable {P : Program} {n : Nat} {W : World} {S : Nat → Prop} {Γ : List Asn} {F : List (Nat × Value)} {Q : Exit → Act → World → Prop}
variable {ty : TypeId} {pos : String} {af : Array Edge} {gd : Option (Nat × Bool)} {d : Option Tmp}
theorem ReadR.sliceLHV0 {T e : TypeId} {ag : Bool} {sz : Nat} [hT : SliI P T e] [he : TyI P e ag sz] {x lo : Operand} {g l cap i : Nat} {k1 : IntKind} (hx : evF F x = some (.slice (some ⟨g, 0, none⟩) l cap)) (hl : evF F lo = some (.int k1 (Int.ofNat i))) (hi : i ≤ l) :
    ReadR P n Γ F ⟨d, .slice T x (some lo) none none, ty, pos, af, gd⟩ (subv sz (.slice (some ⟨g, 0, none⟩) l cap) i (l - i)) := fun ρ w hf hw => by
  have b2 : ∀ c, (Instr.sliceBound (.int k1 (Int.ofNat i)) l c).run P w = .ok i w := fun c => run_bound hi
  simp only [execOp, hf.eval hx, hf.eval hl, Option.map_some, Option.map_none, Instr.sliceAt, Instr.slice, run_underlying hT.und, Sem.run_bind, Result.andThen_ok, Instr.sliceBounds, Sem.run_pure, if_true, b2, he.run_sizeOf, Option.isSome_none, Bool.false_eq_true, if_false]
  simp only [subv]; split <;> simp
end
open Go.RowKit
set_option linter.unusedSimpArgs false
set_option linter.unusedVariables false
set_option maxRecDepth 20000
set_option maxHeartbeats 4000000
attribute [local irreducible] WPc WPl WPq ReadR OpT BinR HasS bx rdN rowN Take Takes Prov Triple ResF BuildP Done ag Int.decLt Int.decLe Int.instDecidableEq
attribute [local irreducible] mp rmp rg rgo mput mget mfind mdel gbag bks ies svs setBy delBy
section
variable (gX : Nat) (K : RG) (hK : RGok K) (hm : K.L.length ≤ 1000) (hv0 : K.vL.oneCell' = true)
include hK hm hv0
theorem rturn0_t (hs : SrtL K.sb) (hbs : ∀ x ∈ K.L, SrtB x.bs ∧ x.bs.length ≤ 16) (id bd : Int) : Triple Try.prog 35 #[hF gX, .int .i64 id, .int .i64 bd, .int .i64 0, .int .i64 0] (rfA gX K) (RXm gX (turnS K.sb id bd (delBy bd)).2 (turnS K.sb id bd (delBy bd)).1) := by
  have c16 := rat20_t gX K.vL K.L hm id
  have hcl := svs_len (l := K.L)
  cases hat : atR K.L id with
  | none =>
    rw [hat] at c16
    have c16 : Triple Try.prog 40 #[hF gX, .int .i64 id] [rbx gX 49 (rfc K.vL), rdN K.vL K.L.length (svs K.L)] (RVal (.int .i64 (-1))) := c16
    have e : turnS K.sb id bd (delBy bd) = (K.sb, 6) := by unfold turnS; rw [atR_no hat]
    rw [e]
    refine Triple.enter Try.func35 rfl Try.ntmps35 rfl (fun W => ?_)
    dsimp only [argsF, Nat.reduceAdd]
    repeat' (first
     | refine WPl.nil ?_ | refine WPq.then ?_ | refine WPq.thenR ?_ | refine WPq.thenE ?_ | refine WPq.blockN ?_ | refine WPq.blockR ?_ | refine WPq.blockE ?_ | refine WPq.blockO rfl ?_ | refine WPc.seq ?_ | refine WPc.block ?_ | refine WPc.ret ?_ | refine WPc.exit ?_ | refine WPc.skip ?_ | refine WPc.region ?_
     | (refine isCond ?_; first | refine WPc.cT ?_ | refine WPc.cF ?_ | (refine WPc.cQ (fun hc => ?_) (fun hc => ?_) <;> try exact prA))
     | (refine isC 16 ?_; refine WPl.cV c16 ?_ (hΔ := provsX))
     | (refine isD 18 ?_; refine WPl.rdX (ReadR.binE rfl rfl BinR.lss (congrArg Value.bool (decide_eq_true (show (-1 : Int) < 0 by omega)))) ?_)
     | (refine isOp ?_; first | refine WPl.rd ?_ | refine WPl.sk ?_ | refine WPl.rdB ?_)
     | (refine isSt ?_; first | refine WPl.st1 ?_ | refine WPl.stA ?_ | refine WPl.stEB ?_ | refine WPl.stRB ?_)
     | (show WPl _ _ _ _ _ _ _ (⟨_, .indexAddr _ _ _, _, _, _, _⟩ :: _) _; refine WPl.rdX (ReadR.indexE rfl rfl hasA (by first | assumption | omega)) ?_)
     | (show WPl _ _ _ _ _ _ _ (⟨_, .fieldAddr _ _ _, _, _, _, _⟩ :: _) _; refine WPl.rdX (ReadR.fieldE rfl hasA (by first | assumption | omega)) ?_)
     | (show WPl _ _ _ _ _ _ _ (⟨_, .load _ _, _, _, _, _⟩ :: _) _; first | refine WPl.rdX (ReadR.loadE rfl hasA (by assumption)) ?_ | refine WPl.rdX (ReadR.loadES (by assumption) (by first | assumption | omega) rfl hasA) ?_)
     | (show WPl _ _ _ _ _ _ _ (⟨_, .slice _ _ _ _ _, _, _, _, _⟩ :: _) _; first | refine WPl.rdX (ReadR.sliceH rfl rfl hasA (by omega)) ?_ | refine WPl.rdX (ReadR.sliceL rfl rfl hasA (by omega)) ?_ | refine WPl.rdX (ReadR.sliceLH rfl rfl rfl hasA (by omega) (by omega)) ?_)
     | (refine WPl.spQ (fun hc => ?_) (fun hc => ?_) <;> try exact prA)
     | fail)
    exact WPq.dX (vs := [.int .i64 6]) (rfA gX K) ⟨K, rfl, hK, rfl, hv0, rfl⟩ (ho := rfA_own)
  | some i =>
    rw [hat] at c16
    obtain ⟨x, hx, hxi⟩ := atR_some hat
    have hil := (List.getElem?_eq_some_iff.1 hx).1
    have hxm := List.mem_of_getElem? hx
    have c16 : Triple Try.prog 40 #[hF gX, .int .i64 id] [rbx gX 49 (rfc K.vL), rdN K.vL K.L.length (svs K.L)] (RVal (.int .i64 (i : Int))) := c16
    have hi0 : ¬ (i : Int) < 0 := by omega
    have hfd : findS K.sb id = some x.sb := atR_find hat hx
    have hx3 := svs_at hx
    have hxl := x.s.ad.len
    have hx22 : (svs K.L)[i * 23 + 22]? = some x.v := by
      rw [svs_cell hx (by omega)]
      exact sh22
    obtain ⟨hxv, hxB⟩ := hK x hxm
    obtain ⟨hsx, hlx⟩ := hbs x hxm
    obtain ⟨BA, BB, hBB⟩ := List.append_of_mem hxB
    have hpp : K.B.Perm ((x.v, x.bs) :: (BA ++ BB)) := by rw [hBB]; exact List.perm_middle
    have hfx := shC_ok (s := x.s) hxv
    have c27 := rhas_t x.s x.v hxv x.bs (by omega) bd
    have hL := bks_len (l := x.bs)
    have hxlen : x.bs.length < 1000 := by omega
    have hone0 := bks_ones (D := x.bs)
    cases hha : hasI x.bs bd with
    | none =>
      rw [hha] at c27
      have c27 : Triple Try.prog 41 #[ag (shC x.s x.v), .int .i64 bd] [rdN x.v x.bs.length (bks x.bs)] (RVal (.int .i64 (-1))) := c27
      have hhb : hasB x.bs bd = false := by rw [hasI_hasB, hha]; rfl
      have e : turnS K.sb id bd (delBy bd) = (K.sb, 6) := by unfold turnS; rw [hfd]; simp only [hhb]; simp
      rw [e]
      refine Triple.enter Try.func35 rfl Try.ntmps35 rfl (fun W => ?_)
      dsimp only [argsF, Nat.reduceAdd]
      refine WPc.gbagO (row := brow) brow_own hpp ?_
      rw [show brow (x.v, x.bs) = [rowN 36 21 x.v x.bs.length (bks x.bs)] from rfl, List.cons_append, List.nil_append]
      repeat' (first
       | refine WPl.nil ?_ | refine WPq.then ?_ | refine WPq.thenR ?_ | refine WPq.thenE ?_ | refine WPq.blockN ?_ | refine WPq.blockR ?_ | refine WPq.blockE ?_ | refine WPq.blockO rfl ?_ | refine WPc.seq ?_ | refine WPc.block ?_ | refine WPc.ret ?_ | refine WPc.exit ?_ | refine WPc.skip ?_ | refine WPc.region ?_
       | (refine isCond ?_; first | refine WPc.cT ?_ | refine WPc.cF ?_ | (refine WPc.cQ (fun hc => ?_) (fun hc => ?_) <;> try exact prA))
       | (refine isC 16 ?_; refine WPl.cV c16 ?_ (hΔ := provsX))
       | (refine isD 18 ?_; refine WPl.rdX (ReadR.binE rfl rfl BinR.lss (congrArg Value.bool (decide_eq_false hi0))) ?_)
       | (refine isD 24 ?_; refine WPl.rdX (ReadR.indexE (i := i) rfl rfl hasA hil) ?_)
       | (refine isD 25 ?_; refine WPl.rdX (ReadR.loadES (cs := shC x.s x.v) hx3 (by omega) rfl hasA) ?_)
       | (refine isC 27 ?_; refine WPl.cV (c27) ?_)
       | (refine isD 29 ?_; refine WPl.rdX (ReadR.binE rfl rfl BinR.lss (congrArg Value.bool (decide_eq_true (show (-1 : Int) < 0 by omega)))) ?_)
       | (refine isOp ?_; first | refine WPl.rd ?_ | refine WPl.sk ?_ | refine WPl.rdB ?_)
       | (refine isSt ?_; first | refine WPl.st1 ?_ | refine WPl.stA ?_ | refine WPl.stEB ?_ | refine WPl.stRB ?_)
       | (show WPl _ _ _ _ _ _ _ (⟨_, .indexAddr _ _ _, _, _, _, _⟩ :: _) _; refine WPl.rdX (ReadR.indexE rfl rfl hasA (by first | assumption | omega)) ?_)
       | (show WPl _ _ _ _ _ _ _ (⟨_, .fieldAddr _ _ _, _, _, _, _⟩ :: _) _; refine WPl.rdX (ReadR.fieldE rfl hasA (by first | assumption | omega)) ?_)
       | (show WPl _ _ _ _ _ _ _ (⟨_, .load _ _, _, _, _, _⟩ :: _) _; first | refine WPl.rdX (ReadR.loadE rfl hasA (by assumption)) ?_ | refine WPl.rdX (ReadR.loadES (by assumption) (by first | assumption | omega) rfl hasA) ?_)
       | (show WPl _ _ _ _ _ _ _ (⟨_, .slice _ _ _ _ _, _, _, _, _⟩ :: _) _; first | refine WPl.rdX (ReadR.sliceH rfl rfl hasA (by omega)) ?_ | refine WPl.rdX (ReadR.sliceL rfl rfl hasA (by omega)) ?_ | refine WPl.rdX (ReadR.sliceLH rfl rfl rfl hasA (by omega) (by omega)) ?_)
       | (refine WPl.spQ (fun hc => ?_) (fun hc => ?_) <;> try exact prA)
       | fail)
      refine WPq.gbagI (row := brow) (es := K.B) (es' := BA ++ BB) (x := (x.v, x.bs)) brow_own hpp (by show Takes _ [gbag brow (BA ++ BB), rowN 36 21 x.v x.bs.length (bks x.bs)] _; exact takesA) ?_
      exact WPq.dX (vs := [.int .i64 6]) (rfA gX K) ⟨K, rfl, hK, rfl, hv0, rfl⟩ (ho := rfA_own)
    | some k =>
      rw [hha] at c27
      have c27 : Triple Try.prog 41 #[ag (shC x.s x.v), .int .i64 bd] [rdN x.v x.bs.length (bks x.bs)] (RVal (.int .i64 (k : Int))) := c27
      have hhb : hasB x.bs bd = true := by rw [hasI_hasB, hha]; rfl
      have hk00 : ¬ (k : Int) < 0 := by omega
      obtain ⟨z, hz, hzi⟩ := hasI_some hha
      have hkl := (List.getElem?_eq_some_iff.1 hz).1
      have e : turnS K.sb id bd (delBy bd) = (updB K.sb id (delBy bd), 0) := by unfold turnS; rw [hfd]; show (if hasB x.bs bd = true then _ else _) = _; rw [if_pos hhb]
      rw [e]
      have hdl : x.bs.take k ++ x.bs.drop (k + 1) = delBy bd x.bs := (erase_delBy hsx hz).trans (by rw [hzi])
      have hLd := bks_len (l := x.bs.drop (k + 1))
      rw [List.length_drop] at hLd
      have honeD := bks_ones (D := x.bs.drop (k + 1))
      have hres : (x.bs.take k ++ x.bs.drop (k + 1)).length = x.bs.length - 1 := by rw [List.length_append, List.length_take, List.length_drop]; omega
      have hkn : k + (x.bs.length - (k + 1)) = x.bs.length - 1 := by omega
      have hU := bksD (D := x.bs) (i := k + 1) (k := x.bs.length - (k + 1)) (by omega)
      have hD : ∀ (g cap : Nat) Γ, rowN 36 21 (.slice (some ⟨g, 0, none⟩) x.bs.length cap) x.bs.length (bks x.bs) ∈ Γ → HasS Γ (subv 21 (.slice (some ⟨g, 0, none⟩) x.bs.length cap) (k + 1) (x.bs.length - (k + 1))) (x.bs.length - (k + 1)) (bks (x.bs.drop (k + 1))) := fun g cap Γ h => by
        have := HasS.sub (HasS.row h) hL (k := k + 1) (n := x.bs.length - (k + 1)) (by omega)
        rwa [hU] at this
      obtain ⟨X1, hX1⟩ : ∃ X1, X1 = (bks x.bs).take (k * 21) ++ bks (x.bs.drop (k + 1)) ++ (bks x.bs).drop (k * 21 + (bks (x.bs.drop (k + 1))).length) := ⟨_, rfl⟩
      have hX1t : X1.take ((x.bs.length - 1) * 21) = bks (delBy bd x.bs) := by
        have hT := bksT (D := x.bs) (i := k) (by omega)
        rw [show 0 * 21 = 0 from rfl, List.drop_zero] at hT
        rw [hX1, hT, ← bks_app, hdl]
        exact List.take_left' (by rw [bks_len, ← hdl, hres])
      have hlb' : (delBy bd x.bs).length = x.bs.length - 1 := by rw [← hdl, hres]
      have hkl' : k + 1 ≤ x.bs.length := hkl
      refine Triple.enter Try.func35 rfl Try.ntmps35 rfl (fun W => ?_)
      dsimp only [argsF, Nat.reduceAdd]
      refine WPc.gbagO (row := brow) brow_own hpp ?_
      rw [show brow (x.v, x.bs) = [rowN 36 21 x.v x.bs.length (bks x.bs)] from rfl, List.cons_append, List.nil_append]
      repeat' (first
       | refine WPl.nil ?_ | refine WPq.then ?_ | refine WPq.thenR ?_ | refine WPq.thenE ?_ | refine WPq.blockN ?_ | refine WPq.blockR ?_ | refine WPq.blockE ?_ | refine WPq.blockO rfl ?_ | refine WPc.seq ?_ | refine WPc.block ?_ | refine WPc.ret ?_ | refine WPc.exit ?_ | refine WPc.skip ?_ | refine WPc.region ?_
       | (refine isCond ?_; first | refine WPc.cT ?_ | refine WPc.cF ?_ | (refine WPc.cQ (fun hc => ?_) (fun hc => ?_) <;> try exact prA))
       | (refine isC 16 ?_; refine WPl.cV c16 ?_ (hΔ := provsX))
       | (refine isD 18 ?_; refine WPl.rdX (ReadR.binE rfl rfl BinR.lss (congrArg Value.bool (decide_eq_false hi0))) ?_)
       | (refine isD 24 ?_; refine WPl.rdX (ReadR.indexE (i := i) rfl rfl hasA hil) ?_)
       | (refine isD 25 ?_; refine WPl.rdX (ReadR.loadES (cs := shC x.s x.v) hx3 (by omega) rfl hasA) ?_)
       | (refine isC 27 ?_; refine WPl.cV (c27) ?_)
       | (refine isD 29 ?_; refine WPl.rdX (ReadR.binE rfl rfl BinR.lss (congrArg Value.bool (decide_eq_false hk00))) ?_)
       | (refine isD 31 ?_; refine WPl.rdX (ReadR.binE rfl rfl BinR.eql (congrArg Value.bool (decide_eq_false (by omega)))) ?_)
       | (refine isD 46 ?_; refine WPl.rdX (ReadR.indexE (i := i) rfl rfl hasA hil) ?_)
       | (refine isD 47 ?_; refine WPl.rdX (ReadR.fieldE rfl hasA (by omega)) ?_)
       | (refine isD 48 ?_; refine WPl.rdX (ReadR.loadE rfl hasA hx22) ?_)
       | (refine isD 40 ?_; refine WPl.litS0 fun v40 hv40 => ?_)
       | (refine isD 49 ?_; refine WPl.appN (m := 0) (m2 := x.bs.length) (xs := []) (ys := bks x.bs) bks_len bks_ones (by omega) (fun v49 hv49 => ?_); rw [Nat.zero_add x.bs.length, List.nil_append (bks x.bs)])
       | (refine isD 51 ?_; refine WPl.rdX (ReadR.binE rfl rfl BinR.eql (congrArg Value.bool (decide_eq_false (by omega)))) ?_)
       | (refine isD 54 ?_; refine WPl.rdX (ReadR.binE rfl rfl BinR.eql (congrArg Value.bool (decide_eq_false (by omega)))) ?_)
       | (refine isD 63 ?_; refine WPl.rdX (ReadR.binE rfl rfl BinR.eql (congrArg Value.bool (decide_eq_false (by omega)))) ?_)
       | (refine isD 70 ?_; refine WPl.rdX (ReadR.binE rfl rfl BinR.eql (congrArg Value.bool (decide_eq_true (by omega)))) ?_)
       | (refine isOp ?_; first | refine WPl.rd ?_ | refine WPl.sk ?_ | refine WPl.rdB ?_)
       | (refine isSt ?_; first | refine WPl.st1 ?_ | refine WPl.stA ?_ | refine WPl.stEB ?_ | refine WPl.stRB ?_)
       | (show WPl _ _ _ _ _ _ _ (⟨_, .indexAddr _ _ _, _, _, _, _⟩ :: _) _; refine WPl.rdX (ReadR.indexE rfl rfl hasA (by first | assumption | omega)) ?_)
       | (show WPl _ _ _ _ _ _ _ (⟨_, .fieldAddr _ _ _, _, _, _, _⟩ :: _) _; refine WPl.rdX (ReadR.fieldE rfl hasA (by first | assumption | omega)) ?_)
       | (show WPl _ _ _ _ _ _ _ (⟨_, .load _ _, _, _, _, _⟩ :: _) _; first | refine WPl.rdX (ReadR.loadE rfl hasA (by assumption)) ?_ | refine WPl.rdX (ReadR.loadES (by assumption) (by first | assumption | omega) rfl hasA) ?_)
       | (show WPl _ _ _ _ _ _ _ (⟨_, .slice _ _ _ _ _, _, _, _, _⟩ :: _) _; first | refine WPl.rdX (ReadR.sliceH rfl rfl hasA (by omega)) ?_ | refine WPl.rdX (ReadR.sliceL rfl rfl hasA (by omega)) ?_ | refine WPl.rdX (ReadR.sliceLH rfl rfl rfl hasA (by omega) (by omega)) ?_)
       | (refine WPl.spQ (fun hc => ?_) (fun hc => ?_) <;> try exact prA)
       | fail)
      refine WPc.know (row_room (v := v49) (m := x.bs.length) (xs := bks x.bs) (e := 36) (sz := 21) memA (by omega)) ?_
      rintro ⟨g49, cap, rfl, hcap⟩
      repeat' (first
       | refine WPl.nil ?_ | refine WPq.then ?_ | refine WPq.thenR ?_ | refine WPq.thenE ?_ | refine WPq.blockN ?_ | refine WPq.blockR ?_ | refine WPq.blockE ?_ | refine WPq.blockO rfl ?_ | refine WPc.seq ?_ | refine WPc.block ?_ | refine WPc.ret ?_ | refine WPc.exit ?_ | refine WPc.skip ?_ | refine WPc.region ?_
       | (refine isReg 15 ?_; refine WPc.drA [([9], [72, 74, 75, 76, 77]), ([9], [71, 74, 75, 76, 77]), ([0, 1, 9], [71, 72, 74, 75, 76, 77]), ([9], [71, 72, 73, 75, 76]), ([9], [71, 72, 73, 74]), ([4, 9], [71, 72, 73, 74, 75]), ([3, 4, 5, 9], [71, 72, 73, 74, 75, 76]), ([0, 1, 2, 3, 4, 5, 6, 9], [71, 72, 73, 74, 75, 76, 77]), ([0, 1, 2, 3, 4, 5, 6, 7, 9], [71, 72, 73, 74, 75, 76, 77, 78])] [(9, 7), (9, 0), (9, 1), (9, 2), (9, 3), (9, 4), (9, 5), (9, 6)] (Γx := [rowN 36 21 (.slice (some ⟨g49, 0, none⟩) x.bs.length cap) x.bs.length (bks x.bs)]) ?_; dsimp only [prev0, List.length_nil, List.length_cons])
       | (refine gAny ?_; first | (refine gD 73 ?_; refine RGl.rdX (fun e hk => by (try dsimp only [bndR, ensR, oksR, fcutR, List.append_nil, List.nil_append, List.cons_append, List.append_assoc] at hk ⊢); exact ReadR.sliceCap (j := k) rfl rfl (by omega)) ?_) | (refine gD 77 ?_; refine RGl.rdX (fun e hk => by (try dsimp only [bndR, ensR, oksR, fcutR, List.append_nil, List.nil_append, List.cons_append, List.append_assoc] at hk ⊢); exact ReadR.sliceLHV0 (i := k + 1) rfl rfl hkl') ?_) | (refine gOp ?_; (refine RGl.turns (c := fun _ => .slice (some ⟨g49, 0, none⟩) (k + (x.bs.length - (k + 1))) cap) (fun e hk => by (try dsimp only [bndR, ensR, oksR, fcutR, List.append_nil, List.nil_append, List.cons_append, List.append_assoc] at hk ⊢); exact OpT.appIn (k := k) (m := x.bs.length) (m2 := x.bs.length - (k + 1)) (ys := bks (x.bs.drop (k + 1))) rfl rfl takesA (hD _ _ _ memA) hLd honeD (by omega) (by omega)) ?_)) | (refine gD 85 ?_; refine RGl.rdX (fun e hk => by (try dsimp only [bndR, ensR, oksR, fcutR, List.append_nil, List.nil_append, List.cons_append, List.append_assoc] at hk ⊢); exact ReadR.indexE (i := i) rfl rfl hasA hil) ?_) | (refine gD 86 ?_; refine RGl.rdX (fun e hk => by (try dsimp only [bndR, ensR, oksR, fcutR, List.append_nil, List.nil_append, List.cons_append, List.append_assoc] at hk ⊢); exact ReadR.fieldE rfl hasA (by omega)) ?_) | (refine gOp ?_; first | refine RGl.rdA ?_ | refine RGl.rdX (fun e hk => by (try dsimp only [bndR, ensR, oksR, fcutR, List.append_nil, List.nil_append, List.cons_append, List.append_assoc] at hk ⊢); exact readB) ?_) | (refine gApp ?_; refine RGl.appA ?_) | (refine RGl.fin (fun e hk => ?_); (try dsimp only [bndA, ensAR, oksA, List.append_nil, List.nil_append, List.cons_append, List.append_assoc] at hk ⊢); (repeat (obtain ⟨hk1, hk⟩ := hk))) | fail)
       | (refine isCond ?_; first | refine WPc.cT ?_ | refine WPc.cF ?_ | (refine WPc.cQ (fun hc => ?_) (fun hc => ?_) <;> try exact prA))
       | (refine isD 73 ?_; refine WPl.rdX (ReadR.sliceCap (j := k) rfl rfl (by omega)) ?_)
       | (refine isD 77 ?_; refine WPl.rdX (ReadR.sliceLHV0 (i := k + 1) rfl rfl hkl') ?_)
       | (refine isD 85 ?_; refine WPl.rdX (ReadR.indexE (i := i) rfl rfl hasA hil) ?_)
       | (refine isD 86 ?_; refine WPl.rdX (ReadR.fieldE rfl hasA (by omega)) ?_)
       | (show WPl _ _ _ _ _ _ _ (⟨_, .store _ (.tmp 86) _, _, _, _, _⟩ :: _) _; refine WPl.stEN (i := i * 23 + 22) (m := K.L.length) (xs := svs K.L) (by omega) ?_)
       | (refine isOp ?_; first | refine WPl.rd ?_ | refine WPl.sk ?_ | refine WPl.rdB ?_)
       | (refine isSt ?_; first | refine WPl.st1 ?_ | refine WPl.stA ?_ | refine WPl.stEB ?_ | refine WPl.stRB ?_)
       | (show WPl _ _ _ _ _ _ _ (⟨_, .indexAddr _ _ _, _, _, _, _⟩ :: _) _; refine WPl.rdX (ReadR.indexE rfl rfl hasA (by first | assumption | omega)) ?_)
       | (show WPl _ _ _ _ _ _ _ (⟨_, .fieldAddr _ _ _, _, _, _, _⟩ :: _) _; refine WPl.rdX (ReadR.fieldE rfl hasA (by first | assumption | omega)) ?_)
       | (show WPl _ _ _ _ _ _ _ (⟨_, .load _ _, _, _, _, _⟩ :: _) _; first | refine WPl.rdX (ReadR.loadE rfl hasA (by assumption)) ?_ | refine WPl.rdX (ReadR.loadES (by assumption) (by first | assumption | omega) rfl hasA) ?_)
       | (show WPl _ _ _ _ _ _ _ (⟨_, .slice _ _ _ _ _, _, _, _, _⟩ :: _) _; first | refine WPl.rdX (ReadR.sliceH rfl rfl hasA (by omega)) ?_ | refine WPl.rdX (ReadR.sliceL rfl rfl hasA (by omega)) ?_ | refine WPl.rdX (ReadR.sliceLH rfl rfl rfl hasA (by omega) (by omega)) ?_)
       | (refine WPl.spQ (fun hc => ?_) (fun hc => ?_) <;> try exact prA)
       | fail)
      rw [hkn, ← hX1]
      refine WPq.gbagI (row := brow) (es := K.B) (es' := BA ++ BB) (x := (x.v, x.bs)) brow_own hpp (by show Takes _ [gbag brow (BA ++ BB), rowN 36 21 x.v x.bs.length (bks x.bs)] _; exact takesA) ?_
      refine WPq.rowDown (m := x.bs.length) (xs := X1) (x.bs.length - 1) (by omega) (by omega) ?_
      rw [hX1t, ← hlb']
      obtain ⟨bs', hbs'⟩ : ∃ bs', bs' = delBy bd x.bs := ⟨_, rfl⟩
      obtain ⟨w49, hw49⟩ : ∃ w49 : Value, w49 = .slice (some ⟨g49, 0, none⟩) bs'.length cap := ⟨_, rfl⟩
      have hwo : w49.oneCell' = true := by rw [hw49]; rfl
      rw [← hbs', ← hw49, svs_set hx w49 bs', show K.L.length = (K.L.set i ⟨w49, x.s, bs'⟩).length from List.length_set.symm]
      have hup : updB K.sb id (delBy bd) = (K.L.set i ⟨w49, x.s, bs'⟩).map SX.sb := by rw [hbs']; exact updR_set hs hx hxi w49 _
      rw [hup]
      refine WPq.gbagI (row := brow) (es := (w49, bs') :: K.B) (es' := K.B) (x := (w49, bs')) brow_own (List.Perm.refl _) (by show Takes _ [gbag brow K.B, rowN 36 21 w49 bs'.length (bks bs')] _; exact takesA) ?_
      exact WPq.dX (vs := [.int .i64 0]) (rfA gX ⟨K.vL, K.L.set i ⟨w49, x.s, bs'⟩, (w49, bs') :: K.B⟩) ⟨⟨K.vL, K.L.set i ⟨w49, x.s, bs'⟩, (w49, bs') :: K.B⟩, rfl, RGok_set hK hwo, rfl, hv0, rfl⟩ (ho := rfA_own)
end
end Go.Proofs.Ytpjfkomicehinaa
