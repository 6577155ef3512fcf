/- What the row of farmPlays_holds needs: part 12. -/
import Derived.Test.YtpjfkomicehinaaFPl11
/- Law 20: alike: both have the same. -/
namespace Go.Proofs.Ytpjfkomicehinaa
theorem matchV_cases (L : List Sb) (d : Dr) (hi : ∀ x ∈ L, 0 ≤ x.s.id) : ∃ (c : Int) (b : Bool), matchV L d = .tuple #[.int .i64 c, .bool b] ∧ ((b = true ∧ 0 ≤ c ∧ matchR L d = c) ∨ (b = false ∧ c = 0 ∧ matchR L d = -1)) := by
  unfold matchV matchR
  cases h : doorS L d with
  | none => exact ⟨0, false, rfl, .inr ⟨rfl, rfl, rfl⟩⟩
  | some y => exact ⟨y.s.id, true, rfl, .inl ⟨rfl, hi y (doorS_some h).1, rfl⟩⟩
theorem findS_of {L : List SX} {i : Nat} {f : SX} (hs : SrtL (L.map SX.sb)) (hf : L[i]? = some f) : findS (L.map SX.sb) f.s.id = some f.sb :=
  findS_mem hs (y := f.sb) (List.mem_map.2 ⟨f, List.mem_of_getElem? hf, rfl⟩)
theorem findS_at_none {L : List SX} {id : Int} (h : findS (L.map SX.sb) id = none) : atR L id = none := by
  have := atR_findS (L := L) (id := id)
  rw [h] at this
  exact Option.not_isSome_iff_eq_none.1 (by rw [this]; decide)
theorem findS_at_some {L : List SX} {id : Int} {y : Sb} (h : findS (L.map SX.sb) id = some y) : ∃ i f, atR L id = some i ∧ L[i]? = some f ∧ f.sb = y ∧ f.s.id = id := by
  cases ha : atR L id with
  | none => rw [atR_no ha] at h; cases h
  | some i =>
    obtain ⟨f, hf, hid⟩ := atR_some ha
    rw [atR_find ha hf] at h
    exact ⟨i, f, rfl, hf, Option.some.inj h, hid⟩
open Go.RowKit
set_option linter.unusedSimpArgs false
set_option linter.unusedVariables false
set_option maxRecDepth 20000
set_option maxHeartbeats 4000000
attribute [local irreducible] WPc WPl WPq ReadR OpT BinR HasS bx rdN rowN Take Takes Prov Triple ResF BuildP Done ag Int.decLt Int.decLe Int.instDecidableEq
attribute [local irreducible] mp rmp rg rgo mput mget mfind mdel gbag bks ies svs lbB hasB findS doorS mpe intsV shrs sharesB matchV matchR hasI atR
section
variable (gF mi md gX : Nat) (F : FM) (K : RG)
theorem alike_t (hp : PInv K.sb F) (hK : RGok K) (hv0 : K.vL.oneCell' = true) (x : FA) (hx : faW x) : Triple Try.prog 16 #[hF gF, hF gX, ag (faC x)] (both20 gF mi md gX F K) (RTurns (.bool true) (both20 gF mi md gX F K)) := by
  obtain ⟨w1, w2, w3, w4, w5, w6, w7, w8, w9⟩ := hx
  have hfx := faC_ok w6
  have hal := x.s.ad.len
  have hbl := x.c.ad.len
  have hll := hp.len
  rw [List.length_map] at hll
  have hm : K.L.length ≤ 1000 := by omega
  have hcl := svs_len (l := K.L)
  have ei0 : ∀ v, rowN 3 1 v 0 [] = rowN 3 1 v 0 (intsV ((K.L.take 0).map (·.s.id))) := fun v => by with_unfolding_all rfl
  have hid : ∀ y ∈ K.sb, 0 ≤ y.s.id := fun y hy => (hp.idr y hy).1
  obtain ⟨mc, mb, hmv, hmr⟩ := matchV_cases K.sb ⟨x.s.ad, x.s.port, x.s.proto⟩ hid
  have c76 := gmatch_t gF mi md K.sb F hp x.s.ad x.s.port x.s.proto w5.2
  rw [hmv] at c76
  have c89 := rmatch_t gX K.vL K.L hm x.s.ad x.s.port x.s.proto
  have eids : intsV (K.sb.map (·.s.id)) = intsV (K.L.map (·.s.id)) := by rw [List.map_map]; rfl
  have c12 := gids_t gF mi md K.sb F hp
  rw [eids, List.length_map] at c12
  have hfm : ∀ {f : SX}, f ∈ K.L → (f.v, f.bs) ∈ K.B := fun h => (hK _ h).2
  have hbK : ∀ f : SX, rowN 36 21 f.v f.bs.length (bks f.bs) ∈ brow (f.v, f.bs) := fun f => by unfold brow; exact List.mem_cons_self ..
  show Triple _ _ _ [bx gF 66 (fac mi md), mp idM mi (ies F.ps), mp drM md F.ds, gbag prow F.ps, bx gX 49 (rfc K.vL), rowN 33 23 K.vL K.L.length (svs K.L), gbag brow K.B] (RTurns (.bool true) [bx gF 66 (fac mi md), mp idM mi (ies F.ps), mp drM md F.ds, gbag prow F.ps, bx gX 49 (rfc K.vL), rowN 33 23 K.vL K.L.length (svs K.L), gbag brow K.B])
  refine Triple.enter Try.func16 rfl Try.ntmps16 rfl (fun W => ?_)
  dsimp only [argsF, Nat.reduceAdd]
  repeat' (first
   | refine WPl.nil ?_ | refine WPq.then ?_ | refine WPq.thenR ?_ | refine WPq.thenE ?_ | refine WPq.blockN ?_ | refine WPq.blockR ?_ | refine WPq.blockE ?_ | refine WPq.blockO rfl ?_ | refine WPc.seq ?_ | refine WPc.block ?_ | refine WPc.ret ?_ | refine WPc.exit ?_ | refine WPc.skip ?_ | refine WPc.region ?_
   | (refine isCond ?_; first | refine WPc.cT ?_ | refine WPc.cF ?_ | (refine WPc.cQ (fun hc => ?_) (fun hc => ?_) <;> try exact prA))
   | (refine isD 5 ?_; refine WPl.boxC (faC x) hfx rfl (fun g5 => ?_))
   | (refine isD 5 ?_; first | (refine isAl ?_; refine WPl.nw fun g5 => ?_) | (refine isBx ?_; refine WPl.nw fun g5 => ?_))
   | (refine isD 17 ?_; refine WPl.litS0 fun v17 hv17 => ?_)
   | (refine isOp ?_; first | refine WPl.rd ?_ | refine WPl.sk ?_ | refine WPl.rdB ?_)
   | (refine isAl ?_; refine WPl.nw fun g => ?_)
   | (refine isBx ?_; refine WPl.nw fun g => ?_)
   | (refine isSt ?_; first | refine WPl.st1 ?_ | refine WPl.stA ?_ | refine WPl.stEB ?_ | refine WPl.stRB ?_)
   | (show WPl _ _ _ _ _ _ _ (⟨_, .indexAddr _ _ _, _, _, _, _⟩ :: _) _; refine WPl.rdX (ReadR.indexE rfl rfl hasA (by first | assumption | omega)) ?_)
   | (show WPl _ _ _ _ _ _ _ (⟨_, .fieldAddr _ _ _, _, _, _, _⟩ :: _) _; refine WPl.rdX (ReadR.fieldE rfl hasA (by first | assumption | omega)) ?_)
   | (show WPl _ _ _ _ _ _ _ (⟨_, .load _ _, _, _, _, _⟩ :: _) _; first | refine WPl.rdX (ReadR.loadE rfl hasA (by assumption)) ?_ | refine WPl.rdX (ReadR.loadES (by assumption) (by first | assumption | omega) rfl hasA) ?_)
   | (show WPl _ _ _ _ _ _ _ (⟨_, .slice _ _ _ _ _, _, _, _, _⟩ :: _) _; first | refine WPl.rdX (ReadR.sliceH rfl rfl hasA (by omega)) ?_ | refine WPl.rdX (ReadR.sliceL rfl rfl hasA (by omega)) ?_ | refine WPl.rdX (ReadR.sliceLH rfl rfl rfl hasA (by omega) (by omega)) ?_)
   | (refine WPl.spQ (fun hc => ?_) (fun hc => ?_) <;> try exact prA)
   | fail)
  rw [ei0]
  first | refine WPc.loop (σ := Nat × Value) (fun st => st.1 ≤ K.L.length ∧ st.2.oneCell' = true) (fun st => [bx gF 66 (fac mi md), mp idM mi (ies F.ps), mp drM md F.ds, gbag prow F.ps, bx gX 49 (rfc K.vL), rowN 33 23 K.vL K.L.length (svs K.L), gbag brow K.B, bx g5 51 (faC x), rowN 3 1 st.2 st.1 (intsV ((K.L.take st.1).map (·.s.id)))]) (fun st => [(0, hF gF), (1, hF gX), (5, hF g5), (7, st.2), (8, .int .i64 (st.1 : Int))]) (fun st => K.L.length - st.1) ((0, v17)) ?_ takesA frsA (fun st km hx hk => ?_)
  · exact ⟨Nat.zero_le _, hv17⟩
  obtain ⟨i, vI⟩ := st
  obtain ⟨hi, hvI⟩ := hx
  dsimp only at hi hvI hk ⊢
  have hkm : km = K.L.length - i := hk
  clear hk
  by_cases hlt : i < K.L.length
  · have hlt' : (i : Int) < (K.L.length : Int) := by omega
    obtain ⟨f, hf⟩ : ∃ f, K.L[i]? = some f := ⟨_, List.getElem?_eq_getElem hlt⟩
    have hfL := List.mem_of_getElem? hf
    have hfm := hfm hfL
    have hbK := hbK f
    have hfv := (hK f hfL).1
    have hff := shC_ok (s := f.s) hfv
    have hffs := findS_of hp.srt hf
    have hfsL : f.sb ∈ K.sb := (findS_some hffs).1
    obtain ⟨A, B, x', hps, hxb, hxi, hmx⟩ := hp.at hffs
    have hxs : x'.s = f.s := congrArg Sb.s hxb
    have hxbs : x'.bs = f.bs := congrArg Sb.bs hxb
    have hxm : x' ∈ F.ps := by rw [hps]; simp
    have hxl : x'.bs.length ≤ 16 := by rw [hxbs]; exact hp.blen _ hfsL
    have hir := hp.idr _ hfsL
    have c48 := gsvc1_t gF mi md F f.s.id ⟨by dsimp only at hir; omega, by dsimp only at hir; omega⟩ x' hmx hxl (hp.one x' hxm)
    have hb1 : bx x'.g 33 (shC x'.s x'.v) ∈ prow x' := by unfold prow; exact List.mem_cons_self ..
    have hb2 : rowN 36 21 x'.v x'.bs.length (bks x'.bs) ∈ prow x' := by unfold prow; exact List.mem_cons_of_mem _ (List.mem_cons_self ..)
    have c0 : (svs K.L)[i * 23 + 0]? = some (.int .i64 f.s.id) := svs_cell hf (by omega)
    have hf3 := svs_at hf
    have hfl := f.s.ad.len
    have hil : (intsV ((K.L.take i).map (·.s.id))).length = i := by with_unfolding_all (unfold intsV; rw [List.length_map, List.length_map, List.length_take]; omega)
    have hap : ∀ v, rowN 3 1 v (i + 1) (intsV ((K.L.take i).map (·.s.id)) ++ [.int .i64 f.s.id]) = rowN 3 1 v (i + 1) (intsV ((K.L.take (i + 1)).map (·.s.id))) := fun v => by with_unfolding_all rw [List.take_add_one, hf, List.map_append, show ∀ a b : List Int, intsV (a ++ b) = intsV a ++ intsV b from fun a b => by unfold intsV; exact List.map_append]; rfl
    have c62 := fun v' hv' => rsame_t f.s v' f.v hv' hfv f.bs (by rw [← hxbs]; omega)
    repeat' (first
     | (refine isSeq1 7 ?_; refine Held.it ?_)
     | refine WPl.nil ?_ | refine WPq.then ?_ | refine WPq.thenR ?_ | refine WPq.thenE ?_ | refine WPq.blockN ?_ | refine WPq.blockR ?_ | refine WPq.blockE ?_ | refine WPq.blockO rfl ?_ | refine WPc.seq ?_ | refine WPc.block ?_ | refine WPc.ret ?_ | refine WPc.exit ?_ | refine WPc.skip ?_ | refine WPc.region ?_
     | (refine isCond ?_; first | refine WPc.cT ?_ | refine WPc.cF ?_ | (refine WPc.cQ (fun hc => ?_) (fun hc => ?_) <;> try first | exact prA | (exfalso; first | omega)))
     | (refine isD 24 ?_; refine WPl.rdX (ReadR.binE rfl rfl BinR.lss (congrArg Value.bool (decide_eq_true hlt'))) ?_)
     | (refine isD 33 ?_; refine WPl.rdX (ReadR.indexE (i := i) rfl rfl hasA hlt) ?_)
     | (refine isD 34 ?_; refine WPl.rdX (ReadR.fieldE rfl hasA (by omega)) ?_)
     | (refine isD 35 ?_; refine WPl.rdX (ReadR.loadE rfl hasA c0) ?_)
     | (refine isLit ?_; refine WPl.lits fun w36 hw36 => ?_)
     | (refine isD 37 ?_; refine WPl.appN (m := i) (m2 := 1) (xs := intsV ((K.L.take i).map (·.s.id))) (ys := [.int .i64 f.s.id]) rfl (fun q hq => by rw [List.mem_singleton.1 hq]; rfl) (by omega) (fun v37 hv37 => ?_); rw [hap])
     | (refine isD 45 ?_; refine WPl.rdX (ReadR.indexE (i := i) rfl rfl hasA hlt) ?_)
     | (refine isD 46 ?_; refine WPl.rdX (ReadR.fieldE rfl hasA (by omega)) ?_)
     | (refine isD 47 ?_; refine WPl.rdX (ReadR.loadE rfl hasA c0) ?_)
     | (refine isD 9 ?_; first | (refine isAl ?_; refine WPl.nw fun g9 => ?_) | (refine isBx ?_; refine WPl.nw fun g9 => ?_))
     | (refine isC 48 ?_; refine WPl.cX c48 (fun v48 Γ1 hR => ?_) (hΔ := .cons (Prov.bx memA) (.cons (Prov.mp memA) (.cons (Prov.gbag (B := rbx x'.g 33 (shC x'.s x'.v)) memA hxm hb1 rfl fun _ h => h) (.cons (Prov.rd (HasS.gbagR (row := prow) (es := F.ps) memA hxm hb2)) .nil)))); obtain ⟨v', rfl, hv', rfl⟩ := hR; rw [hxs, hxbs]; have hfx9 := shC_ok (s := f.s) hv'; have c62 := c62 v' hv'; (try dsimp only [putF, List.cons_append, List.nil_append]))
     | (show WPl _ _ _ _ _ _ _ (⟨_, .store _ (.tmp 9) _, _, _, _, _⟩ :: _) _; refine WPl.stA (new := shC f.s v') ?_ (hn := hfx9))
     | (refine isOp ?_; first | refine WPl.rd ?_ | refine WPl.sk ?_ | refine WPl.rdB ?_)
     | (refine isAl ?_; refine WPl.nw fun g => ?_)
     | (refine isBx ?_; refine WPl.nw fun g => ?_)
     | (refine isSt ?_; first | refine WPl.st1 ?_ | refine WPl.stA ?_ | refine WPl.stEB ?_ | refine WPl.stRB ?_)
     | (show WPl _ _ _ _ _ _ _ (⟨_, .indexAddr _ _ _, _, _, _, _⟩ :: _) _; refine WPl.rdX (ReadR.indexE rfl rfl hasA (by first | assumption | omega)) ?_)
     | (show WPl _ _ _ _ _ _ _ (⟨_, .fieldAddr _ _ _, _, _, _, _⟩ :: _) _; refine WPl.rdX (ReadR.fieldE rfl hasA (by first | assumption | omega)) ?_)
     | (show WPl _ _ _ _ _ _ _ (⟨_, .load _ _, _, _, _, _⟩ :: _) _; first | refine WPl.rdX (ReadR.loadE rfl hasA (by assumption)) ?_ | refine WPl.rdX (ReadR.loadES (by assumption) (by first | assumption | omega) rfl hasA) ?_)
     | (show WPl _ _ _ _ _ _ _ (⟨_, .slice _ _ _ _ _, _, _, _, _⟩ :: _) _; first | refine WPl.rdX (ReadR.sliceH rfl rfl hasA (by omega)) ?_ | refine WPl.rdX (ReadR.sliceL rfl rfl hasA (by omega)) ?_ | refine WPl.rdX (ReadR.sliceLH rfl rfl rfl hasA (by omega) (by omega)) ?_)
     | (refine WPl.spQ (fun hc => ?_) (fun hc => ?_) <;> try first | exact prA | (exfalso; first | omega))
     | fail)
    refine ⟨?_⟩
    repeat' (first
     | refine WPl.nil ?_ | refine WPq.then ?_ | refine WPq.thenR ?_ | refine WPq.thenE ?_ | refine WPq.blockN ?_ | refine WPq.blockR ?_ | refine WPq.blockE ?_ | refine WPq.blockO rfl ?_ | refine WPc.seq ?_ | refine WPc.block ?_ | refine WPc.ret ?_ | refine WPc.exit ?_ | refine WPc.skip ?_ | refine WPc.region ?_
     | (refine isReg 7 ?_; refine WPc.drA [([], []), ([0], [51]), ([0, 1], [51, 52]), ([0, 1, 2], [51, 52, 53, 55, 56, 57, 58, 59, 60, 61]), ([0, 1, 2], [51, 52, 53, 54, 59]), ([0, 1, 2, 4], [51, 52, 53, 54, 55, 59]), ([0, 1, 2, 4, 5], [51, 52, 53, 54, 55, 56, 59]), ([0, 1, 2, 4, 5, 6], [51, 52, 53, 54, 55, 56, 57, 59]), ([0, 1, 2], [51, 52, 53, 54, 55, 56, 57, 58]), ([0, 1, 2, 4, 5, 6, 7, 8], [51, 52, 53, 54, 55, 56, 57, 58, 59]), ([0, 1, 2, 4, 5, 6, 7, 8, 9], [51, 52, 53, 54, 55, 56, 57, 58, 59, 60]), ([0, 1, 2, 3, 4, 5, 6, 7, 8, 9, 10], [51, 52, 53, 54, 55, 56, 57, 58, 59, 60, 61]), ([0, 1, 2, 3, 4, 5, 6, 7, 8, 9, 10, 11], [51, 52, 53, 54, 55, 56, 57, 58, 59, 60, 61, 62]), ([0, 1, 2, 3, 4, 5, 6, 7, 8, 9, 10, 11, 12], [51, 52, 53, 54, 55, 56, 57, 58, 59, 60, 61, 62, 63])] [] (Γx := []) ?_; dsimp only [prev0, List.length_nil, List.length_cons])
     | (refine gAny ?_; first | (refine gGd ?_; refine RGl.skp ?_) | (refine gD 60 ?_; refine RGl.rdX (fun e hk => by (try dsimp only [bndR, ensR, oksR, fcutR, List.append_nil, List.nil_append, List.cons_append, List.append_assoc] at hk ⊢); exact ReadR.indexE (i := i) rfl rfl hasA hlt) ?_) | (refine gD 61 ?_; refine RGl.rdX (fun e hk => by (try dsimp only [bndR, ensR, oksR, fcutR, List.append_nil, List.nil_append, List.cons_append, List.append_assoc] at hk ⊢); exact ReadR.loadES (cs := shC f.s f.v) hf3 (by omega) rfl hasA) ?_) | (refine gOp ?_; (refine gC 62 ?_; refine RGl.vl (fun e hk => by (try dsimp only [bndR, ensR, oksR, fcutR, List.append_nil, List.nil_append, List.cons_append, List.append_assoc] at hk ⊢); exact OpT.call c62 evsA (Provs.cons (Prov.rd hasA) (.cons (Prov.rd (HasS.gbagR (row := brow) (es := K.B) memA hfm hbK)) .nil)) (by kernel_rfl)) ?_)) | (refine gOp ?_; first | refine RGl.rdA ?_ | refine RGl.rdX (fun e hk => by (try dsimp only [bndR, ensR, oksR, fcutR, List.append_nil, List.nil_append, List.cons_append, List.append_assoc] at hk ⊢); exact readB) ?_) | (refine RGl.fin (fun e hk => ?_); (try dsimp only [bndA, ensAR, oksA, List.append_nil, List.nil_append, List.cons_append, List.append_assoc] at hk ⊢); (repeat (obtain ⟨hk1, hk⟩ := hk))) | fail)
     | (refine isCond ?_; first | refine WPc.cT ?_ | refine WPc.cF ?_ | (refine WPc.cQ (fun hc => ?_) (fun hc => ?_) <;> try first | exact prA | (exfalso; first | omega)))
     | (refine isD 60 ?_; refine WPl.rdX (ReadR.indexE (i := i) rfl rfl hasA hlt) ?_)
     | (refine isD 61 ?_; refine WPl.rdX (ReadR.loadES (cs := shC f.s f.v) hf3 (by omega) rfl hasA) ?_)
     | (refine isOp ?_; first | refine WPl.rd ?_ | refine WPl.sk ?_ | refine WPl.rdB ?_)
     | (refine isAl ?_; refine WPl.nw fun g => ?_)
     | (refine isBx ?_; refine WPl.nw fun g => ?_)
     | (refine isSt ?_; first | refine WPl.st1 ?_ | refine WPl.stA ?_ | refine WPl.stEB ?_ | refine WPl.stRB ?_)
     | (show WPl _ _ _ _ _ _ _ (⟨_, .indexAddr _ _ _, _, _, _, _⟩ :: _) _; refine WPl.rdX (ReadR.indexE rfl rfl hasA (by first | assumption | omega)) ?_)
     | (show WPl _ _ _ _ _ _ _ (⟨_, .fieldAddr _ _ _, _, _, _, _⟩ :: _) _; refine WPl.rdX (ReadR.fieldE rfl hasA (by first | assumption | omega)) ?_)
     | (show WPl _ _ _ _ _ _ _ (⟨_, .load _ _, _, _, _, _⟩ :: _) _; first | refine WPl.rdX (ReadR.loadE rfl hasA (by assumption)) ?_ | refine WPl.rdX (ReadR.loadES (by assumption) (by first | assumption | omega) rfl hasA) ?_)
     | (show WPl _ _ _ _ _ _ _ (⟨_, .slice _ _ _ _ _, _, _, _, _⟩ :: _) _; first | refine WPl.rdX (ReadR.sliceH rfl rfl hasA (by omega)) ?_ | refine WPl.rdX (ReadR.sliceL rfl rfl hasA (by omega)) ?_ | refine WPl.rdX (ReadR.sliceLH rfl rfl rfl hasA (by omega) (by omega)) ?_)
     | (refine WPl.spQ (fun hc => ?_) (fun hc => ?_) <;> try first | exact prA | (exfalso; first | omega))
     | fail)
    exact WPq.rnd (i + 1, v37) ⟨hlt, hv37⟩ (by dsimp only; omega)
  have hlt' : ¬ (i : Int) < (K.L.length : Int) := by omega
  have hiL : i = K.L.length := by omega
  subst hiL
  rw [List.take_of_length_le (Nat.le_refl _)]
  repeat' (first
   | (refine isSeqR 11 ?_; refine WPc.join (σ := Unit) (fun _ => True) (fun _ => [bx gF 66 (fac mi md), mp idM mi (ies F.ps), mp drM md F.ds, gbag prow F.ps, bx gX 49 (rfc K.vL), rowN 33 23 K.vL K.L.length (svs K.L), gbag brow K.B, bx g5 51 (faC x), rowN 3 1 vI K.L.length (intsV (K.L.map (·.s.id)))]) (fun _ => [(0, hF gF), (1, hF gX), (5, hF g5), (7, vI)]) ?_ (fun st hx => ?_))
   | (refine isSeq1 11 ?_; refine Held.it ?_)
   | (refine isSeq1 13 ?_; refine Held.it ?_)
   | refine WPl.nil ?_ | refine WPq.then ?_ | refine WPq.thenR ?_ | refine WPq.thenE ?_ | refine WPq.blockN ?_ | refine WPq.blockR ?_ | refine WPq.blockE ?_ | refine WPq.blockO rfl ?_ | refine WPc.seq ?_ | refine WPc.block ?_ | refine WPc.ret ?_ | refine WPc.exit ?_ | refine WPc.skip ?_ | refine WPc.region ?_
   | (refine isCond ?_; first | refine WPc.cT ?_ | refine WPc.cF ?_ | (refine WPc.cQ (fun hc => ?_) (fun hc => ?_) <;> try first | exact prA | (exfalso; first | omega)))
   | (refine isD 24 ?_; refine WPl.rdX (ReadR.binE rfl rfl BinR.lss (congrArg Value.bool (decide_eq_false hlt'))) ?_)
   | (refine isC 76 ?_; refine WPl.cV c76 ?_ (hΔ := provsM))
   | (refine isC 89 ?_; refine WPl.cV c89 ?_ (hΔ := provsX))
   | (refine isOp ?_; first | refine WPl.rd ?_ | refine WPl.sk ?_ | refine WPl.rdB ?_)
   | (refine isAl ?_; refine WPl.nw fun g => ?_)
   | (refine isBx ?_; refine WPl.nw fun g => ?_)
   | (refine isSt ?_; first | refine WPl.st1 ?_ | refine WPl.stA ?_ | refine WPl.stEB ?_ | refine WPl.stRB ?_)
   | (show WPl _ _ _ _ _ _ _ (⟨_, .indexAddr _ _ _, _, _, _, _⟩ :: _) _; refine WPl.rdX (ReadR.indexE rfl rfl hasA (by first | assumption | omega)) ?_)
   | (show WPl _ _ _ _ _ _ _ (⟨_, .fieldAddr _ _ _, _, _, _, _⟩ :: _) _; refine WPl.rdX (ReadR.fieldE rfl hasA (by first | assumption | omega)) ?_)
   | (show WPl _ _ _ _ _ _ _ (⟨_, .load _ _, _, _, _, _⟩ :: _) _; first | refine WPl.rdX (ReadR.loadE rfl hasA (by assumption)) ?_ | refine WPl.rdX (ReadR.loadES (by assumption) (by first | assumption | omega) rfl hasA) ?_)
   | (show WPl _ _ _ _ _ _ _ (⟨_, .slice _ _ _ _ _, _, _, _, _⟩ :: _) _; first | refine WPl.rdX (ReadR.sliceH rfl rfl hasA (by omega)) ?_ | refine WPl.rdX (ReadR.sliceL rfl rfl hasA (by omega)) ?_ | refine WPl.rdX (ReadR.sliceLH rfl rfl rfl hasA (by omega) (by omega)) ?_)
   | (refine WPl.spQ (fun hc => ?_) (fun hc => ?_) <;> try first | exact prA | (exfalso; first | omega))
   | fail)
  · refine ⟨?_⟩
    rcases hmr with ⟨rfl, hc0, hr⟩ | ⟨rfl, rfl, hr⟩
    · rw [hr]
      repeat' (first
       | refine WPl.nil ?_ | refine WPq.then ?_ | refine WPq.thenR ?_ | refine WPq.thenE ?_ | refine WPq.blockN ?_ | refine WPq.blockR ?_ | refine WPq.blockE ?_ | refine WPq.blockO rfl ?_ | refine WPc.seq ?_ | refine WPc.block ?_ | refine WPc.ret ?_ | refine WPc.exit ?_ | refine WPc.skip ?_ | refine WPc.region ?_
       | (refine isCond ?_; first | refine WPc.cT ?_ | refine WPc.cF ?_ | (refine WPc.cQ (fun hc => ?_) (fun hc => ?_) <;> try first | exact prA | (exfalso; first | omega)))
       | (refine isD 92 ?_; refine WPl.rdX (ReadR.binE rfl rfl BinR.geq (congrArg Value.bool (decide_eq_true hc0))) ?_)
       | (refine isD 93 ?_; refine WPl.rdX (ReadR.binE rfl rfl (BinR.neqB rfl) rfl) ?_)
       | (refine isD 99 ?_; refine WPl.rdX (ReadR.binE rfl rfl BinR.neq neSI) ?_)
       | (refine isOp ?_; first | refine WPl.rd ?_ | refine WPl.sk ?_ | refine WPl.rdB ?_)
       | (refine isAl ?_; refine WPl.nw fun g => ?_)
       | (refine isBx ?_; refine WPl.nw fun g => ?_)
       | (refine isSt ?_; first | refine WPl.st1 ?_ | refine WPl.stA ?_ | refine WPl.stEB ?_ | refine WPl.stRB ?_)
       | (show WPl _ _ _ _ _ _ _ (⟨_, .indexAddr _ _ _, _, _, _, _⟩ :: _) _; refine WPl.rdX (ReadR.indexE rfl rfl hasA (by first | assumption | omega)) ?_)
       | (show WPl _ _ _ _ _ _ _ (⟨_, .fieldAddr _ _ _, _, _, _, _⟩ :: _) _; refine WPl.rdX (ReadR.fieldE rfl hasA (by first | assumption | omega)) ?_)
       | (show WPl _ _ _ _ _ _ _ (⟨_, .load _ _, _, _, _, _⟩ :: _) _; first | refine WPl.rdX (ReadR.loadE rfl hasA (by assumption)) ?_ | refine WPl.rdX (ReadR.loadES (by assumption) (by first | assumption | omega) rfl hasA) ?_)
       | (show WPl _ _ _ _ _ _ _ (⟨_, .slice _ _ _ _ _, _, _, _, _⟩ :: _) _; first | refine WPl.rdX (ReadR.sliceH rfl rfl hasA (by omega)) ?_ | refine WPl.rdX (ReadR.sliceL rfl rfl hasA (by omega)) ?_ | refine WPl.rdX (ReadR.sliceLH rfl rfl rfl hasA (by omega) (by omega)) ?_)
       | (refine WPl.spQ (fun hc => ?_) (fun hc => ?_) <;> try first | exact prA | (exfalso; first | omega))
       | fail)
      exact WPq.join () trivial
    · rw [hr]
      repeat' (first
       | refine WPl.nil ?_ | refine WPq.then ?_ | refine WPq.thenR ?_ | refine WPq.thenE ?_ | refine WPq.blockN ?_ | refine WPq.blockR ?_ | refine WPq.blockE ?_ | refine WPq.blockO rfl ?_ | refine WPc.seq ?_ | refine WPc.block ?_ | refine WPc.ret ?_ | refine WPc.exit ?_ | refine WPc.skip ?_ | refine WPc.region ?_
       | (refine isCond ?_; first | refine WPc.cT ?_ | refine WPc.cF ?_ | (refine WPc.cQ (fun hc => ?_) (fun hc => ?_) <;> try first | exact prA | (exfalso; first | omega)))
       | (refine isD 92 ?_; refine WPl.rdX (ReadR.binE rfl rfl BinR.geq (congrArg Value.bool (decide_eq_false (show ¬ (0 : Int) ≤ -1 by omega)))) ?_)
       | (refine isD 93 ?_; refine WPl.rdX (ReadR.binE rfl rfl (BinR.neqB rfl) rfl) ?_)
       | (refine isD 107 ?_; refine WPl.rdX (ReadR.binE rfl rfl BinR.neq neSI) ?_)
       | (refine isOp ?_; first | refine WPl.rd ?_ | refine WPl.sk ?_ | refine WPl.rdB ?_)
       | (refine isAl ?_; refine WPl.nw fun g => ?_)
       | (refine isBx ?_; refine WPl.nw fun g => ?_)
       | (refine isSt ?_; first | refine WPl.st1 ?_ | refine WPl.stA ?_ | refine WPl.stEB ?_ | refine WPl.stRB ?_)
       | (show WPl _ _ _ _ _ _ _ (⟨_, .indexAddr _ _ _, _, _, _, _⟩ :: _) _; refine WPl.rdX (ReadR.indexE rfl rfl hasA (by first | assumption | omega)) ?_)
       | (show WPl _ _ _ _ _ _ _ (⟨_, .fieldAddr _ _ _, _, _, _, _⟩ :: _) _; refine WPl.rdX (ReadR.fieldE rfl hasA (by first | assumption | omega)) ?_)
       | (show WPl _ _ _ _ _ _ _ (⟨_, .load _ _, _, _, _, _⟩ :: _) _; first | refine WPl.rdX (ReadR.loadE rfl hasA (by assumption)) ?_ | refine WPl.rdX (ReadR.loadES (by assumption) (by first | assumption | omega) rfl hasA) ?_)
       | (show WPl _ _ _ _ _ _ _ (⟨_, .slice _ _ _ _ _, _, _, _, _⟩ :: _) _; first | refine WPl.rdX (ReadR.sliceH rfl rfl hasA (by omega)) ?_ | refine WPl.rdX (ReadR.sliceL rfl rfl hasA (by omega)) ?_ | refine WPl.rdX (ReadR.sliceLH rfl rfl rfl hasA (by omega) (by omega)) ?_)
       | (refine WPl.spQ (fun hc => ?_) (fun hc => ?_) <;> try first | exact prA | (exfalso; first | omega))
       | fail)
      exact WPq.join () trivial
  refine ⟨?_⟩
  clear hmr hmv c76 c89 hkm hi
  have hLl : (K.L.map (·.s.id)).length = K.L.length := List.length_map _
  have c197 : ∀ v, Triple Try.prog 42 #[v, vI] [rdN v K.L.length (intsV (K.L.map (·.s.id))), rdN vI K.L.length (intsV (K.L.map (·.s.id)))] (RVal (.bool true)) := fun v => by
    have := rints_t v vI (K.L.map (·.s.id)) (by rw [hLl]; exact hm)
    rwa [hLl] at this
  have es0 : shrs [] = [] := by with_unfolding_all rfl
  have en0 : intsV [] = [] := by with_unfolding_all rfl
  have en1 : intsV [x.b] = [.int .i64 x.b] := by with_unfolding_all rfl
  refine WPc.nilRowN 3 1 ?_
  refine WPc.nilRowN 79 2 ?_
  cases hfd : findS K.sb x.id with
  | none =>
    have hat := findS_at_none hfd
    have c116 := gback0_t gF mi md K.sb F hp x.id x.b w2 hfd
    have c122 := rat20_t gX K.vL K.L hm x.id
    rw [hat] at c122
    have c122 : Triple Try.prog 40 #[hF gX, .int .i64 x.id] [rbx gX 49 (rfc K.vL), rdN K.vL K.L.length (svs K.L)] (RVal (.int .i64 (-1))) := c122
    have c203 := gshares0_t gF mi md K.sb F hp x.id w2 (.slice none 0 0) hfd
    have c208 := fun v => rshares0_t gX K.vL K.L hm x.id v hat
    have c209 : ∀ v, Triple Try.prog 43 #[.slice none 0 0, v] [rdN (.slice none 0 0) 0 [], rdN v 0 []] (RVal (.bool true)) := fun v => by
      have := rshared_t (.slice none 0 0) v [] (by simp)
      rwa [es0] at this
    repeat' (first
     | refine WPl.nil ?_ | refine WPq.then ?_ | refine WPq.thenR ?_ | refine WPq.thenE ?_ | refine WPq.blockN ?_ | refine WPq.blockR ?_ | refine WPq.blockE ?_ | refine WPq.blockO rfl ?_ | refine WPc.seq ?_ | refine WPc.block ?_ | refine WPc.ret ?_ | refine WPc.exit ?_ | refine WPc.skip ?_ | refine WPc.region ?_
     | (refine isCond ?_; first | refine WPc.cT ?_ | refine WPc.cF ?_ | (refine WPc.cQ (fun hc => ?_) (fun hc => ?_) <;> try first | exact prA | (exfalso; first | omega)))
     | (refine isD 14 ?_; first | (refine isAl ?_; refine WPl.nw fun g14 => ?_) | (refine isBx ?_; refine WPl.nw fun g14 => ?_))
     | (refine isC 116 ?_; refine WPl.cV c116 ?_ (hΔ := provsM))
     | (show WPl _ _ _ _ _ _ _ (⟨_, .store _ (.tmp 14) _, _, _, _, _⟩ :: _) _; refine WPl.stA (new := bkC Bk.zero) ?_ (hn := bkC_ok _))
     | (refine isC 122 ?_; refine WPl.cV c122 ?_ (hΔ := provsX))
     | (refine isOp ?_; first | refine WPl.rd ?_ | refine WPl.sk ?_ | refine WPl.rdB ?_)
     | (refine isAl ?_; refine WPl.nw fun g => ?_)
     | (refine isBx ?_; refine WPl.nw fun g => ?_)
     | (refine isSt ?_; first | refine WPl.st1 ?_ | refine WPl.stA ?_ | refine WPl.stEB ?_ | refine WPl.stRB ?_)
     | (show WPl _ _ _ _ _ _ _ (⟨_, .indexAddr _ _ _, _, _, _, _⟩ :: _) _; refine WPl.rdX (ReadR.indexE rfl rfl hasA (by first | assumption | omega)) ?_)
     | (show WPl _ _ _ _ _ _ _ (⟨_, .fieldAddr _ _ _, _, _, _, _⟩ :: _) _; refine WPl.rdX (ReadR.fieldE rfl hasA (by first | assumption | omega)) ?_)
     | (show WPl _ _ _ _ _ _ _ (⟨_, .load _ _, _, _, _, _⟩ :: _) _; first | refine WPl.rdX (ReadR.loadE rfl hasA (by assumption)) ?_ | refine WPl.rdX (ReadR.loadES (by assumption) (by first | assumption | omega) rfl hasA) ?_)
     | (show WPl _ _ _ _ _ _ _ (⟨_, .slice _ _ _ _ _, _, _, _, _⟩ :: _) _; first | refine WPl.rdX (ReadR.sliceH rfl rfl hasA (by omega)) ?_ | refine WPl.rdX (ReadR.sliceL rfl rfl hasA (by omega)) ?_ | refine WPl.rdX (ReadR.sliceLH rfl rfl rfl hasA (by omega) (by omega)) ?_)
     | (refine WPl.spQ (fun hc => ?_) (fun hc => ?_) <;> try first | exact prA | (exfalso; first | omega))
     | fail)
    repeat' (first
     | refine WPl.nil ?_ | refine WPq.then ?_ | refine WPq.thenR ?_ | refine WPq.thenE ?_ | refine WPq.blockN ?_ | refine WPq.blockR ?_ | refine WPq.blockE ?_ | refine WPq.blockO rfl ?_ | refine WPc.seq ?_ | refine WPc.block ?_ | refine WPc.ret ?_ | refine WPc.exit ?_ | refine WPc.skip ?_ | refine WPc.region ?_
     | (refine isReg 15 ?_; refine WPc.drA [([], []), ([0], [123]), ([0, 1], [123, 124]), ([0, 1, 2], [123, 124, 125, 130, 133, 134]), ([0, 1, 2, 3], [123, 124, 125, 126, 130, 133, 134]), ([0, 1, 2, 3, 4], [123, 124, 125, 126, 127, 130, 133, 134]), ([0, 1, 2, 3, 4, 5], [123, 124, 125, 126, 127, 128, 130, 133, 134]), ([0, 1, 2], [123, 124, 125, 126, 127, 128, 129, 133, 134]), ([0, 1, 2, 3, 4, 5, 6, 7], [123, 124, 125, 126, 127, 128, 129, 130, 133, 134]), ([0, 1, 2, 3, 4, 5, 6, 7, 8], [123, 124, 125, 126, 127, 128, 129, 130, 131, 133, 134]), ([0, 1, 2], [123, 124, 125, 126, 127, 128, 129, 130, 131, 132]), ([0, 1, 2, 10], [123, 124, 125, 126, 127, 128, 129, 130, 131, 132, 133]), ([0, 1, 2, 3, 4, 5, 6, 7, 8, 9, 10, 11], [123, 124, 125, 126, 127, 128, 129, 130, 131, 132, 133, 134]), ([0, 1, 2, 3, 4, 5, 6, 7, 8, 9, 10, 11, 12], [123, 124, 125, 126, 127, 128, 129, 130, 131, 132, 133, 134, 135]), ([0, 1, 2, 3, 4, 5, 6, 7, 8, 9, 10, 11, 12, 13], [123, 124, 125, 126, 127, 128, 129, 130, 131, 132, 133, 134, 135, 136])] [] (Γx := []) ?_; dsimp only [prev0, List.length_nil, List.length_cons])
     | (refine gAny ?_; first | (refine gGd ?_; refine RGl.skp ?_) | (refine gD 124 ?_; refine RGl.rdX (fun e hk => by (try dsimp only [bndR, ensR, oksR, fcutR, List.append_nil, List.nil_append, List.cons_append, List.append_assoc] at hk ⊢); exact ReadR.binE rfl rfl BinR.geq (congrArg Value.bool (decide_eq_false (show ¬ (0 : Int) ≤ -1 by omega)))) ?_) | (refine gOp ?_; first | refine RGl.rdA ?_ | refine RGl.rdX (fun e hk => by (try dsimp only [bndR, ensR, oksR, fcutR, List.append_nil, List.nil_append, List.cons_append, List.append_assoc] at hk ⊢); exact readB) ?_) | (refine RGl.fin (fun e hk => ?_); (try dsimp only [bndA, ensAR, oksA, List.append_nil, List.nil_append, List.cons_append, List.append_assoc] at hk ⊢); (repeat (obtain ⟨hk1, hk⟩ := hk))) | fail)
     | (refine isCond ?_; first | refine WPc.cT ?_ | refine WPc.cF ?_ | (refine WPc.cQ (fun hc => ?_) (fun hc => ?_) <;> try first | exact prA | (exfalso; first | omega)))
     | (refine isD 124 ?_; refine WPl.rdX (ReadR.binE rfl rfl BinR.geq (congrArg Value.bool (decide_eq_false (show ¬ (0 : Int) ≤ -1 by omega)))) ?_)
     | (refine isOp ?_; first | refine WPl.rd ?_ | refine WPl.sk ?_ | refine WPl.rdB ?_)
     | (refine isAl ?_; refine WPl.nw fun g => ?_)
     | (refine isBx ?_; refine WPl.nw fun g => ?_)
     | (refine isSt ?_; first | refine WPl.st1 ?_ | refine WPl.stA ?_ | refine WPl.stEB ?_ | refine WPl.stRB ?_)
     | (show WPl _ _ _ _ _ _ _ (⟨_, .indexAddr _ _ _, _, _, _, _⟩ :: _) _; refine WPl.rdX (ReadR.indexE rfl rfl hasA (by first | assumption | omega)) ?_)
     | (show WPl _ _ _ _ _ _ _ (⟨_, .fieldAddr _ _ _, _, _, _, _⟩ :: _) _; refine WPl.rdX (ReadR.fieldE rfl hasA (by first | assumption | omega)) ?_)
     | (show WPl _ _ _ _ _ _ _ (⟨_, .load _ _, _, _, _, _⟩ :: _) _; first | refine WPl.rdX (ReadR.loadE rfl hasA (by assumption)) ?_ | refine WPl.rdX (ReadR.loadES (by assumption) (by first | assumption | omega) rfl hasA) ?_)
     | (show WPl _ _ _ _ _ _ _ (⟨_, .slice _ _ _ _ _, _, _, _, _⟩ :: _) _; first | refine WPl.rdX (ReadR.sliceH rfl rfl hasA (by omega)) ?_ | refine WPl.rdX (ReadR.sliceL rfl rfl hasA (by omega)) ?_ | refine WPl.rdX (ReadR.sliceLH rfl rfl rfl hasA (by omega) (by omega)) ?_)
     | (refine WPl.spQ (fun hc => ?_) (fun hc => ?_) <;> try first | exact prA | (exfalso; first | omega))
     | fail)
    repeat' (first
     | refine WPl.nil ?_ | refine WPq.then ?_ | refine WPq.thenR ?_ | refine WPq.thenE ?_ | refine WPq.blockN ?_ | refine WPq.blockR ?_ | refine WPq.blockE ?_ | refine WPq.blockO rfl ?_ | refine WPc.seq ?_ | refine WPc.block ?_ | refine WPc.ret ?_ | refine WPc.exit ?_ | refine WPc.skip ?_ | refine WPc.region ?_
     | (refine isReg 17 ?_; refine WPc.drA [([], []), ([0], [186]), ([0, 1], [186, 187]), ([0, 1, 2], [186, 187, 188, 190]), ([0, 1, 2], [186, 187, 188, 189]), ([0, 1, 2, 3, 4], [186, 187, 188, 189, 190]), ([0, 1, 2, 3, 4, 5], [186, 187, 188, 189, 190, 191]), ([0, 1, 2, 3, 4, 5, 6], [186, 187, 188, 189, 190, 191, 192]), ([0, 1, 2, 3, 4, 5, 6, 7], [186, 187, 188, 189, 190, 191, 192, 193, 196]), ([0, 1, 2, 3, 4, 5, 6, 7, 8], [186, 187, 188, 189, 190, 191, 192, 193, 194, 196]), ([0, 1, 2, 3, 4, 5, 6, 7], [186, 187, 188, 189, 190, 191, 192, 193, 194, 195]), ([0, 1, 2, 3, 4, 5, 6, 7, 8, 9, 10], [186, 187, 188, 189, 190, 191, 192, 193, 194, 195, 196]), ([0, 1, 2, 3, 4, 5, 6, 7, 8, 9, 10, 11], [186, 187, 188, 189, 190, 191, 192, 193, 194, 195, 196, 197]), ([0, 1, 2, 3, 4, 5, 6, 7, 8, 9, 10, 11, 12], [186, 187, 188, 189, 190, 191, 192, 193, 194, 195, 196, 197, 198]), ([0, 1, 2, 3, 4, 5, 6, 7, 8, 9, 10, 11, 12, 13], [186, 187, 188, 189, 190, 191, 192, 193, 194, 195, 196, 197, 198, 199, 201, 202, 204, 205, 206, 207]), ([0, 1, 2, 3, 4, 5, 6, 7, 8, 9, 10, 11, 12, 13], [186, 187, 188, 189, 190, 191, 192, 193, 194, 195, 196, 197, 198, 199, 200, 204, 205, 206, 207]), ([0, 1, 2, 3, 4, 5, 6, 7, 8, 9, 10, 11, 12, 13, 15], [186, 187, 188, 189, 190, 191, 192, 193, 194, 195, 196, 197, 198, 199, 200, 201, 204, 205, 206, 207]), ([0, 1, 2, 3, 4, 5, 6, 7, 8, 9, 10, 11, 12, 13, 14, 15, 16], [186, 187, 188, 189, 190, 191, 192, 193, 194, 195, 196, 197, 198, 199, 200, 201, 202, 204, 205, 206, 207]), ([0, 1, 2, 3, 4, 5, 6, 7, 8, 9, 10, 11, 12, 13], [186, 187, 188, 189, 190, 191, 192, 193, 194, 195, 196, 197, 198, 199, 200, 201, 202, 203, 205, 206, 207]), ([0, 1, 2, 3, 4, 5, 6, 7, 8, 9, 10, 11, 12, 13], [186, 187, 188, 189, 190, 191, 192, 193, 194, 195, 196, 197, 198, 199, 200, 201, 202, 203, 204, 207]), ([0, 1, 2, 3, 4, 5, 6, 7, 8, 9, 10, 11, 12, 13, 19], [186, 187, 188, 189, 190, 191, 192, 193, 194, 195, 196, 197, 198, 199, 200, 201, 202, 203, 204, 205, 207]), ([0, 1, 2, 3, 4, 5, 6, 7, 8, 9, 10, 11, 12, 13], [186, 187, 188, 189, 190, 191, 192, 193, 194, 195, 196, 197, 198, 199, 200, 201, 202, 203, 204, 205, 206]), ([0, 1, 2, 3, 4, 5, 6, 7, 8, 9, 10, 11, 12, 13, 14, 15, 16, 17, 18, 19, 20, 21], [186, 187, 188, 189, 190, 191, 192, 193, 194, 195, 196, 197, 198, 199, 200, 201, 202, 203, 204, 205, 206, 207]), ([0, 1, 2, 3, 4, 5, 6, 7, 8, 9, 10, 11, 12, 13, 14, 15, 16, 17, 18, 19, 20, 21, 22], [186, 187, 188, 189, 190, 191, 192, 193, 194, 195, 196, 197, 198, 199, 200, 201, 202, 203, 204, 205, 206, 207, 208]), ([0, 1, 2, 3, 4, 5, 6, 7, 8, 9, 10, 11, 12, 13, 14, 15, 16, 17, 18, 19, 20, 21, 22, 23], [186, 187, 188, 189, 190, 191, 192, 193, 194, 195, 196, 197, 198, 199, 200, 201, 202, 203, 204, 205, 206, 207, 208, 209]), ([0, 1, 2, 3, 4, 5, 6, 7, 8, 9, 10, 11, 12, 13, 14, 15, 16, 17, 18, 19, 20, 21, 22, 23, 24], [186, 187, 188, 189, 190, 191, 192, 193, 194, 195, 196, 197, 198, 199, 200, 201, 202, 203, 204, 205, 206, 207, 208, 209, 210])] [] (Γx := []) ?_; dsimp only [prev0, List.length_nil, List.length_cons])
     | (refine gAny ?_; first | (refine gGd ?_; refine RGl.skp ?_) | (refine gC 197 ?_; refine RGl.vl (fun e hk => OpT.callN ((c197 (e 9).1))) ?_) | (refine gD 207 ?_; refine RGl.row (Γ1 := fun _ => []) (fun e hk => by (try dsimp only [bndR, ensR, oksR, fcutR, List.append_nil, List.nil_append, List.cons_append, List.append_assoc] at hk ⊢); exact OpT.buildS0) ?_) | (refine gC 209 ?_; refine RGl.vl (fun e hk => OpT.callN ((c209 (e 22).1))) ?_) | (refine gD 190 ?_; refine RGl.rdX (fun e hk => by (try dsimp only [bndR, ensR, oksR, fcutR, List.append_nil, List.nil_append, List.cons_append, List.append_assoc] at hk ⊢); exact ReadR.build (cs' := bkC Bk.zero) buildA) ?_) | (refine gD 191 ?_; refine RGl.rdX (fun e hk => by (try dsimp only [bndR, ensR, oksR, fcutR, List.append_nil, List.nil_append, List.cons_append, List.append_assoc] at hk ⊢); exact ReadR.binE rfl rfl BinR.bkE (congrArg Value.bool (decide_eq_true (rfl : Bk.zero = Bk.zero)))) ?_) | (refine gOp ?_; (refine gC 195 ?_; refine RGl.row (Γ1 := fun _ => []) (fun e hk => by (try dsimp only [bndR, ensR, oksR, fcutR, List.append_nil, List.nil_append, List.cons_append, List.append_assoc] at hk ⊢); exact OpT.call c12 evsA (.cons (Prov.bx memA) (.cons (Prov.mp memA) .nil)) (by kernel_rfl)) ?_)) | (refine gOp ?_; (refine gC 203 ?_; refine RGl.vl (fun e hk => by (try dsimp only [bndR, ensR, oksR, fcutR, List.append_nil, List.nil_append, List.cons_append, List.append_assoc] at hk ⊢); exact OpT.call c203 evsA (.cons (Prov.bx memA) (.cons (Prov.mp memA) .nil)) (by kernel_rfl)) ?_)) | (refine gOp ?_; (refine gC 208 ?_; refine RGl.row (Γ1 := fun _ => []) (fun e hk => by (try dsimp only [bndR, ensR, oksR, fcutR, List.append_nil, List.nil_append, List.cons_append, List.append_assoc] at hk ⊢); exact OpT.call (c208 (e 21).1) evsA (.cons (Prov.bx memA) (.cons (Prov.rd hasA) .nil)) (by kernel_rfl)) ?_)) | (refine gOp ?_; first | refine RGl.rdA ?_ | refine RGl.rdX (fun e hk => by (try dsimp only [bndR, ensR, oksR, fcutR, List.append_nil, List.nil_append, List.cons_append, List.append_assoc] at hk ⊢); exact readB) ?_) | (refine gLit ?_; refine RGl.litA ?_) | (refine RGl.fin (fun e hk => ?_); (try dsimp only [bndA, ensAR, oksA, List.append_nil, List.nil_append, List.cons_append, List.append_assoc] at hk ⊢); (repeat (obtain ⟨hk1, hk⟩ := hk))) | fail)
     | (refine isCond ?_; first | refine WPc.cT ?_ | refine WPc.cF ?_ | (refine WPc.cQ (fun hc => ?_) (fun hc => ?_) <;> try first | exact prA | (exfalso; first | omega)))
     | (refine isD 190 ?_; refine WPl.rdX (ReadR.build (cs' := bkC Bk.zero) buildA) ?_)
     | (refine isD 191 ?_; refine WPl.rdX (ReadR.binE rfl rfl BinR.bkE (congrArg Value.bool (decide_eq_true (rfl : Bk.zero = Bk.zero)))) ?_)
     | (refine isC 197 ?_; refine WPl.cV ((c197 (e 9).1)) ?_)
     | (refine isC 209 ?_; refine WPl.cV ((c209 (e 22).1)) ?_)
     | (refine isOp ?_; first | refine WPl.rd ?_ | refine WPl.sk ?_ | refine WPl.rdB ?_)
     | (refine isAl ?_; refine WPl.nw fun g => ?_)
     | (refine isBx ?_; refine WPl.nw fun g => ?_)
     | (refine isSt ?_; first | refine WPl.st1 ?_ | refine WPl.stA ?_ | refine WPl.stEB ?_ | refine WPl.stRB ?_)
     | (show WPl _ _ _ _ _ _ _ (⟨_, .indexAddr _ _ _, _, _, _, _⟩ :: _) _; refine WPl.rdX (ReadR.indexE rfl rfl hasA (by first | assumption | omega)) ?_)
     | (show WPl _ _ _ _ _ _ _ (⟨_, .fieldAddr _ _ _, _, _, _, _⟩ :: _) _; refine WPl.rdX (ReadR.fieldE rfl hasA (by first | assumption | omega)) ?_)
     | (show WPl _ _ _ _ _ _ _ (⟨_, .load _ _, _, _, _, _⟩ :: _) _; first | refine WPl.rdX (ReadR.loadE rfl hasA (by assumption)) ?_ | refine WPl.rdX (ReadR.loadES (by assumption) (by first | assumption | omega) rfl hasA) ?_)
     | (show WPl _ _ _ _ _ _ _ (⟨_, .slice _ _ _ _ _, _, _, _, _⟩ :: _) _; first | refine WPl.rdX (ReadR.sliceH rfl rfl hasA (by omega)) ?_ | refine WPl.rdX (ReadR.sliceL rfl rfl hasA (by omega)) ?_ | refine WPl.rdX (ReadR.sliceLH rfl rfl rfl hasA (by omega) (by omega)) ?_)
     | (refine WPl.spQ (fun hc => ?_) (fun hc => ?_) <;> try first | exact prA | (exfalso; first | omega))
     | fail)
    exact WPq.dTs (ho := both20_own)
  | some y =>
  obtain ⟨i, f, hat, hf, hfy, hfid⟩ := findS_at_some hfd
  have hfL := List.mem_of_getElem? hf
  have hfm := hfm hfL
  have hbK := hbK f
  have hfv := (hK f hfL).1
  have hyL := (findS_some hfd).1
  obtain ⟨A, B, x', hps, hxb, hxi, hmx⟩ := hp.at hfd
  have hxm : x' ∈ F.ps := by rw [hps]; simp
  have hxbs : x'.bs = f.bs := congrArg Sb.bs (hxb.trans hfy.symm)
  have hyb : y.bs = f.bs := congrArg Sb.bs hfy.symm
  have hsB : SrtB f.bs := by rw [← hyb]; exact hp.bsrt _ hyL
  have hfl16 : f.bs.length ≤ 16 := by rw [← hyb]; exact hp.blen _ hyL
  have hb1 : bx x'.g 33 (shC x'.s x'.v) ∈ prow x' := by unfold prow; exact List.mem_cons_self ..
  have hb2 : rowN 36 21 x'.v x'.bs.length (bks x'.bs) ∈ prow x' := by unfold prow; exact List.mem_cons_of_mem _ (List.mem_cons_self ..)
  have hil := (List.getElem?_eq_some_iff.1 hf).1
  have hf3 := svs_at hf
  have hxv : (svs K.L)[i * 23 + 22]? = some f.v := (svs_cell hf (o := 22) (by omega)).trans sh22
  have hfal := f.s.ad.len
  have hbcl := bks_len (l := f.bs)
  have hi0 : (0 : Int) ≤ (i : Int) := by omega
  have c122 := rat20_t gX K.vL K.L hm x.id
  rw [hat] at c122
  have c122 : Triple Try.prog 40 #[hF gX, .int .i64 x.id] [rbx gX 49 (rfc K.vL), rdN K.vL K.L.length (svs K.L)] (RVal (.int .i64 (i : Int))) := c122
  have c135 := rhas_t f.s f.v hfv f.bs (by omega) x.b
  have c176 := fun vd down hd => gshares1_t gF mi md F x.id w2 x' hmx (by rw [hxbs]; exact hfl16) vd down hd
  have c183 := fun vd down hd => rshares1_t gX K.vL K.L hm x.id vd down hd i hat f hf hfl16
  rw [hxbs] at c176 hb2
  have hsl : ∀ down, (sharesB f.bs down).length ≤ 1000 := fun down => by have := sharesB_len (bs := f.bs) (down := down); omega
  cases hh : hasB f.bs x.b with
  | true =>
    obtain ⟨z, hz, hzid⟩ := has_lb hsB hh
    have c116 := gback1_t gF mi md F x.id x.b w2 x' hmx (by rw [hxbs]; exact hsB) (by rw [hxbs]; exact hfl16) z (by rw [hxbs]; exact hh) (by rw [hxbs]; exact hz)
    rw [hxbs] at c116
    obtain ⟨j, hj⟩ : ∃ j, hasI f.bs x.b = some j := Option.isSome_iff_exists.1 (by rw [← hasI_hasB]; exact hh)
    obtain ⟨z2, hz2, hz2id⟩ := hasI_some hj
    have hjz : f.bs[j]? = some z := by rw [srtB_uniq hsB hz2 hz (hz2id.trans hzid.symm)]; exact hz
    have hjl := (List.getElem?_eq_some_iff.1 hjz).1
    have hzc := bks_at hjz
    have hzl := z.ad.len
    rw [hj] at c135
    have c135 : Triple Try.prog 41 #[ag (shC f.s f.v), .int .i64 x.b] [rdN f.v f.bs.length (bks f.bs)] (RVal (.int .i64 (j : Int))) := c135
    have hj0 : (0 : Int) ≤ (j : Int) := by omega
    have c176 := fun vd => c176 vd [x.b] (by simp)
    have c183 := fun vd => c183 vd [x.b] (by simp)
    rw [en1] at c176 c183
    have c184 := fun va vb => rshared_t va vb (sharesB f.bs [x.b]) (hsl _)
    repeat' (first
     | refine WPl.nil ?_ | refine WPq.then ?_ | refine WPq.thenR ?_ | refine WPq.thenE ?_ | refine WPq.blockN ?_ | refine WPq.blockR ?_ | refine WPq.blockE ?_ | refine WPq.blockO rfl ?_ | refine WPc.seq ?_ | refine WPc.block ?_ | refine WPc.ret ?_ | refine WPc.exit ?_ | refine WPc.skip ?_ | refine WPc.region ?_
     | (refine isCond ?_; first | refine WPc.cT ?_ | refine WPc.cF ?_ | (refine WPc.cQ (fun hc => ?_) (fun hc => ?_) <;> try first | exact prA | (exfalso; first | omega)))
     | (refine isD 14 ?_; first | (refine isAl ?_; refine WPl.nw fun g14 => ?_) | (refine isBx ?_; refine WPl.nw fun g14 => ?_))
     | (refine isC 116 ?_; refine WPl.cV c116 ?_ (hΔ := .cons (Prov.bx memA) (.cons (Prov.mp memA) (.cons (Prov.gbag (B := rbx x'.g 33 (shC x'.s x'.v)) memA hxm hb1 rfl fun _ h => h) (.cons (Prov.rd (HasS.gbagR (row := prow) (es := F.ps) memA hxm hb2)) .nil)))))
     | (show WPl _ _ _ _ _ _ _ (⟨_, .store _ (.tmp 14) _, _, _, _, _⟩ :: _) _; refine WPl.stA (new := bkC z) ?_ (hn := bkC_ok _))
     | (refine isC 122 ?_; refine WPl.cV c122 ?_ (hΔ := provsX))
     | (refine isOp ?_; first | refine WPl.rd ?_ | refine WPl.sk ?_ | refine WPl.rdB ?_)
     | (refine isAl ?_; refine WPl.nw fun g => ?_)
     | (refine isBx ?_; refine WPl.nw fun g => ?_)
     | (refine isSt ?_; first | refine WPl.st1 ?_ | refine WPl.stA ?_ | refine WPl.stEB ?_ | refine WPl.stRB ?_)
     | (show WPl _ _ _ _ _ _ _ (⟨_, .indexAddr _ _ _, _, _, _, _⟩ :: _) _; refine WPl.rdX (ReadR.indexE rfl rfl hasA (by first | assumption | omega)) ?_)
     | (show WPl _ _ _ _ _ _ _ (⟨_, .fieldAddr _ _ _, _, _, _, _⟩ :: _) _; refine WPl.rdX (ReadR.fieldE rfl hasA (by first | assumption | omega)) ?_)
     | (show WPl _ _ _ _ _ _ _ (⟨_, .load _ _, _, _, _, _⟩ :: _) _; first | refine WPl.rdX (ReadR.loadE rfl hasA (by assumption)) ?_ | refine WPl.rdX (ReadR.loadES (by assumption) (by first | assumption | omega) rfl hasA) ?_)
     | (show WPl _ _ _ _ _ _ _ (⟨_, .slice _ _ _ _ _, _, _, _, _⟩ :: _) _; first | refine WPl.rdX (ReadR.sliceH rfl rfl hasA (by omega)) ?_ | refine WPl.rdX (ReadR.sliceL rfl rfl hasA (by omega)) ?_ | refine WPl.rdX (ReadR.sliceLH rfl rfl rfl hasA (by omega) (by omega)) ?_)
     | (refine WPl.spQ (fun hc => ?_) (fun hc => ?_) <;> try first | exact prA | (exfalso; first | omega))
     | fail)
    repeat' (first
     | refine WPl.nil ?_ | refine WPq.then ?_ | refine WPq.thenR ?_ | refine WPq.thenE ?_ | refine WPq.blockN ?_ | refine WPq.blockR ?_ | refine WPq.blockE ?_ | refine WPq.blockO rfl ?_ | refine WPc.seq ?_ | refine WPc.block ?_ | refine WPc.ret ?_ | refine WPc.exit ?_ | refine WPc.skip ?_ | refine WPc.region ?_
     | (refine isReg 15 ?_; refine WPc.drA [([], []), ([0], [123]), ([0, 1], [123, 124]), ([0, 1, 2], [123, 124, 125, 130, 133, 134]), ([0, 1, 2, 3], [123, 124, 125, 126, 130, 133, 134]), ([0, 1, 2, 3, 4], [123, 124, 125, 126, 127, 130, 133, 134]), ([0, 1, 2, 3, 4, 5], [123, 124, 125, 126, 127, 128, 130, 133, 134]), ([0, 1, 2], [123, 124, 125, 126, 127, 128, 129, 133, 134]), ([0, 1, 2, 3, 4, 5, 6, 7], [123, 124, 125, 126, 127, 128, 129, 130, 133, 134]), ([0, 1, 2, 3, 4, 5, 6, 7, 8], [123, 124, 125, 126, 127, 128, 129, 130, 131, 133, 134]), ([0, 1, 2], [123, 124, 125, 126, 127, 128, 129, 130, 131, 132]), ([0, 1, 2, 10], [123, 124, 125, 126, 127, 128, 129, 130, 131, 132, 133]), ([0, 1, 2, 3, 4, 5, 6, 7, 8, 9, 10, 11], [123, 124, 125, 126, 127, 128, 129, 130, 131, 132, 133, 134]), ([0, 1, 2, 3, 4, 5, 6, 7, 8, 9, 10, 11, 12], [123, 124, 125, 126, 127, 128, 129, 130, 131, 132, 133, 134, 135]), ([0, 1, 2, 3, 4, 5, 6, 7, 8, 9, 10, 11, 12, 13], [123, 124, 125, 126, 127, 128, 129, 130, 131, 132, 133, 134, 135, 136])] [] (Γx := []) ?_; dsimp only [prev0, List.length_nil, List.length_cons])
     | (refine gAny ?_; first | (refine gGd ?_; refine RGl.skp ?_) | (refine gD 124 ?_; refine RGl.rdX (fun e hk => by (try dsimp only [bndR, ensR, oksR, fcutR, List.append_nil, List.nil_append, List.cons_append, List.append_assoc] at hk ⊢); exact ReadR.binE rfl rfl BinR.geq (congrArg Value.bool (decide_eq_true hi0))) ?_) | (refine gD 131 ?_; refine RGl.rdX (fun e hk => by (try dsimp only [bndR, ensR, oksR, fcutR, List.append_nil, List.nil_append, List.cons_append, List.append_assoc] at hk ⊢); exact ReadR.indexE (i := i) rfl rfl hasA hil) ?_) | (refine gD 132 ?_; refine RGl.rdX (fun e hk => by (try dsimp only [bndR, ensR, oksR, fcutR, List.append_nil, List.nil_append, List.cons_append, List.append_assoc] at hk ⊢); exact ReadR.loadES (cs := shC f.s f.v) hf3 (by omega) rfl hasA) ?_) | (refine gOp ?_; (refine gC 135 ?_; refine RGl.vl (fun e hk => by (try dsimp only [bndR, ensR, oksR, fcutR, List.append_nil, List.nil_append, List.cons_append, List.append_assoc] at hk ⊢); exact OpT.call c135 evsA (Provs.cons (Prov.rd (HasS.gbagR (row := brow) (es := K.B) memA hfm hbK)) .nil) (by kernel_rfl)) ?_)) | (refine gD 136 ?_; refine RGl.rdX (fun e hk => by (try dsimp only [bndR, ensR, oksR, fcutR, List.append_nil, List.nil_append, List.cons_append, List.append_assoc] at hk ⊢); exact ReadR.binE rfl rfl BinR.geq (congrArg Value.bool (decide_eq_true hj0))) ?_) | (refine gOp ?_; first | refine RGl.rdA ?_ | refine RGl.rdX (fun e hk => by (try dsimp only [bndR, ensR, oksR, fcutR, List.append_nil, List.nil_append, List.cons_append, List.append_assoc] at hk ⊢); exact readB) ?_) | (refine RGl.fin (fun e hk => ?_); (try dsimp only [bndA, ensAR, oksA, List.append_nil, List.nil_append, List.cons_append, List.append_assoc] at hk ⊢); (repeat (obtain ⟨hk1, hk⟩ := hk))) | fail)
     | (refine isCond ?_; first | refine WPc.cT ?_ | refine WPc.cF ?_ | (refine WPc.cQ (fun hc => ?_) (fun hc => ?_) <;> try first | exact prA | (exfalso; first | omega)))
     | (refine isD 124 ?_; refine WPl.rdX (ReadR.binE rfl rfl BinR.geq (congrArg Value.bool (decide_eq_true hi0))) ?_)
     | (refine isD 131 ?_; refine WPl.rdX (ReadR.indexE (i := i) rfl rfl hasA hil) ?_)
     | (refine isD 132 ?_; refine WPl.rdX (ReadR.loadES (cs := shC f.s f.v) hf3 (by omega) rfl hasA) ?_)
     | (refine isD 136 ?_; refine WPl.rdX (ReadR.binE rfl rfl BinR.geq (congrArg Value.bool (decide_eq_true hj0))) ?_)
     | (refine isOp ?_; first | refine WPl.rd ?_ | refine WPl.sk ?_ | refine WPl.rdB ?_)
     | (refine isAl ?_; refine WPl.nw fun g => ?_)
     | (refine isBx ?_; refine WPl.nw fun g => ?_)
     | (refine isSt ?_; first | refine WPl.st1 ?_ | refine WPl.stA ?_ | refine WPl.stEB ?_ | refine WPl.stRB ?_)
     | (show WPl _ _ _ _ _ _ _ (⟨_, .indexAddr _ _ _, _, _, _, _⟩ :: _) _; refine WPl.rdX (ReadR.indexE rfl rfl hasA (by first | assumption | omega)) ?_)
     | (show WPl _ _ _ _ _ _ _ (⟨_, .fieldAddr _ _ _, _, _, _, _⟩ :: _) _; refine WPl.rdX (ReadR.fieldE rfl hasA (by first | assumption | omega)) ?_)
     | (show WPl _ _ _ _ _ _ _ (⟨_, .load _ _, _, _, _, _⟩ :: _) _; first | refine WPl.rdX (ReadR.loadE rfl hasA (by assumption)) ?_ | refine WPl.rdX (ReadR.loadES (by assumption) (by first | assumption | omega) rfl hasA) ?_)
     | (show WPl _ _ _ _ _ _ _ (⟨_, .slice _ _ _ _ _, _, _, _, _⟩ :: _) _; first | refine WPl.rdX (ReadR.sliceH rfl rfl hasA (by omega)) ?_ | refine WPl.rdX (ReadR.sliceL rfl rfl hasA (by omega)) ?_ | refine WPl.rdX (ReadR.sliceLH rfl rfl rfl hasA (by omega) (by omega)) ?_)
     | (refine WPl.spQ (fun hc => ?_) (fun hc => ?_) <;> try first | exact prA | (exfalso; first | omega))
     | fail)
    repeat' (first
     | refine WPl.nil ?_ | refine WPq.then ?_ | refine WPq.thenR ?_ | refine WPq.thenE ?_ | refine WPq.blockN ?_ | refine WPq.blockR ?_ | refine WPq.blockE ?_ | refine WPq.blockO rfl ?_ | refine WPc.seq ?_ | refine WPc.block ?_ | refine WPc.ret ?_ | refine WPc.exit ?_ | refine WPc.skip ?_ | refine WPc.region ?_
     | (refine isReg 16 ?_; refine WPc.drA [([], []), ([0], [138]), ([0, 1], [138, 139, 141, 142, 143, 144, 145, 146, 147, 148, 149, 150, 151, 152, 153, 154, 155, 156, 157, 158, 159, 160]), ([0, 1], [138, 139, 140, 145, 149, 150, 151, 152, 153, 154, 155, 156, 157, 158]), ([0, 1, 3], [138, 139, 140, 141, 145, 149, 150, 151, 152, 153, 154, 155, 156, 157, 158]), ([0, 1, 3, 4], [138, 139, 140, 141, 142, 145, 149, 150, 151, 152, 153, 154, 155, 156, 157, 158]), ([0, 1, 3, 4, 5], [138, 139, 140, 141, 142, 143, 145, 149, 150, 151, 152, 153, 154, 155, 156, 157, 158]), ([0, 1], [138, 139, 140, 141, 142, 143, 144, 149, 150, 151, 152, 153, 154, 155, 156, 157, 158]), ([0, 1, 3, 4, 5, 6, 7], [138, 139, 140, 141, 142, 143, 144, 145, 149, 150, 151, 152, 153, 154, 155, 156, 157, 158]), ([0, 1, 3, 4, 5, 6, 7, 8], [138, 139, 140, 141, 142, 143, 144, 145, 146, 149, 150, 151, 152, 153, 154, 155, 156, 157, 158]), ([0, 1, 3, 4, 5, 6, 7, 8, 9], [138, 139, 140, 141, 142, 143, 144, 145, 146, 147, 149, 150, 151, 152, 153, 154, 155, 156, 157, 158]), ([0, 1], [138, 139, 140, 141, 142, 143, 144, 145, 146, 147, 148, 153, 156, 157]), ([0, 1, 11], [138, 139, 140, 141, 142, 143, 144, 145, 146, 147, 148, 149, 153, 156, 157]), ([0, 1, 11, 12], [138, 139, 140, 141, 142, 143, 144, 145, 146, 147, 148, 149, 150, 153, 156, 157]), ([0, 1, 11, 12, 13], [138, 139, 140, 141, 142, 143, 144, 145, 146, 147, 148, 149, 150, 151, 153, 156, 157]), ([0, 1], [138, 139, 140, 141, 142, 143, 144, 145, 146, 147, 148, 149, 150, 151, 152, 156, 157]), ([0, 1, 11, 12, 13, 14, 15], [138, 139, 140, 141, 142, 143, 144, 145, 146, 147, 148, 149, 150, 151, 152, 153, 156, 157]), ([0, 1, 11, 12, 13, 14, 15, 16], [138, 139, 140, 141, 142, 143, 144, 145, 146, 147, 148, 149, 150, 151, 152, 153, 154, 156, 157]), ([0, 1], [138, 139, 140, 141, 142, 143, 144, 145, 146, 147, 148, 149, 150, 151, 152, 153, 154, 155]), ([0, 1, 18], [138, 139, 140, 141, 142, 143, 144, 145, 146, 147, 148, 149, 150, 151, 152, 153, 154, 155, 156]), ([0, 1, 11, 12, 13, 14, 15, 16, 17, 18, 19], [138, 139, 140, 141, 142, 143, 144, 145, 146, 147, 148, 149, 150, 151, 152, 153, 154, 155, 156, 157]), ([0, 1, 3, 4, 5, 6, 7, 8, 9, 10, 11, 12, 13, 14, 15, 16, 17, 18, 19, 20], [138, 139, 140, 141, 142, 143, 144, 145, 146, 147, 148, 149, 150, 151, 152, 153, 154, 155, 156, 157, 158]), ([0, 1, 3, 4, 5, 6, 7, 8, 9, 10, 11, 12, 13, 14, 15, 16, 17, 18, 19, 20, 21], [138, 139, 140, 141, 142, 143, 144, 145, 146, 147, 148, 149, 150, 151, 152, 153, 154, 155, 156, 157, 158, 159]), ([0, 1, 2, 3, 4, 5, 6, 7, 8, 9, 10, 11, 12, 13, 14, 15, 16, 17, 18, 19, 20, 21, 22], [138, 139, 140, 141, 142, 143, 144, 145, 146, 147, 148, 149, 150, 151, 152, 153, 154, 155, 156, 157, 158, 159, 160]), ([0, 1, 2, 3, 4, 5, 6, 7, 8, 9, 10, 11, 12, 13, 14, 15, 16, 17, 18, 19, 20, 21, 22, 23], [138, 139, 140, 141, 142, 143, 144, 145, 146, 147, 148, 149, 150, 151, 152, 153, 154, 155, 156, 157, 158, 159, 160, 161]), ([0, 1, 2, 3, 4, 5, 6, 7, 8, 9, 10, 11, 12, 13, 14, 15, 16, 17, 18, 19, 20, 21, 22, 23, 24], [138, 139, 140, 141, 142, 143, 144, 145, 146, 147, 148, 149, 150, 151, 152, 153, 154, 155, 156, 157, 158, 159, 160, 161, 162]), ([0, 1, 2, 3, 4, 5, 6, 7, 8, 9, 10, 11, 12, 13, 14, 15, 16, 17, 18, 19, 20, 21, 22, 23, 24, 25], [138, 139, 140, 141, 142, 143, 144, 145, 146, 147, 148, 149, 150, 151, 152, 153, 154, 155, 156, 157, 158, 159, 160, 161, 162, 163, 166]), ([0, 1, 2, 3, 4, 5, 6, 7, 8, 9, 10, 11, 12, 13, 14, 15, 16, 17, 18, 19, 20, 21, 22, 23, 24, 25, 26], [138, 139, 140, 141, 142, 143, 144, 145, 146, 147, 148, 149, 150, 151, 152, 153, 154, 155, 156, 157, 158, 159, 160, 161, 162, 163, 164, 166]), ([0, 1, 2, 3, 4, 5, 6, 7, 8, 9, 10, 11, 12, 13, 14, 15, 16, 17, 18, 19, 20, 21, 22, 23, 24, 25], [138, 139, 140, 141, 142, 143, 144, 145, 146, 147, 148, 149, 150, 151, 152, 153, 154, 155, 156, 157, 158, 159, 160, 161, 162, 163, 164, 165]), ([0, 1, 2, 3, 4, 5, 6, 7, 8, 9, 10, 11, 12, 13, 14, 15, 16, 17, 18, 19, 20, 21, 22, 23, 24, 25, 26, 27, 28], [138, 139, 140, 141, 142, 143, 144, 145, 146, 147, 148, 149, 150, 151, 152, 153, 154, 155, 156, 157, 158, 159, 160, 161, 162, 163, 164, 165, 166]), ([0, 1, 2, 3, 4, 5, 6, 7, 8, 9, 10, 11, 12, 13, 14, 15, 16, 17, 18, 19, 20, 21, 22, 23, 24, 25, 26, 27, 28, 29], [138, 139, 140, 141, 142, 143, 144, 145, 146, 147, 148, 149, 150, 151, 152, 153, 154, 155, 156, 157, 158, 159, 160, 161, 162, 163, 164, 165, 166, 167]), ([0, 1, 2, 3, 4, 5, 6, 7, 8, 9, 10, 11, 12, 13, 14, 15, 16, 17, 18, 19, 20, 21, 22, 23, 24, 25, 26, 27, 28, 29, 30], [138, 139, 140, 141, 142, 143, 144, 145, 146, 147, 148, 149, 150, 151, 152, 153, 154, 155, 156, 157, 158, 159, 160, 161, 162, 163, 164, 165, 166, 167, 168]), ([0, 1, 2, 3, 4, 5, 6, 7, 8, 9, 10, 11, 12, 13, 14, 15, 16, 17, 18, 19, 20, 21, 22, 23, 24, 25, 26, 27, 28, 29, 30, 31], [138, 139, 140, 141, 142, 143, 144, 145, 146, 147, 148, 149, 150, 151, 152, 153, 154, 155, 156, 157, 158, 159, 160, 161, 162, 163, 164, 165, 166, 167, 168, 169, 171, 172, 173, 174, 175, 177, 178, 179, 180, 181, 182]), ([0, 1, 2, 3, 4, 5, 6, 7, 8, 9, 10, 11, 12, 13, 14, 15, 16, 17, 18, 19, 20, 21, 22, 23, 24, 25, 26, 27, 28, 29, 30, 31], [138, 139, 140, 141, 142, 143, 144, 145, 146, 147, 148, 149, 150, 151, 152, 153, 154, 155, 156, 157, 158, 159, 160, 161, 162, 163, 164, 165, 166, 167, 168, 169, 170, 173, 174, 175, 177, 178, 179, 180, 181, 182]), ([0, 1, 2, 3, 4, 5, 6, 7, 8, 9, 10, 11, 12, 13, 14, 15, 16, 17, 18, 19, 20, 21, 22, 23, 24, 25, 26, 27, 28, 29, 30, 31, 33], [138, 139, 140, 141, 142, 143, 144, 145, 146, 147, 148, 149, 150, 151, 152, 153, 154, 155, 156, 157, 158, 159, 160, 161, 162, 163, 164, 165, 166, 167, 168, 169, 170, 171, 173, 174, 175, 177, 178, 179, 180, 181, 182]), ([0, 1, 2, 3, 4, 5, 6, 7, 8, 9, 10, 11, 12, 13, 14, 15, 16, 17, 18, 19, 20, 21, 22, 23, 24, 25, 26, 27, 28, 29, 30, 31], [138, 139, 140, 141, 142, 143, 144, 145, 146, 147, 148, 149, 150, 151, 152, 153, 154, 155, 156, 157, 158, 159, 160, 161, 162, 163, 164, 165, 166, 167, 168, 169, 170, 171, 172, 177, 178, 179, 180, 181, 182]), ([0, 1, 2, 3, 4, 5, 6, 7, 8, 9, 10, 11, 12, 13, 14, 15, 16, 17, 18, 19, 20, 21, 22, 23, 24, 25, 26, 27, 28, 29, 30, 31, 35], [138, 139, 140, 141, 142, 143, 144, 145, 146, 147, 148, 149, 150, 151, 152, 153, 154, 155, 156, 157, 158, 159, 160, 161, 162, 163, 164, 165, 166, 167, 168, 169, 170, 171, 172, 173, 177, 178, 179, 180, 181, 182]), ([0, 1, 2, 3, 4, 5, 6, 7, 8, 9, 10, 11, 12, 13, 14, 15, 16, 17, 18, 19, 20, 21, 22, 23, 24, 25, 26, 27, 28, 29, 30, 31, 35, 36], [138, 139, 140, 141, 142, 143, 144, 145, 146, 147, 148, 149, 150, 151, 152, 153, 154, 155, 156, 157, 158, 159, 160, 161, 162, 163, 164, 165, 166, 167, 168, 169, 170, 171, 172, 173, 174, 177, 178, 179, 180, 181, 182]), ([0, 1, 2, 3, 4, 5, 6, 7, 8, 9, 10, 11, 12, 13, 14, 15, 16, 17, 18, 19, 20, 21, 22, 23, 24, 25, 26, 27, 28, 29, 30, 31, 32, 33, 34, 35, 36, 37], [138, 139, 140, 141, 142, 143, 144, 145, 146, 147, 148, 149, 150, 151, 152, 153, 154, 155, 156, 157, 158, 159, 160, 161, 162, 163, 164, 165, 166, 167, 168, 169, 170, 171, 172, 173, 174, 175, 177, 178, 179, 180, 181, 182]), ([0, 1, 2, 3, 4, 5, 6, 7, 8, 9, 10, 11, 12, 13, 14, 15, 16, 17, 18, 19, 20, 21, 22, 23, 24, 25, 26, 27, 28, 29, 30, 31], [138, 139, 140, 141, 142, 143, 144, 145, 146, 147, 148, 149, 150, 151, 152, 153, 154, 155, 156, 157, 158, 159, 160, 161, 162, 163, 164, 165, 166, 167, 168, 169, 170, 171, 172, 173, 174, 175, 176, 178, 179, 180, 181, 182]), ([0, 1, 2, 3, 4, 5, 6, 7, 8, 9, 10, 11, 12, 13, 14, 15, 16, 17, 18, 19, 20, 21, 22, 23, 24, 25, 26, 27, 28, 29, 30, 31], [138, 139, 140, 141, 142, 143, 144, 145, 146, 147, 148, 149, 150, 151, 152, 153, 154, 155, 156, 157, 158, 159, 160, 161, 162, 163, 164, 165, 166, 167, 168, 169, 170, 171, 172, 173, 174, 175, 176, 177, 180, 181, 182]), ([0, 1, 2, 3, 4, 5, 6, 7, 8, 9, 10, 11, 12, 13, 14, 15, 16, 17, 18, 19, 20, 21, 22, 23, 24, 25, 26, 27, 28, 29, 30, 31, 40], [138, 139, 140, 141, 142, 143, 144, 145, 146, 147, 148, 149, 150, 151, 152, 153, 154, 155, 156, 157, 158, 159, 160, 161, 162, 163, 164, 165, 166, 167, 168, 169, 170, 171, 172, 173, 174, 175, 176, 177, 178, 180, 181, 182]), ([0, 1, 2, 3, 4, 5, 6, 7, 8, 9, 10, 11, 12, 13, 14, 15, 16, 17, 18, 19, 20, 21, 22, 23, 24, 25, 26, 27, 28, 29, 30, 31], [138, 139, 140, 141, 142, 143, 144, 145, 146, 147, 148, 149, 150, 151, 152, 153, 154, 155, 156, 157, 158, 159, 160, 161, 162, 163, 164, 165, 166, 167, 168, 169, 170, 171, 172, 173, 174, 175, 176, 177, 178, 179]), ([0, 1, 2, 3, 4, 5, 6, 7, 8, 9, 10, 11, 12, 13, 14, 15, 16, 17, 18, 19, 20, 21, 22, 23, 24, 25, 26, 27, 28, 29, 30, 31, 42], [138, 139, 140, 141, 142, 143, 144, 145, 146, 147, 148, 149, 150, 151, 152, 153, 154, 155, 156, 157, 158, 159, 160, 161, 162, 163, 164, 165, 166, 167, 168, 169, 170, 171, 172, 173, 174, 175, 176, 177, 178, 179, 180]), ([0, 1, 2, 3, 4, 5, 6, 7, 8, 9, 10, 11, 12, 13, 14, 15, 16, 17, 18, 19, 20, 21, 22, 23, 24, 25, 26, 27, 28, 29, 30, 31, 42, 43], [138, 139, 140, 141, 142, 143, 144, 145, 146, 147, 148, 149, 150, 151, 152, 153, 154, 155, 156, 157, 158, 159, 160, 161, 162, 163, 164, 165, 166, 167, 168, 169, 170, 171, 172, 173, 174, 175, 176, 177, 178, 179, 180, 181]), ([0, 1, 2, 3, 4, 5, 6, 7, 8, 9, 10, 11, 12, 13, 14, 15, 16, 17, 18, 19, 20, 21, 22, 23, 24, 25, 26, 27, 28, 29, 30, 31, 32, 33, 34, 35, 36, 37, 38, 39, 40, 41, 42, 43, 44], [138, 139, 140, 141, 142, 143, 144, 145, 146, 147, 148, 149, 150, 151, 152, 153, 154, 155, 156, 157, 158, 159, 160, 161, 162, 163, 164, 165, 166, 167, 168, 169, 170, 171, 172, 173, 174, 175, 176, 177, 178, 179, 180, 181, 182]), ([0, 1, 2, 3, 4, 5, 6, 7, 8, 9, 10, 11, 12, 13, 14, 15, 16, 17, 18, 19, 20, 21, 22, 23, 24, 25, 26, 27, 28, 29, 30, 31, 32, 33, 34, 35, 36, 37, 38, 39, 40, 41, 42, 43, 44, 45], [138, 139, 140, 141, 142, 143, 144, 145, 146, 147, 148, 149, 150, 151, 152, 153, 154, 155, 156, 157, 158, 159, 160, 161, 162, 163, 164, 165, 166, 167, 168, 169, 170, 171, 172, 173, 174, 175, 176, 177, 178, 179, 180, 181, 182, 183]), ([0, 1, 2, 3, 4, 5, 6, 7, 8, 9, 10, 11, 12, 13, 14, 15, 16, 17, 18, 19, 20, 21, 22, 23, 24, 25, 26, 27, 28, 29, 30, 31, 32, 33, 34, 35, 36, 37, 38, 39, 40, 41, 42, 43, 44, 45, 46], [138, 139, 140, 141, 142, 143, 144, 145, 146, 147, 148, 149, 150, 151, 152, 153, 154, 155, 156, 157, 158, 159, 160, 161, 162, 163, 164, 165, 166, 167, 168, 169, 170, 171, 172, 173, 174, 175, 176, 177, 178, 179, 180, 181, 182, 183, 184]), ([0, 1, 2, 3, 4, 5, 6, 7, 8, 9, 10, 11, 12, 13, 14, 15, 16, 17, 18, 19, 20, 21, 22, 23, 24, 25, 26, 27, 28, 29, 30, 31, 32, 33, 34, 35, 36, 37, 38, 39, 40, 41, 42, 43, 44, 45, 46, 47], [138, 139, 140, 141, 142, 143, 144, 145, 146, 147, 148, 149, 150, 151, 152, 153, 154, 155, 156, 157, 158, 159, 160, 161, 162, 163, 164, 165, 166, 167, 168, 169, 170, 171, 172, 173, 174, 175, 176, 177, 178, 179, 180, 181, 182, 183, 184, 185])] [] (Γx := []) ?_; dsimp only [prev0, List.length_nil, List.length_cons])
     | (refine gAny ?_; first | (refine gGd ?_; refine RGl.skp ?_) | (refine gC 167 ?_; refine RGl.vl (fun e hk => OpT.callN ((c197 (e 27).1))) ?_) | (refine gC 184 ?_; refine RGl.vl (fun e hk => OpT.callN ((c184 (e 38).1 (e 45).1))) ?_) | (refine gD 146 ?_; refine RGl.rdX (fun e hk => by (try dsimp only [bndR, ensR, oksR, fcutR, List.append_nil, List.nil_append, List.cons_append, List.append_assoc] at hk ⊢); exact ReadR.indexE (i := i) rfl rfl hasA hil) ?_) | (refine gD 147 ?_; refine RGl.rdX (fun e hk => by (try dsimp only [bndR, ensR, oksR, fcutR, List.append_nil, List.nil_append, List.cons_append, List.append_assoc] at hk ⊢); exact ReadR.fieldE rfl hasA (by omega)) ?_) | (refine gD 148 ?_; refine RGl.rdX (fun e hk => by (try dsimp only [bndR, ensR, oksR, fcutR, List.append_nil, List.nil_append, List.cons_append, List.append_assoc] at hk ⊢); exact ReadR.loadE rfl hasA hxv) ?_) | (refine gD 154 ?_; refine RGl.rdX (fun e hk => by (try dsimp only [bndR, ensR, oksR, fcutR, List.append_nil, List.nil_append, List.cons_append, List.append_assoc] at hk ⊢); exact ReadR.indexE (i := i) rfl rfl hasA hil) ?_) | (refine gD 155 ?_; refine RGl.rdX (fun e hk => by (try dsimp only [bndR, ensR, oksR, fcutR, List.append_nil, List.nil_append, List.cons_append, List.append_assoc] at hk ⊢); exact ReadR.loadES (cs := shC f.s f.v) hf3 (by omega) rfl hasA) ?_) | (refine gOp ?_; (refine gC 158 ?_; refine RGl.vl (fun e hk => by (try dsimp only [bndR, ensR, oksR, fcutR, List.append_nil, List.nil_append, List.cons_append, List.append_assoc] at hk ⊢); exact OpT.call c135 evsA (Provs.cons (Prov.rd (HasS.gbagR (row := brow) (es := K.B) memA hfm hbK)) .nil) (by kernel_rfl)) ?_)) | (refine gD 159 ?_; refine RGl.rdX (fun e hk => by (try dsimp only [bndR, ensR, oksR, fcutR, List.append_nil, List.nil_append, List.cons_append, List.append_assoc] at hk ⊢); exact ReadR.indexE (i := j) rfl rfl (HasS.gbagR (row := brow) (es := K.B) memA hfm hbK) hjl) ?_) | (refine gD 160 ?_; refine RGl.rdX (fun e hk => by (try dsimp only [bndR, ensR, oksR, fcutR, List.append_nil, List.nil_append, List.cons_append, List.append_assoc] at hk ⊢); exact ReadR.loadES (cs := bkC z) hzc (by omega) rfl (HasS.gbagR (row := brow) (es := K.B) memA hfm hbK)) ?_) | (refine gD 161 ?_; refine RGl.rdX (fun e hk => by (try dsimp only [bndR, ensR, oksR, fcutR, List.append_nil, List.nil_append, List.cons_append, List.append_assoc] at hk ⊢); exact ReadR.binE rfl rfl BinR.bkE (congrArg Value.bool (decide_eq_true (rfl : z = z)))) ?_) | (refine gOp ?_; (refine gC 165 ?_; refine RGl.row (Γ1 := fun _ => []) (fun e hk => by (try dsimp only [bndR, ensR, oksR, fcutR, List.append_nil, List.nil_append, List.cons_append, List.append_assoc] at hk ⊢); exact OpT.call c12 evsA (.cons (Prov.bx memA) (.cons (Prov.mp memA) .nil)) (by kernel_rfl)) ?_)) | (refine gOp ?_; (refine gC 176 ?_; refine RGl.row (Γ1 := fun _ => []) (fun e hk => by (try dsimp only [bndR, ensR, oksR, fcutR, List.append_nil, List.nil_append, List.cons_append, List.append_assoc] at hk ⊢); exact OpT.call (c176 (e 37).1) evsA (.cons (Prov.bx memA) (.cons (Prov.mp memA) (.cons (Prov.gbag (B := rbx x'.g 33 (shC x'.s x'.v)) memA hxm hb1 rfl fun _ h => h) (.cons (Prov.rd (HasS.gbagR (row := prow) (es := F.ps) memA hxm hb2)) (.cons (Prov.rd hasA) .nil))))) (by kernel_rfl)) ?_)) | (refine gOp ?_; (refine gC 183 ?_; refine RGl.row (Γ1 := fun _ => []) (fun e hk => by (try dsimp only [bndR, ensR, oksR, fcutR, List.append_nil, List.nil_append, List.cons_append, List.append_assoc] at hk ⊢); exact OpT.call (c183 (e 44).1) evsA (.cons (Prov.bx memA) (.cons (Prov.rd hasA) (.cons (Prov.rd hasA) (.cons (Prov.rd (HasS.gbagR (row := brow) (es := K.B) memA hfm hbK)) .nil)))) (by kernel_rfl)) ?_)) | (refine gOp ?_; first | refine RGl.rdA ?_ | refine RGl.rdX (fun e hk => by (try dsimp only [bndR, ensR, oksR, fcutR, List.append_nil, List.nil_append, List.cons_append, List.append_assoc] at hk ⊢); exact readB) ?_) | (refine gLit ?_; refine RGl.litA ?_) | (refine RGl.fin (fun e hk => ?_); (try dsimp only [bndA, ensAR, oksA, List.append_nil, List.nil_append, List.cons_append, List.append_assoc] at hk ⊢); (repeat (obtain ⟨hk1, hk⟩ := hk))) | fail)
     | (refine isCond ?_; first | refine WPc.cT ?_ | refine WPc.cF ?_ | (refine WPc.cQ (fun hc => ?_) (fun hc => ?_) <;> try first | exact prA | (exfalso; first | omega)))
     | (refine isD 146 ?_; refine WPl.rdX (ReadR.indexE (i := i) rfl rfl hasA hil) ?_)
     | (refine isD 147 ?_; refine WPl.rdX (ReadR.fieldE rfl hasA (by omega)) ?_)
     | (refine isD 148 ?_; refine WPl.rdX (ReadR.loadE rfl hasA hxv) ?_)
     | (refine isD 154 ?_; refine WPl.rdX (ReadR.indexE (i := i) rfl rfl hasA hil) ?_)
     | (refine isD 155 ?_; refine WPl.rdX (ReadR.loadES (cs := shC f.s f.v) hf3 (by omega) rfl hasA) ?_)
     | (refine isD 159 ?_; refine WPl.rdX (ReadR.indexE (i := j) rfl rfl (HasS.gbagR (row := brow) (es := K.B) memA hfm hbK) hjl) ?_)
     | (refine isD 160 ?_; refine WPl.rdX (ReadR.loadES (cs := bkC z) hzc (by omega) rfl (HasS.gbagR (row := brow) (es := K.B) memA hfm hbK)) ?_)
     | (refine isD 161 ?_; refine WPl.rdX (ReadR.binE rfl rfl BinR.bkE (congrArg Value.bool (decide_eq_true (rfl : z = z)))) ?_)
     | (refine isC 167 ?_; refine WPl.cV ((c197 (e 27).1)) ?_)
     | (refine isC 184 ?_; refine WPl.cV ((c184 (e 38).1 (e 45).1)) ?_)
     | (refine isOp ?_; first | refine WPl.rd ?_ | refine WPl.sk ?_ | refine WPl.rdB ?_)
     | (refine isAl ?_; refine WPl.nw fun g => ?_)
     | (refine isBx ?_; refine WPl.nw fun g => ?_)
     | (refine isSt ?_; first | refine WPl.st1 ?_ | refine WPl.stA ?_ | refine WPl.stEB ?_ | refine WPl.stRB ?_)
     | (show WPl _ _ _ _ _ _ _ (⟨_, .indexAddr _ _ _, _, _, _, _⟩ :: _) _; refine WPl.rdX (ReadR.indexE rfl rfl hasA (by first | assumption | omega)) ?_)
     | (show WPl _ _ _ _ _ _ _ (⟨_, .fieldAddr _ _ _, _, _, _, _⟩ :: _) _; refine WPl.rdX (ReadR.fieldE rfl hasA (by first | assumption | omega)) ?_)
     | (show WPl _ _ _ _ _ _ _ (⟨_, .load _ _, _, _, _, _⟩ :: _) _; first | refine WPl.rdX (ReadR.loadE rfl hasA (by assumption)) ?_ | refine WPl.rdX (ReadR.loadES (by assumption) (by first | assumption | omega) rfl hasA) ?_)
     | (show WPl _ _ _ _ _ _ _ (⟨_, .slice _ _ _ _ _, _, _, _, _⟩ :: _) _; first | refine WPl.rdX (ReadR.sliceH rfl rfl hasA (by omega)) ?_ | refine WPl.rdX (ReadR.sliceL rfl rfl hasA (by omega)) ?_ | refine WPl.rdX (ReadR.sliceLH rfl rfl rfl hasA (by omega) (by omega)) ?_)
     | (refine WPl.spQ (fun hc => ?_) (fun hc => ?_) <;> try first | exact prA | (exfalso; first | omega))
     | fail)
    exact WPq.dTs (ho := both20_own)
  | false =>
    have c116 := gback2_t gF mi md F x.id x.b w2 x' hmx (by rw [hxbs]; exact hsB) (by rw [hxbs]; exact hfl16) (by rw [hxbs]; exact hh)
    rw [hxbs] at c116
    have hj : hasI f.bs x.b = none := Option.not_isSome_iff_eq_none.1 (by rw [← hasI_hasB, hh]; decide)
    rw [hj] at c135
    have c135 : Triple Try.prog 41 #[ag (shC f.s f.v), .int .i64 x.b] [rdN f.v f.bs.length (bks f.bs)] (RVal (.int .i64 (-1))) := c135
    have c203 := c176 (.slice none 0 0) [] (by simp)
    have c208 := fun vd => c183 vd [] (by simp)
    rw [en0] at c203 c208
    have c209 := fun va vb => rshared_t va vb (sharesB f.bs []) (hsl _)
    repeat' (first
     | refine WPl.nil ?_ | refine WPq.then ?_ | refine WPq.thenR ?_ | refine WPq.thenE ?_ | refine WPq.blockN ?_ | refine WPq.blockR ?_ | refine WPq.blockE ?_ | refine WPq.blockO rfl ?_ | refine WPc.seq ?_ | refine WPc.block ?_ | refine WPc.ret ?_ | refine WPc.exit ?_ | refine WPc.skip ?_ | refine WPc.region ?_
     | (refine isCond ?_; first | refine WPc.cT ?_ | refine WPc.cF ?_ | (refine WPc.cQ (fun hc => ?_) (fun hc => ?_) <;> try first | exact prA | (exfalso; first | omega)))
     | (refine isD 14 ?_; first | (refine isAl ?_; refine WPl.nw fun g14 => ?_) | (refine isBx ?_; refine WPl.nw fun g14 => ?_))
     | (refine isC 116 ?_; refine WPl.cV c116 ?_ (hΔ := .cons (Prov.bx memA) (.cons (Prov.mp memA) (.cons (Prov.gbag (B := rbx x'.g 33 (shC x'.s x'.v)) memA hxm hb1 rfl fun _ h => h) (.cons (Prov.rd (HasS.gbagR (row := prow) (es := F.ps) memA hxm hb2)) .nil)))))
     | (show WPl _ _ _ _ _ _ _ (⟨_, .store _ (.tmp 14) _, _, _, _, _⟩ :: _) _; refine WPl.stA (new := bkC Bk.zero) ?_ (hn := bkC_ok _))
     | (refine isC 122 ?_; refine WPl.cV c122 ?_ (hΔ := provsX))
     | (refine isOp ?_; first | refine WPl.rd ?_ | refine WPl.sk ?_ | refine WPl.rdB ?_)
     | (refine isAl ?_; refine WPl.nw fun g => ?_)
     | (refine isBx ?_; refine WPl.nw fun g => ?_)
     | (refine isSt ?_; first | refine WPl.st1 ?_ | refine WPl.stA ?_ | refine WPl.stEB ?_ | refine WPl.stRB ?_)
     | (show WPl _ _ _ _ _ _ _ (⟨_, .indexAddr _ _ _, _, _, _, _⟩ :: _) _; refine WPl.rdX (ReadR.indexE rfl rfl hasA (by first | assumption | omega)) ?_)
     | (show WPl _ _ _ _ _ _ _ (⟨_, .fieldAddr _ _ _, _, _, _, _⟩ :: _) _; refine WPl.rdX (ReadR.fieldE rfl hasA (by first | assumption | omega)) ?_)
     | (show WPl _ _ _ _ _ _ _ (⟨_, .load _ _, _, _, _, _⟩ :: _) _; first | refine WPl.rdX (ReadR.loadE rfl hasA (by assumption)) ?_ | refine WPl.rdX (ReadR.loadES (by assumption) (by first | assumption | omega) rfl hasA) ?_)
     | (show WPl _ _ _ _ _ _ _ (⟨_, .slice _ _ _ _ _, _, _, _, _⟩ :: _) _; first | refine WPl.rdX (ReadR.sliceH rfl rfl hasA (by omega)) ?_ | refine WPl.rdX (ReadR.sliceL rfl rfl hasA (by omega)) ?_ | refine WPl.rdX (ReadR.sliceLH rfl rfl rfl hasA (by omega) (by omega)) ?_)
     | (refine WPl.spQ (fun hc => ?_) (fun hc => ?_) <;> try first | exact prA | (exfalso; first | omega))
     | fail)
    repeat' (first
     | refine WPl.nil ?_ | refine WPq.then ?_ | refine WPq.thenR ?_ | refine WPq.thenE ?_ | refine WPq.blockN ?_ | refine WPq.blockR ?_ | refine WPq.blockE ?_ | refine WPq.blockO rfl ?_ | refine WPc.seq ?_ | refine WPc.block ?_ | refine WPc.ret ?_ | refine WPc.exit ?_ | refine WPc.skip ?_ | refine WPc.region ?_
     | (refine isReg 15 ?_; refine WPc.drA [([], []), ([0], [123]), ([0, 1], [123, 124]), ([0, 1, 2], [123, 124, 125, 130, 133, 134]), ([0, 1, 2, 3], [123, 124, 125, 126, 130, 133, 134]), ([0, 1, 2, 3, 4], [123, 124, 125, 126, 127, 130, 133, 134]), ([0, 1, 2, 3, 4, 5], [123, 124, 125, 126, 127, 128, 130, 133, 134]), ([0, 1, 2], [123, 124, 125, 126, 127, 128, 129, 133, 134]), ([0, 1, 2, 3, 4, 5, 6, 7], [123, 124, 125, 126, 127, 128, 129, 130, 133, 134]), ([0, 1, 2, 3, 4, 5, 6, 7, 8], [123, 124, 125, 126, 127, 128, 129, 130, 131, 133, 134]), ([0, 1, 2], [123, 124, 125, 126, 127, 128, 129, 130, 131, 132]), ([0, 1, 2, 10], [123, 124, 125, 126, 127, 128, 129, 130, 131, 132, 133]), ([0, 1, 2, 3, 4, 5, 6, 7, 8, 9, 10, 11], [123, 124, 125, 126, 127, 128, 129, 130, 131, 132, 133, 134]), ([0, 1, 2, 3, 4, 5, 6, 7, 8, 9, 10, 11, 12], [123, 124, 125, 126, 127, 128, 129, 130, 131, 132, 133, 134, 135]), ([0, 1, 2, 3, 4, 5, 6, 7, 8, 9, 10, 11, 12, 13], [123, 124, 125, 126, 127, 128, 129, 130, 131, 132, 133, 134, 135, 136])] [] (Γx := []) ?_; dsimp only [prev0, List.length_nil, List.length_cons])
     | (refine gAny ?_; first | (refine gGd ?_; refine RGl.skp ?_) | (refine gD 124 ?_; refine RGl.rdX (fun e hk => by (try dsimp only [bndR, ensR, oksR, fcutR, List.append_nil, List.nil_append, List.cons_append, List.append_assoc] at hk ⊢); exact ReadR.binE rfl rfl BinR.geq (congrArg Value.bool (decide_eq_true hi0))) ?_) | (refine gD 131 ?_; refine RGl.rdX (fun e hk => by (try dsimp only [bndR, ensR, oksR, fcutR, List.append_nil, List.nil_append, List.cons_append, List.append_assoc] at hk ⊢); exact ReadR.indexE (i := i) rfl rfl hasA hil) ?_) | (refine gD 132 ?_; refine RGl.rdX (fun e hk => by (try dsimp only [bndR, ensR, oksR, fcutR, List.append_nil, List.nil_append, List.cons_append, List.append_assoc] at hk ⊢); exact ReadR.loadES (cs := shC f.s f.v) hf3 (by omega) rfl hasA) ?_) | (refine gOp ?_; (refine gC 135 ?_; refine RGl.vl (fun e hk => by (try dsimp only [bndR, ensR, oksR, fcutR, List.append_nil, List.nil_append, List.cons_append, List.append_assoc] at hk ⊢); exact OpT.call c135 evsA (Provs.cons (Prov.rd (HasS.gbagR (row := brow) (es := K.B) memA hfm hbK)) .nil) (by kernel_rfl)) ?_)) | (refine gD 136 ?_; refine RGl.rdX (fun e hk => by (try dsimp only [bndR, ensR, oksR, fcutR, List.append_nil, List.nil_append, List.cons_append, List.append_assoc] at hk ⊢); exact ReadR.binE rfl rfl BinR.geq (congrArg Value.bool (decide_eq_false (show ¬ (0 : Int) ≤ -1 by omega)))) ?_) | (refine gOp ?_; first | refine RGl.rdA ?_ | refine RGl.rdX (fun e hk => by (try dsimp only [bndR, ensR, oksR, fcutR, List.append_nil, List.nil_append, List.cons_append, List.append_assoc] at hk ⊢); exact readB) ?_) | (refine RGl.fin (fun e hk => ?_); (try dsimp only [bndA, ensAR, oksA, List.append_nil, List.nil_append, List.cons_append, List.append_assoc] at hk ⊢); (repeat (obtain ⟨hk1, hk⟩ := hk))) | fail)
     | (refine isCond ?_; first | refine WPc.cT ?_ | refine WPc.cF ?_ | (refine WPc.cQ (fun hc => ?_) (fun hc => ?_) <;> try first | exact prA | (exfalso; first | omega)))
     | (refine isD 124 ?_; refine WPl.rdX (ReadR.binE rfl rfl BinR.geq (congrArg Value.bool (decide_eq_true hi0))) ?_)
     | (refine isD 131 ?_; refine WPl.rdX (ReadR.indexE (i := i) rfl rfl hasA hil) ?_)
     | (refine isD 132 ?_; refine WPl.rdX (ReadR.loadES (cs := shC f.s f.v) hf3 (by omega) rfl hasA) ?_)
     | (refine isD 136 ?_; refine WPl.rdX (ReadR.binE rfl rfl BinR.geq (congrArg Value.bool (decide_eq_false (show ¬ (0 : Int) ≤ -1 by omega)))) ?_)
     | (refine isOp ?_; first | refine WPl.rd ?_ | refine WPl.sk ?_ | refine WPl.rdB ?_)
     | (refine isAl ?_; refine WPl.nw fun g => ?_)
     | (refine isBx ?_; refine WPl.nw fun g => ?_)
     | (refine isSt ?_; first | refine WPl.st1 ?_ | refine WPl.stA ?_ | refine WPl.stEB ?_ | refine WPl.stRB ?_)
     | (show WPl _ _ _ _ _ _ _ (⟨_, .indexAddr _ _ _, _, _, _, _⟩ :: _) _; refine WPl.rdX (ReadR.indexE rfl rfl hasA (by first | assumption | omega)) ?_)
     | (show WPl _ _ _ _ _ _ _ (⟨_, .fieldAddr _ _ _, _, _, _, _⟩ :: _) _; refine WPl.rdX (ReadR.fieldE rfl hasA (by first | assumption | omega)) ?_)
     | (show WPl _ _ _ _ _ _ _ (⟨_, .load _ _, _, _, _, _⟩ :: _) _; first | refine WPl.rdX (ReadR.loadE rfl hasA (by assumption)) ?_ | refine WPl.rdX (ReadR.loadES (by assumption) (by first | assumption | omega) rfl hasA) ?_)
     | (show WPl _ _ _ _ _ _ _ (⟨_, .slice _ _ _ _ _, _, _, _, _⟩ :: _) _; first | refine WPl.rdX (ReadR.sliceH rfl rfl hasA (by omega)) ?_ | refine WPl.rdX (ReadR.sliceL rfl rfl hasA (by omega)) ?_ | refine WPl.rdX (ReadR.sliceLH rfl rfl rfl hasA (by omega) (by omega)) ?_)
     | (refine WPl.spQ (fun hc => ?_) (fun hc => ?_) <;> try first | exact prA | (exfalso; first | omega))
     | fail)
    repeat' (first
     | refine WPl.nil ?_ | refine WPq.then ?_ | refine WPq.thenR ?_ | refine WPq.thenE ?_ | refine WPq.blockN ?_ | refine WPq.blockR ?_ | refine WPq.blockE ?_ | refine WPq.blockO rfl ?_ | refine WPc.seq ?_ | refine WPc.block ?_ | refine WPc.ret ?_ | refine WPc.exit ?_ | refine WPc.skip ?_ | refine WPc.region ?_
     | (refine isReg 17 ?_; refine WPc.drA [([], []), ([0], [186]), ([0, 1], [186, 187]), ([0, 1, 2], [186, 187, 188, 190]), ([0, 1, 2], [186, 187, 188, 189]), ([0, 1, 2, 3, 4], [186, 187, 188, 189, 190]), ([0, 1, 2, 3, 4, 5], [186, 187, 188, 189, 190, 191]), ([0, 1, 2, 3, 4, 5, 6], [186, 187, 188, 189, 190, 191, 192]), ([0, 1, 2, 3, 4, 5, 6, 7], [186, 187, 188, 189, 190, 191, 192, 193, 196]), ([0, 1, 2, 3, 4, 5, 6, 7, 8], [186, 187, 188, 189, 190, 191, 192, 193, 194, 196]), ([0, 1, 2, 3, 4, 5, 6, 7], [186, 187, 188, 189, 190, 191, 192, 193, 194, 195]), ([0, 1, 2, 3, 4, 5, 6, 7, 8, 9, 10], [186, 187, 188, 189, 190, 191, 192, 193, 194, 195, 196]), ([0, 1, 2, 3, 4, 5, 6, 7, 8, 9, 10, 11], [186, 187, 188, 189, 190, 191, 192, 193, 194, 195, 196, 197]), ([0, 1, 2, 3, 4, 5, 6, 7, 8, 9, 10, 11, 12], [186, 187, 188, 189, 190, 191, 192, 193, 194, 195, 196, 197, 198]), ([0, 1, 2, 3, 4, 5, 6, 7, 8, 9, 10, 11, 12, 13], [186, 187, 188, 189, 190, 191, 192, 193, 194, 195, 196, 197, 198, 199, 201, 202, 204, 205, 206, 207]), ([0, 1, 2, 3, 4, 5, 6, 7, 8, 9, 10, 11, 12, 13], [186, 187, 188, 189, 190, 191, 192, 193, 194, 195, 196, 197, 198, 199, 200, 204, 205, 206, 207]), ([0, 1, 2, 3, 4, 5, 6, 7, 8, 9, 10, 11, 12, 13, 15], [186, 187, 188, 189, 190, 191, 192, 193, 194, 195, 196, 197, 198, 199, 200, 201, 204, 205, 206, 207]), ([0, 1, 2, 3, 4, 5, 6, 7, 8, 9, 10, 11, 12, 13, 14, 15, 16], [186, 187, 188, 189, 190, 191, 192, 193, 194, 195, 196, 197, 198, 199, 200, 201, 202, 204, 205, 206, 207]), ([0, 1, 2, 3, 4, 5, 6, 7, 8, 9, 10, 11, 12, 13], [186, 187, 188, 189, 190, 191, 192, 193, 194, 195, 196, 197, 198, 199, 200, 201, 202, 203, 205, 206, 207]), ([0, 1, 2, 3, 4, 5, 6, 7, 8, 9, 10, 11, 12, 13], [186, 187, 188, 189, 190, 191, 192, 193, 194, 195, 196, 197, 198, 199, 200, 201, 202, 203, 204, 207]), ([0, 1, 2, 3, 4, 5, 6, 7, 8, 9, 10, 11, 12, 13, 19], [186, 187, 188, 189, 190, 191, 192, 193, 194, 195, 196, 197, 198, 199, 200, 201, 202, 203, 204, 205, 207]), ([0, 1, 2, 3, 4, 5, 6, 7, 8, 9, 10, 11, 12, 13], [186, 187, 188, 189, 190, 191, 192, 193, 194, 195, 196, 197, 198, 199, 200, 201, 202, 203, 204, 205, 206]), ([0, 1, 2, 3, 4, 5, 6, 7, 8, 9, 10, 11, 12, 13, 14, 15, 16, 17, 18, 19, 20, 21], [186, 187, 188, 189, 190, 191, 192, 193, 194, 195, 196, 197, 198, 199, 200, 201, 202, 203, 204, 205, 206, 207]), ([0, 1, 2, 3, 4, 5, 6, 7, 8, 9, 10, 11, 12, 13, 14, 15, 16, 17, 18, 19, 20, 21, 22], [186, 187, 188, 189, 190, 191, 192, 193, 194, 195, 196, 197, 198, 199, 200, 201, 202, 203, 204, 205, 206, 207, 208]), ([0, 1, 2, 3, 4, 5, 6, 7, 8, 9, 10, 11, 12, 13, 14, 15, 16, 17, 18, 19, 20, 21, 22, 23], [186, 187, 188, 189, 190, 191, 192, 193, 194, 195, 196, 197, 198, 199, 200, 201, 202, 203, 204, 205, 206, 207, 208, 209]), ([0, 1, 2, 3, 4, 5, 6, 7, 8, 9, 10, 11, 12, 13, 14, 15, 16, 17, 18, 19, 20, 21, 22, 23, 24], [186, 187, 188, 189, 190, 191, 192, 193, 194, 195, 196, 197, 198, 199, 200, 201, 202, 203, 204, 205, 206, 207, 208, 209, 210])] [] (Γx := []) ?_; dsimp only [prev0, List.length_nil, List.length_cons])
     | (refine gAny ?_; first | (refine gGd ?_; refine RGl.skp ?_) | (refine gC 197 ?_; refine RGl.vl (fun e hk => OpT.callN ((c197 (e 9).1))) ?_) | (refine gD 207 ?_; refine RGl.row (Γ1 := fun _ => []) (fun e hk => by (try dsimp only [bndR, ensR, oksR, fcutR, List.append_nil, List.nil_append, List.cons_append, List.append_assoc] at hk ⊢); exact OpT.buildS0) ?_) | (refine gC 209 ?_; refine RGl.vl (fun e hk => OpT.callN ((c209 (e 17).1 (e 22).1))) ?_) | (refine gD 190 ?_; refine RGl.rdX (fun e hk => by (try dsimp only [bndR, ensR, oksR, fcutR, List.append_nil, List.nil_append, List.cons_append, List.append_assoc] at hk ⊢); exact ReadR.build (cs' := bkC Bk.zero) buildA) ?_) | (refine gD 191 ?_; refine RGl.rdX (fun e hk => by (try dsimp only [bndR, ensR, oksR, fcutR, List.append_nil, List.nil_append, List.cons_append, List.append_assoc] at hk ⊢); exact ReadR.binE rfl rfl BinR.bkE (congrArg Value.bool (decide_eq_true (rfl : Bk.zero = Bk.zero)))) ?_) | (refine gOp ?_; (refine gC 195 ?_; refine RGl.row (Γ1 := fun _ => []) (fun e hk => by (try dsimp only [bndR, ensR, oksR, fcutR, List.append_nil, List.nil_append, List.cons_append, List.append_assoc] at hk ⊢); exact OpT.call c12 evsA (.cons (Prov.bx memA) (.cons (Prov.mp memA) .nil)) (by kernel_rfl)) ?_)) | (refine gOp ?_; (refine gC 203 ?_; refine RGl.row (Γ1 := fun _ => []) (fun e hk => by (try dsimp only [bndR, ensR, oksR, fcutR, List.append_nil, List.nil_append, List.cons_append, List.append_assoc] at hk ⊢); exact OpT.call c203 evsA (.cons (Prov.bx memA) (.cons (Prov.mp memA) (.cons (Prov.gbag (B := rbx x'.g 33 (shC x'.s x'.v)) memA hxm hb1 rfl fun _ h => h) (.cons (Prov.rd (HasS.gbagR (row := prow) (es := F.ps) memA hxm hb2)) (.cons (Prov.rd hasA) .nil))))) (by kernel_rfl)) ?_)) | (refine gOp ?_; (refine gC 208 ?_; refine RGl.row (Γ1 := fun _ => []) (fun e hk => by (try dsimp only [bndR, ensR, oksR, fcutR, List.append_nil, List.nil_append, List.cons_append, List.append_assoc] at hk ⊢); exact OpT.call (c208 (e 21).1) evsA (.cons (Prov.bx memA) (.cons (Prov.rd hasA) (.cons (Prov.rd hasA) (.cons (Prov.rd (HasS.gbagR (row := brow) (es := K.B) memA hfm hbK)) .nil)))) (by kernel_rfl)) ?_)) | (refine gOp ?_; first | refine RGl.rdA ?_ | refine RGl.rdX (fun e hk => by (try dsimp only [bndR, ensR, oksR, fcutR, List.append_nil, List.nil_append, List.cons_append, List.append_assoc] at hk ⊢); exact readB) ?_) | (refine gLit ?_; refine RGl.litA ?_) | (refine RGl.fin (fun e hk => ?_); (try dsimp only [bndA, ensAR, oksA, List.append_nil, List.nil_append, List.cons_append, List.append_assoc] at hk ⊢); (repeat (obtain ⟨hk1, hk⟩ := hk))) | fail)
     | (refine isCond ?_; first | refine WPc.cT ?_ | refine WPc.cF ?_ | (refine WPc.cQ (fun hc => ?_) (fun hc => ?_) <;> try first | exact prA | (exfalso; first | omega)))
     | (refine isD 190 ?_; refine WPl.rdX (ReadR.build (cs' := bkC Bk.zero) buildA) ?_)
     | (refine isD 191 ?_; refine WPl.rdX (ReadR.binE rfl rfl BinR.bkE (congrArg Value.bool (decide_eq_true (rfl : Bk.zero = Bk.zero)))) ?_)
     | (refine isC 197 ?_; refine WPl.cV ((c197 (e 9).1)) ?_)
     | (refine isC 209 ?_; refine WPl.cV ((c209 (e 17).1 (e 22).1)) ?_)
     | (refine isOp ?_; first | refine WPl.rd ?_ | refine WPl.sk ?_ | refine WPl.rdB ?_)
     | (refine isAl ?_; refine WPl.nw fun g => ?_)
     | (refine isBx ?_; refine WPl.nw fun g => ?_)
     | (refine isSt ?_; first | refine WPl.st1 ?_ | refine WPl.stA ?_ | refine WPl.stEB ?_ | refine WPl.stRB ?_)
     | (show WPl _ _ _ _ _ _ _ (⟨_, .indexAddr _ _ _, _, _, _, _⟩ :: _) _; refine WPl.rdX (ReadR.indexE rfl rfl hasA (by first | assumption | omega)) ?_)
     | (show WPl _ _ _ _ _ _ _ (⟨_, .fieldAddr _ _ _, _, _, _, _⟩ :: _) _; refine WPl.rdX (ReadR.fieldE rfl hasA (by first | assumption | omega)) ?_)
     | (show WPl _ _ _ _ _ _ _ (⟨_, .load _ _, _, _, _, _⟩ :: _) _; first | refine WPl.rdX (ReadR.loadE rfl hasA (by assumption)) ?_ | refine WPl.rdX (ReadR.loadES (by assumption) (by first | assumption | omega) rfl hasA) ?_)
     | (show WPl _ _ _ _ _ _ _ (⟨_, .slice _ _ _ _ _, _, _, _, _⟩ :: _) _; first | refine WPl.rdX (ReadR.sliceH rfl rfl hasA (by omega)) ?_ | refine WPl.rdX (ReadR.sliceL rfl rfl hasA (by omega)) ?_ | refine WPl.rdX (ReadR.sliceLH rfl rfl rfl hasA (by omega) (by omega)) ?_)
     | (refine WPl.spQ (fun hc => ?_) (fun hc => ?_) <;> try first | exact prA | (exfalso; first | omega))
     | fail)
    exact WPq.dTs (ho := both20_own)
end
end Go.Proofs.Ytpjfkomicehinaa
/- Law FarmPlays: the walk. -/
namespace Go.Proofs.Ytpjfkomicehinaa
open Go.RowKit
set_option linter.unusedSimpArgs false
set_option linter.unusedVariables false
set_option maxRecDepth 20000
set_option maxHeartbeats 4000000
attribute [local irreducible] WPc WPl WPq ReadR OpT BinR HasS bx rdN rowN Take Takes Prov Triple ResF BuildP Done ag Int.decLt Int.decLe Int.instDecidableEq
attribute [local irreducible] mp rmp rg rgo mput mget mfind mdel gbag bks ies svs pickG dropS addS addB turnS weighS act20 fas fws lbB hasB findS doorS mpe
theorem farmPlays_t (v0 : Value) (l : List FA) (hl : ∀ x ∈ l, faW x) : Triple Try.prog 5 #[v0] [rdN v0 l.length (fas l), fws l] (RVal (.bool true)) := by
  have clv := glives_t
  have hfl := fas_len (l := l)
  have er : rowN 33 23 (.slice none 0 0) 0 [] = rowN 33 23 (.slice none 0 0) 0 (svs []) := by with_unfolding_all rfl
  refine Triple.enter Try.func5 rfl Try.ntmps5 rfl (fun W => ?_)
  dsimp only [argsF, Nat.reduceAdd]
  refine WPc.nilRowN 33 23 ?_
  refine WPc.gbag0 brow ?_
  rw [er]
  repeat' (first
   | refine WPl.nil ?_ | refine WPq.then ?_ | refine WPq.thenR ?_ | refine WPq.thenE ?_ | refine WPq.blockN ?_ | refine WPq.blockR ?_ | refine WPq.blockE ?_ | refine WPq.blockO rfl ?_ | refine WPc.seq ?_ | refine WPc.block ?_ | refine WPc.ret ?_ | refine WPc.exit ?_ | refine WPc.skip ?_ | refine WPc.region ?_
   | (refine isCond ?_; first | refine WPc.cT ?_ | refine WPc.cF ?_ | (refine WPc.cQ (fun hc => ?_) (fun hc => ?_) <;> try exact prA))
   | (refine isC 6 ?_; refine WPl.cXs (gnew_t) fun v Γ1 hR => ?_; obtain ⟨gF, mi, md, rfl, rfl⟩ := hR; (try dsimp only [putF, List.cons_append, List.nil_append]))
   | (refine isD 7 ?_; refine WPl.rdX (ReadR.build (cs' := rfc (.slice none 0 0)) buildA) ?_)
   | (refine isD 8 ?_; first | (refine isAl ?_; refine WPl.nw fun gX => ?_) | (refine isBx ?_; refine WPl.nw fun gX => ?_))
   | (refine isOp ?_; first | refine WPl.rd ?_ | refine WPl.sk ?_ | refine WPl.rdB ?_)
   | (refine isBx ?_; refine WPl.nw fun g => ?_)
   | (show WPl _ _ _ _ _ _ _ (⟨_, .indexAddr _ _ _, _, _, _, _⟩ :: _) _; refine WPl.rdX (ReadR.indexE rfl rfl hasA (by first | assumption | omega)) ?_)
   | (show WPl _ _ _ _ _ _ _ (⟨_, .fieldAddr _ _ _, _, _, _, _⟩ :: _) _; refine WPl.rdX (ReadR.fieldE rfl hasA (by first | assumption | omega)) ?_)
   | (show WPl _ _ _ _ _ _ _ (⟨_, .load _ _, _, _, _, _⟩ :: _) _; first | refine WPl.rdX (ReadR.loadE rfl hasA (by assumption)) ?_ | refine WPl.rdX (ReadR.loadES (by assumption) (by first | assumption | omega) rfl hasA) ?_)
   | (show WPl _ _ _ _ _ _ _ (⟨_, .slice _ _ _ _ _, _, _, _, _⟩ :: _) _; first | refine WPl.rdX (ReadR.sliceH rfl rfl hasA (by omega)) ?_ | refine WPl.rdX (ReadR.sliceL rfl rfl hasA (by omega)) ?_ | refine WPl.rdX (ReadR.sliceLH rfl rfl rfl hasA (by omega) (by omega)) ?_)
   | (refine WPl.spQ (fun hc => ?_) (fun hc => ?_) <;> try exact prA)
   | fail)
  first | refine WPc.loop (σ := Nat × FM × RG) (fun st => st.1 ≤ 60 ∧ PInv st.2.2.sb st.2.1 ∧ RGok st.2.2 ∧ st.2.2.vL.oneCell' = true) (fun st => [rdN v0 l.length (fas l), fws l, bx gF 66 (fac mi md), mp idM mi (ies st.2.1.ps), mp drM md st.2.1.ds, gbag prow st.2.1.ps, bx gX 49 (rfc st.2.2.vL), rowN 33 23 st.2.2.vL st.2.2.L.length (svs st.2.2.L), gbag brow st.2.2.B]) (fun st => [(0, v0), (3, hF gF), (4, hF gX), (5, .int .i64 (st.1 : Int))]) (fun st => 60 - st.1) ((0, ⟨[], []⟩, ⟨.slice none 0 0, [], []⟩)) ?_ takesA frsA (fun st km hx hk => ?_)
  · exact ⟨Nat.zero_le _, PInv.empty, fun x hx => (by cases hx), rfl⟩
  obtain ⟨i, F, K⟩ := st
  obtain ⟨hi, hp, hK, hv0⟩ := hx
  dsimp only at hi hp hK hv0 hk ⊢
  have hkm : km = 60 - i := hk
  clear hk
  by_cases hin : i < l.length ∧ i < 60
  · obtain ⟨hil, hi80⟩ := hin
    have hil' : (i : Int) < (l.length : Int) := by omega
    have hi80' : (i : Int) < 60 := by omega
    obtain ⟨x, hx⟩ : ∃ x, l[i]? = some x := ⟨_, List.getElem?_eq_getElem hil⟩
    have hxm := List.mem_of_getElem? hx
    have hxw := hl x hxm
    have hx3 := fas_at hx
    have c25 := doA_t gF mi md gX K.sb K.sb F K ⟨hp, hK, rfl, hv0, hp.toLInv⟩ x hxw
    obtain ⟨r, hr⟩ : ∃ r, r = act20 K.sb x := ⟨_, rfl⟩
    rw [← hr] at c25
    have hal := x.s.ad.len
    have hbl := x.c.ad.len
    repeat' (first
     | refine WPl.nil ?_ | refine WPq.then ?_ | refine WPq.thenR ?_ | refine WPq.thenE ?_ | refine WPq.blockN ?_ | refine WPq.blockR ?_ | refine WPq.blockE ?_ | refine WPq.blockO rfl ?_ | refine WPc.seq ?_ | refine WPc.block ?_ | refine WPc.ret ?_ | refine WPc.exit ?_ | refine WPc.skip ?_ | refine WPc.region ?_
     | (refine isCond ?_; first | refine WPc.cT ?_ | refine WPc.cF ?_ | (refine WPc.cQ (fun hc => ?_) (fun hc => ?_) <;> try first | exact prA | (exfalso; first | omega)))
     | (refine isD 12 ?_; refine WPl.rdX (ReadR.binE rfl rfl BinR.lss (congrArg Value.bool (decide_eq_true hil'))) ?_)
     | (refine isD 15 ?_; refine WPl.rdX (ReadR.binE rfl rfl BinR.lss (congrArg Value.bool (decide_eq_true hi80'))) ?_)
     | (refine isD 23 ?_; refine WPl.rdX (ReadR.indexE (i := i) rfl rfl hasA hil) ?_)
     | (refine isD 24 ?_; refine WPl.rdX (ReadR.loadES (cs := faC x) hx3 (by omega) rfl hasA) ?_)
     | (refine isC 25 ?_; refine WPl.callO c25 evsA takesA (Provs.cons (Prov.rd (HasS.fws memA hxm)) Provs.nil) (fpFws memA hxm) (by kernel_rfl) rfl rfl (fun v25 Γ1 hR => ?_); obtain ⟨F2, K2, rfl, hp2, hK2, hs2, hv2, rfl⟩ := hR; rw [decide_eq_true (rfl : r.2 = r.2)]; have hp3 : PInv K2.sb F2 := hs2 ▸ hp2; have c34 := alike_t gF mi md gX F2 K2 hp3 hK2 hv2 x hxw; (try dsimp only [putF, List.cons_append, List.nil_append]))
     | (refine isD 32 ?_; refine WPl.rdX (ReadR.indexE (i := i) rfl rfl hasA hil) ?_)
     | (refine isD 33 ?_; refine WPl.rdX (ReadR.loadES (cs := faC x) hx3 (by omega) rfl hasA) ?_)
     | (refine isC 34 ?_; refine WPl.cTs (c34) ?_; (try dsimp only [putF, List.cons_append, List.nil_append]))
     | (refine isOp ?_; first | refine WPl.rd ?_ | refine WPl.sk ?_ | refine WPl.rdB ?_)
     | (refine isBx ?_; refine WPl.nw fun g => ?_)
     | (show WPl _ _ _ _ _ _ _ (⟨_, .indexAddr _ _ _, _, _, _, _⟩ :: _) _; refine WPl.rdX (ReadR.indexE rfl rfl hasA (by first | assumption | omega)) ?_)
     | (show WPl _ _ _ _ _ _ _ (⟨_, .fieldAddr _ _ _, _, _, _, _⟩ :: _) _; refine WPl.rdX (ReadR.fieldE rfl hasA (by first | assumption | omega)) ?_)
     | (show WPl _ _ _ _ _ _ _ (⟨_, .load _ _, _, _, _, _⟩ :: _) _; first | refine WPl.rdX (ReadR.loadE rfl hasA (by assumption)) ?_ | refine WPl.rdX (ReadR.loadES (by assumption) (by first | assumption | omega) rfl hasA) ?_)
     | (show WPl _ _ _ _ _ _ _ (⟨_, .slice _ _ _ _ _, _, _, _, _⟩ :: _) _; first | refine WPl.rdX (ReadR.sliceH rfl rfl hasA (by omega)) ?_ | refine WPl.rdX (ReadR.sliceL rfl rfl hasA (by omega)) ?_ | refine WPl.rdX (ReadR.sliceLH rfl rfl rfl hasA (by omega) (by omega)) ?_)
     | (refine WPl.spQ (fun hc => ?_) (fun hc => ?_) <;> try first | exact prA | (exfalso; first | omega))
     | fail)
    exact WPq.rnd (i + 1, F2, K2) ⟨hi80, hp3, hK2, hv2⟩ (by dsimp only; omega)
  · by_cases hil : i < l.length
    · have hil' : (i : Int) < (l.length : Int) := by omega
      have hi80' : ¬ (i : Int) < 60 := by omega
      repeat' (first
       | refine WPl.nil ?_ | refine WPq.then ?_ | refine WPq.thenR ?_ | refine WPq.thenE ?_ | refine WPq.blockN ?_ | refine WPq.blockR ?_ | refine WPq.blockE ?_ | refine WPq.blockO rfl ?_ | refine WPc.seq ?_ | refine WPc.block ?_ | refine WPc.ret ?_ | refine WPc.exit ?_ | refine WPc.skip ?_ | refine WPc.region ?_
       | (refine isCond ?_; first | refine WPc.cT ?_ | refine WPc.cF ?_ | (refine WPc.cQ (fun hc => ?_) (fun hc => ?_) <;> try first | exact prA | (exfalso; first | omega)))
       | (refine isD 12 ?_; refine WPl.rdX (ReadR.binE rfl rfl BinR.lss (congrArg Value.bool (decide_eq_true hil'))) ?_)
       | (refine isD 15 ?_; refine WPl.rdX (ReadR.binE rfl rfl BinR.lss (congrArg Value.bool (decide_eq_false hi80'))) ?_)
       | (refine isC 37 ?_; refine WPl.cV (clv) ?_)
       | (refine isOp ?_; first | refine WPl.rd ?_ | refine WPl.sk ?_ | refine WPl.rdB ?_)
       | (refine isBx ?_; refine WPl.nw fun g => ?_)
       | (show WPl _ _ _ _ _ _ _ (⟨_, .indexAddr _ _ _, _, _, _, _⟩ :: _) _; refine WPl.rdX (ReadR.indexE rfl rfl hasA (by first | assumption | omega)) ?_)
       | (show WPl _ _ _ _ _ _ _ (⟨_, .fieldAddr _ _ _, _, _, _, _⟩ :: _) _; refine WPl.rdX (ReadR.fieldE rfl hasA (by first | assumption | omega)) ?_)
       | (show WPl _ _ _ _ _ _ _ (⟨_, .load _ _, _, _, _, _⟩ :: _) _; first | refine WPl.rdX (ReadR.loadE rfl hasA (by assumption)) ?_ | refine WPl.rdX (ReadR.loadES (by assumption) (by first | assumption | omega) rfl hasA) ?_)
       | (show WPl _ _ _ _ _ _ _ (⟨_, .slice _ _ _ _ _, _, _, _, _⟩ :: _) _; first | refine WPl.rdX (ReadR.sliceH rfl rfl hasA (by omega)) ?_ | refine WPl.rdX (ReadR.sliceL rfl rfl hasA (by omega)) ?_ | refine WPl.rdX (ReadR.sliceLH rfl rfl rfl hasA (by omega) (by omega)) ?_)
       | (refine WPl.spQ (fun hc => ?_) (fun hc => ?_) <;> try first | exact prA | (exfalso; first | omega))
       | fail)
      exact WPq.dV
    · have hil' : ¬ (i : Int) < (l.length : Int) := by omega
      repeat' (first
       | refine WPl.nil ?_ | refine WPq.then ?_ | refine WPq.thenR ?_ | refine WPq.thenE ?_ | refine WPq.blockN ?_ | refine WPq.blockR ?_ | refine WPq.blockE ?_ | refine WPq.blockO rfl ?_ | refine WPc.seq ?_ | refine WPc.block ?_ | refine WPc.ret ?_ | refine WPc.exit ?_ | refine WPc.skip ?_ | refine WPc.region ?_
       | (refine isCond ?_; first | refine WPc.cT ?_ | refine WPc.cF ?_ | (refine WPc.cQ (fun hc => ?_) (fun hc => ?_) <;> try first | exact prA | (exfalso; first | omega)))
       | (refine isD 12 ?_; refine WPl.rdX (ReadR.binE rfl rfl BinR.lss (congrArg Value.bool (decide_eq_false hil'))) ?_)
       | (refine isC 37 ?_; refine WPl.cV (clv) ?_)
       | (refine isOp ?_; first | refine WPl.rd ?_ | refine WPl.sk ?_ | refine WPl.rdB ?_)
       | (refine isBx ?_; refine WPl.nw fun g => ?_)
       | (show WPl _ _ _ _ _ _ _ (⟨_, .indexAddr _ _ _, _, _, _, _⟩ :: _) _; refine WPl.rdX (ReadR.indexE rfl rfl hasA (by first | assumption | omega)) ?_)
       | (show WPl _ _ _ _ _ _ _ (⟨_, .fieldAddr _ _ _, _, _, _, _⟩ :: _) _; refine WPl.rdX (ReadR.fieldE rfl hasA (by first | assumption | omega)) ?_)
       | (show WPl _ _ _ _ _ _ _ (⟨_, .load _ _, _, _, _, _⟩ :: _) _; first | refine WPl.rdX (ReadR.loadE rfl hasA (by assumption)) ?_ | refine WPl.rdX (ReadR.loadES (by assumption) (by first | assumption | omega) rfl hasA) ?_)
       | (show WPl _ _ _ _ _ _ _ (⟨_, .slice _ _ _ _ _, _, _, _, _⟩ :: _) _; first | refine WPl.rdX (ReadR.sliceH rfl rfl hasA (by omega)) ?_ | refine WPl.rdX (ReadR.sliceL rfl rfl hasA (by omega)) ?_ | refine WPl.rdX (ReadR.sliceLH rfl rfl rfl hasA (by omega) (by omega)) ?_)
       | (refine WPl.spQ (fun hc => ?_) (fun hc => ?_) <;> try first | exact prA | (exfalso; first | omega))
       | fail)
      exact WPq.dV
end Go.Proofs.Ytpjfkomicehinaa
