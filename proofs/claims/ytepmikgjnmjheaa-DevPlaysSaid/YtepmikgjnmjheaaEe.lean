/- Layer 3 (dev): Waiting, Crash: the program, and the reference; the reference's Flush. -/
import Derived.Test.YtepmikgjnmjheaaEd
namespace Go.Proofs.Ytepmikgjnmjheaa
theorem mp_nodup {K V : Type} {M : Go.Proofs.Ytepmikgjnmjheaa.MK K V} {g : Nat} {l : List (K × V)} {w : World} (h : (mp M g l).holds w) : (l.map (·.1)).Nodup := by
  obtain ⟨es, clock, _, _, _, _, h1, h2⟩ := h
  exact h1
theorem rmp_nodup {K V : Type} {M : Go.Proofs.Ytepmikgjnmjheaa.MK K V} {g : Nat} {l : List (K × V)} {w : World} (h : (rmp M g l).holds w) : (l.map (·.1)).Nodup := mp_nodup h
open Go.RowKit
set_option linter.unusedSimpArgs false
set_option linter.unusedVariables false
set_option maxRecDepth 20000
set_option maxHeartbeats 400000
attribute [local irreducible] WPc WPl WPq ReadR OpT BinR HasS bx rdN rowN Take Takes Prov Triple ResF BuildP Done ag Int.decLt Int.decLe Int.instDecidableEq
attribute [local irreducible] mp rmp rg rgo bag vrow secs mput mget mfind mdel intsV skeys vault pickG fburn fb1 valsV zAt zB vers crashT intsN
section
variable (gV mD : Nat) (vd : Value) (n k : Nat) (S : DS)
theorem wset_len {n k : Nat} {S : DS} (h : DInv n k S) (hnd : (S.es.map (·.1)).Nodup) : S.vw.wset.length = S.es.length := by
  have h1 := skeys_wset h hnd
  have h2 := congrArg List.length h1
  rw [skeys_len, intsN_len] at h2
  exact h2.symm
theorem dwait_t (h : DInv n k S) (hkb : k ≤ 100000) :
    Triple Try.prog 19 #[hD gV] [rbx gV 79 (dvc S.fu vd mD S.cn), rmp secM mD S.es] (RRow 3 1 S.vw.wset.length (intsV (intsN S.vw.wset))) := by
  have hle := h.ok.len
  refine Triple.know (p := (S.es.map (·.1)).Nodup) (fun w hw => ?_) fun hnd => ?_
  · exact rmp_nodup (hw (rmp secM mD S.es) (List.mem_cons_of_mem _ (List.mem_cons_self ..)))
  · have c := Waiting_t gV mD vd S.fu S.cn S.es (by omega)
    rw [skeys_wset h hnd, ← wset_len h hnd] at c
    exact c
theorem crashT_crT {n k : Nat} {S : DS} (h : DInv n k S) (hnd : (S.es.map (·.1)).Nodup) (l : List Int) : ∀ m, m ≤ S.vw.wset.length → crashT S.es l (skeys S.es) m S.ls = crT S.vw.ws (secF 0) l S.vw.wset m S.ls
  | 0, _ => by with_unfolding_all rfl
  | m + 1, hm => by
    have ih := crashT_crT h hnd l m (by omega)
    rw [show crashT S.es l (skeys S.es) (m + 1) S.ls = crash1 S.es l (crashT S.es l (skeys S.es) m S.ls) m ((skeys S.es).getD m 0) by with_unfolding_all rfl, ih]
    show _ = cr1 S.vw.ws (secF 0) l (crT S.vw.ws (secF 0) l S.vw.wset m S.ls) m (S.vw.wset.getD m 0)
    obtain ⟨j, hj⟩ : ∃ j, S.vw.wset[m]? = some j := ⟨_, List.getElem?_eq_getElem (by omega)⟩
    have h1 : (skeys S.es).getD m 0 = (j : Int) := by
      rw [skeys_wset h hnd, List.getD_eq_getElem?_getD, intsN_at hj]; rfl
    have h2 : S.vw.wset.getD m 0 = j := by rw [List.getD_eq_getElem?_getD, hj]; rfl
    rw [h1, h2]
    unfold crash1 cr1
    rfl
theorem dcrash_t (lv : Value) (l : List Int) (hl : l.length ≤ 1000000) (hli : ∀ a ∈ l, in64 a) (h : DInv n k S) (hn : n ≤ 100000) (hkb : k ≤ 100000) :
    Triple Try.prog 17 #[hD gV, lv] ([rdN lv l.length (intsV l)] ++ dvA gV mD vd S) (RD gV mD vd n k (resV []) (S.vw.crash l)) := by
  have hnl := h.nl
  have hle := h.ok.len
  refine Triple.know (p := (S.es.map (·.1)).Nodup) (fun w hw => ?_) fun hnd => ?_
  · exact mp_nodup (hw (mp secM mD S.es) (List.mem_cons_of_mem _ (List.mem_cons_of_mem _ (List.mem_cons_of_mem _ (List.mem_cons_self ..)))))
  · have c := crashR_t gV mD vd S.cn S.ls S.es S.fu lv l hl hli (by omega) (by omega) h.f4 (by rw [hnl]; exact h.ok.eok hkb)
    rw [← wset_len h hnd, crashT_crT h hnd l _ (Nat.le_refl _)] at c
    refine Triple.mono c ?_
    rintro v Γ' ⟨rfl, rfl⟩
    refine ⟨⟨f4, crT S.vw.ws (secF 0) l S.vw.wset S.vw.wset.length S.ls, [], S.cn⟩, rfl, by with_unfolding_all rfl, ⟨rfl, f4_in, by show (crT _ _ _ _ _ _).length = n; rw [crT_len]; exact hnl, ⟨(fun y hy => by cases hy), Nat.zero_le _, h.ok.c0, h.ok.c1⟩⟩, ?_⟩
    show _ = [_, rowN _ 256 vd (crT _ _ _ _ _ _).length _, _, _]
    rw [crT_len]
end
section
variable (gX : Nat) (n k : Nat) (R : RfS)
theorem rwset_next {j : Nat} : intsN ((List.range (j + 1)).filter fun j => !(R.vw.ws j).isEmpty) = intsN ((List.range j).filter fun j => !(R.vw.ws j).isEmpty) ++ if (vers R.Z (j : Int)).length > 0 then [(j : Int)] else [] := by
  have h0 : (!(R.vw.ws j).isEmpty) = decide ((vers R.Z (j : Int)).length > 0) := by
    show (!((vers R.Z (j : Int)).map (·.2)).isEmpty) = _
    cases vers R.Z (j : Int) <;> simp
  with_unfolding_all
    unfold intsN
    rw [List.range_succ, List.filter_append, List.map_append, List.filter_cons, h0]
    congr 1
    by_cases hv : (vers R.Z (j : Int)).length > 0
    · rw [if_pos (decide_eq_true hv), if_pos hv]; rfl
    · rw [if_neg (by rw [decide_eq_false hv]; simp), if_neg hv]; rfl
theorem rwait_t (h : RInv n k R) (hn : n ≤ 100000) (hkb : k ≤ 100000) : Triple Try.prog 24 #[hD gX] [rbx gX 51 (rdc R.vL R.vA R.vB R.fu R.wr), rdN R.vL R.L.length (valsV R.L), rdN R.vA R.Z.length (intsV (zAt R.Z)), rdN R.vB R.Z.length (valsV (zB R.Z))] (RRow 3 1 R.vw.wset.length (intsV (intsN R.vw.wset))) := by
  have hnl := h.nl
  have e1 : ∀ v, rowN 3 1 v 0 [] = rowN 3 1 v (intsN ((List.range 0).filter fun j => !(R.vw.ws j).isEmpty)).length (intsV (intsN ((List.range 0).filter fun j => !(R.vw.ws j).isEmpty))) := fun v => by with_unfolding_all rfl
  have hwl : R.vw.wset = (List.range n).filter fun j => !(R.vw.ws j).isEmpty := by
    unfold Dv.wset
    rw [show R.vw.ls.length = n by show (R.L.map _).length = n; rw [List.length_map]; exact hnl]
  refine Triple.enter Try.func24 rfl Try.ntmps24 rfl (fun W => ?_)
  dsimp only [argsF, Nat.reduceAdd]
  repeat' (first
   | refine WPl.nil ?_ | refine WPq.then ?_ | refine WPq.thenR ?_ | refine WPq.thenE ?_ | refine WPq.blockN ?_ | refine WPq.blockR ?_ | refine WPq.blockE ?_ | refine WPq.blockO rfl ?_ | refine WPc.seq ?_ | refine WPc.block ?_ | refine WPc.ret ?_ | refine WPc.exit ?_ | refine WPc.skip ?_ | refine WPc.region ?_
   | (refine isCond ?_; first | refine WPc.cT ?_ | refine WPc.cF ?_ | (refine WPc.cQ (fun hc => ?_) (fun hc => ?_) <;> try exact prA))
   | (refine isD 5 ?_; refine WPl.litS0 fun v5 hv5 => ?_)
   | (refine isOp ?_; first | refine WPl.rd ?_ | refine WPl.sk ?_ | refine WPl.rdB ?_)
   | (show WPl _ _ _ _ _ _ _ (⟨_, .indexAddr _ _ _, _, _, _, _⟩ :: _) _; refine WPl.rdX (ReadR.indexE rfl rfl hasA (by first | assumption | omega)) ?_)
   | (show WPl _ _ _ _ _ _ _ (⟨_, .fieldAddr _ _ _, _, _, _, _⟩ :: _) _; refine WPl.rdX (ReadR.fieldE rfl hasA (by first | assumption | omega)) ?_)
   | (show WPl _ _ _ _ _ _ _ (⟨_, .load _ _, _, _, _, _⟩ :: _) _; first | refine WPl.rdX (ReadR.loadE rfl hasA (by assumption)) ?_ | refine WPl.rdX (ReadR.loadES (by assumption) (by first | assumption | omega) rfl hasA) ?_)
   | (show WPl _ _ _ _ _ _ _ (⟨_, .slice _ _ _ _ _, _, _, _, _⟩ :: _) _; first | refine WPl.rdX (ReadR.sliceH rfl rfl hasA (by omega)) ?_ | refine WPl.rdX (ReadR.sliceL rfl rfl hasA (by omega)) ?_ | refine WPl.rdX (ReadR.sliceLH rfl rfl rfl hasA (by omega) (by omega)) ?_)
   | (refine WPl.spQ (fun hc => ?_) (fun hc => ?_) <;> try exact prA)
   | fail)
  rw [e1]
  first | refine WPc.loop (σ := Nat × Value) (fun st => st.1 ≤ n ∧ st.2.oneCell' = true) (fun st => [rbx gX 51 (rdc R.vL R.vA R.vB R.fu R.wr), rdN R.vL R.L.length (valsV R.L), rdN R.vA R.Z.length (intsV (zAt R.Z)), rdN R.vB R.Z.length (valsV (zB R.Z)), rowN 3 1 st.2 (intsN ((List.range st.1).filter fun j => !(R.vw.ws j).isEmpty)).length (intsV (intsN ((List.range st.1).filter fun j => !(R.vw.ws j).isEmpty)))]) (fun st => [(0, hD gX), (3, st.2), (4, .int .i64 (st.1 : Int))]) (fun st => n - st.1) ((0, v5)) ?_ takesA frsA (fun st km hx hk => ?_)
  · exact ⟨Nat.zero_le _, hv5⟩
  obtain ⟨q, vo⟩ := st
  obtain ⟨hq, hvo⟩ := hx
  dsimp only at hq hvo hk ⊢
  have hkm : km = n - q := hk
  clear hk
  have hnx := rwset_next R (j := q)
  have hlq : (intsN ((List.range q).filter fun j => !(R.vw.ws j).isEmpty)).length ≤ q := by
    rw [intsN_len]; exact Nat.le_trans (List.length_filter_le _ _) (by rw [List.length_range]; exact Nat.le_refl _)
  obtain ⟨cur, hcur⟩ : ∃ cur, cur = intsN ((List.range q).filter fun j => !(R.vw.ws j).isEmpty) := ⟨_, rfl⟩
  rw [← hcur] at hnx hlq ⊢
  have c17 := rvers_t gX n k R (q : Int) h hkb
  by_cases hlt : q < n
  · by_cases hv : (vers R.Z (q : Int)).length > 0
    · rw [if_pos hv] at hnx
      have hrow : ∀ v2, rowN 3 1 v2 (cur.length + 1) (intsV cur ++ [Value.int .i64 (q : Int)]) = rowN 3 1 v2 (intsN ((List.range (q + 1)).filter fun j => !(R.vw.ws j).isEmpty)).length (intsV (intsN ((List.range (q + 1)).filter fun j => !(R.vw.ws j).isEmpty))) := fun v2 => by
        rw [hnx, List.length_append]
        with_unfolding_all (unfold intsV; rw [List.map_append]; rfl)
      have hgt : ((vers R.Z (q : Int)).length : Int) > 0 := by omega
      repeat' (first
       | refine WPl.nil ?_ | refine WPq.then ?_ | refine WPq.thenR ?_ | refine WPq.thenE ?_ | refine WPq.blockN ?_ | refine WPq.blockR ?_ | refine WPq.blockE ?_ | refine WPq.blockO rfl ?_ | refine WPc.seq ?_ | refine WPc.block ?_ | refine WPc.ret ?_ | refine WPc.exit ?_ | refine WPc.skip ?_ | refine WPc.region ?_
       | (refine isCond ?_; first | refine WPc.cT ?_ | refine WPc.cF ?_ | (refine WPc.cQ (fun hc => ?_) (fun hc => ?_) <;> try first | exact prA | (exfalso; first | omega)))
       | (refine isD 10 ?_; refine WPl.rdX (ReadR.loadO memA rfl rfl) ?_)
       | (refine isC 17 ?_; refine WPl.cR c17 (fun v17 hv17 => ?_) (hΔ := provsW))
       | (refine isD 19 ?_; refine WPl.rdX (ReadR.binE rfl rfl BinR.gtr (congrArg Value.bool (decide_eq_true hgt))) ?_)
       | (refine isLit ?_; refine WPl.lits fun w22 hw22 => ?_)
       | (refine isD 23 ?_; refine WPl.appN (m := cur.length) (m2 := 1) (xs := intsV cur) (ys := [Value.int .i64 (q : Int)]) rfl (fun u hu => by rw [List.mem_singleton.1 hu]; rfl) (by omega) fun v23 hv23 => ?_)
       | (refine isOp ?_; first | refine WPl.rd ?_ | refine WPl.sk ?_ | refine WPl.rdB ?_)
       | (show WPl _ _ _ _ _ _ _ (⟨_, .indexAddr _ _ _, _, _, _, _⟩ :: _) _; refine WPl.rdX (ReadR.indexE rfl rfl hasA (by first | assumption | omega)) ?_)
       | (show WPl _ _ _ _ _ _ _ (⟨_, .fieldAddr _ _ _, _, _, _, _⟩ :: _) _; refine WPl.rdX (ReadR.fieldE rfl hasA (by first | assumption | omega)) ?_)
       | (show WPl _ _ _ _ _ _ _ (⟨_, .load _ _, _, _, _, _⟩ :: _) _; first | refine WPl.rdX (ReadR.loadE rfl hasA (by assumption)) ?_ | refine WPl.rdX (ReadR.loadES (by assumption) (by first | assumption | omega) rfl hasA) ?_)
       | (show WPl _ _ _ _ _ _ _ (⟨_, .slice _ _ _ _ _, _, _, _, _⟩ :: _) _; first | refine WPl.rdX (ReadR.sliceH rfl rfl hasA (by omega)) ?_ | refine WPl.rdX (ReadR.sliceL rfl rfl hasA (by omega)) ?_ | refine WPl.rdX (ReadR.sliceLH rfl rfl rfl hasA (by omega) (by omega)) ?_)
       | (refine WPl.spQ (fun hc => ?_) (fun hc => ?_) <;> try first | exact prA | (exfalso; first | omega))
       | fail)
      rw [hrow]
      exact WPq.rnd (q + 1, v23) ⟨hlt, hv23⟩ (by dsimp only; omega)
    · rw [if_neg hv, List.append_nil] at hnx
      have hgt : ¬ ((vers R.Z (q : Int)).length : Int) > 0 := by omega
      repeat' (first
       | refine WPl.nil ?_ | refine WPq.then ?_ | refine WPq.thenR ?_ | refine WPq.thenE ?_ | refine WPq.blockN ?_ | refine WPq.blockR ?_ | refine WPq.blockE ?_ | refine WPq.blockO rfl ?_ | refine WPc.seq ?_ | refine WPc.block ?_ | refine WPc.ret ?_ | refine WPc.exit ?_ | refine WPc.skip ?_ | refine WPc.region ?_
       | (refine isCond ?_; first | refine WPc.cT ?_ | refine WPc.cF ?_ | (refine WPc.cQ (fun hc => ?_) (fun hc => ?_) <;> try first | exact prA | (exfalso; first | omega)))
       | (refine isD 10 ?_; refine WPl.rdX (ReadR.loadO memA rfl rfl) ?_)
       | (refine isC 17 ?_; refine WPl.cR c17 (fun v17 hv17 => ?_) (hΔ := provsW))
       | (refine isD 19 ?_; refine WPl.rdX (ReadR.binE rfl rfl BinR.gtr (congrArg Value.bool (decide_eq_false hgt))) ?_)
       | (refine isOp ?_; first | refine WPl.rd ?_ | refine WPl.sk ?_ | refine WPl.rdB ?_)
       | (show WPl _ _ _ _ _ _ _ (⟨_, .indexAddr _ _ _, _, _, _, _⟩ :: _) _; refine WPl.rdX (ReadR.indexE rfl rfl hasA (by first | assumption | omega)) ?_)
       | (show WPl _ _ _ _ _ _ _ (⟨_, .fieldAddr _ _ _, _, _, _, _⟩ :: _) _; refine WPl.rdX (ReadR.fieldE rfl hasA (by first | assumption | omega)) ?_)
       | (show WPl _ _ _ _ _ _ _ (⟨_, .load _ _, _, _, _, _⟩ :: _) _; first | refine WPl.rdX (ReadR.loadE rfl hasA (by assumption)) ?_ | refine WPl.rdX (ReadR.loadES (by assumption) (by first | assumption | omega) rfl hasA) ?_)
       | (show WPl _ _ _ _ _ _ _ (⟨_, .slice _ _ _ _ _, _, _, _, _⟩ :: _) _; first | refine WPl.rdX (ReadR.sliceH rfl rfl hasA (by omega)) ?_ | refine WPl.rdX (ReadR.sliceL rfl rfl hasA (by omega)) ?_ | refine WPl.rdX (ReadR.sliceLH rfl rfl rfl hasA (by omega) (by omega)) ?_)
       | (refine WPl.spQ (fun hc => ?_) (fun hc => ?_) <;> try first | exact prA | (exfalso; first | omega))
       | fail)
      rw [← hnx]
      exact WPq.rnd (q + 1, vo) ⟨hlt, hvo⟩ (by dsimp only; omega)
  · have hqn : q = n := by omega
    rw [hqn, ← hwl] at hcur
    rw [hcur, intsN_len]
    repeat' (first
     | refine WPl.nil ?_ | refine WPq.then ?_ | refine WPq.thenR ?_ | refine WPq.thenE ?_ | refine WPq.blockN ?_ | refine WPq.blockR ?_ | refine WPq.blockE ?_ | refine WPq.blockO rfl ?_ | refine WPc.seq ?_ | refine WPc.block ?_ | refine WPc.ret ?_ | refine WPc.exit ?_ | refine WPc.skip ?_ | refine WPc.region ?_
     | (refine isCond ?_; first | refine WPc.cT ?_ | refine WPc.cF ?_ | (refine WPc.cQ (fun hc => ?_) (fun hc => ?_) <;> try first | exact prA | (exfalso; first | omega)))
     | (refine isD 10 ?_; refine WPl.rdX (ReadR.loadO memA rfl rfl) ?_)
     | (refine isOp ?_; first | refine WPl.rd ?_ | refine WPl.sk ?_ | refine WPl.rdB ?_)
     | (show WPl _ _ _ _ _ _ _ (⟨_, .indexAddr _ _ _, _, _, _, _⟩ :: _) _; refine WPl.rdX (ReadR.indexE rfl rfl hasA (by first | assumption | omega)) ?_)
     | (show WPl _ _ _ _ _ _ _ (⟨_, .fieldAddr _ _ _, _, _, _, _⟩ :: _) _; refine WPl.rdX (ReadR.fieldE rfl hasA (by first | assumption | omega)) ?_)
     | (show WPl _ _ _ _ _ _ _ (⟨_, .load _ _, _, _, _, _⟩ :: _) _; first | refine WPl.rdX (ReadR.loadE rfl hasA (by assumption)) ?_ | refine WPl.rdX (ReadR.loadES (by assumption) (by first | assumption | omega) rfl hasA) ?_)
     | (show WPl _ _ _ _ _ _ _ (⟨_, .slice _ _ _ _ _, _, _, _, _⟩ :: _) _; first | refine WPl.rdX (ReadR.sliceH rfl rfl hasA (by omega)) ?_ | refine WPl.rdX (ReadR.sliceL rfl rfl hasA (by omega)) ?_ | refine WPl.rdX (ReadR.sliceLH rfl rfl rfl hasA (by omega) (by omega)) ?_)
     | (refine WPl.spQ (fun hc => ?_) (fun hc => ?_) <;> try first | exact prA | (exfalso; first | omega))
     | fail)
    exact WPq.dR
end
end Go.Proofs.Ytepmikgjnmjheaa
