/- Layer 38 (topk): the list in order; what lives: contracts. -/
import Derived.Test.YtncgponcedkihaaKe
import Derived.Test.YtncgponcedkihaaSp
namespace Go.Proofs.Ytncgponcedkihaa
open Go.RowKit
set_option linter.unusedSimpArgs false
set_option linter.unusedVariables false
set_option maxRecDepth 20000
set_option maxHeartbeats 4000000
attribute [local irreducible] WPc WPl WPq ReadR OpT BinR HasS bx rdN rowN Take Takes Prov Triple ResF BuildP Done ag Int.decLt Int.decLe Int.instDecidableEq
def hys (l : List Hy) : List Value := (l.map fun h => flat (hyc h)).flatten
theorem hys_len {l : List Hy} : (hys l).length = l.length * 20 := rows_len hyc_len
theorem hys_drop {l : List Hy} {i : Nat} {h : Hy} (hx : l[i]? = some h) : ((hys l).drop (i * 20)).take 20 = flat (hyc h) := by
  unfold hys; exact rows_drop (c := hyc) hyc_len hx
theorem hys_app {A B : List Hy} : hys A ++ hys B = hys (A ++ B) := by unfold hys; rw [List.map_append, List.flatten_append]
theorem hys_one {h : Hy} : hys [h] = flat (hyc h) := by simp [hys]
theorem hys_sub {l : List Hy} {k j : Nat} (h : k + j ≤ l.length) : ((hys l).drop (k * 20)).take (j * 20) = hys ((l.drop k).take j) := by
  unfold hys; exact rows_sub hyc_len l k j h
theorem sortHy_t (v : Value) (l : List Hy) (hl : l.length ≤ 100000) :
    Triple Try.prog 95 #[v, .func (.func 96) #[] #[]] [rowN 97 20 v l.length (hys l)] (RSortP 97 20 (fun h => flat (hyc h)) falC v l) :=
  sortP_t Try.sortF95 (fun w => TyI.run_isAgg (P := Try.prog) (T := 97) w) (fun w => TyI.run_sizeOf (P := Try.prog) (T := 97) w) (fun h => flat (hyc h)) hyc_len (fun h v hv => (hyc_fok h).one v hv) falC TC.fal.swo 96 (by kernel_rfl) (fun x y => by have h := falling_t x y; unfold ag at h; exact h) v l (by omega)
attribute [local irreducible] mp rg mput mget mfind mdel isLeast
structure TlSt where
  td : TL
  dn : TL
  cu : Option (Pf × Hy)
  vo : Value
  o : List Hy
section
variable (gT m : Nat) (most all : Int) (L : TL)
def RTList (gT m : Nat) (most all : Int) (L : TL) : Value → List Asn → Prop := fun v Γ => ∃ o : List Hy, v.oneCell' = true ∧ Γ = [rowN 97 20 v o.length (hys o), bx gT 155 (txc most m all), mp hyM m L] ∧ o.Perm (L.map (·.2)) ∧ o.Pairwise (fun a b => ltOf falC b a = false)
theorem tlist_t (hL : L.length ≤ 100000) : Triple Try.prog 77 #[hPt gT] [(bx gT 155 (txc most m all)), mp hyM m L] (RTList gT m most all L) := by
  refine Triple.enter Try.func77 rfl Try.ntmps77 rfl (fun W => ?_)
  dsimp only [argsF, Nat.reduceAdd]
  refine WPc.nilRowN 97 20 ?_
  repeat' (first
   | refine WPl.nil ?_ | refine WPq.then ?_ | refine WPq.thenR ?_ | refine WPq.thenE ?_ | refine WPq.blockN ?_ | refine WPq.blockR ?_ | refine WPq.blockE ?_ | refine WPq.blockO rfl ?_ | refine WPc.seq ?_ | refine WPc.block ?_ | refine WPc.ret ?_ | refine WPc.exit ?_ | refine WPc.skip ?_ | refine WPc.region ?_
   | (refine isCond ?_; first | refine WPc.cT ?_ | refine WPc.cF ?_ | (refine WPc.cQ (fun hc => ?_) (fun hc => ?_) <;> try exact prA))
   | (refine isD 7 ?_; refine WPl.rdX (readP) ?_)
   | (refine isD 12 ?_; refine WPl.mrange fun r => ?_)
   | (refine isOp ?_; first | refine WPl.rd ?_ | refine WPl.sk ?_ | refine WPl.rdB ?_)
   | (refine isAl ?_; refine WPl.nw fun g => ?_)
   | (refine isSt ?_; first | refine WPl.st1 ?_ | refine WPl.stA ?_ | refine WPl.stEB ?_ | refine WPl.stRB ?_)
   | (show WPl _ _ _ _ _ _ _ (⟨_, .indexAddr _ _ _, _, _, _, _⟩ :: _) _; refine WPl.rdX (ReadR.indexE rfl rfl hasA (by first | assumption | omega)) ?_)
   | (show WPl _ _ _ _ _ _ _ (⟨_, .fieldAddr _ _ _, _, _, _, _⟩ :: _) _; refine WPl.rdX (ReadR.fieldE rfl hasA (by first | assumption | omega)) ?_)
   | (show WPl _ _ _ _ _ _ _ (⟨_, .load _ _, _, _, _, _⟩ :: _) _; first | refine WPl.rdX (ReadR.loadE rfl hasA (by assumption)) ?_ | refine WPl.rdX (ReadR.loadES (by assumption) (by first | assumption | omega) rfl hasA) ?_)
   | (show WPl _ _ _ _ _ _ _ (⟨_, .slice _ _ _ _ _, _, _, _, _⟩ :: _) _; first | refine WPl.rdX (ReadR.sliceH rfl rfl hasA (by omega)) ?_ | refine WPl.rdX (ReadR.sliceL rfl rfl hasA (by omega)) ?_ | refine WPl.rdX (ReadR.sliceLH rfl rfl rfl hasA (by omega) (by omega)) ?_)
   | (refine WPl.spQ (fun hc => ?_) (fun hc => ?_) <;> try exact prA)
   | fail)
  first | refine WPc.loop (σ := TlSt) (fun st => (st.dn ++ st.td).Perm L ∧ st.o = st.dn.map (·.2) ∧ st.vo.oneCell' = true) (fun st => [rowN 97 20 st.vo st.o.length (hys st.o), (bx gT 155 (txc most m all)), rg hyM m r L st.td st.cu]) (fun st => [(0, hPt gT), (3, st.vo), (12, .pointer (some ⟨r, 0, none⟩))]) (fun st => st.td.length) (⟨L, [], none, .slice none 0 0, []⟩) ?_ takesA frsA (fun st km hx hk => ?_)
  · exact ⟨.refl _, rfl, rfl⟩
  obtain ⟨td, dn, cu, vo, o⟩ := st
  obtain ⟨hp, ho, hone⟩ := hx
  dsimp only at hp ho hone hk ⊢
  have hol : o.length ≤ 100000 := by
    have h1 := hp.length_eq
    have h2 : o.length = dn.length := by rw [ho, List.length_map]
    simp at h1; omega
  repeat' (first
   | refine WPl.nil ?_ | refine WPq.then ?_ | refine WPq.thenR ?_ | refine WPq.thenE ?_ | refine WPq.blockN ?_ | refine WPq.blockR ?_ | refine WPq.blockE ?_ | refine WPq.blockO rfl ?_ | refine WPc.seq ?_ | refine WPc.block ?_ | refine WPc.ret ?_ | refine WPc.exit ?_ | refine WPc.skip ?_ | refine WPc.region ?_
   | (refine isCond ?_; first | refine WPc.cT ?_ | refine WPc.cF ?_ | (refine WPc.cQ (fun hc => ?_) (fun hc => ?_) <;> try exact prA))
   | (refine isD 13 ?_; refine WPl.mnext (M := hyM) (fun k => ag (pfc k)) (fun s => ag (hyc s)) (fun h0 => ?_) (fun A y B hAB => ?_))
   | (refine isD 15 ?_; refine WPl.rdX (ReadR.entry (kv := ag (pfc y.1)) (vv := ag (hyc y.2)) rfl rfl memA rfl) ?_; have l9 := y.2.p.1.len)
   | (refine isC 22 ?_; refine WPl.cXs (sortHy_t vo o hol) fun v Γ1 hR => ?_; obtain ⟨o', rfl, rfl, hpo, hso⟩ := hR; (try dsimp only [putF, List.cons_append, List.nil_append]))
   | (refine isD 19 ?_; refine WPl.litS1 fun wv hwv => ?_)
   | (refine isD 20 ?_; refine WPl.appN (m := o.length) (m2 := 1) (xs := hys o) (ys := flat (hyc y.2)) (by rw [hyc_len]) (hyc_fok y.2).one (by omega) fun v2 hv2 => ?_)
   | (refine isOp ?_; first | refine WPl.rd ?_ | refine WPl.sk ?_ | refine WPl.rdB ?_)
   | (refine isAl ?_; refine WPl.nw fun g => ?_)
   | (refine isSt ?_; first | refine WPl.st1 ?_ | refine WPl.stA ?_ | refine WPl.stEB ?_ | refine WPl.stRB ?_)
   | (show WPl _ _ _ _ _ _ _ (⟨_, .indexAddr _ _ _, _, _, _, _⟩ :: _) _; refine WPl.rdX (ReadR.indexE rfl rfl hasA (by first | assumption | omega)) ?_)
   | (show WPl _ _ _ _ _ _ _ (⟨_, .fieldAddr _ _ _, _, _, _, _⟩ :: _) _; refine WPl.rdX (ReadR.fieldE rfl hasA (by first | assumption | omega)) ?_)
   | (show WPl _ _ _ _ _ _ _ (⟨_, .load _ _, _, _, _, _⟩ :: _) _; first | refine WPl.rdX (ReadR.loadE rfl hasA (by assumption)) ?_ | refine WPl.rdX (ReadR.loadES (by assumption) (by first | assumption | omega) rfl hasA) ?_)
   | (show WPl _ _ _ _ _ _ _ (⟨_, .slice _ _ _ _ _, _, _, _, _⟩ :: _) _; first | refine WPl.rdX (ReadR.sliceH rfl rfl hasA (by omega)) ?_ | refine WPl.rdX (ReadR.sliceL rfl rfl hasA (by omega)) ?_ | refine WPl.rdX (ReadR.sliceLH rfl rfl rfl hasA (by omega) (by omega)) ?_)
   | (refine WPl.spQ (fun hc => ?_) (fun hc => ?_) <;> try exact prA)
   | fail)
  · subst h0
    rw [List.append_nil] at hp
    refine WPq.rgOut (M := hyM) (m := m) (r := r) (l := L) (td := []) (c := cu) takeA ?_
    exact WPq.dX (vs := [_]) [rowN 97 20 vo o'.length (hys o'), (bx gT 155 (txc most m all)), mp hyM m L] ⟨o', hone, rfl, by rw [ho] at hpo; exact hpo.trans (hp.map _), hso⟩
  · have e1 : hys o ++ flat (hyc y.2) = hys (o ++ [y.2]) := by rw [← hys_app, hys_one]
    have e2 : o.length + 1 = (o ++ [y.2]).length := by simp
    rw [e1, e2]
    exact WPq.rnd ⟨A ++ B, dn ++ [y], some y, v2, o ++ [y.2]⟩ ⟨by
      refine List.Perm.trans ?_ hp
      dsimp only
      rw [hAB, List.append_assoc]
      exact List.Perm.append_left dn perm_mid2, by dsimp only; rw [List.map_append, ← ho]; rfl, hv2⟩ (by dsimp only; rw [hk, hAB]; simp)
def RTList' (gT m : Nat) (most all : Int) (L : TL) (n : Int) : Value → List Asn → Prop := fun v Γ => ∃ o : List Hy, v.oneCell' = true ∧ Γ = [rowN 97 20 v (o.take n.toNat).length (hys (o.take n.toNat)), bx gT 155 (txc most m all), mp hyM m L] ∧ o.Perm (L.map (·.2)) ∧ o.Pairwise (fun a b => ltOf falC b a = false)
theorem subv_one' {sz : Nat} {v : Value} {k n : Nat} (h : v.oneCell' = true) : (subv sz v k n).oneCell' = true := by
  unfold subv
  split
  · rfl
  · exact h
theorem tList_t (n : Int) (hL : L.length ≤ 100000) : Triple Try.prog 39 #[hPt gT, .int .i64 n] [(bx gT 155 (txc most m all)), mp hyM m L] (RTList' gT m most all L n) := by
  have c1 := tlist_t gT m most all L hL
  refine Triple.enter Try.func39 rfl Try.ntmps39 rfl (fun W => ?_)
  dsimp only [argsF, Nat.reduceAdd]
  repeat' (first
   | refine WPl.nil ?_ | refine WPq.then ?_ | refine WPq.thenR ?_ | refine WPq.thenE ?_ | refine WPq.blockN ?_ | refine WPq.blockR ?_ | refine WPq.blockE ?_ | refine WPq.blockO rfl ?_ | refine WPc.seq ?_ | refine WPc.block ?_ | refine WPc.ret ?_ | refine WPc.exit ?_ | refine WPc.skip ?_ | refine WPc.region ?_
   | (refine isCond ?_; first | refine WPc.cT ?_ | refine WPc.cF ?_ | (refine WPc.cQ (fun hc => ?_) (fun hc => ?_) <;> try exact prA))
   | (refine isC 7 ?_; refine WPl.cXs (c1) fun v Γ1 hR => ?_; obtain ⟨o, hone, rfl, hpo, hso⟩ := hR; obtain ⟨j, hj⟩ : ∃ j : Nat, j = (o.take n.toNat).length := ⟨_, rfl⟩; have hjo : j ≤ o.length := (by rw [hj, List.length_take]; omega); have e1 : (if n < 0 then 0 else n) = max n 0 := (by split <;> omega); have e2 : (if (o.length : Int) < max n 0 then (o.length : Int) else max n 0) = (j : Int) := (by rw [hj, List.length_take]; split <;> omega); (try dsimp only [putF, List.cons_append, List.nil_append]))
   | (refine isD 10 ?_; refine WPl.rdX (ReadR.maxT e1 rfl rfl) ?_)
   | (refine isD 13 ?_; refine WPl.rdX (ReadR.minT e2 rfl rfl) ?_)
   | (refine isD 14 ?_; refine WPl.rdX (ReadR.sliceH (j := j) rfl rfl hasA hjo) ?_)
   | (refine isOp ?_; first | refine WPl.rd ?_ | refine WPl.sk ?_ | refine WPl.rdB ?_)
   | (show WPl _ _ _ _ _ _ _ (⟨_, .indexAddr _ _ _, _, _, _, _⟩ :: _) _; refine WPl.rdX (ReadR.indexE rfl rfl hasA (by first | assumption | omega)) ?_)
   | (show WPl _ _ _ _ _ _ _ (⟨_, .fieldAddr _ _ _, _, _, _, _⟩ :: _) _; refine WPl.rdX (ReadR.fieldE rfl hasA (by first | assumption | omega)) ?_)
   | (show WPl _ _ _ _ _ _ _ (⟨_, .load _ _, _, _, _, _⟩ :: _) _; first | refine WPl.rdX (ReadR.loadE rfl hasA (by assumption)) ?_ | refine WPl.rdX (ReadR.loadES (by assumption) (by first | assumption | omega) rfl hasA) ?_)
   | (show WPl _ _ _ _ _ _ _ (⟨_, .slice _ _ _ _ _, _, _, _, _⟩ :: _) _; first | refine WPl.rdX (ReadR.sliceH rfl rfl hasA (by omega)) ?_ | refine WPl.rdX (ReadR.sliceL rfl rfl hasA (by omega)) ?_ | refine WPl.rdX (ReadR.sliceLH rfl rfl rfl hasA (by omega) (by omega)) ?_)
   | (refine WPl.spQ (fun hc => ?_) (fun hc => ?_) <;> try exact prA)
   | fail)
  refine WPq.rowPre hjo takeA ?_
  have e3 : (hys o).take (j * 20) = hys (o.take n.toNat) := by
    have h3 := hys_sub (l := o) (k := 0) (j := j) (by omega)
    rw [Nat.zero_mul, List.drop_zero, List.drop_zero] at h3
    rw [h3, hj]
    congr 1
    rw [List.length_take]
    rcases Nat.le_total n.toNat o.length with h | h
    · rw [Nat.min_eq_left h]
    · rw [Nat.min_eq_right h, List.take_of_length_le h, List.take_of_length_le (Nat.le_refl _)]
  rw [e3, hj]
  exact WPq.dX (vs := [_]) [rowN 97 20 (subv 20 v 0 (o.take n.toNat).length) (o.take n.toNat).length (hys (o.take n.toNat)), (bx gT 155 (txc most m all)), mp hyM m L] ⟨o, subv_one' hone, rfl, hpo, hso⟩
end
end Go.Proofs.Ytncgponcedkihaa
