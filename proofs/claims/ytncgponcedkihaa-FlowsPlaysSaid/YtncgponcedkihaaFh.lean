/- Layer 23 (flows): the list of flows. -/
import Derived.Test.YtncgponcedkihaaFg
namespace Go.Proofs.Ytncgponcedkihaa
open Go.RowKit
set_option linter.unusedSimpArgs false
set_option linter.unusedVariables false
set_option maxRecDepth 20000
set_option maxHeartbeats 4000000
attribute [local irreducible] WPc WPl WPq ReadR OpT BinR HasS bx rdN rowN Take Takes Prov Triple ResF BuildP Done ag Int.decLt Int.decLe Int.instDecidableEq
open Go.Sort Go.Shelf
instance : Inhabited (Fl × En) := ⟨(Fl.none, En.zero)⟩
instance hdElt : EltN Try.prog 75 59 := ⟨by kernel_rfl⟩
theorem perm_mid3 {α : Type} {a : α} {A B : List α} : ([a] ++ (A ++ B)).Perm (A ++ a :: B) := by
  have h := (List.perm_middle (a := a) (l₁ := A) (l₂ := B)).symm
  simpa using h
abbrev hdE (x : Fl × En) : Ch := flc x.1 ++ enC x.2
theorem hdE_len (x : Fl × En) : (flat (hdE x)).length = 59 := by simp [flat_eq, x.1.src.len, x.1.dst.len, x.2.ad.len, u8s_length]
theorem hdE_fok (x : Fl × En) : FOk (hdE x) := by
  have := x.1.src.len
  have := x.1.dst.len
  have := x.2.ad.len
  exact fokA
def fds (l : LL) : List Value := (l.map fun h => flat (hdE h)).flatten
theorem fds_len {l : LL} : (fds l).length = l.length * 59 := rows_len hdE_len
theorem fds_drop {l : LL} {i : Nat} {h : Fl × En} (hx : l[i]? = some h) : ((fds l).drop (i * 59)).take 59 = flat (hdE h) := by
  unfold fds; exact rows_drop (c := hdE) hdE_len hx
theorem fds_app {A B : LL} : fds A ++ fds B = fds (A ++ B) := by unfold fds; rw [List.map_append, List.flatten_append]
theorem fds_one {h : Fl × En} : fds [h] = flat (hdE h) := by simp [fds]
def hdC (x y : Fl × En) : Int := if flLt x.1 y.1 then -1 else 1
theorem hdC_lt (x y : Fl × En) : ltOf hdC x y = ltOf (fun a b : Fl × En => flC a.1 b.1) x y := by
  unfold ltOf hdC flLt
  by_cases h : flC x.1 y.1 < 0 <;> simp [h]
theorem hdC_swo : SWO (ltOf hdC) := by
  have e : ltOf hdC = ltOf (fun a b : Fl × En => flC a.1 b.1) := funext fun x => funext fun y => hdC_lt x y
  rw [e]
  exact (TC.fl.pull (fun a : Fl × En => a.1)).swo
theorem flist1_t (a b : Fl × En) : Triple Try.prog 71 #[ag (hdE a), ag (hdE b)] [] (RVal (.int .i64 (hdC a b))) := by
  obtain ⟨af, ae⟩ := a
  obtain ⟨bf, be⟩ := b
  have l1 := af.src.len
  have l2 := af.dst.len
  have l3 := ae.ad.len
  have l4 := bf.src.len
  have l5 := bf.dst.len
  have l6 := be.ad.len
  have c1 := fless_t af bf
  unfold hdC
  dsimp only
  cases hb : flLt af bf with
  | true =>
    rw [hb] at c1
    refine Triple.enter Try.func71 rfl Try.ntmps71 rfl (fun W => ?_)
    dsimp only [argsF, Nat.reduceAdd]
    repeat' (first
     | refine WPl.nil ?_ | refine WPq.then ?_ | refine WPq.thenR ?_ | refine WPq.thenE ?_ | refine WPq.blockN ?_ | refine WPq.blockR ?_ | refine WPq.blockE ?_ | refine WPq.blockO rfl ?_ | refine WPc.seq ?_ | refine WPc.block ?_ | refine WPc.ret ?_ | refine WPc.exit ?_ | refine WPc.skip ?_ | refine WPc.region ?_
     | (refine isCond ?_; first | refine WPc.cT ?_ | refine WPc.cF ?_ | (refine WPc.cQ (fun hc => ?_) (fun hc => ?_) <;> try exact prA))
     | (refine isC 9 ?_; refine WPl.cV (c1) ?_)
     | (refine isOp ?_; first | refine WPl.rd ?_ | refine WPl.sk ?_ | refine WPl.rdB ?_)
     | (refine isBx ?_; refine WPl.nw fun g => ?_)
     | (show WPl _ _ _ _ _ _ _ (⟨_, .indexAddr _ _ _, _, _, _, _⟩ :: _) _; refine WPl.rdX (ReadR.indexE rfl rfl hasA (by first | assumption | omega)) ?_)
     | (show WPl _ _ _ _ _ _ _ (⟨_, .fieldAddr _ _ _, _, _, _, _⟩ :: _) _; refine WPl.rdX (ReadR.fieldE rfl hasA (by first | assumption | omega)) ?_)
     | (show WPl _ _ _ _ _ _ _ (⟨_, .load _ _, _, _, _, _⟩ :: _) _; first | refine WPl.rdX (ReadR.loadE rfl hasA (by assumption)) ?_ | refine WPl.rdX (ReadR.loadES (by assumption) (by first | assumption | omega) rfl hasA) ?_)
     | (show WPl _ _ _ _ _ _ _ (⟨_, .slice _ _ _ _ _, _, _, _, _⟩ :: _) _; first | refine WPl.rdX (ReadR.sliceH rfl rfl hasA (by omega)) ?_ | refine WPl.rdX (ReadR.sliceL rfl rfl hasA (by omega)) ?_ | refine WPl.rdX (ReadR.sliceLH rfl rfl rfl hasA (by omega) (by omega)) ?_)
     | (refine WPl.spQ (fun hc => ?_) (fun hc => ?_) <;> try exact prA)
     | fail)
    exact WPq.dV
  | false =>
    rw [hb] at c1
    refine Triple.enter Try.func71 rfl Try.ntmps71 rfl (fun W => ?_)
    dsimp only [argsF, Nat.reduceAdd]
    repeat' (first
     | refine WPl.nil ?_ | refine WPq.then ?_ | refine WPq.thenR ?_ | refine WPq.thenE ?_ | refine WPq.blockN ?_ | refine WPq.blockR ?_ | refine WPq.blockE ?_ | refine WPq.blockO rfl ?_ | refine WPc.seq ?_ | refine WPc.block ?_ | refine WPc.ret ?_ | refine WPc.exit ?_ | refine WPc.skip ?_ | refine WPc.region ?_
     | (refine isCond ?_; first | refine WPc.cT ?_ | refine WPc.cF ?_ | (refine WPc.cQ (fun hc => ?_) (fun hc => ?_) <;> try exact prA))
     | (refine isC 9 ?_; refine WPl.cV (c1) ?_)
     | (refine isOp ?_; first | refine WPl.rd ?_ | refine WPl.sk ?_ | refine WPl.rdB ?_)
     | (refine isBx ?_; refine WPl.nw fun g => ?_)
     | (show WPl _ _ _ _ _ _ _ (⟨_, .indexAddr _ _ _, _, _, _, _⟩ :: _) _; refine WPl.rdX (ReadR.indexE rfl rfl hasA (by first | assumption | omega)) ?_)
     | (show WPl _ _ _ _ _ _ _ (⟨_, .fieldAddr _ _ _, _, _, _, _⟩ :: _) _; refine WPl.rdX (ReadR.fieldE rfl hasA (by first | assumption | omega)) ?_)
     | (show WPl _ _ _ _ _ _ _ (⟨_, .load _ _, _, _, _, _⟩ :: _) _; first | refine WPl.rdX (ReadR.loadE rfl hasA (by assumption)) ?_ | refine WPl.rdX (ReadR.loadES (by assumption) (by first | assumption | omega) rfl hasA) ?_)
     | (show WPl _ _ _ _ _ _ _ (⟨_, .slice _ _ _ _ _, _, _, _, _⟩ :: _) _; first | refine WPl.rdX (ReadR.sliceH rfl rfl hasA (by omega)) ?_ | refine WPl.rdX (ReadR.sliceL rfl rfl hasA (by omega)) ?_ | refine WPl.rdX (ReadR.sliceLH rfl rfl rfl hasA (by omega) (by omega)) ?_)
     | (refine WPl.spQ (fun hc => ?_) (fun hc => ?_) <;> try exact prA)
     | fail)
    exact WPq.dV
theorem sortHd_t (v : Value) (l : LL) (hl : l.length ≤ 100000) :
    Triple Try.prog 70 #[v, .func (.func 71) #[] #[]] [rowN 75 59 v l.length (fds l)] (RSortP 75 59 (fun h => flat (hdE h)) hdC v l) :=
  sortP_t Try.sortF70 (fun w => TyI.run_isAgg (P := Try.prog) (T := 75) w) (fun w => TyI.run_sizeOf (P := Try.prog) (T := 75) w) (fun h => flat (hdE h)) hdE_len (fun h v hv => (hdE_fok h).one v hv) hdC hdC_swo 71 (by kernel_rfl) (fun x y => by have h := flist1_t x y; unfold ag at h; exact h) v l (by omega)
attribute [local irreducible] mp rg mpe mput mget mfind mdel
structure FlSt where
  td : LL
  dn : LL
  cu : Option (Fl × En)
  vo : Value
section
variable (gT m1 m2 : Nat) (most : Int) (L : LL)
def RFList (A : Asn) (m1 : Nat) (L : LL) : Value → List Asn → Prop := fun v Γ => ∃ o : LL, v.oneCell' = true ∧ Γ = [rowN 75 59 v o.length (fds o), A, mp flM m1 L] ∧ o.Perm L ∧ o.Pairwise (fun a b => ltOf hdC b a = false)
theorem flist_t (hL : L.length ≤ 4096) : Triple Try.prog 29 #[hPf gT] [(bx gT 141 (fxc most m1 m2)), mp flM m1 L] (RFList ((bx gT 141 (fxc most m1 m2))) m1 L) := by
  refine Triple.enter Try.func29 rfl Try.ntmps29 rfl (fun W => ?_)
  dsimp only [argsF, Nat.reduceAdd]
  refine WPc.nilRowN 75 59 ?_
  repeat' (first
   | refine WPl.nil ?_ | refine WPq.then ?_ | refine WPq.thenR ?_ | refine WPq.thenE ?_ | refine WPq.blockN ?_ | refine WPq.blockR ?_ | refine WPq.blockE ?_ | refine WPq.blockO rfl ?_ | refine WPc.seq ?_ | refine WPc.block ?_ | refine WPc.ret ?_ | refine WPc.exit ?_ | refine WPc.skip ?_ | refine WPc.region ?_
   | (refine isCond ?_; first | refine WPc.cT ?_ | refine WPc.cF ?_ | (refine WPc.cQ (fun hc => ?_) (fun hc => ?_) <;> try exact prA))
   | (refine isD 7 ?_; refine WPl.rdX (readP) ?_)
   | (refine isD 12 ?_; refine WPl.mrange fun r => ?_)
   | (refine isOp ?_; first | refine WPl.rd ?_ | refine WPl.sk ?_ | refine WPl.rdB ?_)
   | (refine isAl ?_; refine WPl.nw fun g => ?_)
   | (refine isSt ?_; first | refine WPl.st1 ?_ | refine WPl.stA ?_ | refine WPl.stEB ?_ | refine WPl.stRB ?_)
   | (show WPl _ _ _ _ _ _ _ (⟨_, .indexAddr _ _ _, _, _, _, _⟩ :: _) _; refine WPl.rdX (ReadR.indexE rfl rfl hasA (by first | assumption | omega)) ?_)
   | (show WPl _ _ _ _ _ _ _ (⟨_, .fieldAddr _ _ _, _, _, _, _⟩ :: _) _; refine WPl.rdX (ReadR.fieldE rfl hasA (by first | assumption | omega)) ?_)
   | (show WPl _ _ _ _ _ _ _ (⟨_, .load _ _, _, _, _, _⟩ :: _) _; first | refine WPl.rdX (ReadR.loadE rfl hasA (by assumption)) ?_ | refine WPl.rdX (ReadR.loadES (by assumption) (by first | assumption | omega) rfl hasA) ?_)
   | (show WPl _ _ _ _ _ _ _ (⟨_, .slice _ _ _ _ _, _, _, _, _⟩ :: _) _; first | refine WPl.rdX (ReadR.sliceH rfl rfl hasA (by omega)) ?_ | refine WPl.rdX (ReadR.sliceL rfl rfl hasA (by omega)) ?_ | refine WPl.rdX (ReadR.sliceLH rfl rfl rfl hasA (by omega) (by omega)) ?_)
   | (refine WPl.spQ (fun hc => ?_) (fun hc => ?_) <;> try exact prA)
   | fail)
  first | refine WPc.loop (σ := FlSt) (fun st => (st.dn ++ st.td).Perm L ∧ st.vo.oneCell' = true) (fun st => [rowN 75 59 st.vo st.dn.length (fds st.dn), (bx gT 141 (fxc most m1 m2)), rg flM m1 r L st.td st.cu]) (fun st => [(0, hPf gT), (3, st.vo), (12, .pointer (some ⟨r, 0, none⟩))]) (fun st => st.td.length) (⟨L, [], none, .slice none 0 0⟩) ?_ takesA frsA (fun st km hx hk => ?_)
  · exact ⟨.refl _, rfl⟩
  obtain ⟨td, dn, cu, vo⟩ := st
  obtain ⟨hp, hone⟩ := hx
  dsimp only at hp hone hk ⊢
  have hkm : km = td.length := hk
  have hol : dn.length ≤ 100000 := by
    have h1 := hp.length_eq
    simp at h1; omega
  repeat' (first
   | refine WPl.nil ?_ | refine WPq.then ?_ | refine WPq.thenR ?_ | refine WPq.thenE ?_ | refine WPq.blockN ?_ | refine WPq.blockR ?_ | refine WPq.blockE ?_ | refine WPq.blockO rfl ?_ | refine WPc.seq ?_ | refine WPc.block ?_ | refine WPc.ret ?_ | refine WPc.exit ?_ | refine WPc.skip ?_ | refine WPc.region ?_
   | (refine isCond ?_; first | refine WPc.cT ?_ | refine WPc.cF ?_ | (refine WPc.cQ (fun hc => ?_) (fun hc => ?_) <;> try exact prA))
   | (refine isD 13 ?_; refine WPl.mnext (M := flM) (fun k => ag (flc k)) (fun s => ag (enC s)) (fun h0 => ?_) (fun A y B hAB => ?_); rotate_left; have l1 := y.1.src.len; have l2 := y.1.dst.len; have l3 := y.2.ad.len; rotate_left)
   | (refine isD 15 ?_; refine WPl.rdX (ReadR.entry (kv := ag (flc y.1)) (vv := ag (enC y.2)) rfl rfl memA rfl) ?_)
   | (refine isC 25 ?_; refine WPl.cXs (sortHd_t vo dn hol) fun v Γ1 hR => ?_; obtain ⟨o', rfl, rfl, hpo, hso⟩ := hR; (try dsimp only [putF, List.cons_append, List.nil_append]))
   | (refine isD 22 ?_; refine WPl.litS1 fun wv hwv => ?_)
   | (refine isD 23 ?_; refine WPl.appN (m := dn.length) (m2 := 1) (xs := fds dn) (ys := flat (hdE y)) (by rw [hdE_len]) (hdE_fok y).one (by omega) fun v2 hv2 => ?_)
   | (refine isOp ?_; first | refine WPl.rd ?_ | refine WPl.sk ?_ | refine WPl.rdB ?_)
   | (refine isAl ?_; refine WPl.nw fun g => ?_)
   | (refine isSt ?_; first | refine WPl.st1 ?_ | refine WPl.stA ?_ | refine WPl.stEB ?_ | refine WPl.stRB ?_)
   | (show WPl _ _ _ _ _ _ _ (⟨_, .indexAddr _ _ _, _, _, _, _⟩ :: _) _; refine WPl.rdX (ReadR.indexE rfl rfl hasA (by first | assumption | omega)) ?_)
   | (show WPl _ _ _ _ _ _ _ (⟨_, .fieldAddr _ _ _, _, _, _, _⟩ :: _) _; refine WPl.rdX (ReadR.fieldE rfl hasA (by first | assumption | omega)) ?_)
   | (show WPl _ _ _ _ _ _ _ (⟨_, .load _ _, _, _, _, _⟩ :: _) _; first | refine WPl.rdX (ReadR.loadE rfl hasA (by assumption)) ?_ | refine WPl.rdX (ReadR.loadES (by assumption) (by first | assumption | omega) rfl hasA) ?_)
   | (show WPl _ _ _ _ _ _ _ (⟨_, .slice _ _ _ _ _, _, _, _, _⟩ :: _) _; first | refine WPl.rdX (ReadR.sliceH rfl rfl hasA (by omega)) ?_ | refine WPl.rdX (ReadR.sliceL rfl rfl hasA (by omega)) ?_ | refine WPl.rdX (ReadR.sliceLH rfl rfl rfl hasA (by omega) (by omega)) ?_)
   | (refine WPl.spQ (fun hc => ?_) (fun hc => ?_) <;> try exact prA)
   | fail)
  · subst h0
    rw [List.append_nil] at hp
    refine WPq.rgOut (M := flM) (m := m1) (r := r) (l := L) (td := []) (c := cu) takeA ?_
    exact WPq.dX (vs := [_]) [rowN 75 59 vo o'.length (fds o'), (bx gT 141 (fxc most m1 m2)), mp flM m1 L] ⟨o', hone, rfl, hpo.trans hp, hso⟩
  · have e1 : fds dn ++ flat (hdE y) = fds (dn ++ [y]) := by rw [← fds_app, fds_one]
    have e2 : dn.length + 1 = (dn ++ [y]).length := by simp
    rw [e1, e2]
    exact WPq.rnd ⟨A ++ B, dn ++ [y], some y, v2⟩ ⟨by
      refine List.Perm.trans ?_ hp
      dsimp only
      rw [hAB, List.append_assoc]
      exact List.Perm.append_left dn perm_mid3, hv2⟩ (by dsimp only; rw [hkm, hAB]; simp)
end
end Go.Proofs.Ytncgponcedkihaa
