/- What the row of cachePlays_holds needs: part 9. -/
import Derived.Test.YtepmikgjnmjheaaKp8
import Derived.Test.YtepmikgjnmjheaaKp7
/- Reference of layer 5 (cache): room. -/
namespace Go.Proofs.Ytepmikgjnmjheaa
open Go.RowKit
set_option linter.unusedSimpArgs false
set_option linter.unusedVariables false
set_option maxRecDepth 20000
set_option maxHeartbeats 4000000
attribute [local irreducible] WPc WPl WPq ReadR OpT BinR HasS bx rdN rowN Take Takes Prov Triple ResF BuildP Done ag Int.decLt Int.decLe Int.instDecidableEq
attribute [local irreducible] mp rmp rg rgo bag vrow secs mput mget mfind mdel intsV skeys vault pickG fburn fb1 valsV zAt zB vers crashT intsN frs rfs
abbrev krA (gY gX : Nat) (K : KS) (R : RfS) : List Asn := [bx gY 73 (krc gX K.v (K.hand : Int)), rowN 97 5 K.v K.fs.length (rfs K.fs), bx gX 51 (rdc R.vL R.vA R.vB R.fu R.wr), rowN 31 1 R.vL R.L.length (valsV R.L), rowN 3 1 R.vA R.Z.length (intsV (zAt R.Z)), rowN 31 1 R.vB R.Z.length (valsV (zB R.Z)), vault R.rs]
def RKRoom (gY gX n m p k : Nat) (r : Cv × Dv × Option Nat × Int) : Value → List Asn → Prop := fun v Γ => ∃ K R, v = .tuple #[.int .i64 (oint r.2.2.1), .int .i64 r.2.2.2] ∧ K.vw = r.1 ∧ R.vw = r.2.1 ∧ KInv n m p R.rs K ∧ RInv n k R ∧ (∀ i, r.2.2.1 = some i → r.2.2.2 = 0 ∧ ∃ f, K.fs[i]? = some f ∧ f.no < 0) ∧ (r.2.2.1 = none → r.2.2.2 ≠ 0) ∧ Γ = krA gY gX K R
theorem kempty_some {K : KS} {i : Nat} {f : FR} (hf : K.fs[i]? = some f) (h0 : f.no < 0) (hno : ∀ j g, j < i → K.fs[j]? = some g → ¬ g.no < 0) : K.vw.empty = some i := by
  unfold Cv.empty KS.vw
  rw [List.findIdx?_map]
  refine find_some hf ?_ fun j g hj hg => ?_
  · show Option.isNone f.vw = true
    rw [FR.vw_none h0]; rfl
  · show Option.isNone g.vw = false
    rw [FR.vw_some (hno j g hj hg)]; rfl
theorem kempty_none {K : KS} (hno : ∀ (j : Nat) (g : FR), K.fs[j]? = some g → ¬ g.no < 0) : K.vw.empty = none := by
  unfold Cv.empty KS.vw
  rw [List.findIdx?_map]
  refine find_none fun j g hg => ?_
  show Option.isNone g.vw = false
  rw [FR.vw_some (hno j g hg)]; rfl
structure VOk (n m p : Nat) (rs : List (Value × Sec)) (hand : Nat) (V : List (Option Fp) × Option (Nat × Nat)) (st : Nat × List FR) : Prop where
  k : st.1 ≤ 2 * m
  l : st.2.length = m
  each : ∀ f ∈ st.2, FRInv n p rs f
  here : ∀ f ∈ st.2, ¬ f.no < 0
  e : vicP m (2 * m - st.1) (st.2.map FR.vw) ((hand + st.1) % m) = V
section
variable (gY gX n m p k : Nat) (K : KS) (R : RfS)
theorem kroom_t (h : KInv n m p R.rs K) (hr : RInv n k R) (hn : n ≤ 1600) (h8 : 8 ≤ m) (hm : m ≤ 64) (hkb : k ≤ 80000) :
    Triple Try.prog 76 #[hC gY] (krA gY gX K R) (RKRoom gY gX n m p (k + 1) (K.vw.room R.vw)) := by
  have hlen := h.len
  have hhand := h.hand
  have hL := rfs_len (l := K.fs)
  rw [show krA gY gX K R = [bx gY 73 (krc gX K.v (K.hand : Int)), rowN 97 5 K.v m (rfs K.fs), bx gX 51 (rdc R.vL R.vA R.vB R.fu R.wr), rowN 31 1 R.vL R.L.length (valsV R.L), rowN 3 1 R.vA R.Z.length (intsV (zAt R.Z)), rowN 31 1 R.vB R.Z.length (valsV (zB R.Z)), vault R.rs] by rw [← hlen]]
  refine Triple.enter Try.func76 rfl Try.ntmps76 rfl (fun W => ?_)
  dsimp only [argsF, Nat.reduceAdd]
  repeat' (first
   | refine WPl.nil ?_ | refine WPq.then ?_ | refine WPq.thenR ?_ | refine WPq.thenE ?_ | refine WPq.blockN ?_ | refine WPq.blockR ?_ | refine WPq.blockE ?_ | refine WPq.blockO rfl ?_ | refine WPc.seq ?_ | refine WPc.block ?_ | refine WPc.ret ?_ | refine WPc.exit ?_ | refine WPc.skip ?_ | refine WPc.region ?_
   | (refine isCond ?_; first | refine WPc.cT ?_ | refine WPc.cF ?_ | (refine WPc.cQ (fun hc => ?_) (fun hc => ?_) <;> try exact prA))
   | (refine isD 12 ?_; refine WPl.rdX (ReadR.loadO memA rfl rfl) ?_)
   | (refine isOp ?_; first | refine WPl.rd ?_ | refine WPl.sk ?_ | refine WPl.rdB ?_)
   | (refine isSt ?_; first | refine WPl.st1 ?_ | refine WPl.stA ?_ | refine WPl.stEB ?_ | refine WPl.stRB ?_)
   | (show WPl _ _ _ _ _ _ _ (⟨_, .indexAddr _ _ _, _, _, _, _⟩ :: _) _; refine WPl.rdX (ReadR.indexE rfl rfl hasA (by first | assumption | omega)) ?_)
   | (show WPl _ _ _ _ _ _ _ (⟨_, .fieldAddr _ _ _, _, _, _, _⟩ :: _) _; refine WPl.rdX (ReadR.fieldE rfl hasA (by first | assumption | omega)) ?_)
   | (show WPl _ _ _ _ _ _ _ (⟨_, .load _ _, _, _, _, _⟩ :: _) _; first | refine WPl.rdX (ReadR.loadE rfl hasA (by assumption)) ?_ | refine WPl.rdX (ReadR.loadES (by assumption) (by first | assumption | omega) rfl hasA) ?_)
   | (show WPl _ _ _ _ _ _ _ (⟨_, .slice _ _ _ _ _, _, _, _, _⟩ :: _) _; first | refine WPl.rdX (ReadR.sliceH rfl rfl hasA (by omega)) ?_ | refine WPl.rdX (ReadR.sliceL rfl rfl hasA (by omega)) ?_ | refine WPl.rdX (ReadR.sliceLH rfl rfl rfl hasA (by omega) (by omega)) ?_)
   | (refine WPl.spQ (fun hc => ?_) (fun hc => ?_) <;> try exact prA)
   | fail)
  first | refine WPc.loop (σ := Nat) (fun st => st ≤ m ∧ ∀ j f, j < st → K.fs[j]? = some f → ¬ f.no < 0) (fun st => [bx gY 73 (krc gX K.v (K.hand : Int)), rowN 97 5 K.v m (rfs K.fs), bx gX 51 (rdc R.vL R.vA R.vB R.fu R.wr), rowN 31 1 R.vL R.L.length (valsV R.L), rowN 3 1 R.vA R.Z.length (intsV (zAt R.Z)), rowN 31 1 R.vB R.Z.length (valsV (zB R.Z)), vault R.rs]) (fun st => [(0, hC gY), (4, .int .i64 (m : Int)), (5, .int .i64 (st : Int))]) (fun st => m - st) (0) ?_ takesA frsA (fun st km hx hk => ?_)
  · exact ⟨Nat.zero_le _, fun j f hj => absurd hj (Nat.not_lt_zero _)⟩
  obtain ⟨i, rfl⟩ : ∃ i, i = st := ⟨_, rfl⟩
  obtain ⟨hi, hno⟩ := hx
  have hkm : km = m - i := hk
  clear hk
  by_cases him : i < m
  · obtain ⟨f, hf⟩ : ∃ f, K.fs[i]? = some f := ⟨_, List.getElem?_eq_getElem (by omega)⟩
    have c0 : (rfs K.fs)[i * 5 + 0]? = some (.int .i64 f.no) := rfs_cell hf (by omega)
    by_cases h0 : f.no < 0
    · have hem := kempty_some hf h0 hno
      have hroom : K.vw.room R.vw = (K.vw, R.vw, some i, 0) := by unfold Cv.room; rw [hem]
      rw [hroom]
      repeat' (first
       | refine WPl.nil ?_ | refine WPq.then ?_ | refine WPq.thenR ?_ | refine WPq.thenE ?_ | refine WPq.blockN ?_ | refine WPq.blockR ?_ | refine WPq.blockE ?_ | refine WPq.blockO rfl ?_ | refine WPc.seq ?_ | refine WPc.block ?_ | refine WPc.ret ?_ | refine WPc.exit ?_ | refine WPc.skip ?_ | refine WPc.region ?_
       | (refine isCond ?_; first | refine WPc.cT ?_ | refine WPc.cF ?_ | (refine WPc.cQ (fun hc => ?_) (fun hc => ?_) <;> try first | exact prA | (exfalso; first | omega)))
       | (refine isD 24 ?_; refine WPl.rdX (ReadR.indexE (i := i) rfl rfl hasA him) ?_)
       | (refine isD 25 ?_; refine WPl.rdX (ReadR.fieldE rfl hasA (by omega)) ?_)
       | (refine isD 26 ?_; refine WPl.rdX (ReadR.loadE rfl hasA c0) ?_)
       | (refine isD 27 ?_; refine WPl.rdX (ReadR.binE rfl rfl BinR.lss (congrArg Value.bool (decide_eq_true h0))) ?_)
       | (refine isOp ?_; first | refine WPl.rd ?_ | refine WPl.sk ?_ | refine WPl.rdB ?_)
       | (refine isSt ?_; first | refine WPl.st1 ?_ | refine WPl.stA ?_ | refine WPl.stEB ?_ | refine WPl.stRB ?_)
       | (show WPl _ _ _ _ _ _ _ (⟨_, .indexAddr _ _ _, _, _, _, _⟩ :: _) _; refine WPl.rdX (ReadR.indexE rfl rfl hasA (by first | assumption | omega)) ?_)
       | (show WPl _ _ _ _ _ _ _ (⟨_, .fieldAddr _ _ _, _, _, _, _⟩ :: _) _; refine WPl.rdX (ReadR.fieldE rfl hasA (by first | assumption | omega)) ?_)
       | (show WPl _ _ _ _ _ _ _ (⟨_, .load _ _, _, _, _, _⟩ :: _) _; first | refine WPl.rdX (ReadR.loadE rfl hasA (by assumption)) ?_ | refine WPl.rdX (ReadR.loadES (by assumption) (by first | assumption | omega) rfl hasA) ?_)
       | (show WPl _ _ _ _ _ _ _ (⟨_, .slice _ _ _ _ _, _, _, _, _⟩ :: _) _; first | refine WPl.rdX (ReadR.sliceH rfl rfl hasA (by omega)) ?_ | refine WPl.rdX (ReadR.sliceL rfl rfl hasA (by omega)) ?_ | refine WPl.rdX (ReadR.sliceLH rfl rfl rfl hasA (by omega) (by omega)) ?_)
       | (refine WPl.spQ (fun hc => ?_) (fun hc => ?_) <;> try first | exact prA | (exfalso; first | omega))
       | fail)
      refine WPq.dX (ho := ownsW) (vs := [.int .i64 (i : Int), .int .i64 0]) [bx gY 73 (krc gX K.v (K.hand : Int)), rowN 97 5 K.v m (rfs K.fs), bx gX 51 (rdc R.vL R.vA R.vB R.fu R.wr), rowN 31 1 R.vL R.L.length (valsV R.L), rowN 3 1 R.vA R.Z.length (intsV (zAt R.Z)), rowN 31 1 R.vB R.Z.length (valsV (zB R.Z)), vault R.rs] ⟨K, R, rfl, rfl, rfl, h, hr.mono (Nat.le_succ _), fun a ha => ⟨rfl, ?_⟩, fun ha => (by cases ha), ?_⟩
      · cases ha
        exact ⟨f, hf, h0⟩
      · rw [← hlen]
    · skip
      repeat' (first
       | refine WPl.nil ?_ | refine WPq.then ?_ | refine WPq.thenR ?_ | refine WPq.thenE ?_ | refine WPq.blockN ?_ | refine WPq.blockR ?_ | refine WPq.blockE ?_ | refine WPq.blockO rfl ?_ | refine WPc.seq ?_ | refine WPc.block ?_ | refine WPc.ret ?_ | refine WPc.exit ?_ | refine WPc.skip ?_ | refine WPc.region ?_
       | (refine isCond ?_; first | refine WPc.cT ?_ | refine WPc.cF ?_ | (refine WPc.cQ (fun hc => ?_) (fun hc => ?_) <;> try first | exact prA | (exfalso; first | omega)))
       | (refine isD 24 ?_; refine WPl.rdX (ReadR.indexE (i := i) rfl rfl hasA him) ?_)
       | (refine isD 25 ?_; refine WPl.rdX (ReadR.fieldE rfl hasA (by omega)) ?_)
       | (refine isD 26 ?_; refine WPl.rdX (ReadR.loadE rfl hasA c0) ?_)
       | (refine isD 27 ?_; refine WPl.rdX (ReadR.binE rfl rfl BinR.lss (congrArg Value.bool (decide_eq_false h0))) ?_)
       | (refine isOp ?_; first | refine WPl.rd ?_ | refine WPl.sk ?_ | refine WPl.rdB ?_)
       | (refine isSt ?_; first | refine WPl.st1 ?_ | refine WPl.stA ?_ | refine WPl.stEB ?_ | refine WPl.stRB ?_)
       | (show WPl _ _ _ _ _ _ _ (⟨_, .indexAddr _ _ _, _, _, _, _⟩ :: _) _; refine WPl.rdX (ReadR.indexE rfl rfl hasA (by first | assumption | omega)) ?_)
       | (show WPl _ _ _ _ _ _ _ (⟨_, .fieldAddr _ _ _, _, _, _, _⟩ :: _) _; refine WPl.rdX (ReadR.fieldE rfl hasA (by first | assumption | omega)) ?_)
       | (show WPl _ _ _ _ _ _ _ (⟨_, .load _ _, _, _, _, _⟩ :: _) _; first | refine WPl.rdX (ReadR.loadE rfl hasA (by assumption)) ?_ | refine WPl.rdX (ReadR.loadES (by assumption) (by first | assumption | omega) rfl hasA) ?_)
       | (show WPl _ _ _ _ _ _ _ (⟨_, .slice _ _ _ _ _, _, _, _, _⟩ :: _) _; first | refine WPl.rdX (ReadR.sliceH rfl rfl hasA (by omega)) ?_ | refine WPl.rdX (ReadR.sliceL rfl rfl hasA (by omega)) ?_ | refine WPl.rdX (ReadR.sliceLH rfl rfl rfl hasA (by omega) (by omega)) ?_)
       | (refine WPl.spQ (fun hc => ?_) (fun hc => ?_) <;> try first | exact prA | (exfalso; first | omega))
       | fail)
      refine WPq.rnd (i + 1) ⟨him, fun j g hj hg => ?_⟩ (by omega)
      by_cases hji : j = i
      · subst hji
        rw [hf] at hg
        cases hg
        exact h0
      · exact hno j g (by omega) hg
  have hall : ∀ (j : Nat) (g : FR), K.fs[j]? = some g → ¬ g.no < 0 := fun j g hg => hno j g (by have := (List.getElem?_eq_some_iff.1 hg).1; omega) hg
  have hem := kempty_none hall
  have hvl : (K.fs.map FR.vw).length = m := by rw [List.length_map]; exact hlen
  obtain ⟨V, hV⟩ : ∃ V, V = vicP m (2 * m) (K.fs.map FR.vw) K.hand := ⟨_, rfl⟩
  have hroom : K.vw.room R.vw = match V.2 with | none => (⟨V.1, K.hand⟩, R.vw, none, 11) | some x => giveUp V.1 x.1 x.2 R.vw := by
    unfold Cv.room
    rw [hem]
    have hvic : K.vw.vic = V := by
      rw [hV]
      show vicP (K.fs.map FR.vw).length (2 * (K.fs.map FR.vw).length) (K.fs.map FR.vw) K.hand = _
      rw [hvl]
    dsimp only
    rw [hvic]; rfl
  rw [hroom]
  repeat' (first
   | refine WPl.nil ?_ | refine WPq.then ?_ | refine WPq.thenR ?_ | refine WPq.thenE ?_ | refine WPq.blockN ?_ | refine WPq.blockR ?_ | refine WPq.blockE ?_ | refine WPq.blockO rfl ?_ | refine WPc.seq ?_ | refine WPc.block ?_ | refine WPc.ret ?_ | refine WPc.exit ?_ | refine WPc.skip ?_ | refine WPc.region ?_
   | (refine isCond ?_; first | refine WPc.cT ?_ | refine WPc.cF ?_ | (refine WPc.cQ (fun hc => ?_) (fun hc => ?_) <;> try first | exact prA | (exfalso; first | omega)))
   | (refine isOp ?_; first | refine WPl.rd ?_ | refine WPl.sk ?_ | refine WPl.rdB ?_)
   | (refine isSt ?_; first | refine WPl.st1 ?_ | refine WPl.stA ?_ | refine WPl.stEB ?_ | refine WPl.stRB ?_)
   | (show WPl _ _ _ _ _ _ _ (⟨_, .indexAddr _ _ _, _, _, _, _⟩ :: _) _; refine WPl.rdX (ReadR.indexE rfl rfl hasA (by first | assumption | omega)) ?_)
   | (show WPl _ _ _ _ _ _ _ (⟨_, .fieldAddr _ _ _, _, _, _, _⟩ :: _) _; refine WPl.rdX (ReadR.fieldE rfl hasA (by first | assumption | omega)) ?_)
   | (show WPl _ _ _ _ _ _ _ (⟨_, .load _ _, _, _, _, _⟩ :: _) _; first | refine WPl.rdX (ReadR.loadE rfl hasA (by assumption)) ?_ | refine WPl.rdX (ReadR.loadES (by assumption) (by first | assumption | omega) rfl hasA) ?_)
   | (show WPl _ _ _ _ _ _ _ (⟨_, .slice _ _ _ _ _, _, _, _, _⟩ :: _) _; first | refine WPl.rdX (ReadR.sliceH rfl rfl hasA (by omega)) ?_ | refine WPl.rdX (ReadR.sliceL rfl rfl hasA (by omega)) ?_ | refine WPl.rdX (ReadR.sliceLH rfl rfl rfl hasA (by omega) (by omega)) ?_)
   | (refine WPl.spQ (fun hc => ?_) (fun hc => ?_) <;> try first | exact prA | (exfalso; first | omega))
   | fail)
  first | refine WPc.loop (σ := Nat × List FR) (fun st => VOk n m p R.rs K.hand V st) (fun st => [bx gY 73 (krc gX K.v (K.hand : Int)), rowN 97 5 K.v m (rfs st.2), bx gX 51 (rdc R.vL R.vA R.vB R.fu R.wr), rowN 31 1 R.vL R.L.length (valsV R.L), rowN 3 1 R.vA R.Z.length (intsV (zAt R.Z)), rowN 31 1 R.vB R.Z.length (valsV (zB R.Z)), vault R.rs]) (fun st => [(0, hC gY), (4, .int .i64 (m : Int)), (6, .int .i64 (st.1 : Int))]) (fun st => 2 * m - st.1) ((0, K.fs)) ?_ takesA frsA (fun st km hx hk => ?_)
  · refine ⟨Nat.zero_le _, hlen, h.each, fun f hf => ?_, ?_⟩
    · obtain ⟨j, hj⟩ := List.getElem?_of_mem hf
      exact hall j f hj
    · show vicP m (2 * m - 0) (K.fs.map FR.vw) ((K.hand + 0) % m) = V
      rw [Nat.sub_zero, Nat.add_zero, Nat.mod_eq_of_lt hhand, hV]
  clear hV hno hi hkm him hall hem hvl hroom
  obtain ⟨q, fs⟩ := st
  obtain ⟨hq, hfl, heach, hhere, heq⟩ := hx
  dsimp only at hq hfl heach hhere heq hk ⊢
  have hkm : km = 2 * m - q := hk
  clear hk
  have hL := rfs_len (l := fs)
  by_cases hlt : q < 2 * m
  · obtain ⟨i, hi⟩ : ∃ i, i = (K.hand + q) % m := ⟨_, rfl⟩
    rw [← hi] at heq
    have him : i < m := by rw [hi]; exact Nat.mod_lt _ (by omega)
    have hnx : (K.hand + (q + 1)) % m = (i + 1) % m := by rw [hi, ← Nat.add_assoc, Nat.mod_add_mod]
    have hmod : ((K.hand : Int) + (q : Int)) % (m : Int) = (i : Int) := by rw [hi, Int.natCast_emod, Int.natCast_add]
    have hmod2 : ((i : Int) + 1) % (m : Int) = (((i + 1) % m : Nat) : Int) := by rw [Int.natCast_emod]; rfl
    have hlt' : (q : Int) < 2 * (m : Int) := by omega
    obtain ⟨f, hf⟩ : ∃ f, fs[i]? = some f := ⟨_, List.getElem?_eq_getElem (by omega)⟩
    have hfn := hhere f (List.mem_of_getElem? hf)
    have hfi := heach f (List.mem_of_getElem? hf)
    have hfv := FR.vw_some hfn
    have hgv : (fs.map FR.vw)[i]? = some (some ⟨f.no, f.pins, f.dirty, f.used, f.s⟩) := by rw [List.getElem?_map, hf, Option.map_some, hfv]
    have c0 : (rfs fs)[i * 5 + 0]? = some (.int .i64 f.no) := rfs_cell hf (by omega)
    have c1 : (rfs fs)[i * 5 + 1]? = some (.int .i64 f.pins) := rfs_cell hf (by omega)
    have c2 : (rfs fs)[i * 5 + 2]? = some (.bool f.dirty) := rfs_cell hf (by omega)
    have c3 : (rfs fs)[i * 5 + 3]? = some (.bool f.used) := rfs_cell hf (by omega)
    have c4 : (rfs fs)[i * 5 + 4]? = some f.v := rfs_cell hf (by omega)
    obtain ⟨t, ht⟩ : ∃ t, 2 * m - q = t + 1 := ⟨2 * m - q - 1, by omega⟩
    have ht2 : 2 * m - (q + 1) = t := by omega
    have hv : vicP m (t + 1) (fs.map FR.vw) i = if 0 < f.pins then vicP m t (fs.map FR.vw) ((i + 1) % m) else if f.used = true then vicP m t ((fs.map FR.vw).set i (some ⟨f.no, f.pins, f.dirty, false, f.s⟩)) ((i + 1) % m) else (fs.map FR.vw, some (i, (i + 1) % m)) := by
      show (match (fs.map FR.vw)[i]? with | none => _ | some o => _) = _
      rw [hgv]; rfl
    rw [ht, hv] at heq
    by_cases hp : 0 < f.pins
    · rw [if_pos hp] at heq
      have hp' : f.pins > 0 := hp
      repeat' (first
       | refine WPl.nil ?_ | refine WPq.then ?_ | refine WPq.thenR ?_ | refine WPq.thenE ?_ | refine WPq.blockN ?_ | refine WPq.blockR ?_ | refine WPq.blockE ?_ | refine WPq.blockO rfl ?_ | refine WPc.seq ?_ | refine WPc.block ?_ | refine WPc.ret ?_ | refine WPc.exit ?_ | refine WPc.skip ?_ | refine WPc.region ?_
       | (refine isCond ?_; first | refine WPc.cT ?_ | refine WPc.cF ?_ | (refine WPc.cQ (fun hc => ?_) (fun hc => ?_) <;> try exact prA))
       | (refine isD 32 ?_; refine WPl.rdX (ReadR.binE rfl rfl BinR.lss (congrArg Value.bool (decide_eq_true hlt'))) ?_)
       | (refine isD 31 ?_; refine WPl.rdX (ReadR.binE rfl rfl (BinR.mulI (by omega) (by omega)) rfl) ?_)
       | (refine isD 40 ?_; refine WPl.rdX (ReadR.binE rfl rfl (BinR.addI (by omega) (by omega)) rfl) ?_)
       | (refine isD 42 ?_; refine WPl.rdX (ReadR.binE rfl rfl (BinR.remK (by omega) (by omega)) (congrArg (Value.int .i64) hmod)) ?_)
       | (refine isD 48 ?_; refine WPl.rdX (ReadR.indexE (i := i) rfl rfl hasA him) ?_)
       | (refine isD 49 ?_; refine WPl.rdX (ReadR.fieldE rfl hasA (by omega)) ?_)
       | (refine isD 50 ?_; refine WPl.rdX (ReadR.loadE rfl hasA c1) ?_)
       | (refine isD 51 ?_; refine WPl.rdX (ReadR.binE rfl rfl BinR.gtr (congrArg Value.bool (decide_eq_true hp'))) ?_)
       | (refine isOp ?_; first | refine WPl.rd ?_ | refine WPl.sk ?_ | refine WPl.rdB ?_)
       | (refine isSt ?_; first | refine WPl.st1 ?_ | refine WPl.stA ?_ | refine WPl.stEB ?_ | refine WPl.stRB ?_)
       | (show WPl _ _ _ _ _ _ _ (⟨_, .indexAddr _ _ _, _, _, _, _⟩ :: _) _; refine WPl.rdX (ReadR.indexE rfl rfl hasA (by first | assumption | omega)) ?_)
       | (show WPl _ _ _ _ _ _ _ (⟨_, .fieldAddr _ _ _, _, _, _, _⟩ :: _) _; refine WPl.rdX (ReadR.fieldE rfl hasA (by first | assumption | omega)) ?_)
       | (show WPl _ _ _ _ _ _ _ (⟨_, .load _ _, _, _, _, _⟩ :: _) _; first | refine WPl.rdX (ReadR.loadE rfl hasA (by assumption)) ?_ | refine WPl.rdX (ReadR.loadES (by assumption) (by first | assumption | omega) rfl hasA) ?_)
       | (show WPl _ _ _ _ _ _ _ (⟨_, .slice _ _ _ _ _, _, _, _, _⟩ :: _) _; first | refine WPl.rdX (ReadR.sliceH rfl rfl hasA (by omega)) ?_ | refine WPl.rdX (ReadR.sliceL rfl rfl hasA (by omega)) ?_ | refine WPl.rdX (ReadR.sliceLH rfl rfl rfl hasA (by omega) (by omega)) ?_)
       | (refine WPl.spQ (fun hc => ?_) (fun hc => ?_) <;> try exact prA)
       | fail)
      exact WPq.rnd (q + 1, fs) ⟨hlt, hfl, heach, hhere, by dsimp only; rw [ht2, hnx]; exact heq⟩ (by dsimp only; omega)
    · rw [if_neg hp] at heq
      have hp' : ¬ f.pins > 0 := hp
      cases hu : f.used with
      | true =>
        rw [hu] at c3
        rw [if_pos hu] at heq
        obtain ⟨f', hf'⟩ : ∃ f' : FR, f' = { f with used := false } := ⟨_, rfl⟩
        have hs := rfs_1 (f' := f') (o := 3) (u := .bool false) hf (by omega) (by rw [hf']; rfl)
        have hf'n : ¬ f'.no < 0 := by rw [hf']; exact hfn
        have hf'i : FRInv n p R.rs f' := by rw [hf']; exact ⟨hfi.one, hfi.here, fun h9 => absurd h9 hfn, hfi.pin0, hfi.pin1⟩
        have hf'v : f'.vw = some ⟨f.no, f.pins, f.dirty, false, f.s⟩ := by rw [FR.vw_some hf'n, hf']
        repeat' (first
         | refine WPl.nil ?_ | refine WPq.then ?_ | refine WPq.thenR ?_ | refine WPq.thenE ?_ | refine WPq.blockN ?_ | refine WPq.blockR ?_ | refine WPq.blockE ?_ | refine WPq.blockO rfl ?_ | refine WPc.seq ?_ | refine WPc.block ?_ | refine WPc.ret ?_ | refine WPc.exit ?_ | refine WPc.skip ?_ | refine WPc.region ?_
         | (refine isCond ?_; first | refine WPc.cT ?_ | refine WPc.cF ?_ | (refine WPc.cQ (fun hc => ?_) (fun hc => ?_) <;> try exact prA))
         | (refine isD 32 ?_; refine WPl.rdX (ReadR.binE rfl rfl BinR.lss (congrArg Value.bool (decide_eq_true hlt'))) ?_)
         | (refine isD 31 ?_; refine WPl.rdX (ReadR.binE rfl rfl (BinR.mulI (by omega) (by omega)) rfl) ?_)
         | (refine isD 40 ?_; refine WPl.rdX (ReadR.binE rfl rfl (BinR.addI (by omega) (by omega)) rfl) ?_)
         | (refine isD 42 ?_; refine WPl.rdX (ReadR.binE rfl rfl (BinR.remK (by omega) (by omega)) (congrArg (Value.int .i64) hmod)) ?_)
         | (refine isD 48 ?_; refine WPl.rdX (ReadR.indexE (i := i) rfl rfl hasA him) ?_)
         | (refine isD 49 ?_; refine WPl.rdX (ReadR.fieldE rfl hasA (by omega)) ?_)
         | (refine isD 50 ?_; refine WPl.rdX (ReadR.loadE rfl hasA c1) ?_)
         | (refine isD 51 ?_; refine WPl.rdX (ReadR.binE rfl rfl BinR.gtr (congrArg Value.bool (decide_eq_false hp'))) ?_)
         | (refine isD 57 ?_; refine WPl.rdX (ReadR.indexE (i := i) rfl rfl hasA him) ?_)
         | (refine isD 58 ?_; refine WPl.rdX (ReadR.fieldE rfl hasA (by omega)) ?_)
         | (refine isD 59 ?_; refine WPl.rdX (ReadR.loadE rfl hasA c3) ?_)
         | (refine isD 65 ?_; refine WPl.rdX (ReadR.indexE (i := i) rfl rfl hasA him) ?_)
         | (refine isD 66 ?_; refine WPl.rdX (ReadR.fieldE rfl hasA (by omega)) ?_)
         | (show WPl _ _ _ _ _ _ _ (⟨_, .store _ (.tmp 66) _, _, _, _, _⟩ :: _) _; refine WPl.stEN (i := i * 5 + 3) (m := m) (xs := rfs fs) (by omega) ?_)
         | (refine isOp ?_; first | refine WPl.rd ?_ | refine WPl.sk ?_ | refine WPl.rdB ?_)
         | (refine isSt ?_; first | refine WPl.st1 ?_ | refine WPl.stA ?_ | refine WPl.stEB ?_ | refine WPl.stRB ?_)
         | (show WPl _ _ _ _ _ _ _ (⟨_, .indexAddr _ _ _, _, _, _, _⟩ :: _) _; refine WPl.rdX (ReadR.indexE rfl rfl hasA (by first | assumption | omega)) ?_)
         | (show WPl _ _ _ _ _ _ _ (⟨_, .fieldAddr _ _ _, _, _, _, _⟩ :: _) _; refine WPl.rdX (ReadR.fieldE rfl hasA (by first | assumption | omega)) ?_)
         | (show WPl _ _ _ _ _ _ _ (⟨_, .load _ _, _, _, _, _⟩ :: _) _; first | refine WPl.rdX (ReadR.loadE rfl hasA (by assumption)) ?_ | refine WPl.rdX (ReadR.loadES (by assumption) (by first | assumption | omega) rfl hasA) ?_)
         | (show WPl _ _ _ _ _ _ _ (⟨_, .slice _ _ _ _ _, _, _, _, _⟩ :: _) _; first | refine WPl.rdX (ReadR.sliceH rfl rfl hasA (by omega)) ?_ | refine WPl.rdX (ReadR.sliceL rfl rfl hasA (by omega)) ?_ | refine WPl.rdX (ReadR.sliceLH rfl rfl rfl hasA (by omega) (by omega)) ?_)
         | (refine WPl.spQ (fun hc => ?_) (fun hc => ?_) <;> try exact prA)
         | fail)
        rw [hs]
        refine WPq.rnd (q + 1, fs.set i f') ⟨hlt, by rw [List.length_set]; exact hfl, fun g hg => ?_, fun g hg => ?_, ?_⟩ (by dsimp only; omega)
        · rcases mem_set_or hg with rfl | hg
          · exact hf'i
          · exact heach g hg
        · rcases mem_set_or hg with rfl | hg
          · exact hf'n
          · exact hhere g hg
        · dsimp only
          rw [ht2, hnx, List.map_set, hf'v]; exact heq
      | false =>
        rw [hu] at c3
        rw [if_neg (by rw [hu]; simp)] at heq
        rw [← heq]
        dsimp only
        obtain ⟨h', hh'⟩ : ∃ h', h' = (i + 1) % m := ⟨_, rfl⟩
        rw [← hh'] at hmod2 ⊢
        have hh'm : h' < m := by rw [hh']; exact Nat.mod_lt _ (by omega)
        have hig : i < fs.length := by omega
        have hz := rfs_set (f := frR0) hig
        have hfz : FOk (frRC frR0) := FRInv.fok (n := n) (p := p) (rs := R.rs) .zero
        have hsetv : (fs.set i frR0).map FR.vw = (fs.map FR.vw).set i none := by rw [List.map_set, FR.vw_none (show frR0.no < 0 by show (-1 : Int) < 0; omega)]
        have hsl : (fs.set i frR0).length = m := by rw [List.length_set]; exact hfl
        have hKg : ∀ rs, (∀ r ∈ R.rs, r ∈ rs) → KInv n m p rs ⟨fs, h', K.v⟩ := fun rs hrs => ⟨h.v, hfl, hh'm, fun g hg => (heach g hg).more hrs⟩
        have hKs : ∀ rs, (∀ r ∈ R.rs, r ∈ rs) → KInv n m p rs ⟨fs.set i frR0, h', K.v⟩ := fun rs hrs => KInv.set (hKg rs hrs) .zero hh'm
        cases hdt : f.dirty with
        | false =>
          rw [hdt] at c2
          have hg2 : giveUp (fs.map FR.vw) i h' R.vw = (⟨(fs.map FR.vw).set i none, h'⟩, R.vw, some i, 0) := by unfold giveUp; rw [hgv]; dsimp only; rw [hdt]; rfl
          rw [hg2]
          repeat' (first
           | refine WPl.nil ?_ | refine WPq.then ?_ | refine WPq.thenR ?_ | refine WPq.thenE ?_ | refine WPq.blockN ?_ | refine WPq.blockR ?_ | refine WPq.blockE ?_ | refine WPq.blockO rfl ?_ | refine WPc.seq ?_ | refine WPc.block ?_ | refine WPc.ret ?_ | refine WPc.exit ?_ | refine WPc.skip ?_ | refine WPc.region ?_
           | (refine isCond ?_; first | refine WPc.cT ?_ | refine WPc.cF ?_ | (refine WPc.cQ (fun hc => ?_) (fun hc => ?_) <;> try exact prA))
           | (refine isD 32 ?_; refine WPl.rdX (ReadR.binE rfl rfl BinR.lss (congrArg Value.bool (decide_eq_true hlt'))) ?_)
           | (refine isD 31 ?_; refine WPl.rdX (ReadR.binE rfl rfl (BinR.mulI (by omega) (by omega)) rfl) ?_)
           | (refine isD 40 ?_; refine WPl.rdX (ReadR.binE rfl rfl (BinR.addI (by omega) (by omega)) rfl) ?_)
           | (refine isD 42 ?_; refine WPl.rdX (ReadR.binE rfl rfl (BinR.remK (by omega) (by omega)) (congrArg (Value.int .i64) hmod)) ?_)
           | (refine isD 48 ?_; refine WPl.rdX (ReadR.indexE (i := i) rfl rfl hasA him) ?_)
           | (refine isD 49 ?_; refine WPl.rdX (ReadR.fieldE rfl hasA (by omega)) ?_)
           | (refine isD 50 ?_; refine WPl.rdX (ReadR.loadE rfl hasA c1) ?_)
           | (refine isD 51 ?_; refine WPl.rdX (ReadR.binE rfl rfl BinR.gtr (congrArg Value.bool (decide_eq_false hp'))) ?_)
           | (refine isD 57 ?_; refine WPl.rdX (ReadR.indexE (i := i) rfl rfl hasA him) ?_)
           | (refine isD 58 ?_; refine WPl.rdX (ReadR.fieldE rfl hasA (by omega)) ?_)
           | (refine isD 59 ?_; refine WPl.rdX (ReadR.loadE rfl hasA c3) ?_)
           | (refine isD 71 ?_; refine WPl.rdX (ReadR.binE rfl rfl (BinR.remK (by omega) (by omega)) (congrArg (Value.int .i64) hmod2)) ?_)
           | (refine isD 79 ?_; refine WPl.rdX (ReadR.indexE (i := i) rfl rfl hasA him) ?_)
           | (refine isD 80 ?_; refine WPl.rdX (ReadR.fieldE rfl hasA (by omega)) ?_)
           | (refine isD 81 ?_; refine WPl.rdX (ReadR.loadE rfl hasA c2) ?_)
           | (refine isD 111 ?_; refine WPl.rdX (ReadR.build (cs' := frRC frR0) buildA) ?_)
           | (refine isD 112 ?_; refine WPl.rdX (ReadR.indexE (i := i) rfl rfl hasA him) ?_)
           | (show WPl _ _ _ _ _ _ _ (⟨_, .store _ (.tmp 112) _, _, _, _, _⟩ :: _) _; refine WPl.stES (new := frRC frR0) (i := i * 5) (k := 5) (m := m) (xs := rfs fs) hfz rfl (by omega) (by omega) ?_)
           | (refine isOp ?_; first | refine WPl.rd ?_ | refine WPl.sk ?_ | refine WPl.rdB ?_)
           | (refine isSt ?_; first | refine WPl.st1 ?_ | refine WPl.stA ?_ | refine WPl.stEB ?_ | refine WPl.stRB ?_)
           | (show WPl _ _ _ _ _ _ _ (⟨_, .indexAddr _ _ _, _, _, _, _⟩ :: _) _; refine WPl.rdX (ReadR.indexE rfl rfl hasA (by first | assumption | omega)) ?_)
           | (show WPl _ _ _ _ _ _ _ (⟨_, .fieldAddr _ _ _, _, _, _, _⟩ :: _) _; refine WPl.rdX (ReadR.fieldE rfl hasA (by first | assumption | omega)) ?_)
           | (show WPl _ _ _ _ _ _ _ (⟨_, .load _ _, _, _, _, _⟩ :: _) _; first | refine WPl.rdX (ReadR.loadE rfl hasA (by assumption)) ?_ | refine WPl.rdX (ReadR.loadES (by assumption) (by first | assumption | omega) rfl hasA) ?_)
           | (show WPl _ _ _ _ _ _ _ (⟨_, .slice _ _ _ _ _, _, _, _, _⟩ :: _) _; first | refine WPl.rdX (ReadR.sliceH rfl rfl hasA (by omega)) ?_ | refine WPl.rdX (ReadR.sliceL rfl rfl hasA (by omega)) ?_ | refine WPl.rdX (ReadR.sliceLH rfl rfl rfl hasA (by omega) (by omega)) ?_)
           | (refine WPl.spQ (fun hc => ?_) (fun hc => ?_) <;> try exact prA)
           | fail)
          rw [hz]
          refine WPq.dX (ho := ownsW) (vs := [.int .i64 (i : Int), .int .i64 0]) [bx gY 73 (krc gX K.v (h' : Int)), rowN 97 5 K.v m (rfs (fs.set i frR0)), bx gX 51 (rdc R.vL R.vA R.vB R.fu R.wr), rowN 31 1 R.vL R.L.length (valsV R.L), rowN 3 1 R.vA R.Z.length (intsV (zAt R.Z)), rowN 31 1 R.vB R.Z.length (valsV (zB R.Z)), vault R.rs] ⟨⟨fs.set i frR0, h', K.v⟩, R, rfl, (by show Cv.mk _ _ = Cv.mk _ _; rw [hsetv]), rfl, hKs R.rs (fun r hr => hr), hr.mono (Nat.le_succ _), (fun a ha => by cases ha; exact ⟨rfl, frR0, List.getElem?_set_self hig, by show (-1 : Int) < 0; omega⟩), (fun ha => by cases ha), ?_⟩
          show _ = [_, rowN _ 5 K.v (fs.set i frR0).length _, _, _, _, _, _]
          rw [hsl]
        | true =>
          rw [hdt] at c2
          obtain ⟨hno1, hin⟩ := hfi.here (by omega)
          obtain ⟨j, hj⟩ : ∃ j : Nat, f.no = (j : Int) := ⟨f.no.toNat, by omega⟩
          have hjn : j < n := by omega
          have c102 := rwrV_t gX n k R j f.v f.s hin hr (by omega) (by omega) hjn
          rw [← hj] at c102
          by_cases he : (R.vw.wr j f.s).2 = 0
          · have hg2 : giveUp (fs.map FR.vw) i h' R.vw = (⟨(fs.map FR.vw).set i none, h'⟩, (R.vw.wr j f.s).1, some i, 0) := by unfold giveUp; rw [hgv]; dsimp only; rw [hdt, if_pos rfl, hj, Int.toNat_natCast, if_pos he]
            rw [hg2]
            rw [he] at c102
            obtain ⟨D1, hD1⟩ : ∃ D1, D1 = (R.vw.wr j f.s).1 := ⟨_, rfl⟩
            rw [← hD1] at c102 ⊢
            have hv102 : ∀ v Γ', RRk gX n (k + 1) (.int .i64 0) D1 R.rs v Γ' → v = .int .i64 0 ∧ ∃ s : RfS, Γ' = rsA gX s ∧ (s.vw = D1 ∧ RInv n (k + 1) s ∧ ∀ r ∈ R.rs, r ∈ s.rs) := fun v Γ' ⟨S', h1, h2, h3, h4, h5⟩ => ⟨h1, S', h5, h2, h3, h4⟩
            repeat' (first
             | refine WPl.nil ?_ | refine WPq.then ?_ | refine WPq.thenR ?_ | refine WPq.thenE ?_ | refine WPq.blockN ?_ | refine WPq.blockR ?_ | refine WPq.blockE ?_ | refine WPq.blockO rfl ?_ | refine WPc.seq ?_ | refine WPc.block ?_ | refine WPc.ret ?_ | refine WPc.exit ?_ | refine WPc.skip ?_ | refine WPc.region ?_
             | (refine isReg 16 ?_; refine WPc.drA [([22, 23, 24, 25, 26], [86, 87, 88, 89, 90, 91, 92, 93, 94, 95, 96, 97, 98, 99, 100, 101]), ([0, 22, 23, 24, 25, 26], [82, 86, 87, 88, 89, 90, 91, 92, 93, 94, 95, 96, 97, 98, 99, 100, 101]), ([0, 1, 22, 23, 24, 25, 26], [82, 83, 86, 87, 88, 89, 90, 91, 92, 93, 94, 95, 96, 97, 98, 99, 100, 101]), ([0, 1, 2, 22, 23, 24, 25, 26], [82, 83, 84, 86, 87, 88, 89, 90, 91, 92, 93, 94, 95, 96, 97, 98, 99, 100, 101]), ([22, 23, 24, 25, 26], [82, 83, 84, 85, 90, 94, 95, 96, 97, 98, 99, 100, 101]), ([4, 22, 23, 24, 25, 26], [82, 83, 84, 85, 86, 90, 94, 95, 96, 97, 98, 99, 100, 101]), ([4, 5, 22, 23, 24, 25, 26], [82, 83, 84, 85, 86, 87, 90, 94, 95, 96, 97, 98, 99, 100, 101]), ([4, 5, 6, 22, 23, 24, 25, 26], [82, 83, 84, 85, 86, 87, 88, 90, 94, 95, 96, 97, 98, 99, 100, 101]), ([22, 23, 24, 25, 26], [82, 83, 84, 85, 86, 87, 88, 89, 94, 95, 96, 97, 98, 99, 100, 101]), ([4, 5, 6, 7, 8, 22, 23, 24, 25, 26], [82, 83, 84, 85, 86, 87, 88, 89, 90, 94, 95, 96, 97, 98, 99, 100, 101]), ([4, 5, 6, 7, 8, 9, 22, 23, 24, 25, 26], [82, 83, 84, 85, 86, 87, 88, 89, 90, 91, 94, 95, 96, 97, 98, 99, 100, 101]), ([4, 5, 6, 7, 8, 9, 10, 22, 23, 24, 25, 26], [82, 83, 84, 85, 86, 87, 88, 89, 90, 91, 92, 94, 95, 96, 97, 98, 99, 100, 101]), ([22, 23, 24, 25, 26], [82, 83, 84, 85, 86, 87, 88, 89, 90, 91, 92, 93, 98]), ([12, 22, 23, 24, 25, 26], [82, 83, 84, 85, 86, 87, 88, 89, 90, 91, 92, 93, 94, 98]), ([12, 13, 22, 23, 24, 25, 26], [82, 83, 84, 85, 86, 87, 88, 89, 90, 91, 92, 93, 94, 95, 98]), ([12, 13, 14, 22, 23, 24, 25, 26], [82, 83, 84, 85, 86, 87, 88, 89, 90, 91, 92, 93, 94, 95, 96, 98]), ([22, 23, 24, 25, 26], [82, 83, 84, 85, 86, 87, 88, 89, 90, 91, 92, 93, 94, 95, 96, 97]), ([12, 13, 14, 15, 16, 22, 23, 24, 25, 26], [82, 83, 84, 85, 86, 87, 88, 89, 90, 91, 92, 93, 94, 95, 96, 97, 98]), ([12, 13, 14, 15, 16, 17, 22, 23, 24, 25, 26], [82, 83, 84, 85, 86, 87, 88, 89, 90, 91, 92, 93, 94, 95, 96, 97, 98, 99]), ([12, 13, 14, 15, 16, 17, 18, 22, 23, 24, 25, 26], [82, 83, 84, 85, 86, 87, 88, 89, 90, 91, 92, 93, 94, 95, 96, 97, 98, 99, 100]), ([0, 1, 2, 3, 4, 5, 6, 7, 8, 9, 10, 11, 12, 13, 14, 15, 16, 17, 18, 19, 22, 23, 24, 25, 26], [82, 83, 84, 85, 86, 87, 88, 89, 90, 91, 92, 93, 94, 95, 96, 97, 98, 99, 100, 101]), ([0, 1, 2, 3, 4, 5, 6, 7, 8, 9, 10, 11, 12, 13, 14, 15, 16, 17, 18, 19, 20, 22, 23, 24, 25, 26], [82, 83, 84, 85, 86, 87, 88, 89, 90, 91, 92, 93, 94, 95, 96, 97, 98, 99, 100, 101, 102])] [(22, 20), (23, 20), (24, 20), (25, 20), (26, 20), (22, 0), (22, 1), (22, 2), (22, 3), (22, 4), (22, 5), (22, 6), (22, 7), (22, 8), (22, 9), (22, 10), (22, 11), (22, 12), (22, 13), (22, 14), (22, 15), (22, 16), (22, 17), (22, 18), (22, 19), (23, 0), (23, 1), (23, 2), (23, 3), (23, 4), (23, 5), (23, 6), (23, 7), (23, 8), (23, 9), (23, 10), (23, 11), (23, 12), (23, 13), (23, 14), (23, 15), (23, 16), (23, 17), (23, 18), (23, 19), (24, 0), (24, 1), (24, 2), (24, 3), (24, 4), (24, 5), (24, 6), (24, 7), (24, 8), (24, 9), (24, 10), (24, 11), (24, 12), (24, 13), (24, 14), (24, 15), (24, 16), (24, 17), (24, 18), (24, 19), (25, 0), (25, 1), (25, 2), (25, 3), (25, 4), (25, 5), (25, 6), (25, 7), (25, 8), (25, 9), (25, 10), (25, 11), (25, 12), (25, 13), (25, 14), (25, 15), (25, 16), (25, 17), (25, 18), (25, 19), (26, 0), (26, 1), (26, 2), (26, 3), (26, 4), (26, 5), (26, 6), (26, 7), (26, 8), (26, 9), (26, 10), (26, 11), (26, 12), (26, 13), (26, 14), (26, 15), (26, 16), (26, 17), (26, 18), (26, 19)] (Γx := [bx gX 51 (rdc R.vL R.vA R.vB R.fu R.wr), rowN 31 1 R.vL R.L.length (valsV R.L), rowN 3 1 R.vA R.Z.length (intsV (zAt R.Z)), rowN 31 1 R.vB R.Z.length (valsV (zB R.Z)), vault R.rs]) (hox := ownsW) ?_; dsimp only [prev0, List.length_nil, List.length_cons])
             | (refine gAny ?_; first | (refine gD 32 ?_; refine RGl.rdX (fun e hk => by (try dsimp only [bndR, ensR, oksR, fcutR, List.append_nil, List.nil_append, List.cons_append, List.append_assoc] at hk ⊢); exact ReadR.binE rfl rfl BinR.lss (congrArg Value.bool (decide_eq_true hlt'))) ?_) | (refine gD 31 ?_; refine RGl.rdX (fun e hk => by (try dsimp only [bndR, ensR, oksR, fcutR, List.append_nil, List.nil_append, List.cons_append, List.append_assoc] at hk ⊢); exact ReadR.binE rfl rfl (BinR.mulI (by omega) (by omega)) rfl) ?_) | (refine gD 40 ?_; refine RGl.rdX (fun e hk => by (try dsimp only [bndR, ensR, oksR, fcutR, List.append_nil, List.nil_append, List.cons_append, List.append_assoc] at hk ⊢); exact ReadR.binE rfl rfl (BinR.addI (by omega) (by omega)) rfl) ?_) | (refine gD 42 ?_; refine RGl.rdX (fun e hk => by (try dsimp only [bndR, ensR, oksR, fcutR, List.append_nil, List.nil_append, List.cons_append, List.append_assoc] at hk ⊢); exact ReadR.binE rfl rfl (BinR.remK (by omega) (by omega)) (congrArg (Value.int .i64) hmod)) ?_) | (refine gD 48 ?_; refine RGl.rdX (fun e hk => by (try dsimp only [bndR, ensR, oksR, fcutR, List.append_nil, List.nil_append, List.cons_append, List.append_assoc] at hk ⊢); exact ReadR.indexE (i := i) rfl rfl hasA him) ?_) | (refine gD 49 ?_; refine RGl.rdX (fun e hk => by (try dsimp only [bndR, ensR, oksR, fcutR, List.append_nil, List.nil_append, List.cons_append, List.append_assoc] at hk ⊢); exact ReadR.fieldE rfl hasA (by omega)) ?_) | (refine gD 50 ?_; refine RGl.rdX (fun e hk => by (try dsimp only [bndR, ensR, oksR, fcutR, List.append_nil, List.nil_append, List.cons_append, List.append_assoc] at hk ⊢); exact ReadR.loadE rfl hasA c1) ?_) | (refine gD 51 ?_; refine RGl.rdX (fun e hk => by (try dsimp only [bndR, ensR, oksR, fcutR, List.append_nil, List.nil_append, List.cons_append, List.append_assoc] at hk ⊢); exact ReadR.binE rfl rfl BinR.gtr (congrArg Value.bool (decide_eq_false hp'))) ?_) | (refine gD 57 ?_; refine RGl.rdX (fun e hk => by (try dsimp only [bndR, ensR, oksR, fcutR, List.append_nil, List.nil_append, List.cons_append, List.append_assoc] at hk ⊢); exact ReadR.indexE (i := i) rfl rfl hasA him) ?_) | (refine gD 58 ?_; refine RGl.rdX (fun e hk => by (try dsimp only [bndR, ensR, oksR, fcutR, List.append_nil, List.nil_append, List.cons_append, List.append_assoc] at hk ⊢); exact ReadR.fieldE rfl hasA (by omega)) ?_) | (refine gD 59 ?_; refine RGl.rdX (fun e hk => by (try dsimp only [bndR, ensR, oksR, fcutR, List.append_nil, List.nil_append, List.cons_append, List.append_assoc] at hk ⊢); exact ReadR.loadE rfl hasA c3) ?_) | (refine gD 71 ?_; refine RGl.rdX (fun e hk => by (try dsimp only [bndR, ensR, oksR, fcutR, List.append_nil, List.nil_append, List.cons_append, List.append_assoc] at hk ⊢); exact ReadR.binE rfl rfl (BinR.remK (by omega) (by omega)) (congrArg (Value.int .i64) hmod2)) ?_) | (refine gD 79 ?_; refine RGl.rdX (fun e hk => by (try dsimp only [bndR, ensR, oksR, fcutR, List.append_nil, List.nil_append, List.cons_append, List.append_assoc] at hk ⊢); exact ReadR.indexE (i := i) rfl rfl hasA him) ?_) | (refine gD 80 ?_; refine RGl.rdX (fun e hk => by (try dsimp only [bndR, ensR, oksR, fcutR, List.append_nil, List.nil_append, List.cons_append, List.append_assoc] at hk ⊢); exact ReadR.fieldE rfl hasA (by omega)) ?_) | (refine gD 81 ?_; refine RGl.rdX (fun e hk => by (try dsimp only [bndR, ensR, oksR, fcutR, List.append_nil, List.nil_append, List.cons_append, List.append_assoc] at hk ⊢); exact ReadR.loadE rfl hasA c2) ?_) | (refine gD 91 ?_; refine RGl.rdX (fun e hk => by (try dsimp only [bndR, ensR, oksR, fcutR, List.append_nil, List.nil_append, List.cons_append, List.append_assoc] at hk ⊢); exact ReadR.indexE (i := i) rfl rfl hasA him) ?_) | (refine gD 92 ?_; refine RGl.rdX (fun e hk => by (try dsimp only [bndR, ensR, oksR, fcutR, List.append_nil, List.nil_append, List.cons_append, List.append_assoc] at hk ⊢); exact ReadR.fieldE rfl hasA (by omega)) ?_) | (refine gD 93 ?_; refine RGl.rdX (fun e hk => by (try dsimp only [bndR, ensR, oksR, fcutR, List.append_nil, List.nil_append, List.cons_append, List.append_assoc] at hk ⊢); exact ReadR.loadE rfl hasA c0) ?_) | (refine gD 99 ?_; refine RGl.rdX (fun e hk => by (try dsimp only [bndR, ensR, oksR, fcutR, List.append_nil, List.nil_append, List.cons_append, List.append_assoc] at hk ⊢); exact ReadR.indexE (i := i) rfl rfl hasA him) ?_) | (refine gD 100 ?_; refine RGl.rdX (fun e hk => by (try dsimp only [bndR, ensR, oksR, fcutR, List.append_nil, List.nil_append, List.cons_append, List.append_assoc] at hk ⊢); exact ReadR.fieldE rfl hasA (by omega)) ?_) | (refine gD 101 ?_; refine RGl.rdX (fun e hk => by (try dsimp only [bndR, ensR, oksR, fcutR, List.append_nil, List.nil_append, List.cons_append, List.append_assoc] at hk ⊢); exact ReadR.loadE rfl hasA c4) ?_) | (refine gOp ?_; (refine gC 102 ?_; refine RGl.relG (.int .i64 0) (fun s : RfS => rsA gX s) (fun s => s.vw = D1 ∧ RInv n (k + 1) s ∧ ∀ r ∈ R.rs, r ∈ s.rs) hv102 (fun e hk => by (try dsimp only [bndR, ensR, oksR, fcutR, List.append_nil, List.nil_append, List.cons_append, List.append_assoc] at hk ⊢); exact OpT.callTs c102) ?_)) | (refine gD 104 ?_; refine RGl.rdX (fun e hk => by (try dsimp only [bndR, ensR, oksR, fcutR, List.append_nil, List.nil_append, List.cons_append, List.append_assoc] at hk ⊢); exact ReadR.binE rfl rfl BinR.neq (congrArg (fun q => Value.bool (!q)) (decide_eq_true rfl))) ?_) | (refine gD 111 ?_; refine RGl.rdX (fun e hk => by (try dsimp only [bndR, ensR, oksR, fcutR, List.append_nil, List.nil_append, List.cons_append, List.append_assoc] at hk ⊢); exact ReadR.build (cs' := frRC frR0) buildA) ?_) | (refine gD 112 ?_; refine RGl.rdX (fun e hk => by (try dsimp only [bndR, ensR, oksR, fcutR, List.append_nil, List.nil_append, List.cons_append, List.append_assoc] at hk ⊢); exact ReadR.indexE (i := i) rfl rfl hasA him) ?_) | (refine gOp ?_; first | refine RGl.rdA ?_ | refine RGl.rdX (fun e hk => by (try dsimp only [bndR, ensR, oksR, fcutR, List.append_nil, List.nil_append, List.cons_append, List.append_assoc] at hk ⊢); exact readB) ?_) | (refine RGl.fin (fun e hk => ?_); (try dsimp only [bndA, ensAR, oksA, List.append_nil, List.nil_append, List.cons_append, List.append_assoc] at hk ⊢); (repeat (obtain ⟨hk1, hk⟩ := hk))) | fail)
             | (refine isCond ?_; first | refine WPc.cT ?_ | refine WPc.cF ?_ | (refine WPc.cQ (fun hc => ?_) (fun hc => ?_) <;> try exact prA))
             | (refine isD 32 ?_; refine WPl.rdX (ReadR.binE rfl rfl BinR.lss (congrArg Value.bool (decide_eq_true hlt'))) ?_)
             | (refine isD 31 ?_; refine WPl.rdX (ReadR.binE rfl rfl (BinR.mulI (by omega) (by omega)) rfl) ?_)
             | (refine isD 40 ?_; refine WPl.rdX (ReadR.binE rfl rfl (BinR.addI (by omega) (by omega)) rfl) ?_)
             | (refine isD 42 ?_; refine WPl.rdX (ReadR.binE rfl rfl (BinR.remK (by omega) (by omega)) (congrArg (Value.int .i64) hmod)) ?_)
             | (refine isD 48 ?_; refine WPl.rdX (ReadR.indexE (i := i) rfl rfl hasA him) ?_)
             | (refine isD 49 ?_; refine WPl.rdX (ReadR.fieldE rfl hasA (by omega)) ?_)
             | (refine isD 50 ?_; refine WPl.rdX (ReadR.loadE rfl hasA c1) ?_)
             | (refine isD 51 ?_; refine WPl.rdX (ReadR.binE rfl rfl BinR.gtr (congrArg Value.bool (decide_eq_false hp'))) ?_)
             | (refine isD 57 ?_; refine WPl.rdX (ReadR.indexE (i := i) rfl rfl hasA him) ?_)
             | (refine isD 58 ?_; refine WPl.rdX (ReadR.fieldE rfl hasA (by omega)) ?_)
             | (refine isD 59 ?_; refine WPl.rdX (ReadR.loadE rfl hasA c3) ?_)
             | (refine isD 71 ?_; refine WPl.rdX (ReadR.binE rfl rfl (BinR.remK (by omega) (by omega)) (congrArg (Value.int .i64) hmod2)) ?_)
             | (refine isD 79 ?_; refine WPl.rdX (ReadR.indexE (i := i) rfl rfl hasA him) ?_)
             | (refine isD 80 ?_; refine WPl.rdX (ReadR.fieldE rfl hasA (by omega)) ?_)
             | (refine isD 81 ?_; refine WPl.rdX (ReadR.loadE rfl hasA c2) ?_)
             | (refine isD 91 ?_; refine WPl.rdX (ReadR.indexE (i := i) rfl rfl hasA him) ?_)
             | (refine isD 92 ?_; refine WPl.rdX (ReadR.fieldE rfl hasA (by omega)) ?_)
             | (refine isD 93 ?_; refine WPl.rdX (ReadR.loadE rfl hasA c0) ?_)
             | (refine isD 99 ?_; refine WPl.rdX (ReadR.indexE (i := i) rfl rfl hasA him) ?_)
             | (refine isD 100 ?_; refine WPl.rdX (ReadR.fieldE rfl hasA (by omega)) ?_)
             | (refine isD 101 ?_; refine WPl.rdX (ReadR.loadE rfl hasA c4) ?_)
             | (refine isD 104 ?_; refine WPl.rdX (ReadR.binE rfl rfl BinR.neq (congrArg (fun q => Value.bool (!q)) (decide_eq_true rfl))) ?_)
             | (refine isD 111 ?_; refine WPl.rdX (ReadR.build (cs' := frRC frR0) buildA) ?_)
             | (refine isD 112 ?_; refine WPl.rdX (ReadR.indexE (i := i) rfl rfl hasA him) ?_)
             | (show WPl _ _ _ _ _ _ _ (⟨_, .store _ (.tmp 112) _, _, _, _, _⟩ :: _) _; refine WPl.stES (new := frRC frR0) (i := i * 5) (k := 5) (m := m) (xs := rfs fs) hfz rfl (by omega) (by omega) ?_)
             | (refine isOp ?_; first | refine WPl.rd ?_ | refine WPl.sk ?_ | refine WPl.rdB ?_)
             | (refine isSt ?_; first | refine WPl.st1 ?_ | refine WPl.stA ?_ | refine WPl.stEB ?_ | refine WPl.stRB ?_)
             | (show WPl _ _ _ _ _ _ _ (⟨_, .indexAddr _ _ _, _, _, _, _⟩ :: _) _; refine WPl.rdX (ReadR.indexE rfl rfl hasA (by first | assumption | omega)) ?_)
             | (show WPl _ _ _ _ _ _ _ (⟨_, .fieldAddr _ _ _, _, _, _, _⟩ :: _) _; refine WPl.rdX (ReadR.fieldE rfl hasA (by first | assumption | omega)) ?_)
             | (show WPl _ _ _ _ _ _ _ (⟨_, .load _ _, _, _, _, _⟩ :: _) _; first | refine WPl.rdX (ReadR.loadE rfl hasA (by assumption)) ?_ | refine WPl.rdX (ReadR.loadES (by assumption) (by first | assumption | omega) rfl hasA) ?_)
             | (show WPl _ _ _ _ _ _ _ (⟨_, .slice _ _ _ _ _, _, _, _, _⟩ :: _) _; first | refine WPl.rdX (ReadR.sliceH rfl rfl hasA (by omega)) ?_ | refine WPl.rdX (ReadR.sliceL rfl rfl hasA (by omega)) ?_ | refine WPl.rdX (ReadR.sliceLH rfl rfl rfl hasA (by omega) (by omega)) ?_)
             | (refine WPl.spQ (fun hc => ?_) (fun hc => ?_) <;> try exact prA)
             | fail)
            have hA : (fun s : RfS => s.vw = D1 ∧ RInv n (k + 1) s ∧ ∀ r ∈ R.rs, r ∈ s.rs) (pickG (fun s : RfS => rsA gX s) (fun s => s.vw = D1 ∧ RInv n (k + 1) s ∧ ∀ r ∈ R.rs, r ∈ s.rs) (e 20).2) := by assumption
            obtain ⟨T, hT⟩ : ∃ T, T = (pickG (fun s : RfS => rsA gX s) (fun s => s.vw = D1 ∧ RInv n (k + 1) s ∧ ∀ r ∈ R.rs, r ∈ s.rs) (e 20).2) := ⟨_, rfl⟩
            rw [← hT] at hA
            obtain ⟨hA1, hA2, hA3⟩ := hA
            dsimp only [Nat.reduceAdd]
            rw [← hT]
            rw [hz]
            refine WPq.dX (ho := ownsW) (vs := [.int .i64 (i : Int), .int .i64 0]) [bx gY 73 (krc gX K.v (h' : Int)), rowN 97 5 K.v m (rfs (fs.set i frR0)), bx gX 51 (rdc T.vL T.vA T.vB T.fu T.wr), rowN 31 1 T.vL T.L.length (valsV T.L), rowN 3 1 T.vA T.Z.length (intsV (zAt T.Z)), rowN 31 1 T.vB T.Z.length (valsV (zB T.Z)), vault T.rs] ⟨⟨fs.set i frR0, h', K.v⟩, T, rfl, (by show Cv.mk _ _ = Cv.mk _ _; rw [hsetv]), hA1, hKs T.rs hA3, hA2, (fun a ha => by cases ha; exact ⟨rfl, frR0, List.getElem?_set_self hig, by show (-1 : Int) < 0; omega⟩), (fun ha => by cases ha), ?_⟩
            show _ = [_, rowN _ 5 K.v (fs.set i frR0).length _, _, _, _, _, _]
            rw [hsl]
          · have hg2 : giveUp (fs.map FR.vw) i h' R.vw = (⟨fs.map FR.vw, h'⟩, (R.vw.wr j f.s).1, none, (R.vw.wr j f.s).2) := by unfold giveUp; rw [hgv]; dsimp only; rw [hdt, if_pos rfl, hj, Int.toNat_natCast, if_neg he]
            rw [hg2]
            obtain ⟨D1, hD1⟩ : ∃ D1, D1 = (R.vw.wr j f.s).1 := ⟨_, rfl⟩
            obtain ⟨er, her⟩ : ∃ er, er = (R.vw.wr j f.s).2 := ⟨_, rfl⟩
            rw [← hD1, ← her] at c102
            rw [← her] at he
            rw [← hD1, ← her]
            have hv102 : ∀ v Γ', RRk gX n (k + 1) (.int .i64 er) D1 R.rs v Γ' → v = .int .i64 er ∧ ∃ s : RfS, Γ' = rsA gX s ∧ (s.vw = D1 ∧ RInv n (k + 1) s ∧ ∀ r ∈ R.rs, r ∈ s.rs) := fun v Γ' ⟨S', h1, h2, h3, h4, h5⟩ => ⟨h1, S', h5, h2, h3, h4⟩
            repeat' (first
             | refine WPl.nil ?_ | refine WPq.then ?_ | refine WPq.thenR ?_ | refine WPq.thenE ?_ | refine WPq.blockN ?_ | refine WPq.blockR ?_ | refine WPq.blockE ?_ | refine WPq.blockO rfl ?_ | refine WPc.seq ?_ | refine WPc.block ?_ | refine WPc.ret ?_ | refine WPc.exit ?_ | refine WPc.skip ?_ | refine WPc.region ?_
             | (refine isReg 16 ?_; refine WPc.drA [([22, 23, 24, 25, 26], [86, 87, 88, 89, 90, 91, 92, 93, 94, 95, 96, 97, 98, 99, 100, 101]), ([0, 22, 23, 24, 25, 26], [82, 86, 87, 88, 89, 90, 91, 92, 93, 94, 95, 96, 97, 98, 99, 100, 101]), ([0, 1, 22, 23, 24, 25, 26], [82, 83, 86, 87, 88, 89, 90, 91, 92, 93, 94, 95, 96, 97, 98, 99, 100, 101]), ([0, 1, 2, 22, 23, 24, 25, 26], [82, 83, 84, 86, 87, 88, 89, 90, 91, 92, 93, 94, 95, 96, 97, 98, 99, 100, 101]), ([22, 23, 24, 25, 26], [82, 83, 84, 85, 90, 94, 95, 96, 97, 98, 99, 100, 101]), ([4, 22, 23, 24, 25, 26], [82, 83, 84, 85, 86, 90, 94, 95, 96, 97, 98, 99, 100, 101]), ([4, 5, 22, 23, 24, 25, 26], [82, 83, 84, 85, 86, 87, 90, 94, 95, 96, 97, 98, 99, 100, 101]), ([4, 5, 6, 22, 23, 24, 25, 26], [82, 83, 84, 85, 86, 87, 88, 90, 94, 95, 96, 97, 98, 99, 100, 101]), ([22, 23, 24, 25, 26], [82, 83, 84, 85, 86, 87, 88, 89, 94, 95, 96, 97, 98, 99, 100, 101]), ([4, 5, 6, 7, 8, 22, 23, 24, 25, 26], [82, 83, 84, 85, 86, 87, 88, 89, 90, 94, 95, 96, 97, 98, 99, 100, 101]), ([4, 5, 6, 7, 8, 9, 22, 23, 24, 25, 26], [82, 83, 84, 85, 86, 87, 88, 89, 90, 91, 94, 95, 96, 97, 98, 99, 100, 101]), ([4, 5, 6, 7, 8, 9, 10, 22, 23, 24, 25, 26], [82, 83, 84, 85, 86, 87, 88, 89, 90, 91, 92, 94, 95, 96, 97, 98, 99, 100, 101]), ([22, 23, 24, 25, 26], [82, 83, 84, 85, 86, 87, 88, 89, 90, 91, 92, 93, 98]), ([12, 22, 23, 24, 25, 26], [82, 83, 84, 85, 86, 87, 88, 89, 90, 91, 92, 93, 94, 98]), ([12, 13, 22, 23, 24, 25, 26], [82, 83, 84, 85, 86, 87, 88, 89, 90, 91, 92, 93, 94, 95, 98]), ([12, 13, 14, 22, 23, 24, 25, 26], [82, 83, 84, 85, 86, 87, 88, 89, 90, 91, 92, 93, 94, 95, 96, 98]), ([22, 23, 24, 25, 26], [82, 83, 84, 85, 86, 87, 88, 89, 90, 91, 92, 93, 94, 95, 96, 97]), ([12, 13, 14, 15, 16, 22, 23, 24, 25, 26], [82, 83, 84, 85, 86, 87, 88, 89, 90, 91, 92, 93, 94, 95, 96, 97, 98]), ([12, 13, 14, 15, 16, 17, 22, 23, 24, 25, 26], [82, 83, 84, 85, 86, 87, 88, 89, 90, 91, 92, 93, 94, 95, 96, 97, 98, 99]), ([12, 13, 14, 15, 16, 17, 18, 22, 23, 24, 25, 26], [82, 83, 84, 85, 86, 87, 88, 89, 90, 91, 92, 93, 94, 95, 96, 97, 98, 99, 100]), ([0, 1, 2, 3, 4, 5, 6, 7, 8, 9, 10, 11, 12, 13, 14, 15, 16, 17, 18, 19, 22, 23, 24, 25, 26], [82, 83, 84, 85, 86, 87, 88, 89, 90, 91, 92, 93, 94, 95, 96, 97, 98, 99, 100, 101]), ([0, 1, 2, 3, 4, 5, 6, 7, 8, 9, 10, 11, 12, 13, 14, 15, 16, 17, 18, 19, 20, 22, 23, 24, 25, 26], [82, 83, 84, 85, 86, 87, 88, 89, 90, 91, 92, 93, 94, 95, 96, 97, 98, 99, 100, 101, 102])] [(22, 20), (23, 20), (24, 20), (25, 20), (26, 20), (22, 0), (22, 1), (22, 2), (22, 3), (22, 4), (22, 5), (22, 6), (22, 7), (22, 8), (22, 9), (22, 10), (22, 11), (22, 12), (22, 13), (22, 14), (22, 15), (22, 16), (22, 17), (22, 18), (22, 19), (23, 0), (23, 1), (23, 2), (23, 3), (23, 4), (23, 5), (23, 6), (23, 7), (23, 8), (23, 9), (23, 10), (23, 11), (23, 12), (23, 13), (23, 14), (23, 15), (23, 16), (23, 17), (23, 18), (23, 19), (24, 0), (24, 1), (24, 2), (24, 3), (24, 4), (24, 5), (24, 6), (24, 7), (24, 8), (24, 9), (24, 10), (24, 11), (24, 12), (24, 13), (24, 14), (24, 15), (24, 16), (24, 17), (24, 18), (24, 19), (25, 0), (25, 1), (25, 2), (25, 3), (25, 4), (25, 5), (25, 6), (25, 7), (25, 8), (25, 9), (25, 10), (25, 11), (25, 12), (25, 13), (25, 14), (25, 15), (25, 16), (25, 17), (25, 18), (25, 19), (26, 0), (26, 1), (26, 2), (26, 3), (26, 4), (26, 5), (26, 6), (26, 7), (26, 8), (26, 9), (26, 10), (26, 11), (26, 12), (26, 13), (26, 14), (26, 15), (26, 16), (26, 17), (26, 18), (26, 19)] (Γx := [bx gX 51 (rdc R.vL R.vA R.vB R.fu R.wr), rowN 31 1 R.vL R.L.length (valsV R.L), rowN 3 1 R.vA R.Z.length (intsV (zAt R.Z)), rowN 31 1 R.vB R.Z.length (valsV (zB R.Z)), vault R.rs]) (hox := ownsW) ?_; dsimp only [prev0, List.length_nil, List.length_cons])
             | (refine gAny ?_; first | (refine gD 32 ?_; refine RGl.rdX (fun e hk => by (try dsimp only [bndR, ensR, oksR, fcutR, List.append_nil, List.nil_append, List.cons_append, List.append_assoc] at hk ⊢); exact ReadR.binE rfl rfl BinR.lss (congrArg Value.bool (decide_eq_true hlt'))) ?_) | (refine gD 31 ?_; refine RGl.rdX (fun e hk => by (try dsimp only [bndR, ensR, oksR, fcutR, List.append_nil, List.nil_append, List.cons_append, List.append_assoc] at hk ⊢); exact ReadR.binE rfl rfl (BinR.mulI (by omega) (by omega)) rfl) ?_) | (refine gD 40 ?_; refine RGl.rdX (fun e hk => by (try dsimp only [bndR, ensR, oksR, fcutR, List.append_nil, List.nil_append, List.cons_append, List.append_assoc] at hk ⊢); exact ReadR.binE rfl rfl (BinR.addI (by omega) (by omega)) rfl) ?_) | (refine gD 42 ?_; refine RGl.rdX (fun e hk => by (try dsimp only [bndR, ensR, oksR, fcutR, List.append_nil, List.nil_append, List.cons_append, List.append_assoc] at hk ⊢); exact ReadR.binE rfl rfl (BinR.remK (by omega) (by omega)) (congrArg (Value.int .i64) hmod)) ?_) | (refine gD 48 ?_; refine RGl.rdX (fun e hk => by (try dsimp only [bndR, ensR, oksR, fcutR, List.append_nil, List.nil_append, List.cons_append, List.append_assoc] at hk ⊢); exact ReadR.indexE (i := i) rfl rfl hasA him) ?_) | (refine gD 49 ?_; refine RGl.rdX (fun e hk => by (try dsimp only [bndR, ensR, oksR, fcutR, List.append_nil, List.nil_append, List.cons_append, List.append_assoc] at hk ⊢); exact ReadR.fieldE rfl hasA (by omega)) ?_) | (refine gD 50 ?_; refine RGl.rdX (fun e hk => by (try dsimp only [bndR, ensR, oksR, fcutR, List.append_nil, List.nil_append, List.cons_append, List.append_assoc] at hk ⊢); exact ReadR.loadE rfl hasA c1) ?_) | (refine gD 51 ?_; refine RGl.rdX (fun e hk => by (try dsimp only [bndR, ensR, oksR, fcutR, List.append_nil, List.nil_append, List.cons_append, List.append_assoc] at hk ⊢); exact ReadR.binE rfl rfl BinR.gtr (congrArg Value.bool (decide_eq_false hp'))) ?_) | (refine gD 57 ?_; refine RGl.rdX (fun e hk => by (try dsimp only [bndR, ensR, oksR, fcutR, List.append_nil, List.nil_append, List.cons_append, List.append_assoc] at hk ⊢); exact ReadR.indexE (i := i) rfl rfl hasA him) ?_) | (refine gD 58 ?_; refine RGl.rdX (fun e hk => by (try dsimp only [bndR, ensR, oksR, fcutR, List.append_nil, List.nil_append, List.cons_append, List.append_assoc] at hk ⊢); exact ReadR.fieldE rfl hasA (by omega)) ?_) | (refine gD 59 ?_; refine RGl.rdX (fun e hk => by (try dsimp only [bndR, ensR, oksR, fcutR, List.append_nil, List.nil_append, List.cons_append, List.append_assoc] at hk ⊢); exact ReadR.loadE rfl hasA c3) ?_) | (refine gD 71 ?_; refine RGl.rdX (fun e hk => by (try dsimp only [bndR, ensR, oksR, fcutR, List.append_nil, List.nil_append, List.cons_append, List.append_assoc] at hk ⊢); exact ReadR.binE rfl rfl (BinR.remK (by omega) (by omega)) (congrArg (Value.int .i64) hmod2)) ?_) | (refine gD 79 ?_; refine RGl.rdX (fun e hk => by (try dsimp only [bndR, ensR, oksR, fcutR, List.append_nil, List.nil_append, List.cons_append, List.append_assoc] at hk ⊢); exact ReadR.indexE (i := i) rfl rfl hasA him) ?_) | (refine gD 80 ?_; refine RGl.rdX (fun e hk => by (try dsimp only [bndR, ensR, oksR, fcutR, List.append_nil, List.nil_append, List.cons_append, List.append_assoc] at hk ⊢); exact ReadR.fieldE rfl hasA (by omega)) ?_) | (refine gD 81 ?_; refine RGl.rdX (fun e hk => by (try dsimp only [bndR, ensR, oksR, fcutR, List.append_nil, List.nil_append, List.cons_append, List.append_assoc] at hk ⊢); exact ReadR.loadE rfl hasA c2) ?_) | (refine gD 91 ?_; refine RGl.rdX (fun e hk => by (try dsimp only [bndR, ensR, oksR, fcutR, List.append_nil, List.nil_append, List.cons_append, List.append_assoc] at hk ⊢); exact ReadR.indexE (i := i) rfl rfl hasA him) ?_) | (refine gD 92 ?_; refine RGl.rdX (fun e hk => by (try dsimp only [bndR, ensR, oksR, fcutR, List.append_nil, List.nil_append, List.cons_append, List.append_assoc] at hk ⊢); exact ReadR.fieldE rfl hasA (by omega)) ?_) | (refine gD 93 ?_; refine RGl.rdX (fun e hk => by (try dsimp only [bndR, ensR, oksR, fcutR, List.append_nil, List.nil_append, List.cons_append, List.append_assoc] at hk ⊢); exact ReadR.loadE rfl hasA c0) ?_) | (refine gD 99 ?_; refine RGl.rdX (fun e hk => by (try dsimp only [bndR, ensR, oksR, fcutR, List.append_nil, List.nil_append, List.cons_append, List.append_assoc] at hk ⊢); exact ReadR.indexE (i := i) rfl rfl hasA him) ?_) | (refine gD 100 ?_; refine RGl.rdX (fun e hk => by (try dsimp only [bndR, ensR, oksR, fcutR, List.append_nil, List.nil_append, List.cons_append, List.append_assoc] at hk ⊢); exact ReadR.fieldE rfl hasA (by omega)) ?_) | (refine gD 101 ?_; refine RGl.rdX (fun e hk => by (try dsimp only [bndR, ensR, oksR, fcutR, List.append_nil, List.nil_append, List.cons_append, List.append_assoc] at hk ⊢); exact ReadR.loadE rfl hasA c4) ?_) | (refine gOp ?_; (refine gC 102 ?_; refine RGl.relG (.int .i64 er) (fun s : RfS => rsA gX s) (fun s => s.vw = D1 ∧ RInv n (k + 1) s ∧ ∀ r ∈ R.rs, r ∈ s.rs) hv102 (fun e hk => by (try dsimp only [bndR, ensR, oksR, fcutR, List.append_nil, List.nil_append, List.cons_append, List.append_assoc] at hk ⊢); exact OpT.callTs c102) ?_)) | (refine gD 104 ?_; refine RGl.rdX (fun e hk => by (try dsimp only [bndR, ensR, oksR, fcutR, List.append_nil, List.nil_append, List.cons_append, List.append_assoc] at hk ⊢); exact ReadR.binE rfl rfl BinR.neq (congrArg (fun q => Value.bool (!q)) (decide_eq_false he))) ?_) | (refine gD 111 ?_; refine RGl.rdX (fun e hk => by (try dsimp only [bndR, ensR, oksR, fcutR, List.append_nil, List.nil_append, List.cons_append, List.append_assoc] at hk ⊢); exact ReadR.build (cs' := frRC frR0) buildA) ?_) | (refine gD 112 ?_; refine RGl.rdX (fun e hk => by (try dsimp only [bndR, ensR, oksR, fcutR, List.append_nil, List.nil_append, List.cons_append, List.append_assoc] at hk ⊢); exact ReadR.indexE (i := i) rfl rfl hasA him) ?_) | (refine gOp ?_; first | refine RGl.rdA ?_ | refine RGl.rdX (fun e hk => by (try dsimp only [bndR, ensR, oksR, fcutR, List.append_nil, List.nil_append, List.cons_append, List.append_assoc] at hk ⊢); exact readB) ?_) | (refine RGl.fin (fun e hk => ?_); (try dsimp only [bndA, ensAR, oksA, List.append_nil, List.nil_append, List.cons_append, List.append_assoc] at hk ⊢); (repeat (obtain ⟨hk1, hk⟩ := hk))) | fail)
             | (refine isCond ?_; first | refine WPc.cT ?_ | refine WPc.cF ?_ | (refine WPc.cQ (fun hc => ?_) (fun hc => ?_) <;> try exact prA))
             | (refine isD 32 ?_; refine WPl.rdX (ReadR.binE rfl rfl BinR.lss (congrArg Value.bool (decide_eq_true hlt'))) ?_)
             | (refine isD 31 ?_; refine WPl.rdX (ReadR.binE rfl rfl (BinR.mulI (by omega) (by omega)) rfl) ?_)
             | (refine isD 40 ?_; refine WPl.rdX (ReadR.binE rfl rfl (BinR.addI (by omega) (by omega)) rfl) ?_)
             | (refine isD 42 ?_; refine WPl.rdX (ReadR.binE rfl rfl (BinR.remK (by omega) (by omega)) (congrArg (Value.int .i64) hmod)) ?_)
             | (refine isD 48 ?_; refine WPl.rdX (ReadR.indexE (i := i) rfl rfl hasA him) ?_)
             | (refine isD 49 ?_; refine WPl.rdX (ReadR.fieldE rfl hasA (by omega)) ?_)
             | (refine isD 50 ?_; refine WPl.rdX (ReadR.loadE rfl hasA c1) ?_)
             | (refine isD 51 ?_; refine WPl.rdX (ReadR.binE rfl rfl BinR.gtr (congrArg Value.bool (decide_eq_false hp'))) ?_)
             | (refine isD 57 ?_; refine WPl.rdX (ReadR.indexE (i := i) rfl rfl hasA him) ?_)
             | (refine isD 58 ?_; refine WPl.rdX (ReadR.fieldE rfl hasA (by omega)) ?_)
             | (refine isD 59 ?_; refine WPl.rdX (ReadR.loadE rfl hasA c3) ?_)
             | (refine isD 71 ?_; refine WPl.rdX (ReadR.binE rfl rfl (BinR.remK (by omega) (by omega)) (congrArg (Value.int .i64) hmod2)) ?_)
             | (refine isD 79 ?_; refine WPl.rdX (ReadR.indexE (i := i) rfl rfl hasA him) ?_)
             | (refine isD 80 ?_; refine WPl.rdX (ReadR.fieldE rfl hasA (by omega)) ?_)
             | (refine isD 81 ?_; refine WPl.rdX (ReadR.loadE rfl hasA c2) ?_)
             | (refine isD 91 ?_; refine WPl.rdX (ReadR.indexE (i := i) rfl rfl hasA him) ?_)
             | (refine isD 92 ?_; refine WPl.rdX (ReadR.fieldE rfl hasA (by omega)) ?_)
             | (refine isD 93 ?_; refine WPl.rdX (ReadR.loadE rfl hasA c0) ?_)
             | (refine isD 99 ?_; refine WPl.rdX (ReadR.indexE (i := i) rfl rfl hasA him) ?_)
             | (refine isD 100 ?_; refine WPl.rdX (ReadR.fieldE rfl hasA (by omega)) ?_)
             | (refine isD 101 ?_; refine WPl.rdX (ReadR.loadE rfl hasA c4) ?_)
             | (refine isD 104 ?_; refine WPl.rdX (ReadR.binE rfl rfl BinR.neq (congrArg (fun q => Value.bool (!q)) (decide_eq_false he))) ?_)
             | (refine isD 111 ?_; refine WPl.rdX (ReadR.build (cs' := frRC frR0) buildA) ?_)
             | (refine isD 112 ?_; refine WPl.rdX (ReadR.indexE (i := i) rfl rfl hasA him) ?_)
             | (show WPl _ _ _ _ _ _ _ (⟨_, .store _ (.tmp 112) _, _, _, _, _⟩ :: _) _; refine WPl.stES (new := frRC frR0) (i := i * 5) (k := 5) (m := m) (xs := rfs fs) hfz rfl (by omega) (by omega) ?_)
             | (refine isOp ?_; first | refine WPl.rd ?_ | refine WPl.sk ?_ | refine WPl.rdB ?_)
             | (refine isSt ?_; first | refine WPl.st1 ?_ | refine WPl.stA ?_ | refine WPl.stEB ?_ | refine WPl.stRB ?_)
             | (show WPl _ _ _ _ _ _ _ (⟨_, .indexAddr _ _ _, _, _, _, _⟩ :: _) _; refine WPl.rdX (ReadR.indexE rfl rfl hasA (by first | assumption | omega)) ?_)
             | (show WPl _ _ _ _ _ _ _ (⟨_, .fieldAddr _ _ _, _, _, _, _⟩ :: _) _; refine WPl.rdX (ReadR.fieldE rfl hasA (by first | assumption | omega)) ?_)
             | (show WPl _ _ _ _ _ _ _ (⟨_, .load _ _, _, _, _, _⟩ :: _) _; first | refine WPl.rdX (ReadR.loadE rfl hasA (by assumption)) ?_ | refine WPl.rdX (ReadR.loadES (by assumption) (by first | assumption | omega) rfl hasA) ?_)
             | (show WPl _ _ _ _ _ _ _ (⟨_, .slice _ _ _ _ _, _, _, _, _⟩ :: _) _; first | refine WPl.rdX (ReadR.sliceH rfl rfl hasA (by omega)) ?_ | refine WPl.rdX (ReadR.sliceL rfl rfl hasA (by omega)) ?_ | refine WPl.rdX (ReadR.sliceLH rfl rfl rfl hasA (by omega) (by omega)) ?_)
             | (refine WPl.spQ (fun hc => ?_) (fun hc => ?_) <;> try exact prA)
             | fail)
            have hA : (fun s : RfS => s.vw = D1 ∧ RInv n (k + 1) s ∧ ∀ r ∈ R.rs, r ∈ s.rs) (pickG (fun s : RfS => rsA gX s) (fun s => s.vw = D1 ∧ RInv n (k + 1) s ∧ ∀ r ∈ R.rs, r ∈ s.rs) (e 20).2) := by assumption
            obtain ⟨T, hT⟩ : ∃ T, T = (pickG (fun s : RfS => rsA gX s) (fun s => s.vw = D1 ∧ RInv n (k + 1) s ∧ ∀ r ∈ R.rs, r ∈ s.rs) (e 20).2) := ⟨_, rfl⟩
            rw [← hT] at hA
            obtain ⟨hA1, hA2, hA3⟩ := hA
            dsimp only [Nat.reduceAdd]
            rw [← hT]
            refine WPq.dX (ho := ownsW) (vs := [.int .i64 (-1), .int .i64 er]) [bx gY 73 (krc gX K.v (h' : Int)), rowN 97 5 K.v m (rfs fs), bx gX 51 (rdc T.vL T.vA T.vB T.fu T.wr), rowN 31 1 T.vL T.L.length (valsV T.L), rowN 3 1 T.vA T.Z.length (intsV (zAt T.Z)), rowN 31 1 T.vB T.Z.length (valsV (zB T.Z)), vault T.rs] ⟨⟨fs, h', K.v⟩, T, rfl, rfl, hA1, hKg T.rs hA3, hA2, (fun a ha => by cases ha), (fun _ => he), ?_⟩
            show _ = [_, rowN _ 5 K.v fs.length _, _, _, _, _, _]
            rw [hfl]
  · have hq2 : 2 * m - q = 0 := by omega
    rw [hq2] at heq
    have heq : V = (fs.map FR.vw, none) := heq.symm
    rw [heq]
    have hlt' : ¬ (q : Int) < 2 * (m : Int) := by omega
    repeat' (first
     | refine WPl.nil ?_ | refine WPq.then ?_ | refine WPq.thenR ?_ | refine WPq.thenE ?_ | refine WPq.blockN ?_ | refine WPq.blockR ?_ | refine WPq.blockE ?_ | refine WPq.blockO rfl ?_ | refine WPc.seq ?_ | refine WPc.block ?_ | refine WPc.ret ?_ | refine WPc.exit ?_ | refine WPc.skip ?_ | refine WPc.region ?_
     | (refine isCond ?_; first | refine WPc.cT ?_ | refine WPc.cF ?_ | (refine WPc.cQ (fun hc => ?_) (fun hc => ?_) <;> try exact prA))
     | (refine isD 32 ?_; refine WPl.rdX (ReadR.binE rfl rfl BinR.lss (congrArg Value.bool (decide_eq_false hlt'))) ?_)
     | (refine isD 31 ?_; refine WPl.rdX (ReadR.binE rfl rfl (BinR.mulI (by omega) (by omega)) rfl) ?_)
     | (refine isOp ?_; first | refine WPl.rd ?_ | refine WPl.sk ?_ | refine WPl.rdB ?_)
     | (refine isSt ?_; first | refine WPl.st1 ?_ | refine WPl.stA ?_ | refine WPl.stEB ?_ | refine WPl.stRB ?_)
     | (show WPl _ _ _ _ _ _ _ (⟨_, .indexAddr _ _ _, _, _, _, _⟩ :: _) _; refine WPl.rdX (ReadR.indexE rfl rfl hasA (by first | assumption | omega)) ?_)
     | (show WPl _ _ _ _ _ _ _ (⟨_, .fieldAddr _ _ _, _, _, _, _⟩ :: _) _; refine WPl.rdX (ReadR.fieldE rfl hasA (by first | assumption | omega)) ?_)
     | (show WPl _ _ _ _ _ _ _ (⟨_, .load _ _, _, _, _, _⟩ :: _) _; first | refine WPl.rdX (ReadR.loadE rfl hasA (by assumption)) ?_ | refine WPl.rdX (ReadR.loadES (by assumption) (by first | assumption | omega) rfl hasA) ?_)
     | (show WPl _ _ _ _ _ _ _ (⟨_, .slice _ _ _ _ _, _, _, _, _⟩ :: _) _; first | refine WPl.rdX (ReadR.sliceH rfl rfl hasA (by omega)) ?_ | refine WPl.rdX (ReadR.sliceL rfl rfl hasA (by omega)) ?_ | refine WPl.rdX (ReadR.sliceLH rfl rfl rfl hasA (by omega) (by omega)) ?_)
     | (refine WPl.spQ (fun hc => ?_) (fun hc => ?_) <;> try exact prA)
     | fail)
    refine WPq.dX (ho := ownsW) (vs := [.int .i64 (-1), .int .i64 11]) [bx gY 73 (krc gX K.v (K.hand : Int)), rowN 97 5 K.v m (rfs fs), bx gX 51 (rdc R.vL R.vA R.vB R.fu R.wr), rowN 31 1 R.vL R.L.length (valsV R.L), rowN 3 1 R.vA R.Z.length (intsV (zAt R.Z)), rowN 31 1 R.vB R.Z.length (valsV (zB R.Z)), vault R.rs] ⟨⟨fs, K.hand, K.v⟩, R, rfl, rfl, rfl, ⟨h.v, hfl, hhand, heach⟩, hr.mono (Nat.le_succ _), fun a ha => (by cases ha), fun _ => (by show (11 : Int) ≠ 0; omega), ?_⟩
    show _ = [_, rowN _ 5 K.v fs.length _, _, _, _, _, _]
    rw [hfl]
end
end Go.Proofs.Ytepmikgjnmjheaa
/- Reference of layer 5 (cache): Get. -/
namespace Go.Proofs.Ytepmikgjnmjheaa
open Go.RowKit
set_option linter.unusedSimpArgs false
set_option linter.unusedVariables false
set_option maxRecDepth 20000
set_option maxHeartbeats 4000000
attribute [local irreducible] WPc WPl WPq ReadR OpT BinR HasS bx rdN rowN Take Takes Prov Triple ResF BuildP Done ag Int.decLt Int.decLe Int.instDecidableEq
attribute [local irreducible] mp rmp rg rgo bag vrow secs mput mget mfind mdel intsV skeys vault pickG fburn fb1 valsV zAt zB vers crashT intsN frs rfs
def RKGet (gY gX n m p k : Nat) (r : Cv × Dv × List UInt8 × Int) : Value → List Asn → Prop := fun v Γ => ∃ K R c, v = .tuple #[c, .int .i64 r.2.2.2] ∧ c.oneCell' = true ∧ K.vw = r.1 ∧ R.vw = r.2.1 ∧ KInv n m p R.rs K ∧ RInv n k R ∧ ((r.2.2.2 = 0 ∧ (∃ x : Sec, (c, x) ∈ R.rs ∧ x.b = r.2.2.1) ∧ Γ = krA gY gX K R) ∨ (r.2.2.2 ≠ 0 ∧ r.2.2.1 = [] ∧ Γ = ob c [] :: krA gY gX K R))
theorem atK_hit {n m p : Nat} {rs : List (Value × Sec)} {K : KS} (h : KInv n m p rs K) {no : Int} {i : Nat} (hc : atK K.fs no = some i) : ∃ f, K.fs[i]? = some f ∧ f.no = no ∧ 0 ≤ no ∧ FRInv n p rs f ∧ (f.v, f.s) ∈ rs ∧ i < K.fs.length ∧ K.vw.at no = some i ∧ K.vw.fs[i]? = some (some ⟨f.no, f.pins, f.dirty, f.used, f.s⟩) := by
  obtain ⟨f, hf, hff⟩ := findIdx_spec hc
  rw [Bool.and_eq_true, decide_eq_true_eq, decide_eq_true_eq] at hff
  obtain ⟨h1, h2⟩ := hff
  have hfi := h.each f (List.mem_of_getElem? hf)
  refine ⟨f, hf, h1, h2, hfi, (hfi.here (by omega)).2, (List.getElem?_eq_some_iff.1 hf).1, by rw [atK_vw h]; exact hc, ?_⟩
  show (K.fs.map FR.vw)[i]? = _
  rw [List.getElem?_map, hf, Option.map_some, FR.vw_some (by omega)]
section
variable (gY gX n m p k : Nat) (K : KS) (R : RfS)
theorem kget_t (no : Nat) (h : KInv n m p R.rs K) (hr : RInv n k R) (hn : n ≤ 1600) (h8 : 8 ≤ m) (hm : m ≤ 64) (hkb : k ≤ 80000) (hno : no < n) :
    Triple Try.prog 66 #[hC gY, .int .i64 (no : Int)] (krA gY gX K R) (RKGet gY gX n m p (k + 1) (K.vw.get R.vw no)) := by
  have hlen := h.len
  have hhand := h.hand
  have hnl := hr.nl
  have hL := rfs_len (l := K.fs)
  have c28 := kat_t gY gX K.v (K.hand : Int) K.fs (no : Int) (by omega)
  cases hco : atK K.fs (no : Int) with
  | some i =>
    obtain ⟨f, hf, hfno, h0, hfi, hin, hil, hat, hfv⟩ := atK_hit h hco
    rw [hco] at c28
    have c28 : Triple _ _ _ _ (RVal (.int .i64 (i : Int))) := c28
    have hget : K.vw.get R.vw no = (setF K.vw i (some ⟨f.no, f.pins, f.dirty, true, f.s⟩), R.vw, f.s.b, 0) := by
      unfold Cv.get
      rw [hat]
      dsimp only
      rw [hfv]
    rw [hget]
    obtain ⟨f', hf'⟩ : ∃ f' : FR, f' = { f with used := true } := ⟨_, rfl⟩
    have hf'n : ¬ f'.no < 0 := by rw [hf']; show ¬ f.no < 0; omega
    have hf'v : f'.vw = some ⟨f.no, f.pins, f.dirty, true, f.s⟩ := by rw [FR.vw_some hf'n, hf']
    have hfi' : FRInv n p R.rs f' := by rw [hf']; exact ⟨hfi.one, hfi.here, fun h9 => absurd h9 (by show ¬ f.no < 0; omega), hfi.pin0, hfi.pin1⟩
    have hs := rfs_1 (f' := f') (o := 3) (u := .bool true) hf (by omega) (by rw [hf']; rfl)
    have hset : (K.fs.set i f')[i]? = some f' := List.getElem?_set_self hil
    have c4 : (rfs (K.fs.set i f'))[i * 5 + 4]? = some f.v := by rw [rfs_cell hset (by omega), hf']; rfl
    rw [← hs] at c4
    have hl4 : i * 5 < ((rfs K.fs).set (i * 5 + 3) (.bool true)).length := by rw [List.length_set]; omega
    refine Triple.enter Try.func66 rfl Try.ntmps66 rfl (fun W => ?_)
    dsimp only [argsF, Nat.reduceAdd]
    repeat' (first
     | refine WPl.nil ?_ | refine WPq.then ?_ | refine WPq.thenR ?_ | refine WPq.thenE ?_ | refine WPq.blockN ?_ | refine WPq.blockR ?_ | refine WPq.blockE ?_ | refine WPq.blockO rfl ?_ | refine WPc.seq ?_ | refine WPc.block ?_ | refine WPc.ret ?_ | refine WPc.exit ?_ | refine WPc.skip ?_ | refine WPc.region ?_
     | (refine isCond ?_; first | refine WPc.cT ?_ | refine WPc.cF ?_ | (refine WPc.cQ (fun hc => ?_) (fun hc => ?_) <;> try exact prA))
     | (refine isD 12 ?_; refine WPl.rdX (ReadR.binE rfl rfl BinR.lss (congrArg Value.bool (decide_eq_false (show ¬ (no : Int) < 0 by omega)))) ?_)
     | (refine isD 18 ?_; refine WPl.rdX (ReadR.loadO memA rfl rfl) ?_)
     | (refine isD 21 ?_; refine WPl.rdX (ReadR.loadO memA rfl rfl) ?_)
     | (refine isD 23 ?_; refine WPl.rdX (ReadR.binE rfl rfl BinR.geq (congrArg Value.bool (decide_eq_false (show ¬ (no : Int) ≥ (R.L.length : Int) by omega)))) ?_)
     | (refine isC 28 ?_; refine WPl.cV c28 ?_ (hΔ := provsW))
     | (refine isD 30 ?_; refine WPl.rdX (ReadR.binE rfl rfl BinR.lss (congrArg Value.bool (decide_eq_false (show ¬ (i : Int) < 0 by omega)))) ?_)
     | (refine isD 68 ?_; refine WPl.rdX (ReadR.indexE (i := i) rfl rfl hasA hil) ?_)
     | (refine isD 69 ?_; refine WPl.rdX (ReadR.fieldE rfl hasA (by omega)) ?_)
     | (show WPl _ _ _ _ _ _ _ (⟨_, .store _ (.tmp 69) _, _, _, _, _⟩ :: _) _; refine WPl.stEN (i := i * 5 + 3) (m := K.fs.length) (xs := rfs K.fs) (by omega) ?_)
     | (refine isD 75 ?_; refine WPl.rdX (ReadR.indexE (i := i) rfl rfl hasA hil) ?_)
     | (refine isD 76 ?_; refine WPl.rdX (ReadR.fieldE rfl hasA hl4) ?_)
     | (refine isD 77 ?_; refine WPl.rdX (ReadR.loadE rfl hasA c4) ?_)
     | (refine isOp ?_; first | refine WPl.rd ?_ | refine WPl.sk ?_ | refine WPl.rdB ?_)
     | (refine isSt ?_; first | refine WPl.st1 ?_ | refine WPl.stA ?_ | refine WPl.stEB ?_ | refine WPl.stRB ?_)
     | (show WPl _ _ _ _ _ _ _ (⟨_, .indexAddr _ _ _, _, _, _, _⟩ :: _) _; refine WPl.rdX (ReadR.indexE rfl rfl hasA (by first | assumption | omega)) ?_)
     | (show WPl _ _ _ _ _ _ _ (⟨_, .fieldAddr _ _ _, _, _, _, _⟩ :: _) _; refine WPl.rdX (ReadR.fieldE rfl hasA (by first | assumption | omega)) ?_)
     | (show WPl _ _ _ _ _ _ _ (⟨_, .load _ _, _, _, _, _⟩ :: _) _; first | refine WPl.rdX (ReadR.loadE rfl hasA (by assumption)) ?_ | refine WPl.rdX (ReadR.loadES (by assumption) (by first | assumption | omega) rfl hasA) ?_)
     | (show WPl _ _ _ _ _ _ _ (⟨_, .slice _ _ _ _ _, _, _, _, _⟩ :: _) _; first | refine WPl.rdX (ReadR.sliceH rfl rfl hasA (by omega)) ?_ | refine WPl.rdX (ReadR.sliceL rfl rfl hasA (by omega)) ?_ | refine WPl.rdX (ReadR.sliceLH rfl rfl rfl hasA (by omega) (by omega)) ?_)
     | (refine WPl.spQ (fun hc => ?_) (fun hc => ?_) <;> try exact prA)
     | fail)
    rw [hs]
    refine WPq.dX (ho := ownsW) (vs := [f.v, .int .i64 0]) [bx gY 73 (krc gX K.v (K.hand : Int)), rowN 97 5 K.v K.fs.length (rfs (K.fs.set i f')), bx gX 51 (rdc R.vL R.vA R.vB R.fu R.wr), rowN 31 1 R.vL R.L.length (valsV R.L), rowN 3 1 R.vA R.Z.length (intsV (zAt R.Z)), rowN 31 1 R.vB R.Z.length (valsV (zB R.Z)), vault R.rs] ⟨⟨K.fs.set i f', K.hand, K.v⟩, R, f.v, rfl, hfi.one, ?_, rfl, KInv.set h hfi' (by rw [← hlen] at hhand ⊢; exact hhand), hr.mono (Nat.le_succ _), .inl ⟨rfl, ⟨f.s, hin, rfl⟩, ?_⟩⟩
    · show Cv.mk _ _ = Cv.mk _ _
      rw [List.map_set, hf'v]; rfl
    · show _ = [_, rowN _ 5 K.v (K.fs.set i f').length _, _, _, _, _, _]
      rw [List.length_set]
  | none =>
    have hat : K.vw.at (no : Int) = none := by rw [atK_vw h]; exact hco
    rw [hco] at c28
    have c28 : Triple _ _ _ _ (RVal (.int .i64 (-1))) := c28
    have c33 := kroom_t gY gX n m p k K R h hr hn h8 hm hkb
    obtain ⟨rr, hrr⟩ : ∃ rr, rr = K.vw.room R.vw := ⟨_, rfl⟩
    rw [← hrr] at c33
    have hget : K.vw.get R.vw no = match rr.2.2.1 with
        | none => (rr.1, rr.2.1, [], rr.2.2.2)
        | some i => if rr.2.1.fails 1 then (rr.1, rr.2.1.burn 1, [], 3) else (setF rr.1 i (some ⟨no, 0, false, true, rr.2.1.now no⟩), rr.2.1.burn 1, (rr.2.1.now no).b, 0) := by
      unfold Cv.get; rw [hat]; dsimp only; rw [← hrr]; cases rr.2.2.1 <;> rfl
    rw [hget]
    cases hri : rr.2.2.1 with
    | none =>
      dsimp only
      have c33n : Triple Try.prog 76 #[hC gY] (krA gY gX K R) (fun v Γ => ∃ K1 R1, v = .tuple #[.int .i64 (-1), .int .i64 rr.2.2.2] ∧ K1.vw = rr.1 ∧ R1.vw = rr.2.1 ∧ KInv n m p R1.rs K1 ∧ RInv n (k + 1) R1 ∧ rr.2.2.2 ≠ 0 ∧ Γ = krA gY gX K1 R1) := c33.mono (by
        rintro v Γ ⟨K1, R1, h1, h2, h3, h4, h5, _, h7, h8⟩
        rw [hri] at h1
        exact ⟨K1, R1, h1, h2, h3, h4, h5, h7 hri, h8⟩)
      refine Triple.enter Try.func66 rfl Try.ntmps66 rfl (fun W => ?_)
      dsimp only [argsF, Nat.reduceAdd]
      repeat' (first
       | refine WPl.nil ?_ | refine WPq.then ?_ | refine WPq.thenR ?_ | refine WPq.thenE ?_ | refine WPq.blockN ?_ | refine WPq.blockR ?_ | refine WPq.blockE ?_ | refine WPq.blockO rfl ?_ | refine WPc.seq ?_ | refine WPc.block ?_ | refine WPc.ret ?_ | refine WPc.exit ?_ | refine WPc.skip ?_ | refine WPc.region ?_
       | (refine isCond ?_; first | refine WPc.cT ?_ | refine WPc.cF ?_ | (refine WPc.cQ (fun hc => ?_) (fun hc => ?_) <;> try exact prA))
       | (refine isD 12 ?_; refine WPl.rdX (ReadR.binE rfl rfl BinR.lss (congrArg Value.bool (decide_eq_false (show ¬ (no : Int) < 0 by omega)))) ?_)
       | (refine isD 18 ?_; refine WPl.rdX (ReadR.loadO memA rfl rfl) ?_)
       | (refine isD 21 ?_; refine WPl.rdX (ReadR.loadO memA rfl rfl) ?_)
       | (refine isD 23 ?_; refine WPl.rdX (ReadR.binE rfl rfl BinR.geq (congrArg Value.bool (decide_eq_false (show ¬ (no : Int) ≥ (R.L.length : Int) by omega)))) ?_)
       | (refine isC 28 ?_; refine WPl.cV c28 ?_ (hΔ := provsW))
       | (refine isD 30 ?_; refine WPl.rdX (ReadR.binE rfl rfl BinR.lss (congrArg Value.bool (decide_eq_true (show (-1 : Int) < 0 by omega)))) ?_)
       | (refine isC 33 ?_; refine WPl.cXs (c33n) fun v Γ1 hR => ?_; obtain ⟨K1, R1, rfl, hK1, hR1, hKi, hRi, hne, rfl⟩ := hR; (try dsimp only [putF, List.cons_append, List.nil_append]))
       | (refine isD 37 ?_; refine WPl.rdX (ReadR.binE rfl rfl BinR.neq (congrArg (fun q => Value.bool (!q)) (decide_eq_false hne))) ?_)
       | (refine isLit ?_; refine WPl.lit fun v38 hv38 => ?_)
       | (refine isOp ?_; first | refine WPl.rd ?_ | refine WPl.sk ?_ | refine WPl.rdB ?_)
       | (refine isSt ?_; first | refine WPl.st1 ?_ | refine WPl.stA ?_ | refine WPl.stEB ?_ | refine WPl.stRB ?_)
       | (show WPl _ _ _ _ _ _ _ (⟨_, .indexAddr _ _ _, _, _, _, _⟩ :: _) _; refine WPl.rdX (ReadR.indexE rfl rfl hasA (by first | assumption | omega)) ?_)
       | (show WPl _ _ _ _ _ _ _ (⟨_, .fieldAddr _ _ _, _, _, _, _⟩ :: _) _; refine WPl.rdX (ReadR.fieldE rfl hasA (by first | assumption | omega)) ?_)
       | (show WPl _ _ _ _ _ _ _ (⟨_, .load _ _, _, _, _, _⟩ :: _) _; first | refine WPl.rdX (ReadR.loadE rfl hasA (by assumption)) ?_ | refine WPl.rdX (ReadR.loadES (by assumption) (by first | assumption | omega) rfl hasA) ?_)
       | (show WPl _ _ _ _ _ _ _ (⟨_, .slice _ _ _ _ _, _, _, _, _⟩ :: _) _; first | refine WPl.rdX (ReadR.sliceH rfl rfl hasA (by omega)) ?_ | refine WPl.rdX (ReadR.sliceL rfl rfl hasA (by omega)) ?_ | refine WPl.rdX (ReadR.sliceLH rfl rfl rfl hasA (by omega) (by omega)) ?_)
       | (refine WPl.spQ (fun hc => ?_) (fun hc => ?_) <;> try exact prA)
       | fail)
      refine WPq.dX (ho := ownsW) (vs := [v38, .int .i64 rr.2.2.2]) (ob v38 [] :: krA gY gX K1 R1) ⟨K1, R1, v38, rfl, hv38, hK1, hR1, hKi, hRi, .inr ⟨hne, rfl, rfl⟩⟩
    | some i =>
      dsimp only
      have c33s : Triple Try.prog 76 #[hC gY] (krA gY gX K R) (fun v Γ => ∃ K1 R1, v = .tuple #[.int .i64 (i : Int), .int .i64 0] ∧ K1.vw = rr.1 ∧ R1.vw = rr.2.1 ∧ KInv n m p R1.rs K1 ∧ RInv n (k + 1) R1 ∧ (∃ f, K1.fs[i]? = some f ∧ f.no < 0) ∧ Γ = krA gY gX K1 R1) := c33.mono (by
        rintro v Γ ⟨K1, R1, h1, h2, h3, h4, h5, h6, _, h8⟩
        obtain ⟨he, hfr⟩ := h6 i hri
        rw [hri, he] at h1
        exact ⟨K1, R1, h1, h2, h3, h4, h5, hfr, h8⟩)
      cases hf : rr.2.1.fails 1 with
      | true =>
        rw [if_pos rfl]
        refine Triple.enter Try.func66 rfl Try.ntmps66 rfl (fun W => ?_)
        dsimp only [argsF, Nat.reduceAdd]
        repeat' (first
         | refine WPl.nil ?_ | refine WPq.then ?_ | refine WPq.thenR ?_ | refine WPq.thenE ?_ | refine WPq.blockN ?_ | refine WPq.blockR ?_ | refine WPq.blockE ?_ | refine WPq.blockO rfl ?_ | refine WPc.seq ?_ | refine WPc.block ?_ | refine WPc.ret ?_ | refine WPc.exit ?_ | refine WPc.skip ?_ | refine WPc.region ?_
         | (refine isCond ?_; first | refine WPc.cT ?_ | refine WPc.cF ?_ | (refine WPc.cQ (fun hc => ?_) (fun hc => ?_) <;> try exact prA))
         | (refine isD 12 ?_; refine WPl.rdX (ReadR.binE rfl rfl BinR.lss (congrArg Value.bool (decide_eq_false (show ¬ (no : Int) < 0 by omega)))) ?_)
         | (refine isD 18 ?_; refine WPl.rdX (ReadR.loadO memA rfl rfl) ?_)
         | (refine isD 21 ?_; refine WPl.rdX (ReadR.loadO memA rfl rfl) ?_)
         | (refine isD 23 ?_; refine WPl.rdX (ReadR.binE rfl rfl BinR.geq (congrArg Value.bool (decide_eq_false (show ¬ (no : Int) ≥ (R.L.length : Int) by omega)))) ?_)
         | (refine isC 28 ?_; refine WPl.cV c28 ?_ (hΔ := provsW))
         | (refine isD 30 ?_; refine WPl.rdX (ReadR.binE rfl rfl BinR.lss (congrArg Value.bool (decide_eq_true (show (-1 : Int) < 0 by omega)))) ?_)
         | (refine isC 33 ?_; refine WPl.cXs (c33s) fun v Γ1 hR => ?_; obtain ⟨K1, R1, rfl, hK1, hR1, hKi, hRi, hfr, rfl⟩ := hR; (try dsimp only [putF, List.cons_append, List.nil_append]))
         | (refine isD 37 ?_; refine WPl.rdX (ReadR.binE rfl rfl BinR.neq (congrArg (fun q => Value.bool (!q)) (decide_eq_true rfl))) ?_)
         | (refine isC 46 ?_; refine WPl.cXs ((rrdFK_t gX n (k + 1) R1 no hRi (by omega) (by omega) hno (by rw [hR1]; exact hf))) fun v Γ1 hR => ?_; obtain ⟨R2, c46, rfl, hc46, hR2, hRi2, hsub, rfl⟩ := hR; (try dsimp only [putF, List.cons_append, List.nil_append]))
         | (refine isD 50 ?_; refine WPl.rdX (ReadR.binE rfl rfl BinR.neq (congrArg (fun q => Value.bool (!q)) (decide_eq_false (show ¬ (3 : Int) = 0 by omega)))) ?_)
         | (refine isLit ?_; refine WPl.lit fun v51 hv51 => ?_)
         | (refine isOp ?_; first | refine WPl.rd ?_ | refine WPl.sk ?_ | refine WPl.rdB ?_)
         | (refine isSt ?_; first | refine WPl.st1 ?_ | refine WPl.stA ?_ | refine WPl.stEB ?_ | refine WPl.stRB ?_)
         | (show WPl _ _ _ _ _ _ _ (⟨_, .indexAddr _ _ _, _, _, _, _⟩ :: _) _; refine WPl.rdX (ReadR.indexE rfl rfl hasA (by first | assumption | omega)) ?_)
         | (show WPl _ _ _ _ _ _ _ (⟨_, .fieldAddr _ _ _, _, _, _, _⟩ :: _) _; refine WPl.rdX (ReadR.fieldE rfl hasA (by first | assumption | omega)) ?_)
         | (show WPl _ _ _ _ _ _ _ (⟨_, .load _ _, _, _, _, _⟩ :: _) _; first | refine WPl.rdX (ReadR.loadE rfl hasA (by assumption)) ?_ | refine WPl.rdX (ReadR.loadES (by assumption) (by first | assumption | omega) rfl hasA) ?_)
         | (show WPl _ _ _ _ _ _ _ (⟨_, .slice _ _ _ _ _, _, _, _, _⟩ :: _) _; first | refine WPl.rdX (ReadR.sliceH rfl rfl hasA (by omega)) ?_ | refine WPl.rdX (ReadR.sliceL rfl rfl hasA (by omega)) ?_ | refine WPl.rdX (ReadR.sliceLH rfl rfl rfl hasA (by omega) (by omega)) ?_)
         | (refine WPl.spQ (fun hc => ?_) (fun hc => ?_) <;> try exact prA)
         | fail)
        refine WPq.dX (ho := ownsW) (vs := [v51, .int .i64 3]) (ob v51 [] :: krA gY gX K1 R2) ⟨K1, R2, v51, rfl, hv51, hK1, by rw [hR2, hR1], hKi.more hsub, hRi2, .inr ⟨by show (3 : Int) ≠ 0; omega, rfl, rfl⟩⟩
      | false =>
        rw [if_neg (by simp)]
        refine Triple.enter Try.func66 rfl Try.ntmps66 rfl (fun W => ?_)
        dsimp only [argsF, Nat.reduceAdd]
        repeat' (first
         | refine WPl.nil ?_ | refine WPq.then ?_ | refine WPq.thenR ?_ | refine WPq.thenE ?_ | refine WPq.blockN ?_ | refine WPq.blockR ?_ | refine WPq.blockE ?_ | refine WPq.blockO rfl ?_ | refine WPc.seq ?_ | refine WPc.block ?_ | refine WPc.ret ?_ | refine WPc.exit ?_ | refine WPc.skip ?_ | refine WPc.region ?_
         | (refine isCond ?_; first | refine WPc.cT ?_ | refine WPc.cF ?_ | (refine WPc.cQ (fun hc => ?_) (fun hc => ?_) <;> try exact prA))
         | (refine isD 12 ?_; refine WPl.rdX (ReadR.binE rfl rfl BinR.lss (congrArg Value.bool (decide_eq_false (show ¬ (no : Int) < 0 by omega)))) ?_)
         | (refine isD 18 ?_; refine WPl.rdX (ReadR.loadO memA rfl rfl) ?_)
         | (refine isD 21 ?_; refine WPl.rdX (ReadR.loadO memA rfl rfl) ?_)
         | (refine isD 23 ?_; refine WPl.rdX (ReadR.binE rfl rfl BinR.geq (congrArg Value.bool (decide_eq_false (show ¬ (no : Int) ≥ (R.L.length : Int) by omega)))) ?_)
         | (refine isC 28 ?_; refine WPl.cV c28 ?_ (hΔ := provsW))
         | (refine isD 30 ?_; refine WPl.rdX (ReadR.binE rfl rfl BinR.lss (congrArg Value.bool (decide_eq_true (show (-1 : Int) < 0 by omega)))) ?_)
         | (refine isC 33 ?_; refine WPl.cXs (c33s) fun v Γ1 hR => ?_; obtain ⟨K1, R1, rfl, hK1, hR1, hKi, hRi, ⟨f0, hf0, hf0n⟩, rfl⟩ := hR; (try dsimp only [putF, List.cons_append, List.nil_append]))
         | (refine isD 37 ?_; refine WPl.rdX (ReadR.binE rfl rfl BinR.neq (congrArg (fun q => Value.bool (!q)) (decide_eq_true rfl))) ?_)
         | (refine isC 46 ?_; refine WPl.cXs ((rrdK_t gX n (k + 1) R1 no hRi (by omega) (by omega) hno (by rw [hR1]; exact hf))) fun v Γ1 hR => ?_; obtain ⟨R2, c46, rfl, hc46, hin, hR2, hRi2, hsub, rfl⟩ := hR; (try dsimp only [putF, List.cons_append, List.nil_append]))
         | (refine isD 50 ?_; refine WPl.rdX (ReadR.binE rfl rfl BinR.neq (congrArg (fun q => Value.bool (!q)) (decide_eq_true rfl))) ?_)
         | (refine isOp ?_; first | refine WPl.rd ?_ | refine WPl.sk ?_ | refine WPl.rdB ?_)
         | (refine isSt ?_; first | refine WPl.st1 ?_ | refine WPl.stA ?_ | refine WPl.stEB ?_ | refine WPl.stRB ?_)
         | (show WPl _ _ _ _ _ _ _ (⟨_, .indexAddr _ _ _, _, _, _, _⟩ :: _) _; refine WPl.rdX (ReadR.indexE rfl rfl hasA (by first | assumption | omega)) ?_)
         | (show WPl _ _ _ _ _ _ _ (⟨_, .fieldAddr _ _ _, _, _, _, _⟩ :: _) _; refine WPl.rdX (ReadR.fieldE rfl hasA (by first | assumption | omega)) ?_)
         | (show WPl _ _ _ _ _ _ _ (⟨_, .load _ _, _, _, _, _⟩ :: _) _; first | refine WPl.rdX (ReadR.loadE rfl hasA (by assumption)) ?_ | refine WPl.rdX (ReadR.loadES (by assumption) (by first | assumption | omega) rfl hasA) ?_)
         | (show WPl _ _ _ _ _ _ _ (⟨_, .slice _ _ _ _ _, _, _, _, _⟩ :: _) _; first | refine WPl.rdX (ReadR.sliceH rfl rfl hasA (by omega)) ?_ | refine WPl.rdX (ReadR.sliceL rfl rfl hasA (by omega)) ?_ | refine WPl.rdX (ReadR.sliceLH rfl rfl rfl hasA (by omega) (by omega)) ?_)
         | (refine WPl.spQ (fun hc => ?_) (fun hc => ?_) <;> try exact prA)
         | fail)
        have him : i < K1.fs.length := (List.getElem?_eq_some_iff.1 hf0).1
        have hL1 := rfs_len (l := K1.fs)
        obtain ⟨s0, hs0⟩ : ∃ s0, s0 = R1.vw.now no := ⟨_, rfl⟩
        rw [← hs0] at hin
        obtain ⟨g1, hg1⟩ : ∃ g1 : FR, g1 = ⟨no, 0, false, false, c46, s0⟩ := ⟨_, rfl⟩
        obtain ⟨g2, hg2⟩ : ∃ g2 : FR, g2 = ⟨no, 0, false, true, c46, s0⟩ := ⟨_, rfl⟩
        have hg2n : ¬ g2.no < 0 := by rw [hg2]; show ¬ (no : Int) < 0; omega
        have hg2v : g2.vw = some ⟨no, 0, false, true, s0⟩ := by rw [FR.vw_some hg2n, hg2]
        have hg2i : FRInv n p R2.rs g2 := by rw [hg2]; exact ⟨hc46, fun _ => ⟨by show (no : Int) < n; omega, hin⟩, fun h9 => absurd h9 (by show ¬ (no : Int) < 0; omega), Int.le_refl _, Int.natCast_nonneg p⟩
        have hfz : FOk (frRC g1) := by rw [hg1]; exact .one1 rfl (.one1 rfl (.one1 rfl (.one1 rfl (.one1 hc46 .nil))))
        have hz := rfs_set (f := g1) him
        have hset1 : (K1.fs.set i g1)[i]? = some g1 := List.getElem?_set_self him
        have hs := rfs_1 (f' := g2) (o := 3) (u := .bool true) hset1 (by omega) (by rw [hg1, hg2]; rfl)
        rw [List.set_set] at hs
        have hset2 : (K1.fs.set i g2)[i]? = some g2 := List.getElem?_set_self him
        have c4 : (rfs (K1.fs.set i g2))[i * 5 + 4]? = some c46 := by rw [rfs_cell hset2 (by omega), hg2]; rfl
        have hL2 := rfs_len (l := K1.fs.set i g1)
        have hL3 := rfs_len (l := K1.fs.set i g2)
        rw [List.length_set] at hL2 hL3
        rw [show ag [(1, [Value.int .i64 (no : Int)]), (1, [Value.int .i64 0]), (1, [Value.bool false]), (1, [Value.bool false]), (1, [c46])] = ag (frRC g1) by rw [hg1]]
        repeat' (first
         | refine WPl.nil ?_ | refine WPq.then ?_ | refine WPq.thenR ?_ | refine WPq.thenE ?_ | refine WPq.blockN ?_ | refine WPq.blockR ?_ | refine WPq.blockE ?_ | refine WPq.blockO rfl ?_ | refine WPc.seq ?_ | refine WPc.block ?_ | refine WPc.ret ?_ | refine WPc.exit ?_ | refine WPc.skip ?_ | refine WPc.region ?_
         | (refine isCond ?_; first | refine WPc.cT ?_ | refine WPc.cF ?_ | (refine WPc.cQ (fun hc => ?_) (fun hc => ?_) <;> try exact prA))
         | (refine isD 62 ?_; refine WPl.rdX (ReadR.indexE (i := i) rfl rfl hasA him) ?_)
         | (show WPl _ _ _ _ _ _ _ (⟨_, .store _ (.tmp 62) _, _, _, _, _⟩ :: _) _; refine WPl.stES (new := frRC g1) (i := i * 5) (k := 5) (m := K1.fs.length) (xs := rfs K1.fs) hfz rfl (by omega) (by omega) ?_)
         | (refine isOp ?_; first | refine WPl.rd ?_ | refine WPl.sk ?_ | refine WPl.rdB ?_)
         | (refine isSt ?_; first | refine WPl.st1 ?_ | refine WPl.stA ?_ | refine WPl.stEB ?_ | refine WPl.stRB ?_)
         | (refine WPl.spQ (fun hc => ?_) (fun hc => ?_) <;> try exact prA)
         | fail)
        rw [hz]
        repeat' (first
         | refine WPl.nil ?_ | refine WPq.then ?_ | refine WPq.thenR ?_ | refine WPq.thenE ?_ | refine WPq.blockN ?_ | refine WPq.blockR ?_ | refine WPq.blockE ?_ | refine WPq.blockO rfl ?_ | refine WPc.seq ?_ | refine WPc.block ?_ | refine WPc.ret ?_ | refine WPc.exit ?_ | refine WPc.skip ?_ | refine WPc.region ?_
         | (refine isCond ?_; first | refine WPc.cT ?_ | refine WPc.cF ?_ | (refine WPc.cQ (fun hc => ?_) (fun hc => ?_) <;> try exact prA))
         | (refine isD 68 ?_; refine WPl.rdX (ReadR.indexE (i := i) rfl rfl hasA him) ?_)
         | (refine isD 69 ?_; refine WPl.rdX (ReadR.fieldE rfl hasA (by omega)) ?_)
         | (show WPl _ _ _ _ _ _ _ (⟨_, .store _ (.tmp 69) _, _, _, _, _⟩ :: _) _; refine WPl.stEN (i := i * 5 + 3) (m := K1.fs.length) (xs := rfs (K1.fs.set i g1)) (by omega) ?_)
         | (refine isOp ?_; first | refine WPl.rd ?_ | refine WPl.sk ?_ | refine WPl.rdB ?_)
         | (refine isSt ?_; first | refine WPl.st1 ?_ | refine WPl.stA ?_ | refine WPl.stEB ?_ | refine WPl.stRB ?_)
         | (refine WPl.spQ (fun hc => ?_) (fun hc => ?_) <;> try exact prA)
         | fail)
        rw [hs]
        repeat' (first
         | refine WPl.nil ?_ | refine WPq.then ?_ | refine WPq.thenR ?_ | refine WPq.thenE ?_ | refine WPq.blockN ?_ | refine WPq.blockR ?_ | refine WPq.blockE ?_ | refine WPq.blockO rfl ?_ | refine WPc.seq ?_ | refine WPc.block ?_ | refine WPc.ret ?_ | refine WPc.exit ?_ | refine WPc.skip ?_ | refine WPc.region ?_
         | (refine isCond ?_; first | refine WPc.cT ?_ | refine WPc.cF ?_ | (refine WPc.cQ (fun hc => ?_) (fun hc => ?_) <;> try exact prA))
         | (refine isD 75 ?_; refine WPl.rdX (ReadR.indexE (i := i) rfl rfl hasA him) ?_)
         | (refine isD 76 ?_; refine WPl.rdX (ReadR.fieldE rfl hasA (by omega)) ?_)
         | (refine isD 77 ?_; refine WPl.rdX (ReadR.loadE rfl hasA c4) ?_)
         | (refine isOp ?_; first | refine WPl.rd ?_ | refine WPl.sk ?_ | refine WPl.rdB ?_)
         | (refine isSt ?_; first | refine WPl.st1 ?_ | refine WPl.stA ?_ | refine WPl.stEB ?_ | refine WPl.stRB ?_)
         | (refine WPl.spQ (fun hc => ?_) (fun hc => ?_) <;> try exact prA)
         | fail)
        refine WPq.dX (ho := ownsW) (vs := [c46, .int .i64 0]) [bx gY 73 (krc gX K1.v (K1.hand : Int)), rowN 97 5 K1.v K1.fs.length (rfs (K1.fs.set i g2)), bx gX 51 (rdc R2.vL R2.vA R2.vB R2.fu R2.wr), rowN 31 1 R2.vL R2.L.length (valsV R2.L), rowN 3 1 R2.vA R2.Z.length (intsV (zAt R2.Z)), rowN 31 1 R2.vB R2.Z.length (valsV (zB R2.Z)), vault R2.rs] ⟨⟨K1.fs.set i g2, K1.hand, K1.v⟩, R2, c46, rfl, hc46, ?_, by rw [hR2, hR1], KInv.set (hKi.more hsub) hg2i hKi.hand, hRi2, .inl ⟨rfl, ⟨s0, hin, by rw [hs0, hR1]⟩, ?_⟩⟩
        · show Cv.mk _ _ = setF rr.1 i _
          rw [← hK1, ← hR1, ← hs0, List.map_set, hg2v]; rfl
        · show _ = [_, rowN _ 5 K1.v (K1.fs.set i g2).length _, _, _, _, _, _]
          rw [List.length_set]
end
end Go.Proofs.Ytepmikgjnmjheaa
/- Reference of layer 5 (cache): Put. -/
namespace Go.Proofs.Ytepmikgjnmjheaa
open Go.RowKit
set_option linter.unusedSimpArgs false
set_option linter.unusedVariables false
set_option maxRecDepth 20000
set_option maxHeartbeats 400000
attribute [local irreducible] WPc WPl WPq ReadR OpT BinR HasS bx rdN rowN Take Takes Prov Triple ResF BuildP Done ag Int.decLt Int.decLe Int.instDecidableEq
attribute [local irreducible] mp rmp rg rgo bag vrow secs mput mget mfind mdel intsV skeys vault pickG fburn fb1 valsV zAt zB vers crashT intsN frs rfs
def RKPut (gY gX n m p k : Nat) (r : Cv × Dv × Int) : Value → List Asn → Prop := fun v Γ => ∃ K R, v = .int .i64 r.2.2 ∧ K.vw = r.1 ∧ R.vw = r.2.1 ∧ KInv n m p R.rs K ∧ RInv n k R ∧ Γ = krA gY gX K R
theorem rfs_put {fs : List FR} {i : Nat} {f : FR} {v : Value} {s : Sec} (h : fs[i]? = some f) : (((rfs fs).set (i * 5 + 4) v).set (i * 5 + 2) (.bool true)).set (i * 5 + 3) (.bool true) = rfs (fs.set i ⟨f.no, f.pins, true, true, v, s⟩) := by
  have hi := (List.getElem?_eq_some_iff.1 h).1
  have h1 := rfs_1 (f' := ⟨f.no, f.pins, f.dirty, f.used, v, s⟩) (o := 4) (u := v) h (by omega) rfl
  rw [h1]
  have h2 := rfs_1 (f := ⟨f.no, f.pins, f.dirty, f.used, v, s⟩) (f' := ⟨f.no, f.pins, true, f.used, v, s⟩) (o := 2) (u := .bool true) (List.getElem?_set_self hi) (by omega) rfl
  rw [h2]
  have h3 := rfs_1 (f := ⟨f.no, f.pins, true, f.used, v, s⟩) (f' := ⟨f.no, f.pins, true, true, v, s⟩) (o := 3) (u := .bool true) (List.getElem?_set_self (l := fs) hi) (by omega) rfl
  rw [List.set_set, h3, List.set_set]
theorem RInv.vin {n k : Nat} {R : RfS} (h : RInv n k R) (r : Value × Sec) : RInv n k ⟨R.vL, R.L, R.vA, R.vB, R.Z, R.fu, R.wr, r :: R.rs⟩ := ⟨h.one, h.f4, h.fb, h.nl, h.lz, h.at', fun x hx => ⟨List.mem_cons_of_mem _ (h.inL x hx).1, (h.inL x hx).2⟩, fun z hz => ⟨List.mem_cons_of_mem _ (h.inZ z hz).1, (h.inZ z hz).2⟩, h.w0, h.w1⟩
section
variable (gY gX n m p k : Nat) (K : KS) (R : RfS)
theorem kput_t (no : Nat) (bv : Value) (s : Sec) (h : KInv n m p R.rs K) (hr : RInv n k R) (hn : n ≤ 1600) (h8 : 8 ≤ m) (hm : m ≤ 64) (hkb : k ≤ 80000) (hno : no < n) :
    Triple Try.prog 62 #[hC gY, .int .i64 (no : Int), bv] (rb bv s.b :: krA gY gX K R) (RKPut gY gX n m p (k + 1) (K.vw.put R.vw no s)) := by
  have hlen := h.len
  have hhand := h.hand
  have hnl := hr.nl
  have hsl := s.len
  have hL := rfs_len (l := K.fs)
  have c31 := kat_t gY gX K.v (K.hand : Int) K.fs (no : Int) (by omega)
  cases hco : atK K.fs (no : Int) with
  | some i =>
    obtain ⟨f, hf, hfno, h0, hfi, hin, him, hat, hfv⟩ := atK_hit h hco
    rw [hco] at c31
    have c31 : Triple _ _ _ _ (RVal (.int .i64 (i : Int))) := c31
    have hput : K.vw.put R.vw no s = (setF K.vw i (some ⟨f.no, f.pins, true, true, s⟩), R.vw, 0) := by
      unfold Cv.put
      rw [hat]
      dsimp only
      rw [hfv]
    rw [hput]
    refine Triple.enter Try.func62 rfl Try.ntmps62 rfl (fun W => ?_)
    dsimp only [argsF, Nat.reduceAdd]
    repeat' (first
     | refine WPl.nil ?_ | refine WPq.then ?_ | refine WPq.thenR ?_ | refine WPq.thenE ?_ | refine WPq.blockN ?_ | refine WPq.blockR ?_ | refine WPq.blockE ?_ | refine WPq.blockO rfl ?_ | refine WPc.seq ?_ | refine WPc.block ?_ | refine WPc.ret ?_ | refine WPc.exit ?_ | refine WPc.skip ?_ | refine WPc.region ?_
     | (refine isReg 10 ?_; refine WPc.drA [([27], [55, 56, 57, 58, 59, 60, 61, 62, 63, 64, 65, 66, 67, 68]), ([0, 27], [51, 55, 56, 57, 58, 59, 60, 61, 62, 63, 64, 65, 66, 67, 68]), ([0, 1, 27], [51, 52, 55, 56, 57, 58, 59, 60, 61, 62, 63, 64, 65, 66, 67, 68]), ([0, 1, 2, 27], [51, 52, 53, 55, 56, 57, 58, 59, 60, 61, 62, 63, 64, 65, 66, 67, 68]), ([27], [51, 52, 53, 54, 56, 57, 58, 59, 60, 61, 62, 63, 64, 65, 66, 67, 68]), ([27], [51, 52, 53, 54, 55, 60, 61, 62, 63, 64, 65, 66, 67, 68]), ([5, 27], [51, 52, 53, 54, 55, 56, 60, 61, 62, 63, 64, 65, 66, 67, 68]), ([5, 6, 27], [51, 52, 53, 54, 55, 56, 57, 60, 61, 62, 63, 64, 65, 66, 67, 68]), ([5, 6, 7, 27], [51, 52, 53, 54, 55, 56, 57, 58, 60, 61, 62, 63, 64, 65, 66, 67, 68]), ([27], [51, 52, 53, 54, 55, 56, 57, 58, 59, 61, 62, 63, 64, 65, 66, 67, 68, 69, 70]), ([27], [51, 52, 53, 54, 55, 56, 57, 58, 59, 60, 65, 66, 67, 68]), ([10, 27], [51, 52, 53, 54, 55, 56, 57, 58, 59, 60, 61, 65, 66, 67, 68]), ([10, 11, 27], [51, 52, 53, 54, 55, 56, 57, 58, 59, 60, 61, 62, 65, 66, 67, 68]), ([10, 11, 12, 27], [51, 52, 53, 54, 55, 56, 57, 58, 59, 60, 61, 62, 63, 65, 66, 67, 68]), ([27], [51, 52, 53, 54, 55, 56, 57, 58, 59, 60, 61, 62, 63, 64, 66, 67, 68, 69, 70, 71, 72]), ([27], [51, 52, 53, 54, 55, 56, 57, 58, 59, 60, 61, 62, 63, 64, 65, 67]), ([27], [51, 52, 53, 54, 55, 56, 57, 58, 59, 60, 61, 62, 63, 64, 65, 66]), ([15, 16, 27], [51, 52, 53, 54, 55, 56, 57, 58, 59, 60, 61, 62, 63, 64, 65, 66, 67]), ([0, 1, 2, 3, 4, 5, 6, 7, 8, 10, 11, 12, 13, 15, 16, 17, 27], [51, 52, 53, 54, 55, 56, 57, 58, 59, 60, 61, 62, 63, 64, 65, 66, 67, 68]), ([0, 1, 2, 3, 4, 5, 6, 7, 8, 10, 11, 12, 13, 15, 16, 17, 18, 27], [51, 52, 53, 54, 55, 56, 57, 58, 59, 60, 61, 62, 63, 64, 65, 66, 67, 68, 69]), ([0, 1, 2, 3, 4, 5, 6, 7, 8, 10, 11, 12, 13, 15, 16, 17, 18, 19, 27], [51, 52, 53, 54, 55, 56, 57, 58, 59, 60, 61, 62, 63, 64, 65, 66, 67, 68, 69, 70]), ([0, 1, 2, 3, 4, 5, 6, 7, 8, 9, 10, 11, 12, 13, 15, 16, 17, 18, 19, 20, 27], [51, 52, 53, 54, 55, 56, 57, 58, 59, 60, 61, 62, 63, 64, 65, 66, 67, 68, 69, 70]), ([0, 1, 2, 3, 4, 5, 6, 7, 8, 9, 10, 11, 12, 13, 15, 16, 17, 18, 19, 20, 21, 27], [51, 52, 53, 54, 55, 56, 57, 58, 59, 60, 61, 62, 63, 64, 65, 66, 67, 68, 69, 70, 71]), ([0, 1, 2, 3, 4, 5, 6, 7, 8, 9, 10, 11, 12, 13, 15, 16, 17, 18, 19, 20, 21, 22, 27], [51, 52, 53, 54, 55, 56, 57, 58, 59, 60, 61, 62, 63, 64, 65, 66, 67, 68, 69, 70, 71, 72]), ([0, 1, 2, 3, 4, 5, 6, 7, 8, 9, 10, 11, 12, 13, 14, 15, 16, 17, 18, 19, 20, 21, 22, 23, 27], [51, 52, 53, 54, 55, 56, 57, 58, 59, 60, 61, 62, 63, 64, 65, 66, 67, 68, 69, 70, 71, 72]), ([0, 1, 2, 3, 4, 5, 6, 7, 8, 9, 10, 11, 12, 13, 14, 15, 16, 17, 18, 19, 20, 21, 22, 23, 24, 27], [51, 52, 53, 54, 55, 56, 57, 58, 59, 60, 61, 62, 63, 64, 65, 66, 67, 68, 69, 70, 71, 72, 73]), ([0, 1, 2, 3, 4, 5, 6, 7, 8, 9, 10, 11, 12, 13, 14, 15, 16, 17, 18, 19, 20, 21, 22, 23, 24, 25, 27], [51, 52, 53, 54, 55, 56, 57, 58, 59, 60, 61, 62, 63, 64, 65, 66, 67, 68, 69, 70, 71, 72, 73, 74])] [(15, 17), (27, 20), (20, 23), (23, 26), (27, 0), (27, 1), (27, 2), (27, 3), (27, 4), (27, 5), (27, 6), (27, 7), (27, 8), (27, 10), (27, 11), (27, 12), (27, 13), (27, 15), (27, 16), (27, 17), (27, 18), (27, 19), (20, 21), (20, 22), (23, 24), (23, 25)] (Γx := [rowN 97 5 K.v K.fs.length (rfs K.fs)]) ?_; dsimp only [prev0, List.length_nil, List.length_cons])
     | (refine gAny ?_; first | (refine gD 11 ?_; refine RGl.rdX (fun e hk => by (try dsimp only [bndR, ensR, oksR, fcutR, List.append_nil, List.nil_append, List.cons_append, List.append_assoc] at hk ⊢); exact ReadR.binE rfl rfl BinR.lss (congrArg Value.bool (decide_eq_false (show ¬ (no : Int) < 0 by omega)))) ?_) | (refine gD 17 ?_; refine RGl.rdX (fun e hk => by (try dsimp only [bndR, ensR, oksR, fcutR, List.append_nil, List.nil_append, List.cons_append, List.append_assoc] at hk ⊢); exact ReadR.loadO memA rfl rfl) ?_) | (refine gD 20 ?_; refine RGl.rdX (fun e hk => by (try dsimp only [bndR, ensR, oksR, fcutR, List.append_nil, List.nil_append, List.cons_append, List.append_assoc] at hk ⊢); exact ReadR.loadO memA rfl rfl) ?_) | (refine gD 22 ?_; refine RGl.rdX (fun e hk => by (try dsimp only [bndR, ensR, oksR, fcutR, List.append_nil, List.nil_append, List.cons_append, List.append_assoc] at hk ⊢); exact ReadR.binE rfl rfl BinR.geq (congrArg Value.bool (decide_eq_false (show ¬ (no : Int) ≥ (R.L.length : Int) by omega)))) ?_) | (refine gD 27 ?_; refine RGl.rdX (fun e hk => by (try dsimp only [bndR, ensR, oksR, fcutR, List.append_nil, List.nil_append, List.cons_append, List.append_assoc] at hk ⊢); exact ReadR.binE rfl rfl BinR.neq (congrArg Value.bool (show (!decide _) = false by rw [decide_eq_true (show (s.b.length : Int) = 256 by omega)]; rfl))) ?_) | (refine gD 33 ?_; refine RGl.rdX (fun e hk => by (try dsimp only [bndR, ensR, oksR, fcutR, List.append_nil, List.nil_append, List.cons_append, List.append_assoc] at hk ⊢); exact ReadR.binE rfl rfl BinR.lss (congrArg Value.bool (decide_eq_false (show ¬ (i : Int) < 0 by omega)))) ?_) | (refine gD 69 ?_; refine RGl.rdX (fun e hk => by (try dsimp only [bndR, ensR, oksR, fcutR, List.append_nil, List.nil_append, List.cons_append, List.append_assoc] at hk ⊢); exact ReadR.indexE (i := i) rfl rfl hasA him) ?_) | (refine gD 70 ?_; refine RGl.rdX (fun e hk => by (try dsimp only [bndR, ensR, oksR, fcutR, List.append_nil, List.nil_append, List.cons_append, List.append_assoc] at hk ⊢); exact ReadR.fieldE rfl hasA (by (try simp only [List.length_set]); omega)) ?_) | (refine gD 71 ?_; refine RGl.rdX (fun e hk => by (try dsimp only [bndR, ensR, oksR, fcutR, List.append_nil, List.nil_append, List.cons_append, List.append_assoc] at hk ⊢); exact ReadR.indexE (i := i) rfl rfl hasA him) ?_) | (refine gD 72 ?_; refine RGl.rdX (fun e hk => by (try dsimp only [bndR, ensR, oksR, fcutR, List.append_nil, List.nil_append, List.cons_append, List.append_assoc] at hk ⊢); exact ReadR.fieldE rfl hasA (by (try simp only [List.length_set]); omega)) ?_) | (refine gD 73 ?_; refine RGl.rdX (fun e hk => by (try dsimp only [bndR, ensR, oksR, fcutR, List.append_nil, List.nil_append, List.cons_append, List.append_assoc] at hk ⊢); exact ReadR.indexE (i := i) rfl rfl hasA him) ?_) | (refine gD 74 ?_; refine RGl.rdX (fun e hk => by (try dsimp only [bndR, ensR, oksR, fcutR, List.append_nil, List.nil_append, List.cons_append, List.append_assoc] at hk ⊢); exact ReadR.fieldE rfl hasA (by (try simp only [List.length_set]); omega)) ?_) | (refine gOp ?_; (show RGl _ _ _ _ _ _ _ _ (⟨_, .store _ (.tmp 70) _, _, _, _, _⟩ :: _) _ _; refine RGl.turn (fun e hk => by (try dsimp only [bndR, ensR, oksR, fcutR, List.append_nil, List.nil_append, List.cons_append, List.append_assoc] at hk ⊢); exact OpT.storeEN (i := i * 5 + 4) rfl rfl takesA (by (repeat (obtain ⟨hk1, hk⟩ := hk)) <;> assumption) (by (try simp only [List.length_set]); omega)) ?_)) | (refine gOp ?_; (show RGl _ _ _ _ _ _ _ _ (⟨_, .store _ (.tmp 72) _, _, _, _, _⟩ :: _) _ _; refine RGl.turn (fun e hk => by (try dsimp only [bndR, ensR, oksR, fcutR, List.append_nil, List.nil_append, List.cons_append, List.append_assoc] at hk ⊢); exact OpT.storeEN (i := i * 5 + 2) rfl rfl takesA rfl (by (try simp only [List.length_set]); omega)) ?_)) | (refine gOp ?_; (show RGl _ _ _ _ _ _ _ _ (⟨_, .store _ (.tmp 74) _, _, _, _, _⟩ :: _) _ _; refine RGl.turn (fun e hk => by (try dsimp only [bndR, ensR, oksR, fcutR, List.append_nil, List.nil_append, List.cons_append, List.append_assoc] at hk ⊢); exact OpT.storeEN (i := i * 5 + 3) rfl rfl takesA rfl (by (try simp only [List.length_set]); omega)) ?_)) | (refine gOp ?_; first | refine RGl.rdA ?_ | refine RGl.rdX (fun e hk => by (try dsimp only [bndR, ensR, oksR, fcutR, List.append_nil, List.nil_append, List.cons_append, List.append_assoc] at hk ⊢); exact readB) ?_) | (refine gLit ?_; refine RGl.litA ?_) | (refine gApp ?_; refine RGl.appA ?_) | (refine gSt ?_; refine RGl.stA ?_) | (refine RGl.fin (fun e hk => ?_); (try dsimp only [bndA, ensAR, oksA, List.append_nil, List.nil_append, List.cons_append, List.append_assoc] at hk ⊢); (repeat (obtain ⟨hk1, hk⟩ := hk))) | fail)
     | (refine isCond ?_; first | refine WPc.cT ?_ | refine WPc.cF ?_ | (refine WPc.cQ (fun hc => ?_) (fun hc => ?_) <;> try exact prA))
     | (refine isD 11 ?_; refine WPl.rdX (ReadR.binE rfl rfl BinR.lss (congrArg Value.bool (decide_eq_false (show ¬ (no : Int) < 0 by omega)))) ?_)
     | (refine isD 17 ?_; refine WPl.rdX (ReadR.loadO memA rfl rfl) ?_)
     | (refine isD 20 ?_; refine WPl.rdX (ReadR.loadO memA rfl rfl) ?_)
     | (refine isD 22 ?_; refine WPl.rdX (ReadR.binE rfl rfl BinR.geq (congrArg Value.bool (decide_eq_false (show ¬ (no : Int) ≥ (R.L.length : Int) by omega)))) ?_)
     | (refine isD 27 ?_; refine WPl.rdX (ReadR.binE rfl rfl BinR.neq (congrArg Value.bool (show (!decide _) = false by rw [decide_eq_true (show (s.b.length : Int) = 256 by omega)]; rfl))) ?_)
     | (refine isC 31 ?_; refine WPl.cV c31 ?_ (hΔ := provsW))
     | (refine isD 33 ?_; refine WPl.rdX (ReadR.binE rfl rfl BinR.lss (congrArg Value.bool (decide_eq_false (show ¬ (i : Int) < 0 by omega)))) ?_)
     | (refine isD 69 ?_; refine WPl.rdX (ReadR.indexE (i := i) rfl rfl hasA him) ?_)
     | (refine isD 70 ?_; refine WPl.rdX (ReadR.fieldE rfl hasA (by (try simp only [List.length_set]); omega)) ?_)
     | (refine isD 71 ?_; refine WPl.rdX (ReadR.indexE (i := i) rfl rfl hasA him) ?_)
     | (refine isD 72 ?_; refine WPl.rdX (ReadR.fieldE rfl hasA (by (try simp only [List.length_set]); omega)) ?_)
     | (refine isD 73 ?_; refine WPl.rdX (ReadR.indexE (i := i) rfl rfl hasA him) ?_)
     | (refine isD 74 ?_; refine WPl.rdX (ReadR.fieldE rfl hasA (by (try simp only [List.length_set]); omega)) ?_)
     | (refine isOp ?_; first | refine WPl.rd ?_ | refine WPl.sk ?_ | refine WPl.rdB ?_)
     | (refine isSt ?_; first | refine WPl.st1 ?_ | refine WPl.stA ?_ | refine WPl.stEB ?_ | refine WPl.stRB ?_)
     | (show WPl _ _ _ _ _ _ _ (⟨_, .indexAddr _ _ _, _, _, _, _⟩ :: _) _; refine WPl.rdX (ReadR.indexE rfl rfl hasA (by first | assumption | omega)) ?_)
     | (show WPl _ _ _ _ _ _ _ (⟨_, .fieldAddr _ _ _, _, _, _, _⟩ :: _) _; refine WPl.rdX (ReadR.fieldE rfl hasA (by first | assumption | omega)) ?_)
     | (show WPl _ _ _ _ _ _ _ (⟨_, .load _ _, _, _, _, _⟩ :: _) _; first | refine WPl.rdX (ReadR.loadE rfl hasA (by assumption)) ?_ | refine WPl.rdX (ReadR.loadES (by assumption) (by first | assumption | omega) rfl hasA) ?_)
     | (show WPl _ _ _ _ _ _ _ (⟨_, .slice _ _ _ _ _, _, _, _, _⟩ :: _) _; first | refine WPl.rdX (ReadR.sliceH rfl rfl hasA (by omega)) ?_ | refine WPl.rdX (ReadR.sliceL rfl rfl hasA (by omega)) ?_ | refine WPl.rdX (ReadR.sliceLH rfl rfl rfl hasA (by omega) (by omega)) ?_)
     | (refine WPl.spQ (fun hc => ?_) (fun hc => ?_) <;> try exact prA)
     | fail)
    dsimp only [Nat.reduceAdd] at *
    have hv17 : (e 17).1.oneCell' = true := by assumption
    obtain ⟨v68, hv68⟩ : ∃ v68, v68 = (e 17).1 := ⟨_, rfl⟩
    rw [← hv68] at hv17 ⊢
    rw [show nbs [] ++ s.b = s.b from rfl, rfs_put (s := s) hf]
    refine WPq.vaultIn (A := ob v68 s.b) (v := v68) (s := s) .ob ?_
    obtain ⟨f', hf'⟩ : ∃ f' : FR, f' = ⟨f.no, f.pins, true, true, v68, s⟩ := ⟨_, rfl⟩
    rw [← hf']
    have hf'n : ¬ f'.no < 0 := by rw [hf']; show ¬ f.no < 0; omega
    have hf'v : f'.vw = some ⟨f.no, f.pins, true, true, s⟩ := by rw [FR.vw_some hf'n, hf']
    have hfi' : FRInv n p ((v68, s) :: R.rs) f' := by rw [hf']; exact ⟨hv17, fun _ => ⟨(hfi.here (by omega)).1, List.mem_cons_self ..⟩, fun h9 => absurd h9 (by show ¬ f.no < 0; omega), hfi.pin0, hfi.pin1⟩
    refine WPq.dX (ho := ownsW) (vs := [.int .i64 0]) [bx gY 73 (krc gX K.v (K.hand : Int)), rowN 97 5 K.v K.fs.length (rfs (K.fs.set i f')), bx gX 51 (rdc R.vL R.vA R.vB R.fu R.wr), rowN 31 1 R.vL R.L.length (valsV R.L), rowN 3 1 R.vA R.Z.length (intsV (zAt R.Z)), rowN 31 1 R.vB R.Z.length (valsV (zB R.Z)), vault ((v68, s) :: R.rs)] ⟨⟨K.fs.set i f', K.hand, K.v⟩, ⟨R.vL, R.L, R.vA, R.vB, R.Z, R.fu, R.wr, (v68, s) :: R.rs⟩, rfl, ?_, rfl, KInv.set (h.more fun r hr => List.mem_cons_of_mem _ hr) hfi' hhand, (hr.vin (v68, s)).mono (Nat.le_succ _), ?_⟩
    · show Cv.mk _ _ = setF _ _ _
      rw [List.map_set, hf'v]; rfl
    · show _ = [_, rowN _ 5 K.v (K.fs.set i f').length _, _, _, _, _, _]
      rw [List.length_set]
  | none =>
    have hat : K.vw.at (no : Int) = none := by rw [atK_vw h]; exact hco
    rw [hco] at c31
    have c31 : Triple _ _ _ _ (RVal (.int .i64 (-1))) := c31
    have c36 := kroom_t gY gX n m p k K R h hr hn h8 hm hkb
    obtain ⟨rr, hrr⟩ : ∃ rr, rr = K.vw.room R.vw := ⟨_, rfl⟩
    rw [← hrr] at c36
    have hput : K.vw.put R.vw no s = match rr.2.2.1 with
        | none => (rr.1, rr.2.1, rr.2.2.2)
        | some i => (setF rr.1 i (some ⟨no, 0, true, true, s⟩), rr.2.1, 0) := by
      unfold Cv.put; rw [hat]; dsimp only; rw [← hrr]; cases rr.2.2.1 <;> rfl
    rw [hput]
    cases hri : rr.2.2.1 with
    | none =>
      dsimp only
      have c36n : Triple Try.prog 76 #[hC gY] (krA gY gX K R) (fun v Γ => ∃ K1 R1, v = .tuple #[.int .i64 (-1), .int .i64 rr.2.2.2] ∧ K1.vw = rr.1 ∧ R1.vw = rr.2.1 ∧ KInv n m p R1.rs K1 ∧ RInv n (k + 1) R1 ∧ rr.2.2.2 ≠ 0 ∧ Γ = krA gY gX K1 R1) := c36.mono (by
        rintro v Γ ⟨K1, R1, h1, h2, h3, h4, h5, _, h7, h8⟩
        rw [hri] at h1
        exact ⟨K1, R1, h1, h2, h3, h4, h5, h7 hri, h8⟩)
      refine Triple.enter Try.func62 rfl Try.ntmps62 rfl (fun W => ?_)
      dsimp only [argsF, Nat.reduceAdd]
      repeat' (first
       | refine WPl.nil ?_ | refine WPq.then ?_ | refine WPq.thenR ?_ | refine WPq.thenE ?_ | refine WPq.blockN ?_ | refine WPq.blockR ?_ | refine WPq.blockE ?_ | refine WPq.blockO rfl ?_ | refine WPc.seq ?_ | refine WPc.block ?_ | refine WPc.ret ?_ | refine WPc.exit ?_ | refine WPc.skip ?_ | refine WPc.region ?_
       | (refine isCond ?_; first | refine WPc.cT ?_ | refine WPc.cF ?_ | (refine WPc.cQ (fun hc => ?_) (fun hc => ?_) <;> try exact prA))
       | (refine isD 11 ?_; refine WPl.rdX (ReadR.binE rfl rfl BinR.lss (congrArg Value.bool (decide_eq_false (show ¬ (no : Int) < 0 by omega)))) ?_)
       | (refine isD 17 ?_; refine WPl.rdX (ReadR.loadO memA rfl rfl) ?_)
       | (refine isD 20 ?_; refine WPl.rdX (ReadR.loadO memA rfl rfl) ?_)
       | (refine isD 22 ?_; refine WPl.rdX (ReadR.binE rfl rfl BinR.geq (congrArg Value.bool (decide_eq_false (show ¬ (no : Int) ≥ (R.L.length : Int) by omega)))) ?_)
       | (refine isD 27 ?_; refine WPl.rdX (ReadR.binE rfl rfl BinR.neq (congrArg Value.bool (show (!decide _) = false by rw [decide_eq_true (show (s.b.length : Int) = 256 by omega)]; rfl))) ?_)
       | (refine isC 31 ?_; refine WPl.cV c31 ?_ (hΔ := provsW))
       | (refine isD 33 ?_; refine WPl.rdX (ReadR.binE rfl rfl BinR.lss (congrArg Value.bool (decide_eq_true (show (-1 : Int) < 0 by omega)))) ?_)
       | (refine isC 36 ?_; refine WPl.cXs (c36n) fun v Γ1 hR => ?_; obtain ⟨K1, R1, rfl, hK1, hR1, hKi, hRi, hne, rfl⟩ := hR; (try dsimp only [putF, List.cons_append, List.nil_append]))
       | (refine isD 40 ?_; refine WPl.rdX (ReadR.binE rfl rfl BinR.neq (congrArg (fun q => Value.bool (!q)) (decide_eq_false hne))) ?_)
       | (refine isOp ?_; first | refine WPl.rd ?_ | refine WPl.sk ?_ | refine WPl.rdB ?_)
       | (refine isSt ?_; first | refine WPl.st1 ?_ | refine WPl.stA ?_ | refine WPl.stEB ?_ | refine WPl.stRB ?_)
       | (show WPl _ _ _ _ _ _ _ (⟨_, .indexAddr _ _ _, _, _, _, _⟩ :: _) _; refine WPl.rdX (ReadR.indexE rfl rfl hasA (by first | assumption | omega)) ?_)
       | (show WPl _ _ _ _ _ _ _ (⟨_, .fieldAddr _ _ _, _, _, _, _⟩ :: _) _; refine WPl.rdX (ReadR.fieldE rfl hasA (by first | assumption | omega)) ?_)
       | (show WPl _ _ _ _ _ _ _ (⟨_, .load _ _, _, _, _, _⟩ :: _) _; first | refine WPl.rdX (ReadR.loadE rfl hasA (by assumption)) ?_ | refine WPl.rdX (ReadR.loadES (by assumption) (by first | assumption | omega) rfl hasA) ?_)
       | (show WPl _ _ _ _ _ _ _ (⟨_, .slice _ _ _ _ _, _, _, _, _⟩ :: _) _; first | refine WPl.rdX (ReadR.sliceH rfl rfl hasA (by omega)) ?_ | refine WPl.rdX (ReadR.sliceL rfl rfl hasA (by omega)) ?_ | refine WPl.rdX (ReadR.sliceLH rfl rfl rfl hasA (by omega) (by omega)) ?_)
       | (refine WPl.spQ (fun hc => ?_) (fun hc => ?_) <;> try exact prA)
       | fail)
      refine WPq.dX (ho := ownsW) (vs := [.int .i64 rr.2.2.2]) (krA gY gX K1 R1) ⟨K1, R1, rfl, hK1, hR1, hKi, hRi, rfl⟩
    | some i =>
      dsimp only
      have c36s : Triple Try.prog 76 #[hC gY] (krA gY gX K R) (fun v Γ => ∃ K1 R1, v = .tuple #[.int .i64 (i : Int), .int .i64 0] ∧ K1.vw = rr.1 ∧ R1.vw = rr.2.1 ∧ KInv n m p R1.rs K1 ∧ RInv n (k + 1) R1 ∧ (∃ f, K1.fs[i]? = some f ∧ f.no < 0) ∧ Γ = krA gY gX K1 R1) := c36.mono (by
        rintro v Γ ⟨K1, R1, h1, h2, h3, h4, h5, h6, _, h8⟩
        obtain ⟨he, hfr⟩ := h6 i hri
        rw [hri, he] at h1
        exact ⟨K1, R1, h1, h2, h3, h4, h5, hfr, h8⟩)
      have hfz : FOk (frRC ⟨no, 0, false, false, .slice none 0 0, secF 0⟩) := .one1 rfl (.one1 rfl (.one1 rfl (.one1 rfl (.one1 rfl .nil))))
      refine Triple.enter Try.func62 rfl Try.ntmps62 rfl (fun W => ?_)
      dsimp only [argsF, Nat.reduceAdd]
      repeat' (first
       | refine WPl.nil ?_ | refine WPq.then ?_ | refine WPq.thenR ?_ | refine WPq.thenE ?_ | refine WPq.blockN ?_ | refine WPq.blockR ?_ | refine WPq.blockE ?_ | refine WPq.blockO rfl ?_ | refine WPc.seq ?_ | refine WPc.block ?_ | refine WPc.ret ?_ | refine WPc.exit ?_ | refine WPc.skip ?_ | refine WPc.region ?_
       | (refine isCond ?_; first | refine WPc.cT ?_ | refine WPc.cF ?_ | (refine WPc.cQ (fun hc => ?_) (fun hc => ?_) <;> try exact prA))
       | (refine isD 11 ?_; refine WPl.rdX (ReadR.binE rfl rfl BinR.lss (congrArg Value.bool (decide_eq_false (show ¬ (no : Int) < 0 by omega)))) ?_)
       | (refine isD 17 ?_; refine WPl.rdX (ReadR.loadO memA rfl rfl) ?_)
       | (refine isD 20 ?_; refine WPl.rdX (ReadR.loadO memA rfl rfl) ?_)
       | (refine isD 22 ?_; refine WPl.rdX (ReadR.binE rfl rfl BinR.geq (congrArg Value.bool (decide_eq_false (show ¬ (no : Int) ≥ (R.L.length : Int) by omega)))) ?_)
       | (refine isD 27 ?_; refine WPl.rdX (ReadR.binE rfl rfl BinR.neq (congrArg Value.bool (show (!decide _) = false by rw [decide_eq_true (show (s.b.length : Int) = 256 by omega)]; rfl))) ?_)
       | (refine isC 31 ?_; refine WPl.cV c31 ?_ (hΔ := provsW))
       | (refine isD 33 ?_; refine WPl.rdX (ReadR.binE rfl rfl BinR.lss (congrArg Value.bool (decide_eq_true (show (-1 : Int) < 0 by omega)))) ?_)
       | (refine isC 36 ?_; refine WPl.cXs (c36s) fun v Γ1 hR => ?_; obtain ⟨K1, R1, rfl, hK1, hR1, hKi, hRi, ⟨f0, hf0, hf0n⟩, rfl⟩ := hR; (try dsimp only [putF, List.cons_append, List.nil_append]))
       | (refine isD 40 ?_; refine WPl.rdX (ReadR.binE rfl rfl BinR.neq (congrArg (fun q => Value.bool (!q)) (decide_eq_true rfl))) ?_)
       | (refine isD 49 ?_; refine WPl.rdX (ReadR.build (cs' := frRC ⟨no, 0, false, false, .slice none 0 0, secF 0⟩) buildA) ?_)
       | (refine isOp ?_; first | refine WPl.rd ?_ | refine WPl.sk ?_ | refine WPl.rdB ?_)
       | (refine isSt ?_; first | refine WPl.st1 ?_ | refine WPl.stA ?_ | refine WPl.stEB ?_ | refine WPl.stRB ?_)
       | (refine WPl.spQ (fun hc => ?_) (fun hc => ?_) <;> try exact prA)
       | fail)
      have him : i < K1.fs.length := (List.getElem?_eq_some_iff.1 hf0).1
      have hL1 := rfs_len (l := K1.fs)
      obtain ⟨g1, hg1⟩ : ∃ g1 : FR, g1 = ⟨no, 0, false, false, .slice none 0 0, secF 0⟩ := ⟨_, rfl⟩
      rw [← hg1] at hfz ⊢
      have hz := rfs_set (f := g1) him
      have hset1 : (K1.fs.set i g1)[i]? = some g1 := List.getElem?_set_self him
      have hL2 := rfs_len (l := K1.fs.set i g1)
      rw [List.length_set] at hL2
      repeat' (first
       | refine WPl.nil ?_ | refine WPq.then ?_ | refine WPq.thenR ?_ | refine WPq.thenE ?_ | refine WPq.blockN ?_ | refine WPq.blockR ?_ | refine WPq.blockE ?_ | refine WPq.blockO rfl ?_ | refine WPc.seq ?_ | refine WPc.block ?_ | refine WPc.ret ?_ | refine WPc.exit ?_ | refine WPc.skip ?_ | refine WPc.region ?_
       | (refine isCond ?_; first | refine WPc.cT ?_ | refine WPc.cF ?_ | (refine WPc.cQ (fun hc => ?_) (fun hc => ?_) <;> try exact prA))
       | (refine isD 50 ?_; refine WPl.rdX (ReadR.indexE (i := i) rfl rfl hasA him) ?_)
       | (show WPl _ _ _ _ _ _ _ (⟨_, .store _ (.tmp 50) _, _, _, _, _⟩ :: _) _; refine WPl.stES (new := frRC g1) (i := i * 5) (k := 5) (m := K1.fs.length) (xs := rfs K1.fs) hfz rfl (by omega) (by omega) ?_)
       | (refine isOp ?_; first | refine WPl.rd ?_ | refine WPl.sk ?_ | refine WPl.rdB ?_)
       | (refine isSt ?_; first | refine WPl.st1 ?_ | refine WPl.stA ?_ | refine WPl.stEB ?_ | refine WPl.stRB ?_)
       | (refine WPl.spQ (fun hc => ?_) (fun hc => ?_) <;> try exact prA)
       | fail)
      rw [hz]
      repeat' (first
       | refine WPl.nil ?_ | refine WPq.then ?_ | refine WPq.thenR ?_ | refine WPq.thenE ?_ | refine WPq.blockN ?_ | refine WPq.blockR ?_ | refine WPq.blockE ?_ | refine WPq.blockO rfl ?_ | refine WPc.seq ?_ | refine WPc.block ?_ | refine WPc.ret ?_ | refine WPc.exit ?_ | refine WPc.skip ?_ | refine WPc.region ?_
       | (refine isReg 10 ?_; refine WPc.drA [([27], [55, 56, 57, 58, 59, 60, 61, 62, 63, 64, 65, 66, 67, 68]), ([0, 27], [51, 55, 56, 57, 58, 59, 60, 61, 62, 63, 64, 65, 66, 67, 68]), ([0, 1, 27], [51, 52, 55, 56, 57, 58, 59, 60, 61, 62, 63, 64, 65, 66, 67, 68]), ([0, 1, 2, 27], [51, 52, 53, 55, 56, 57, 58, 59, 60, 61, 62, 63, 64, 65, 66, 67, 68]), ([27], [51, 52, 53, 54, 56, 57, 58, 59, 60, 61, 62, 63, 64, 65, 66, 67, 68]), ([27], [51, 52, 53, 54, 55, 60, 61, 62, 63, 64, 65, 66, 67, 68]), ([5, 27], [51, 52, 53, 54, 55, 56, 60, 61, 62, 63, 64, 65, 66, 67, 68]), ([5, 6, 27], [51, 52, 53, 54, 55, 56, 57, 60, 61, 62, 63, 64, 65, 66, 67, 68]), ([5, 6, 7, 27], [51, 52, 53, 54, 55, 56, 57, 58, 60, 61, 62, 63, 64, 65, 66, 67, 68]), ([27], [51, 52, 53, 54, 55, 56, 57, 58, 59, 61, 62, 63, 64, 65, 66, 67, 68, 69, 70]), ([27], [51, 52, 53, 54, 55, 56, 57, 58, 59, 60, 65, 66, 67, 68]), ([10, 27], [51, 52, 53, 54, 55, 56, 57, 58, 59, 60, 61, 65, 66, 67, 68]), ([10, 11, 27], [51, 52, 53, 54, 55, 56, 57, 58, 59, 60, 61, 62, 65, 66, 67, 68]), ([10, 11, 12, 27], [51, 52, 53, 54, 55, 56, 57, 58, 59, 60, 61, 62, 63, 65, 66, 67, 68]), ([27], [51, 52, 53, 54, 55, 56, 57, 58, 59, 60, 61, 62, 63, 64, 66, 67, 68, 69, 70, 71, 72]), ([27], [51, 52, 53, 54, 55, 56, 57, 58, 59, 60, 61, 62, 63, 64, 65, 67]), ([27], [51, 52, 53, 54, 55, 56, 57, 58, 59, 60, 61, 62, 63, 64, 65, 66]), ([15, 16, 27], [51, 52, 53, 54, 55, 56, 57, 58, 59, 60, 61, 62, 63, 64, 65, 66, 67]), ([0, 1, 2, 3, 4, 5, 6, 7, 8, 10, 11, 12, 13, 15, 16, 17, 27], [51, 52, 53, 54, 55, 56, 57, 58, 59, 60, 61, 62, 63, 64, 65, 66, 67, 68]), ([0, 1, 2, 3, 4, 5, 6, 7, 8, 10, 11, 12, 13, 15, 16, 17, 18, 27], [51, 52, 53, 54, 55, 56, 57, 58, 59, 60, 61, 62, 63, 64, 65, 66, 67, 68, 69]), ([0, 1, 2, 3, 4, 5, 6, 7, 8, 10, 11, 12, 13, 15, 16, 17, 18, 19, 27], [51, 52, 53, 54, 55, 56, 57, 58, 59, 60, 61, 62, 63, 64, 65, 66, 67, 68, 69, 70]), ([0, 1, 2, 3, 4, 5, 6, 7, 8, 9, 10, 11, 12, 13, 15, 16, 17, 18, 19, 20, 27], [51, 52, 53, 54, 55, 56, 57, 58, 59, 60, 61, 62, 63, 64, 65, 66, 67, 68, 69, 70]), ([0, 1, 2, 3, 4, 5, 6, 7, 8, 9, 10, 11, 12, 13, 15, 16, 17, 18, 19, 20, 21, 27], [51, 52, 53, 54, 55, 56, 57, 58, 59, 60, 61, 62, 63, 64, 65, 66, 67, 68, 69, 70, 71]), ([0, 1, 2, 3, 4, 5, 6, 7, 8, 9, 10, 11, 12, 13, 15, 16, 17, 18, 19, 20, 21, 22, 27], [51, 52, 53, 54, 55, 56, 57, 58, 59, 60, 61, 62, 63, 64, 65, 66, 67, 68, 69, 70, 71, 72]), ([0, 1, 2, 3, 4, 5, 6, 7, 8, 9, 10, 11, 12, 13, 14, 15, 16, 17, 18, 19, 20, 21, 22, 23, 27], [51, 52, 53, 54, 55, 56, 57, 58, 59, 60, 61, 62, 63, 64, 65, 66, 67, 68, 69, 70, 71, 72]), ([0, 1, 2, 3, 4, 5, 6, 7, 8, 9, 10, 11, 12, 13, 14, 15, 16, 17, 18, 19, 20, 21, 22, 23, 24, 27], [51, 52, 53, 54, 55, 56, 57, 58, 59, 60, 61, 62, 63, 64, 65, 66, 67, 68, 69, 70, 71, 72, 73]), ([0, 1, 2, 3, 4, 5, 6, 7, 8, 9, 10, 11, 12, 13, 14, 15, 16, 17, 18, 19, 20, 21, 22, 23, 24, 25, 27], [51, 52, 53, 54, 55, 56, 57, 58, 59, 60, 61, 62, 63, 64, 65, 66, 67, 68, 69, 70, 71, 72, 73, 74])] [(15, 17), (27, 20), (20, 23), (23, 26), (27, 0), (27, 1), (27, 2), (27, 3), (27, 4), (27, 5), (27, 6), (27, 7), (27, 8), (27, 10), (27, 11), (27, 12), (27, 13), (27, 15), (27, 16), (27, 17), (27, 18), (27, 19), (20, 21), (20, 22), (23, 24), (23, 25)] (Γx := [rowN 97 5 K1.v K1.fs.length (rfs (K1.fs.set i g1))]) ?_; dsimp only [prev0, List.length_nil, List.length_cons])
       | (refine gAny ?_; first | (refine gD 69 ?_; refine RGl.rdX (fun e hk => by (try dsimp only [bndR, ensR, oksR, fcutR, List.append_nil, List.nil_append, List.cons_append, List.append_assoc] at hk ⊢); exact ReadR.indexE (i := i) rfl rfl hasA him) ?_) | (refine gD 70 ?_; refine RGl.rdX (fun e hk => by (try dsimp only [bndR, ensR, oksR, fcutR, List.append_nil, List.nil_append, List.cons_append, List.append_assoc] at hk ⊢); exact ReadR.fieldE rfl hasA (by (try simp only [List.length_set]); omega)) ?_) | (refine gD 71 ?_; refine RGl.rdX (fun e hk => by (try dsimp only [bndR, ensR, oksR, fcutR, List.append_nil, List.nil_append, List.cons_append, List.append_assoc] at hk ⊢); exact ReadR.indexE (i := i) rfl rfl hasA him) ?_) | (refine gD 72 ?_; refine RGl.rdX (fun e hk => by (try dsimp only [bndR, ensR, oksR, fcutR, List.append_nil, List.nil_append, List.cons_append, List.append_assoc] at hk ⊢); exact ReadR.fieldE rfl hasA (by (try simp only [List.length_set]); omega)) ?_) | (refine gD 73 ?_; refine RGl.rdX (fun e hk => by (try dsimp only [bndR, ensR, oksR, fcutR, List.append_nil, List.nil_append, List.cons_append, List.append_assoc] at hk ⊢); exact ReadR.indexE (i := i) rfl rfl hasA him) ?_) | (refine gD 74 ?_; refine RGl.rdX (fun e hk => by (try dsimp only [bndR, ensR, oksR, fcutR, List.append_nil, List.nil_append, List.cons_append, List.append_assoc] at hk ⊢); exact ReadR.fieldE rfl hasA (by (try simp only [List.length_set]); omega)) ?_) | (refine gOp ?_; (show RGl _ _ _ _ _ _ _ _ (⟨_, .store _ (.tmp 70) _, _, _, _, _⟩ :: _) _ _; refine RGl.turn (fun e hk => by (try dsimp only [bndR, ensR, oksR, fcutR, List.append_nil, List.nil_append, List.cons_append, List.append_assoc] at hk ⊢); exact OpT.storeEN (i := i * 5 + 4) rfl rfl takesA (by (repeat (obtain ⟨hk1, hk⟩ := hk)) <;> assumption) (by (try simp only [List.length_set]); omega)) ?_)) | (refine gOp ?_; (show RGl _ _ _ _ _ _ _ _ (⟨_, .store _ (.tmp 72) _, _, _, _, _⟩ :: _) _ _; refine RGl.turn (fun e hk => by (try dsimp only [bndR, ensR, oksR, fcutR, List.append_nil, List.nil_append, List.cons_append, List.append_assoc] at hk ⊢); exact OpT.storeEN (i := i * 5 + 2) rfl rfl takesA rfl (by (try simp only [List.length_set]); omega)) ?_)) | (refine gOp ?_; (show RGl _ _ _ _ _ _ _ _ (⟨_, .store _ (.tmp 74) _, _, _, _, _⟩ :: _) _ _; refine RGl.turn (fun e hk => by (try dsimp only [bndR, ensR, oksR, fcutR, List.append_nil, List.nil_append, List.cons_append, List.append_assoc] at hk ⊢); exact OpT.storeEN (i := i * 5 + 3) rfl rfl takesA rfl (by (try simp only [List.length_set]); omega)) ?_)) | (refine gOp ?_; first | refine RGl.rdA ?_ | refine RGl.rdX (fun e hk => by (try dsimp only [bndR, ensR, oksR, fcutR, List.append_nil, List.nil_append, List.cons_append, List.append_assoc] at hk ⊢); exact readB) ?_) | (refine gLit ?_; refine RGl.litA ?_) | (refine gApp ?_; refine RGl.appA ?_) | (refine gSt ?_; refine RGl.stA ?_) | (refine RGl.fin (fun e hk => ?_); (try dsimp only [bndA, ensAR, oksA, List.append_nil, List.nil_append, List.cons_append, List.append_assoc] at hk ⊢); (repeat (obtain ⟨hk1, hk⟩ := hk))) | fail)
       | (refine isCond ?_; first | refine WPc.cT ?_ | refine WPc.cF ?_ | (refine WPc.cQ (fun hc => ?_) (fun hc => ?_) <;> try exact prA))
       | (refine isD 69 ?_; refine WPl.rdX (ReadR.indexE (i := i) rfl rfl hasA him) ?_)
       | (refine isD 70 ?_; refine WPl.rdX (ReadR.fieldE rfl hasA (by (try simp only [List.length_set]); omega)) ?_)
       | (refine isD 71 ?_; refine WPl.rdX (ReadR.indexE (i := i) rfl rfl hasA him) ?_)
       | (refine isD 72 ?_; refine WPl.rdX (ReadR.fieldE rfl hasA (by (try simp only [List.length_set]); omega)) ?_)
       | (refine isD 73 ?_; refine WPl.rdX (ReadR.indexE (i := i) rfl rfl hasA him) ?_)
       | (refine isD 74 ?_; refine WPl.rdX (ReadR.fieldE rfl hasA (by (try simp only [List.length_set]); omega)) ?_)
       | (refine isOp ?_; first | refine WPl.rd ?_ | refine WPl.sk ?_ | refine WPl.rdB ?_)
       | (refine isSt ?_; first | refine WPl.st1 ?_ | refine WPl.stA ?_ | refine WPl.stEB ?_ | refine WPl.stRB ?_)
       | (refine WPl.spQ (fun hc => ?_) (fun hc => ?_) <;> try exact prA)
       | fail)
      dsimp only [Nat.reduceAdd] at *
      have hv17 : (e 17).1.oneCell' = true := by assumption
      obtain ⟨v68, hv68⟩ : ∃ v68, v68 = (e 17).1 := ⟨_, rfl⟩
      rw [← hv68] at hv17 ⊢
      rw [show nbs [] ++ s.b = s.b from rfl, rfs_put (s := s) hset1]
      refine WPq.vaultIn (A := ob v68 s.b) (v := v68) (s := s) .ob ?_
      obtain ⟨f', hf'⟩ : ∃ f' : FR, f' = ⟨no, 0, true, true, v68, s⟩ := ⟨_, rfl⟩
      rw [List.set_set, show (⟨g1.no, g1.pins, true, true, v68, s⟩ : FR) = f' by rw [hg1, hf']]
      have hf'n : ¬ f'.no < 0 := by rw [hf']; show ¬ (no : Int) < 0; omega
      have hf'v : f'.vw = some ⟨no, 0, true, true, s⟩ := by rw [FR.vw_some hf'n, hf']
      have hfi' : FRInv n p ((v68, s) :: R1.rs) f' := by rw [hf']; exact ⟨hv17, fun _ => ⟨by show (no : Int) < n; omega, List.mem_cons_self ..⟩, fun h9 => absurd h9 (by show ¬ (no : Int) < 0; omega), Int.le_refl _, Int.natCast_nonneg p⟩
      refine WPq.dX (ho := ownsW) (vs := [.int .i64 0]) [bx gY 73 (krc gX K1.v (K1.hand : Int)), rowN 97 5 K1.v K1.fs.length (rfs (K1.fs.set i f')), bx gX 51 (rdc R1.vL R1.vA R1.vB R1.fu R1.wr), rowN 31 1 R1.vL R1.L.length (valsV R1.L), rowN 3 1 R1.vA R1.Z.length (intsV (zAt R1.Z)), rowN 31 1 R1.vB R1.Z.length (valsV (zB R1.Z)), vault ((v68, s) :: R1.rs)] ⟨⟨K1.fs.set i f', K1.hand, K1.v⟩, ⟨R1.vL, R1.L, R1.vA, R1.vB, R1.Z, R1.fu, R1.wr, (v68, s) :: R1.rs⟩, rfl, ?_, hR1, KInv.set (hKi.more fun r hr => List.mem_cons_of_mem _ hr) hfi' hKi.hand, hRi.vin (v68, s), ?_⟩
      · show Cv.mk _ _ = setF rr.1 i _
        rw [← hK1, List.map_set, hf'v]; rfl
      · show _ = [_, rowN _ 5 K1.v (K1.fs.set i f').length _, _, _, _, _, _]
        rw [List.length_set]
end
end Go.Proofs.Ytepmikgjnmjheaa
/- Layer 5 (cache): no sector is held twice; what is held, and dirty, in order; Sync by sectors: plain. -/
namespace Go.Proofs.Ytepmikgjnmjheaa
set_option linter.unusedSimpArgs false
set_option linter.unusedVariables false
def Uq (C : Cv) : Prop := ∀ (i j : Nat) (f g : Fp), C.fs[i]? = some (some f) → C.fs[j]? = some (some g) → f.no = g.no → i = j
def Rn (n : Nat) (C : Cv) : Prop := ∀ (i : Nat) (f : Fp), C.fs[i]? = some (some f) → 0 ≤ f.no ∧ f.no < (n : Int)
/-- Nothing is held there that was not. -/
def SubN (C' C : Cv) : Prop := ∀ (i : Nat) (f : Fp), C'.fs[i]? = some (some f) → ∃ g, C.fs[i]? = some (some g) ∧ g.no = f.no
theorem SubN.refl {C : Cv} : SubN C C := fun i f hf => ⟨f, hf, rfl⟩
theorem SubN.trans {A B C : Cv} (h1 : SubN A B) (h2 : SubN B C) : SubN A C := fun i f hf => by
  obtain ⟨g, hg, hn⟩ := h1 i f hf
  obtain ⟨k, hk, hm⟩ := h2 i g hg
  exact ⟨k, hk, hm.trans hn⟩
theorem SubN.uq {C' C : Cv} (h : SubN C' C) (hu : Uq C) : Uq C' := fun i j f g hf hg hn => by
  obtain ⟨f', h1, h2⟩ := h i f hf
  obtain ⟨g', h3, h4⟩ := h j g hg
  exact hu i j f' g' h1 h3 (by rw [h2, h4, hn])
theorem at_noneF {C : Cv} {no : Int} : C.at no = none ↔ ∀ (i : Nat) (f : Fp), C.fs[i]? = some (some f) → f.no ≠ no := by
  unfold Cv.at
  rw [List.findIdx?_eq_none_iff]
  constructor
  · intro h i f hf
    have := h _ (List.mem_of_getElem? hf)
    simpa using this
  · intro h o ho
    obtain ⟨i, hi⟩ := List.getElem?_of_mem ho
    cases o with
    | none => rfl
    | some f => simpa using h i f hi
theorem SubN.at {C' C : Cv} (h : SubN C' C) {no : Int} (ha : C.at no = none) : C'.at no = none := at_noneF.2 fun i f hf => by
  obtain ⟨g, hg, hn⟩ := h i f hf
  rw [← hn]
  exact at_noneF.1 ha i g hg
theorem Uq.at {C : Cv} (h : Uq C) {i : Nat} {f : Fp} {no : Int} (hf : C.fs[i]? = some (some f)) (hn : f.no = no) : C.at no = some i := by
  cases ha : C.at no with
  | none => exact absurd hn (at_noneF.1 ha i f hf)
  | some j =>
    obtain ⟨g, hg, hgn⟩ := at_some ha
    rw [h i j f g hf hg (by rw [hn, hgn])]
theorem subN_st {C' C : Cv} (h : C'.fs.map stF = C.fs.map stF) : SubN C' C := by
  intro i f hf
  have h1 : (C'.fs.map stF)[i]? = some (some ⟨f.no, f.pins, f.dirty, f.s⟩) := by rw [List.getElem?_map, hf]; rfl
  rw [h, List.getElem?_map] at h1
  cases hi : C.fs[i]? with
  | none => rw [hi] at h1; cases h1
  | some o =>
    rw [hi] at h1
    cases o with
    | none => cases h1
    | some g =>
      have h2 : stF (some g) = some ⟨f.no, f.pins, f.dirty, f.s⟩ := Option.some.inj h1
      have h3 : (⟨g.no, g.pins, g.dirty, g.s⟩ : Fq) = ⟨f.no, f.pins, f.dirty, f.s⟩ := Option.some.inj h2
      exact ⟨g, rfl, congrArg Fq.no h3⟩
theorem subN_none {C : Cv} {i h : Nat} : SubN ⟨C.fs.set i none, h⟩ C := fun k f hf => by
  rcases set_get hf with ⟨_, h1⟩ | ⟨_, hk⟩
  · cases h1
  · exact ⟨f, hk, rfl⟩
theorem subN_room {C : Cv} {D : Dv} : SubN (C.room D).1 C := by
  unfold Cv.room
  cases C.empty with
  | some i => exact SubN.refl
  | none =>
    have hs : ∀ h, SubN ⟨C.vic.1, h⟩ C := fun h => subN_st vicP_same
    have h2 : ∀ h i, SubN ⟨C.vic.1.set i none, h⟩ C := fun h i => SubN.trans (subN_none (C := ⟨C.vic.1, h⟩)) (hs h)
    cases C.vic.2 with
    | none => exact hs _
    | some y =>
      show SubN (giveUp C.vic.1 y.1 y.2 D).1 C
      unfold giveUp
      split
      · split
        · split
          · exact h2 _ _
          · exact hs _
        · exact h2 _ _
      · exact hs _
theorem Uq.new {C : Cv} (h : Uq C) {no : Int} (ha : C.at no = none) (i : Nat) (p : Int) (d u : Bool) (s : Sec) : Uq (setF C i (some ⟨no, p, d, u, s⟩)) := by
  have hn := at_noneF.1 ha
  intro a b f g hf hg hfg
  rcases set_get hf with ⟨ha, h1⟩ | ⟨_, hf'⟩
  · rcases set_get hg with ⟨hb, h2⟩ | ⟨_, hg'⟩
    · rw [ha, hb]
    · cases h1; exact absurd hfg.symm (hn b g hg')
  · rcases set_get hg with ⟨hb, h2⟩ | ⟨_, hg'⟩
    · cases h2; exact absurd hfg (hn a f hf')
    · exact h a b f g hf' hg' hfg
theorem subN_hit {C : Cv} {i : Nat} {f f' : Fp} (hf : C.fs[i]? = some (some f)) (hn : f'.no = f.no) : SubN (setF C i (some f')) C := by
  intro k g hg
  rcases set_get hg with ⟨rfl, h1⟩ | ⟨_, hg'⟩
  · cases h1; exact ⟨f, hf, hn.symm⟩
  · exact ⟨g, hg', rfl⟩
theorem Uq.get {C : Cv} (h : Uq C) (D : Dv) (no : Nat) : Uq (C.get D no).1 := by
  have hr : Uq (C.room D).1 := subN_room.uq h
  unfold Cv.get
  cases ha : C.at (no : Int) with
  | some i =>
    dsimp only
    split
    · rename_i f hf
      exact (subN_hit (f' := { f with used := true }) hf rfl).uq h
    · exact h
  | none =>
    dsimp only
    split
    · exact hr
    · split
      · exact hr
      · exact hr.new (subN_room.at ha) _ _ _ _ _
theorem Uq.put {C : Cv} (h : Uq C) (D : Dv) (no : Nat) (s : Sec) : Uq (C.put D no s).1 := by
  have hr : Uq (C.room D).1 := subN_room.uq h
  unfold Cv.put
  cases ha : C.at (no : Int) with
  | some i =>
    dsimp only
    split
    · rename_i f hf
      exact (subN_hit (f' := { f with s := s, dirty := true, used := true }) hf rfl).uq h
    · exact h
  | none =>
    dsimp only
    split
    · exact hr
    · exact hr.new (subN_room.at ha) _ _ _ _ _
theorem subN_sync : ∀ {l : List Int} {C : Cv} {D : Dv}, SubN (syncL l C D).1 C
  | [], C, D => SubN.refl
  | no :: l, C, D => by
    unfold syncL
    split
    · split
      · rename_i f hf
        split
        · exact subN_sync.trans (subN_hit hf rfl)
        · exact SubN.refl
      · exact SubN.refl
    · exact SubN.refl
theorem Uq.sync {C : Cv} (h : Uq C) (D : Dv) : Uq (C.sync D).1 := subN_sync.uq h
/-! ### What is held, in order -/
def dAt (C : Cv) (d : Bool) (j : Nat) : Bool := match C.at (j : Int) with
  | some i => (match C.fs[i]? with | some (some f) => f.dirty || !d | _ => false)
  | none => false
def those (n : Nat) (C : Cv) (d : Bool) : List Int := intsN ((List.range n).filter (dAt C d))
theorem dAt_iff {C : Cv} (h : Uq C) {d : Bool} {j : Nat} : dAt C d j = true ↔ ∃ (i : Nat) (f : Fp), C.fs[i]? = some (some f) ∧ f.no = (j : Int) ∧ (f.dirty || !d) = true := by
  unfold dAt
  constructor
  · intro h1
    cases ha : C.at (j : Int) with
    | none => rw [ha] at h1; cases h1
    | some i =>
      rw [ha] at h1
      obtain ⟨g, hg, hn⟩ := at_some ha
      dsimp only at h1
      rw [hg] at h1
      exact ⟨i, g, hg, hn, h1⟩
  · rintro ⟨i, f, hf, hn, hd⟩
    rw [h.at hf hn]
    dsimp only
    rw [hf]
    exact hd
theorem sorted_those {n : Nat} {C : Cv} {d : Bool} {L : List Int} (hnd : L.Nodup) (hm : ∀ x : Int, x ∈ L ↔ ∃ j : Nat, j < n ∧ x = (j : Int) ∧ dAt C d j = true) : L.mergeSort (fun x y => decide (x ≤ y)) = those n C d := by
  unfold those
  refine uniqI (r := fun a b => a < b) (fun a b h1 h2 => by omega) ?_ ?_ ?_
  · refine (List.perm_ext_iff_of_nodup ((List.mergeSort_perm _ _).nodup_iff.2 hnd) ?_).2 fun i => ?_
    · unfold intsN
      refine List.Pairwise.map _ (fun a b (h : a ≠ b) => by omega) ?_
      exact (List.nodup_range).filter _
    · rw [List.mem_mergeSort, hm]
      unfold intsN
      rw [List.mem_map]
      constructor
      · rintro ⟨j, hj, rfl, hd⟩
        exact ⟨j, List.mem_filter.2 ⟨List.mem_range.2 hj, hd⟩, rfl⟩
      · rintro ⟨j, hj, rfl⟩
        obtain ⟨h1, h2⟩ := List.mem_filter.1 hj
        exact ⟨j, List.mem_range.1 h1, rfl, h2⟩
  · have h1 : (L.mergeSort (fun x y => decide (x ≤ y))).Pairwise (fun a b => a ≤ b) := by
      have := List.pairwise_mergeSort (le := fun (x y : Int) => decide (x ≤ y)) (fun a b c h1 h2 => by simp only [decide_eq_true_eq] at *; omega) (fun a b => by simp only [Bool.or_eq_true, decide_eq_true_eq]; omega) L
      exact this.imp fun h => by simpa using h
    have h2 : (L.mergeSort (fun x y => decide (x ≤ y))).Nodup := (List.mergeSort_perm _ _).nodup_iff.2 hnd
    exact (h1.and h2).imp fun ⟨a, b⟩ => by omega
  · unfold intsN
    refine List.Pairwise.map _ (fun a b (h : a < b) => by omega) ?_
    exact (List.pairwise_lt_range).filter _
theorem nos_nodup {C : Cv} (h : Uq C) {F : Option Fp → Option Int} (hF : ∀ o x, F o = some x → ∃ f, o = some f ∧ f.no = x) : (C.fs.filterMap F).Nodup := by
  unfold List.Nodup
  rw [List.pairwise_filterMap, List.pairwise_iff_getElem]
  intro i j hi hj hij x hx y hy hxy
  obtain ⟨f, hf, hfn⟩ := hF _ _ hx
  obtain ⟨g, hg, hgn⟩ := hF _ _ hy
  have h1 : C.fs[i]? = some (some f) := by rw [← hf]; exact List.getElem?_eq_getElem hi
  have h2 : C.fs[j]? = some (some g) := by rw [← hg]; exact List.getElem?_eq_getElem hj
  have := h i j f g h1 h2 (by rw [hfn, hgn, hxy])
  omega
theorem held_those {n : Nat} {C : Cv} (h : Uq C) (hr : Rn n C) : C.held = those n C false := by
  unfold Cv.held
  refine sorted_those (nos_nodup h fun o x hx => ?_) fun x => ?_
  · cases o with
    | none => cases hx
    | some f => exact ⟨f, rfl, Option.some.inj hx⟩
  · unfold Cv.hnos
    rw [List.mem_filterMap]
    constructor
    · rintro ⟨o, ho, hx⟩
      cases o with
      | none => cases hx
      | some f =>
        obtain ⟨i, hi⟩ := List.getElem?_of_mem ho
        have hx : f.no = x := Option.some.inj hx
        obtain ⟨h0, h1⟩ := hr i f hi
        refine ⟨f.no.toNat, by omega, by omega, (dAt_iff h).2 ⟨i, f, hi, by omega, by rw [Bool.not_false, Bool.or_true]⟩⟩
    · rintro ⟨j, hj, rfl, hd⟩
      obtain ⟨i, f, hf, hn, _⟩ := (dAt_iff h).1 hd
      exact ⟨some f, List.mem_of_getElem? hf, by show some f.no = _; rw [hn]⟩
theorem dirty_those {n : Nat} {C : Cv} (h : Uq C) (hr : Rn n C) : C.dirty = those n C true := by
  unfold Cv.dirty
  refine sorted_those (nos_nodup h fun o x hx => ?_) fun x => ?_
  · cases o with
    | none => cases hx
    | some f =>
      dsimp only at hx
      split at hx
      · exact ⟨f, rfl, Option.some.inj hx⟩
      · cases hx
  · unfold Cv.dnos
    rw [List.mem_filterMap]
    constructor
    · rintro ⟨o, ho, hx⟩
      cases o with
      | none => cases hx
      | some f =>
        obtain ⟨i, hi⟩ := List.getElem?_of_mem ho
        dsimp only at hx
        split at hx
        · rename_i hd
          have hx : f.no = x := Option.some.inj hx
          obtain ⟨h0, h1⟩ := hr i f hi
          refine ⟨f.no.toNat, by omega, by omega, (dAt_iff h).2 ⟨i, f, hi, by omega, by rw [hd]; rfl⟩⟩
        · cases hx
    · rintro ⟨j, hj, rfl, hd⟩
      obtain ⟨i, f, hf, hn, hd⟩ := (dAt_iff h).1 hd
      have hd : f.dirty = true := by simpa using hd
      exact ⟨some f, List.mem_of_getElem? hf, by dsimp only; rw [if_pos hd, hn]⟩
/-! ### Sync, by sectors -/
def dl (n a : Nat) (C : Cv) : List Int := intsN (((List.range n).drop a).filter (dAt C true))
theorem range_drop {n a : Nat} (h : a < n) : (List.range n).drop a = a :: (List.range n).drop (a + 1) := by
  rw [List.drop_eq_getElem_cons (by rw [List.length_range]; exact h), List.getElem_range]
theorem dl_no {n a : Nat} {C : Cv} (h : a < n) (hd : dAt C true a = false) : dl n a C = dl n (a + 1) C := by
  unfold dl
  rw [range_drop h, List.filter_cons_of_neg (by rw [hd]; simp)]
theorem dl_yes {n a : Nat} {C : Cv} (h : a < n) (hd : dAt C true a = true) : dl n a C = (a : Int) :: dl n (a + 1) C := by
  unfold dl
  rw [range_drop h, List.filter_cons_of_pos hd]
  rfl
theorem dl_end {n : Nat} {C : Cv} : dl n n C = [] := by
  unfold dl
  rw [List.drop_of_length_le (by rw [List.length_range]; exact Nat.le_refl _)]
  rfl
theorem dl_zero {n : Nat} {C : Cv} : dl n 0 C = those n C true := rfl
theorem dAt_set {C : Cv} (h : Uq C) {i a j : Nat} {f f' : Fp} (hf : C.fs[i]? = some (some f)) (hn : f.no = (a : Int)) (hn' : f'.no = f.no) (hj : j ≠ a) : dAt (setF C i (some f')) true j = dAt C true j := by
  have hu' : Uq (setF C i (some f')) := (subN_hit hf hn').uq h
  rw [Bool.eq_iff_iff, dAt_iff hu', dAt_iff h]
  constructor
  · rintro ⟨k, g, hg, hgn, hd⟩
    rcases set_get hg with ⟨_, h1⟩ | ⟨_, hg'⟩
    · cases h1; rw [hn', hn] at hgn; omega
    · exact ⟨k, g, hg', hgn, hd⟩
  · rintro ⟨k, g, hg, hgn, hd⟩
    refine ⟨k, g, ?_, hgn, hd⟩
    have hki : i ≠ k := by
      rintro rfl
      rw [hf] at hg
      cases hg
      omega
    show (C.fs.set i _)[k]? = _
    rw [List.getElem?_set_ne hki]
    exact hg
theorem dl_set {n a : Nat} {C : Cv} (h : Uq C) {i : Nat} {f f' : Fp} (hf : C.fs[i]? = some (some f)) (hn : f.no = (a : Int)) (hn' : f'.no = f.no) : dl n (a + 1) (setF C i (some f')) = dl n (a + 1) C := by
  unfold dl
  congr 1
  refine List.filter_congr fun j hj => dAt_set h hf hn hn' ?_
  rintro rfl
  obtain ⟨k, hk⟩ := List.getElem?_of_mem hj
  rw [List.getElem?_drop] at hk
  obtain ⟨h1, h2⟩ := List.getElem?_eq_some_iff.1 hk
  rw [List.getElem_range] at h2
  omega
end Go.Proofs.Ytepmikgjnmjheaa
