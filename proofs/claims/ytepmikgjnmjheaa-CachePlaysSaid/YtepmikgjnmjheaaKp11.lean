/- What the row of cachePlays_holds needs: part 11. -/
import Derived.Test.YtepmikgjnmjheaaKp10
import Derived.Test.YtepmikgjnmjheaaKp7
/- Law of layer 5 (cache): an act, done to the cache and to the reference. -/
namespace Go.Proofs.Ytepmikgjnmjheaa
theorem fpOb5 {Γf : List Asn} {e : TypeId} {sz m : Nat} {v : Value} {xs : List Value} (h : rowN e sz v m xs ∈ Γf) : ∀ A, A ∈ [rdN v m xs] → ∃ B, B ∈ Γf ∧ ∀ g, A.fp g → B.fp g := fun A hA => ⟨_, h, fun g hg => by rw [List.mem_singleton.1 hA] at hg; exact hg.2⟩
instance : Inhabited KS := ⟨⟨[], 0, .slice none 0 0⟩⟩
structure St5 where
  C : CS
  S : DS
  K : KS
  R : RfS
instance : Inhabited St5 := ⟨⟨default, default, default, default⟩⟩
abbrev both5 (gK gV : Nat) (vF : Value) (mD : Nat) (vd : Value) (gY gX : Nat) (s : St5) : List Asn := [bx gK 86 (cxc gV vF (s.C.hand : Int)), rowN 90 6 vF s.C.fs.length (frs s.C.fs), vault s.C.rs, bx gV 79 (dvc s.S.fu vd mD s.S.cn), rowN 81 256 vd s.S.ls.length (secs s.S.ls), mp secM mD s.S.es, bag s.S.es, bx gY 73 (krc gX s.K.v (s.K.hand : Int)), rowN 97 5 s.K.v s.K.fs.length (rfs s.K.fs), bx gX 51 (rdc s.R.vL s.R.vA s.R.vB s.R.fu s.R.wr), rowN 31 1 s.R.vL s.R.L.length (valsV s.R.L), rowN 3 1 s.R.vA s.R.Z.length (intsV (zAt s.R.Z)), rowN 31 1 s.R.vB s.R.Z.length (valsV (zB s.R.Z)), vault s.R.rs]
structure Ok5 (n m p k : Nat) (s : St5) : Prop where
  cv : s.C.vw = s.K.vw
  dv : s.S.vw = s.R.vw
  ci : CInv n m p s.C
  di : DInv n k s.S
  ki : KInv n m p s.R.rs s.K
  ri : RInv n k s.R
  uq : Uq s.K.vw
def RB5 (gK gV : Nat) (vF : Value) (mD : Nat) (vd : Value) (gY gX n m p k : Nat) : Value → List Asn → Prop := fun v Γ => ∃ s, v = .bool true ∧ Ok5 n m p k s ∧ Γ = both5 gK gV vF mD vd gY gX s
theorem KInv.rn {n m p : Nat} {rs : List (Value × Sec)} {K : KS} (h : KInv n m p rs K) : Rn n K.vw := by
  intro i f hf
  have hf : (K.fs.map FR.vw)[i]? = some (some f) := hf
  rw [List.getElem?_map] at hf
  cases hi : K.fs[i]? with
  | none => rw [hi] at hf; cases hf
  | some g =>
    rw [hi] at hf
    have hf : g.vw = some f := Option.some.inj hf
    by_cases hg : g.no < 0
    · rw [FR.vw_none hg] at hf; cases hf
    · rw [FR.vw_some hg] at hf
      have := (h.each g (List.mem_of_getElem? hi)).here (by omega)
      cases hf
      exact ⟨by show 0 ≤ g.no; omega, this.1⟩
theorem Uq.pin {C : Cv} (h : Uq C) (no : Int) : Uq (C.pin no).1 := by
  unfold Cv.pin
  split
  · split
    · rename_i f hf
      exact (subN_hit (f' := { f with pins := f.pins + 1 }) hf rfl).uq h
    · exact h
  · exact h
theorem Uq.unpin {C : Cv} (h : Uq C) (no : Int) : Uq (C.unpin no).1 := by
  unfold Cv.unpin
  split
  · split
    · rename_i f hf
      split
      · exact h
      · exact (subN_hit (f' := { f with pins := f.pins - 1 }) hf rfl).uq h
    · exact h
  · exact h
theorem Uq.drop {C : Cv} (h : Uq C) (no : Int) : Uq (C.drop no).1 := by
  unfold Cv.drop
  split
  · split
    · split
      · exact h
      · exact subN_none.uq h
    · exact h
  · exact h
theorem kaC_ok {x : KA} : FOk (kaC x) := .one1 rfl (.one1 rfl (.one1 rfl .nil))
open Go.RowKit
set_option linter.unusedSimpArgs false
set_option linter.unusedVariables false
set_option maxRecDepth 20000
set_option maxHeartbeats 4000000
attribute [local irreducible] WPc WPl WPq ReadR OpT BinR HasS bx rdN rowN Take Takes Prov Triple ResF BuildP Done ag Int.decLt Int.decLe Int.instDecidableEq
attribute [local irreducible] mp rmp rg rgo bag vrow secs mput mget mfind mdel intsV skeys vault pickG fburn fb1 valsV zAt zB vers crashT intsN frs rfs those dl
section
variable (gK gV : Nat) (vF : Value) (mD : Nat) (vd : Value) (gY gX n m p k : Nat) (C : CS) (S : DS) (K : KS) (R : RfS) (x : KA)
theorem does51_t (hci : CInv n m p C) (hdi : DInv n k S) (hki : KInv n m p R.rs K) (hri : RInv n k R) (hcv : C.vw = K.vw) (hdv : S.vw = R.vw) (hu : Uq K.vw) (hn : n ≤ 64) (h8 : 8 ≤ m) (hm : m ≤ 64) (hkb : k ≤ 70000) (hp : p ≤ 100000) (hw : kaW x) (hkk : x.k = 1) :
    Triple Try.prog 42 #[hC gK, hD gV, hC gY, ag (kaC x)] (both5 gK gV vF mD vd gY gX ⟨C, S, K, R⟩) (RB5 gK gV vF mD vd gY gX n m (p + 1) (k + 64)) := by
  obtain ⟨w1, w2⟩ := hw
  have hfx := kaC_ok (x := x)
  by_cases hr : 0 ≤ x.no ∧ x.no < (n : Int)
  · obtain ⟨j, hj⟩ : ∃ j : Nat, x.no = (j : Int) := ⟨x.no.toNat, by omega⟩
    have c47 := fun bv => cput_t gK gV vF mD vd n m p k C S j bv (secF x.b) hci hdi (by omega) h8 hm (by omega) (by omega)
    have c54 := fun bv => kput_t gY gX n m p k K R j bv (secF x.b) hki hri (by omega) h8 hm (by omega) (by omega)
    rw [hcv, hdv] at c47
    rw [← hj] at c47 c54
    have hu1 := hu.put R.vw j (secF x.b)
    obtain ⟨rr, hrr⟩ : ∃ rr, rr = K.vw.put R.vw j (secF x.b) := ⟨_, rfl⟩
    rw [← hrr] at c47 c54 hu1
    have hvA : ∀ v Γ', RPut gK gV vF mD vd n m p (k + 1) rr v Γ' → v = .int .i64 rr.2.2 ∧ ∃ s : CS × DS, Γ' = (fun s : CS × DS => cdA gK gV vF s.1 mD vd s.2) s ∧ (fun s : CS × DS => s.1.vw = rr.1 ∧ s.2.vw = rr.2.1 ∧ CInv n m p s.1 ∧ DInv n (k + 1) s.2) s := fun v Γ' ⟨C', S', h1, h2, h3, h4, h5, h6⟩ => ⟨h1, (C', S'), h6, h2, h3, h4, h5⟩
    have hvB : ∀ v Γ', RKPut gY gX n m p (k + 1) rr v Γ' → v = .int .i64 rr.2.2 ∧ ∃ s : KS × RfS, Γ' = (fun s : KS × RfS => krA gY gX s.1 s.2) s ∧ (fun s : KS × RfS => s.1.vw = rr.1 ∧ s.2.vw = rr.2.1 ∧ KInv n m p s.2.rs s.1 ∧ RInv n (k + 1) s.2) s := fun v Γ' ⟨C', S', h1, h2, h3, h4, h5, h6⟩ => ⟨h1, (C', S'), h6, h2, h3, h4, h5⟩
    refine Triple.enter Try.func42 rfl Try.ntmps42 rfl (fun W => ?_)
    dsimp only [argsF, Nat.reduceAdd]
    repeat' (first
     | refine WPl.nil ?_ | refine WPq.then ?_ | refine WPq.thenR ?_ | refine WPq.thenE ?_ | refine WPq.blockN ?_ | refine WPq.blockR ?_ | refine WPq.blockE ?_ | refine WPq.blockO rfl ?_ | refine WPc.seq ?_ | refine WPc.block ?_ | refine WPc.ret ?_ | refine WPc.exit ?_ | refine WPc.skip ?_ | refine WPc.region ?_
     | (refine isReg 6 ?_; refine WPc.drA [([16, 17, 18, 19, 20, 21, 22, 23, 24, 25, 26, 27, 28, 29], [42, 43, 44, 45, 46, 48, 49, 50, 51, 52]), ([16, 17, 18, 19, 20, 21, 22, 23, 24, 25, 26, 27, 28, 29], [41, 44, 45, 46, 48, 49, 50, 51, 52]), ([1, 16, 17, 18, 19, 20, 21, 22, 23, 24, 25, 26, 27, 28, 29], [41, 42, 44, 45, 46, 48, 49, 50, 51, 52]), ([16, 17, 18, 19, 20, 21, 22, 23, 24, 25, 26, 27, 28, 29], [41, 42, 43, 48, 49, 50, 51, 52]), ([3, 16, 17, 18, 19, 20, 21, 22, 23, 24, 25, 26, 27, 28, 29], [41, 42, 43, 44, 48, 49, 50, 51, 52]), ([3, 4, 16, 17, 18, 19, 20, 21, 22, 23, 24, 25, 26, 27, 28, 29], [41, 42, 43, 44, 45, 48, 49, 50, 51, 52]), ([0, 1, 2, 3, 4, 5, 16, 17, 18, 19, 20, 21, 22, 23, 24, 25, 26, 27, 28, 29], [41, 42, 43, 44, 45, 46, 48, 49, 50, 51, 52]), ([16, 17, 18, 19, 20, 21, 22, 23, 24, 25, 26, 27, 28, 29], [41, 42, 43, 44, 45, 46, 47, 49, 50, 51, 52, 53]), ([16, 17, 18, 19, 20, 21, 22, 23, 24, 25, 26, 27, 28, 29], [41, 42, 43, 44, 45, 46, 47, 48, 51, 52, 53]), ([8, 16, 17, 18, 19, 20, 21, 22, 23, 24, 25, 26, 27, 28, 29], [41, 42, 43, 44, 45, 46, 47, 48, 49, 51, 52, 53]), ([16, 17, 18, 19, 20, 21, 22, 23, 24, 25, 26, 27, 28, 29], [41, 42, 43, 44, 45, 46, 47, 48, 49, 50]), ([10, 16, 17, 18, 19, 20, 21, 22, 23, 24, 25, 26, 27, 28, 29], [41, 42, 43, 44, 45, 46, 47, 48, 49, 50, 51]), ([0, 1, 2, 3, 4, 5, 6, 10, 11, 16, 17, 18, 19, 20, 21, 22, 23, 24, 25, 26, 27, 28, 29], [41, 42, 43, 44, 45, 46, 47, 48, 49, 50, 51, 52]), ([0, 1, 2, 3, 4, 5, 6, 7, 8, 9, 10, 11, 12, 16, 17, 18, 19, 20, 21, 22, 23, 24, 25, 26, 27, 28, 29], [41, 42, 43, 44, 45, 46, 47, 48, 49, 50, 51, 52, 53]), ([0, 1, 2, 3, 4, 5, 6, 7, 8, 9, 10, 11, 12, 13, 16, 17, 18, 19, 20, 21, 22, 23, 24, 25, 26, 27, 28, 29], [41, 42, 43, 44, 45, 46, 47, 48, 49, 50, 51, 52, 53, 54]), ([0, 1, 2, 3, 4, 5, 6, 7, 8, 9, 10, 11, 12, 13, 14, 16, 17, 18, 19, 20, 21, 22, 23, 24, 25, 26, 27, 28, 29], [41, 42, 43, 44, 45, 46, 47, 48, 49, 50, 51, 52, 53, 54, 55])] [(16, 6), (17, 6), (18, 6), (19, 6), (20, 6), (21, 6), (22, 6), (23, 13), (24, 13), (25, 13), (26, 13), (27, 13), (28, 13), (29, 13), (16, 0), (16, 1), (16, 2), (16, 3), (16, 4), (16, 5), (17, 0), (17, 1), (17, 2), (17, 3), (17, 4), (17, 5), (18, 0), (18, 1), (18, 2), (18, 3), (18, 4), (18, 5), (19, 0), (19, 1), (19, 2), (19, 3), (19, 4), (19, 5), (20, 0), (20, 1), (20, 2), (20, 3), (20, 4), (20, 5), (21, 0), (21, 1), (21, 2), (21, 3), (21, 4), (21, 5), (22, 0), (22, 1), (22, 2), (22, 3), (22, 4), (22, 5), (23, 0), (23, 1), (23, 2), (23, 3), (23, 4), (23, 5), (23, 6), (23, 7), (23, 8), (23, 9), (23, 10), (23, 11), (23, 12), (24, 0), (24, 1), (24, 2), (24, 3), (24, 4), (24, 5), (24, 6), (24, 7), (24, 8), (24, 9), (24, 10), (24, 11), (24, 12), (25, 0), (25, 1), (25, 2), (25, 3), (25, 4), (25, 5), (25, 6), (25, 7), (25, 8), (25, 9), (25, 10), (25, 11), (25, 12), (26, 0), (26, 1), (26, 2), (26, 3), (26, 4), (26, 5), (26, 6), (26, 7), (26, 8), (26, 9), (26, 10), (26, 11), (26, 12), (27, 0), (27, 1), (27, 2), (27, 3), (27, 4), (27, 5), (27, 6), (27, 7), (27, 8), (27, 9), (27, 10), (27, 11), (27, 12), (28, 0), (28, 1), (28, 2), (28, 3), (28, 4), (28, 5), (28, 6), (28, 7), (28, 8), (28, 9), (28, 10), (28, 11), (28, 12), (29, 0), (29, 1), (29, 2), (29, 3), (29, 4), (29, 5), (29, 6), (29, 7), (29, 8), (29, 9), (29, 10), (29, 11), (29, 12)] (Γx := [bx gK 86 (cxc gV vF (C.hand : Int)), rowN 90 6 vF C.fs.length (frs C.fs), vault C.rs, bx gV 79 (dvc S.fu vd mD S.cn), rowN 81 256 vd S.ls.length (secs S.ls), mp secM mD S.es, bag S.es, bx gY 73 (krc gX K.v (K.hand : Int)), rowN 97 5 K.v K.fs.length (rfs K.fs), bx gX 51 (rdc R.vL R.vA R.vB R.fu R.wr), rowN 31 1 R.vL R.L.length (valsV R.L), rowN 3 1 R.vA R.Z.length (intsV (zAt R.Z)), rowN 31 1 R.vB R.Z.length (valsV (zB R.Z)), vault R.rs]) (hox := ownsW) ?_; dsimp only [prev0, List.length_nil, List.length_cons])
     | (refine gAny ?_; first | (refine gC 46 ?_; refine RGl.row (Γ1 := fun _ => []) (fun e hk => OpT.callN (full5_t x.b)) ?_) | (refine gC 53 ?_; refine RGl.row (Γ1 := fun _ => []) (fun e hk => OpT.callN (full5_t x.b)) ?_) | (refine gD 40 ?_; refine RGl.rdX (fun e hk => by (try dsimp only [bndR, ensR, oksR, fcutR, List.append_nil, List.nil_append, List.cons_append, List.append_assoc] at hk ⊢); exact ReadR.binE rfl rfl BinR.eql (congrArg Value.bool (decide_eq_true hkk))) ?_) | (refine gD 55 ?_; refine RGl.rdX (fun e hk => by (try dsimp only [bndR, ensR, oksR, fcutR, List.append_nil, List.nil_append, List.cons_append, List.append_assoc] at hk ⊢); exact ReadR.binE rfl rfl BinR.eql (congrArg Value.bool (decide_eq_true rfl))) ?_) | (refine gOp ?_; (refine gC 47 ?_; refine RGl.relG (.int .i64 rr.2.2) (fun s : CS × DS => cdA gK gV vF s.1 mD vd s.2) (fun s : CS × DS => s.1.vw = rr.1 ∧ s.2.vw = rr.2.1 ∧ CInv n m p s.1 ∧ DInv n (k + 1) s.2) hvA (fun e hk => by (try dsimp only [bndR, ensR, oksR, fcutR, List.append_nil, List.nil_append, List.cons_append, List.append_assoc] at hk ⊢); exact OpT.callM (c47 (e 5).1) evsA takesA (Provs.cons provA Provs.nil) (fpOb5 memA) (by kernel_rfl)) ?_)) | (refine gOp ?_; (refine gC 54 ?_; refine RGl.relG (.int .i64 rr.2.2) (fun s : KS × RfS => krA gY gX s.1 s.2) (fun s : KS × RfS => s.1.vw = rr.1 ∧ s.2.vw = rr.2.1 ∧ KInv n m p s.2.rs s.1 ∧ RInv n (k + 1) s.2) hvB (fun e hk => by (try dsimp only [bndR, ensR, oksR, fcutR, List.append_nil, List.nil_append, List.cons_append, List.append_assoc] at hk ⊢); exact OpT.callM (c54 (e 12).1) evsA takesA (Provs.cons provA Provs.nil) (fpOb5 memA) (by kernel_rfl)) ?_)) | (refine gOp ?_; first | refine RGl.rdA ?_ | refine RGl.rdX (fun e hk => by (try dsimp only [bndR, ensR, oksR, fcutR, List.append_nil, List.nil_append, List.cons_append, List.append_assoc] at hk ⊢); exact readB) ?_) | (refine RGl.fin (fun e hk => ?_); (try dsimp only [bndA, ensAR, oksA, List.append_nil, List.nil_append, List.cons_append, List.append_assoc] at hk ⊢); (repeat (obtain ⟨hk1, hk⟩ := hk))) | fail)
     | (refine isCond ?_; first | refine WPc.cT ?_ | refine WPc.cF ?_ | (refine WPc.cQ (fun hc => ?_) (fun hc => ?_) <;> try exact prA))
     | (refine isD 7 ?_; refine WPl.boxC (kaC x) hfx rfl (fun g7 => ?_))
     | (refine isD 40 ?_; refine WPl.rdX (ReadR.binE rfl rfl BinR.eql (congrArg Value.bool (decide_eq_true hkk))) ?_)
     | (refine isC 46 ?_; refine WPl.cR (full5_t x.b) fun v hv => ?_)
     | (refine isC 53 ?_; refine WPl.cR (full5_t x.b) fun v hv => ?_)
     | (refine isD 55 ?_; refine WPl.rdX (ReadR.binE rfl rfl BinR.eql (congrArg Value.bool (decide_eq_true rfl))) ?_)
     | (refine isOp ?_; first | refine WPl.rd ?_ | refine WPl.sk ?_ | refine WPl.rdB ?_)
     | (refine isBx ?_; refine WPl.nw fun g => ?_)
     | (show WPl _ _ _ _ _ _ _ (⟨_, .indexAddr _ _ _, _, _, _, _⟩ :: _) _; refine WPl.rdX (ReadR.indexE rfl rfl hasA (by first | assumption | omega)) ?_)
     | (show WPl _ _ _ _ _ _ _ (⟨_, .fieldAddr _ _ _, _, _, _, _⟩ :: _) _; refine WPl.rdX (ReadR.fieldE rfl hasA (by first | assumption | omega)) ?_)
     | (show WPl _ _ _ _ _ _ _ (⟨_, .load _ _, _, _, _, _⟩ :: _) _; first | refine WPl.rdX (ReadR.loadE rfl hasA (by assumption)) ?_ | refine WPl.rdX (ReadR.loadES (by assumption) (by first | assumption | omega) rfl hasA) ?_)
     | (show WPl _ _ _ _ _ _ _ (⟨_, .slice _ _ _ _ _, _, _, _, _⟩ :: _) _; first | refine WPl.rdX (ReadR.sliceH rfl rfl hasA (by omega)) ?_ | refine WPl.rdX (ReadR.sliceL rfl rfl hasA (by omega)) ?_ | refine WPl.rdX (ReadR.sliceLH rfl rfl rfl hasA (by omega) (by omega)) ?_)
     | (refine WPl.spQ (fun hc => ?_) (fun hc => ?_) <;> try exact prA)
     | fail)
    dsimp only [Nat.reduceAdd] at *
    have hA : (fun s : CS × DS => s.1.vw = rr.1 ∧ s.2.vw = rr.2.1 ∧ CInv n m p s.1 ∧ DInv n (k + 1) s.2) (pickG (fun s : CS × DS => cdA gK gV vF s.1 mD vd s.2) (fun s : CS × DS => s.1.vw = rr.1 ∧ s.2.vw = rr.2.1 ∧ CInv n m p s.1 ∧ DInv n (k + 1) s.2) (e 6).2) := by assumption
    have hB : (fun s : KS × RfS => s.1.vw = rr.1 ∧ s.2.vw = rr.2.1 ∧ KInv n m p s.2.rs s.1 ∧ RInv n (k + 1) s.2) (pickG (fun s : KS × RfS => krA gY gX s.1 s.2) (fun s : KS × RfS => s.1.vw = rr.1 ∧ s.2.vw = rr.2.1 ∧ KInv n m p s.2.rs s.1 ∧ RInv n (k + 1) s.2) (e 13).2) := by assumption
    obtain ⟨T, hT⟩ : ∃ T, T = (pickG (fun s : CS × DS => cdA gK gV vF s.1 mD vd s.2) (fun s : CS × DS => s.1.vw = rr.1 ∧ s.2.vw = rr.2.1 ∧ CInv n m p s.1 ∧ DInv n (k + 1) s.2) (e 6).2) := ⟨_, rfl⟩
    obtain ⟨U, hU⟩ : ∃ U, U = (pickG (fun s : KS × RfS => krA gY gX s.1 s.2) (fun s : KS × RfS => s.1.vw = rr.1 ∧ s.2.vw = rr.2.1 ∧ KInv n m p s.2.rs s.1 ∧ RInv n (k + 1) s.2) (e 13).2) := ⟨_, rfl⟩
    rw [← hT] at hA
    rw [← hU] at hB
    rw [← hT, ← hU]
    clear hT hU
    obtain ⟨C1, S1⟩ := T
    obtain ⟨K1, R1⟩ := U
    obtain ⟨hA1, hA2, hA3, hA4⟩ := hA
    obtain ⟨hB1, hB2, hB3, hB4⟩ := hB
    (try dsimp only at *)
    refine WPq.dX (ho := ownsW) (vs := [.bool true]) (both5 gK gV vF mD vd gY gX ⟨C1, S1, K1, R1⟩) ⟨⟨C1, S1, K1, R1⟩, rfl, ⟨hA1.trans hB1.symm, hA2.trans hB2.symm, hA3.mono (Nat.le_succ _), hA4.mono (by omega), hB3.mono (Nat.le_succ _), hB4.mono (by omega), by rw [hB1]; exact hu1⟩, rfl⟩
  · have hi : x.no < 0 ∨ (n : Int) ≤ x.no := by omega
    have c47 := fun bv => cputNo_t gK gV vF mD vd n m p k C S x.no bv (secF x.b) hci hdi (by omega) hi
    have c54 := fun bv => kputNo_t gY gX n m p k K R x.no bv (secF x.b) hki hri (by omega) hi
    rw [hcv, hdv] at c47
    obtain ⟨rr, hrr⟩ : ∃ rr : Cv × Dv × Int, rr = (K.vw, R.vw, 1) := ⟨_, rfl⟩
    have hu1 : Uq rr.1 := by rw [hrr]; exact hu
    rw [← hrr] at c47 c54
    have hvA : ∀ v Γ', RPut gK gV vF mD vd n m p k rr v Γ' → v = .int .i64 rr.2.2 ∧ ∃ s : CS × DS, Γ' = (fun s : CS × DS => cdA gK gV vF s.1 mD vd s.2) s ∧ (fun s : CS × DS => s.1.vw = rr.1 ∧ s.2.vw = rr.2.1 ∧ CInv n m p s.1 ∧ DInv n k s.2) s := fun v Γ' ⟨C', S', h1, h2, h3, h4, h5, h6⟩ => ⟨h1, (C', S'), h6, h2, h3, h4, h5⟩
    have hvB : ∀ v Γ', RKPut gY gX n m p k rr v Γ' → v = .int .i64 rr.2.2 ∧ ∃ s : KS × RfS, Γ' = (fun s : KS × RfS => krA gY gX s.1 s.2) s ∧ (fun s : KS × RfS => s.1.vw = rr.1 ∧ s.2.vw = rr.2.1 ∧ KInv n m p s.2.rs s.1 ∧ RInv n k s.2) s := fun v Γ' ⟨C', S', h1, h2, h3, h4, h5, h6⟩ => ⟨h1, (C', S'), h6, h2, h3, h4, h5⟩
    refine Triple.enter Try.func42 rfl Try.ntmps42 rfl (fun W => ?_)
    dsimp only [argsF, Nat.reduceAdd]
    repeat' (first
     | refine WPl.nil ?_ | refine WPq.then ?_ | refine WPq.thenR ?_ | refine WPq.thenE ?_ | refine WPq.blockN ?_ | refine WPq.blockR ?_ | refine WPq.blockE ?_ | refine WPq.blockO rfl ?_ | refine WPc.seq ?_ | refine WPc.block ?_ | refine WPc.ret ?_ | refine WPc.exit ?_ | refine WPc.skip ?_ | refine WPc.region ?_
     | (refine isReg 6 ?_; refine WPc.drA [([16, 17, 18, 19, 20, 21, 22, 23, 24, 25, 26, 27, 28, 29], [42, 43, 44, 45, 46, 48, 49, 50, 51, 52]), ([16, 17, 18, 19, 20, 21, 22, 23, 24, 25, 26, 27, 28, 29], [41, 44, 45, 46, 48, 49, 50, 51, 52]), ([1, 16, 17, 18, 19, 20, 21, 22, 23, 24, 25, 26, 27, 28, 29], [41, 42, 44, 45, 46, 48, 49, 50, 51, 52]), ([16, 17, 18, 19, 20, 21, 22, 23, 24, 25, 26, 27, 28, 29], [41, 42, 43, 48, 49, 50, 51, 52]), ([3, 16, 17, 18, 19, 20, 21, 22, 23, 24, 25, 26, 27, 28, 29], [41, 42, 43, 44, 48, 49, 50, 51, 52]), ([3, 4, 16, 17, 18, 19, 20, 21, 22, 23, 24, 25, 26, 27, 28, 29], [41, 42, 43, 44, 45, 48, 49, 50, 51, 52]), ([0, 1, 2, 3, 4, 5, 16, 17, 18, 19, 20, 21, 22, 23, 24, 25, 26, 27, 28, 29], [41, 42, 43, 44, 45, 46, 48, 49, 50, 51, 52]), ([16, 17, 18, 19, 20, 21, 22, 23, 24, 25, 26, 27, 28, 29], [41, 42, 43, 44, 45, 46, 47, 49, 50, 51, 52, 53]), ([16, 17, 18, 19, 20, 21, 22, 23, 24, 25, 26, 27, 28, 29], [41, 42, 43, 44, 45, 46, 47, 48, 51, 52, 53]), ([8, 16, 17, 18, 19, 20, 21, 22, 23, 24, 25, 26, 27, 28, 29], [41, 42, 43, 44, 45, 46, 47, 48, 49, 51, 52, 53]), ([16, 17, 18, 19, 20, 21, 22, 23, 24, 25, 26, 27, 28, 29], [41, 42, 43, 44, 45, 46, 47, 48, 49, 50]), ([10, 16, 17, 18, 19, 20, 21, 22, 23, 24, 25, 26, 27, 28, 29], [41, 42, 43, 44, 45, 46, 47, 48, 49, 50, 51]), ([0, 1, 2, 3, 4, 5, 6, 10, 11, 16, 17, 18, 19, 20, 21, 22, 23, 24, 25, 26, 27, 28, 29], [41, 42, 43, 44, 45, 46, 47, 48, 49, 50, 51, 52]), ([0, 1, 2, 3, 4, 5, 6, 7, 8, 9, 10, 11, 12, 16, 17, 18, 19, 20, 21, 22, 23, 24, 25, 26, 27, 28, 29], [41, 42, 43, 44, 45, 46, 47, 48, 49, 50, 51, 52, 53]), ([0, 1, 2, 3, 4, 5, 6, 7, 8, 9, 10, 11, 12, 13, 16, 17, 18, 19, 20, 21, 22, 23, 24, 25, 26, 27, 28, 29], [41, 42, 43, 44, 45, 46, 47, 48, 49, 50, 51, 52, 53, 54]), ([0, 1, 2, 3, 4, 5, 6, 7, 8, 9, 10, 11, 12, 13, 14, 16, 17, 18, 19, 20, 21, 22, 23, 24, 25, 26, 27, 28, 29], [41, 42, 43, 44, 45, 46, 47, 48, 49, 50, 51, 52, 53, 54, 55])] [(16, 6), (17, 6), (18, 6), (19, 6), (20, 6), (21, 6), (22, 6), (23, 13), (24, 13), (25, 13), (26, 13), (27, 13), (28, 13), (29, 13), (16, 0), (16, 1), (16, 2), (16, 3), (16, 4), (16, 5), (17, 0), (17, 1), (17, 2), (17, 3), (17, 4), (17, 5), (18, 0), (18, 1), (18, 2), (18, 3), (18, 4), (18, 5), (19, 0), (19, 1), (19, 2), (19, 3), (19, 4), (19, 5), (20, 0), (20, 1), (20, 2), (20, 3), (20, 4), (20, 5), (21, 0), (21, 1), (21, 2), (21, 3), (21, 4), (21, 5), (22, 0), (22, 1), (22, 2), (22, 3), (22, 4), (22, 5), (23, 0), (23, 1), (23, 2), (23, 3), (23, 4), (23, 5), (23, 6), (23, 7), (23, 8), (23, 9), (23, 10), (23, 11), (23, 12), (24, 0), (24, 1), (24, 2), (24, 3), (24, 4), (24, 5), (24, 6), (24, 7), (24, 8), (24, 9), (24, 10), (24, 11), (24, 12), (25, 0), (25, 1), (25, 2), (25, 3), (25, 4), (25, 5), (25, 6), (25, 7), (25, 8), (25, 9), (25, 10), (25, 11), (25, 12), (26, 0), (26, 1), (26, 2), (26, 3), (26, 4), (26, 5), (26, 6), (26, 7), (26, 8), (26, 9), (26, 10), (26, 11), (26, 12), (27, 0), (27, 1), (27, 2), (27, 3), (27, 4), (27, 5), (27, 6), (27, 7), (27, 8), (27, 9), (27, 10), (27, 11), (27, 12), (28, 0), (28, 1), (28, 2), (28, 3), (28, 4), (28, 5), (28, 6), (28, 7), (28, 8), (28, 9), (28, 10), (28, 11), (28, 12), (29, 0), (29, 1), (29, 2), (29, 3), (29, 4), (29, 5), (29, 6), (29, 7), (29, 8), (29, 9), (29, 10), (29, 11), (29, 12)] (Γx := [bx gK 86 (cxc gV vF (C.hand : Int)), rowN 90 6 vF C.fs.length (frs C.fs), vault C.rs, bx gV 79 (dvc S.fu vd mD S.cn), rowN 81 256 vd S.ls.length (secs S.ls), mp secM mD S.es, bag S.es, bx gY 73 (krc gX K.v (K.hand : Int)), rowN 97 5 K.v K.fs.length (rfs K.fs), bx gX 51 (rdc R.vL R.vA R.vB R.fu R.wr), rowN 31 1 R.vL R.L.length (valsV R.L), rowN 3 1 R.vA R.Z.length (intsV (zAt R.Z)), rowN 31 1 R.vB R.Z.length (valsV (zB R.Z)), vault R.rs]) (hox := ownsW) ?_; dsimp only [prev0, List.length_nil, List.length_cons])
     | (refine gAny ?_; first | (refine gC 46 ?_; refine RGl.row (Γ1 := fun _ => []) (fun e hk => OpT.callN (full5_t x.b)) ?_) | (refine gC 53 ?_; refine RGl.row (Γ1 := fun _ => []) (fun e hk => OpT.callN (full5_t x.b)) ?_) | (refine gD 40 ?_; refine RGl.rdX (fun e hk => by (try dsimp only [bndR, ensR, oksR, fcutR, List.append_nil, List.nil_append, List.cons_append, List.append_assoc] at hk ⊢); exact ReadR.binE rfl rfl BinR.eql (congrArg Value.bool (decide_eq_true hkk))) ?_) | (refine gD 55 ?_; refine RGl.rdX (fun e hk => by (try dsimp only [bndR, ensR, oksR, fcutR, List.append_nil, List.nil_append, List.cons_append, List.append_assoc] at hk ⊢); exact ReadR.binE rfl rfl BinR.eql (congrArg Value.bool (decide_eq_true rfl))) ?_) | (refine gOp ?_; (refine gC 47 ?_; refine RGl.relG (.int .i64 rr.2.2) (fun s : CS × DS => cdA gK gV vF s.1 mD vd s.2) (fun s : CS × DS => s.1.vw = rr.1 ∧ s.2.vw = rr.2.1 ∧ CInv n m p s.1 ∧ DInv n k s.2) hvA (fun e hk => by (try dsimp only [bndR, ensR, oksR, fcutR, List.append_nil, List.nil_append, List.cons_append, List.append_assoc] at hk ⊢); exact OpT.callM (c47 (e 5).1) evsA takesA (Provs.cons provA Provs.nil) (fpOb5 memA) (by kernel_rfl)) ?_)) | (refine gOp ?_; (refine gC 54 ?_; refine RGl.relG (.int .i64 rr.2.2) (fun s : KS × RfS => krA gY gX s.1 s.2) (fun s : KS × RfS => s.1.vw = rr.1 ∧ s.2.vw = rr.2.1 ∧ KInv n m p s.2.rs s.1 ∧ RInv n k s.2) hvB (fun e hk => by (try dsimp only [bndR, ensR, oksR, fcutR, List.append_nil, List.nil_append, List.cons_append, List.append_assoc] at hk ⊢); exact OpT.callM (c54 (e 12).1) evsA takesA (Provs.cons provA Provs.nil) (fpOb5 memA) (by kernel_rfl)) ?_)) | (refine gOp ?_; first | refine RGl.rdA ?_ | refine RGl.rdX (fun e hk => by (try dsimp only [bndR, ensR, oksR, fcutR, List.append_nil, List.nil_append, List.cons_append, List.append_assoc] at hk ⊢); exact readB) ?_) | (refine RGl.fin (fun e hk => ?_); (try dsimp only [bndA, ensAR, oksA, List.append_nil, List.nil_append, List.cons_append, List.append_assoc] at hk ⊢); (repeat (obtain ⟨hk1, hk⟩ := hk))) | fail)
     | (refine isCond ?_; first | refine WPc.cT ?_ | refine WPc.cF ?_ | (refine WPc.cQ (fun hc => ?_) (fun hc => ?_) <;> try exact prA))
     | (refine isD 7 ?_; refine WPl.boxC (kaC x) hfx rfl (fun g7 => ?_))
     | (refine isD 40 ?_; refine WPl.rdX (ReadR.binE rfl rfl BinR.eql (congrArg Value.bool (decide_eq_true hkk))) ?_)
     | (refine isC 46 ?_; refine WPl.cR (full5_t x.b) fun v hv => ?_)
     | (refine isC 53 ?_; refine WPl.cR (full5_t x.b) fun v hv => ?_)
     | (refine isD 55 ?_; refine WPl.rdX (ReadR.binE rfl rfl BinR.eql (congrArg Value.bool (decide_eq_true rfl))) ?_)
     | (refine isOp ?_; first | refine WPl.rd ?_ | refine WPl.sk ?_ | refine WPl.rdB ?_)
     | (refine isBx ?_; refine WPl.nw fun g => ?_)
     | (show WPl _ _ _ _ _ _ _ (⟨_, .indexAddr _ _ _, _, _, _, _⟩ :: _) _; refine WPl.rdX (ReadR.indexE rfl rfl hasA (by first | assumption | omega)) ?_)
     | (show WPl _ _ _ _ _ _ _ (⟨_, .fieldAddr _ _ _, _, _, _, _⟩ :: _) _; refine WPl.rdX (ReadR.fieldE rfl hasA (by first | assumption | omega)) ?_)
     | (show WPl _ _ _ _ _ _ _ (⟨_, .load _ _, _, _, _, _⟩ :: _) _; first | refine WPl.rdX (ReadR.loadE rfl hasA (by assumption)) ?_ | refine WPl.rdX (ReadR.loadES (by assumption) (by first | assumption | omega) rfl hasA) ?_)
     | (show WPl _ _ _ _ _ _ _ (⟨_, .slice _ _ _ _ _, _, _, _, _⟩ :: _) _; first | refine WPl.rdX (ReadR.sliceH rfl rfl hasA (by omega)) ?_ | refine WPl.rdX (ReadR.sliceL rfl rfl hasA (by omega)) ?_ | refine WPl.rdX (ReadR.sliceLH rfl rfl rfl hasA (by omega) (by omega)) ?_)
     | (refine WPl.spQ (fun hc => ?_) (fun hc => ?_) <;> try exact prA)
     | fail)
    dsimp only [Nat.reduceAdd] at *
    have hA : (fun s : CS × DS => s.1.vw = rr.1 ∧ s.2.vw = rr.2.1 ∧ CInv n m p s.1 ∧ DInv n k s.2) (pickG (fun s : CS × DS => cdA gK gV vF s.1 mD vd s.2) (fun s : CS × DS => s.1.vw = rr.1 ∧ s.2.vw = rr.2.1 ∧ CInv n m p s.1 ∧ DInv n k s.2) (e 6).2) := by assumption
    have hB : (fun s : KS × RfS => s.1.vw = rr.1 ∧ s.2.vw = rr.2.1 ∧ KInv n m p s.2.rs s.1 ∧ RInv n k s.2) (pickG (fun s : KS × RfS => krA gY gX s.1 s.2) (fun s : KS × RfS => s.1.vw = rr.1 ∧ s.2.vw = rr.2.1 ∧ KInv n m p s.2.rs s.1 ∧ RInv n k s.2) (e 13).2) := by assumption
    obtain ⟨T, hT⟩ : ∃ T, T = (pickG (fun s : CS × DS => cdA gK gV vF s.1 mD vd s.2) (fun s : CS × DS => s.1.vw = rr.1 ∧ s.2.vw = rr.2.1 ∧ CInv n m p s.1 ∧ DInv n k s.2) (e 6).2) := ⟨_, rfl⟩
    obtain ⟨U, hU⟩ : ∃ U, U = (pickG (fun s : KS × RfS => krA gY gX s.1 s.2) (fun s : KS × RfS => s.1.vw = rr.1 ∧ s.2.vw = rr.2.1 ∧ KInv n m p s.2.rs s.1 ∧ RInv n k s.2) (e 13).2) := ⟨_, rfl⟩
    rw [← hT] at hA
    rw [← hU] at hB
    rw [← hT, ← hU]
    clear hT hU
    obtain ⟨C1, S1⟩ := T
    obtain ⟨K1, R1⟩ := U
    obtain ⟨hA1, hA2, hA3, hA4⟩ := hA
    obtain ⟨hB1, hB2, hB3, hB4⟩ := hB
    (try dsimp only at *)
    refine WPq.dX (ho := ownsW) (vs := [.bool true]) (both5 gK gV vF mD vd gY gX ⟨C1, S1, K1, R1⟩) ⟨⟨C1, S1, K1, R1⟩, rfl, ⟨hA1.trans hB1.symm, hA2.trans hB2.symm, hA3.mono (Nat.le_succ _), hA4.mono (by omega), hB3.mono (Nat.le_succ _), hB4.mono (by omega), by rw [hB1]; exact hu1⟩, rfl⟩
theorem does52_t (hci : CInv n m p C) (hdi : DInv n k S) (hki : KInv n m p R.rs K) (hri : RInv n k R) (hcv : C.vw = K.vw) (hdv : S.vw = R.vw) (hu : Uq K.vw) (hn : n ≤ 64) (h8 : 8 ≤ m) (hm : m ≤ 64) (hkb : k ≤ 70000) (hp : p ≤ 100000) (hw : kaW x) (hkk : x.k = 2) :
    Triple Try.prog 42 #[hC gK, hD gV, hC gY, ag (kaC x)] (both5 gK gV vF mD vd gY gX ⟨C, S, K, R⟩) (RB5 gK gV vF mD vd gY gX n m (p + 1) (k + 64)) := by
  obtain ⟨w1, w2⟩ := hw
  have hfx := kaC_ok (x := x)
  have cA := cpin_t gK gV vF mD vd n m p C x.no hci hm (by omega)
  have cB := kpin_t gY gX n m p R.rs K x.no 1 hki hm (by omega) (by omega) (by omega)
  rw [hcv] at cA
  rw [pinBy_pin hki] at cB
  have hu1 := hu.pin x.no
  obtain ⟨rr, hrr⟩ : ∃ rr, rr = K.vw.pin x.no := ⟨_, rfl⟩
  rw [← hrr] at cA cB hu1
  have hvA : ∀ v Γ', RPin gK gV vF mD vd n m (p + 1) rr v Γ' → v = .bool rr.2 ∧ ∃ s : CS, Γ' = (fun s : CS => chA gK gV vF s) s ∧ (fun s : CS => s.vw = rr.1 ∧ CInv n m (p + 1) s) s := fun v Γ' ⟨C', h1, h2, h3, h4⟩ => ⟨h1, C', h4, h2, h3⟩
  have hvB : ∀ v Γ', RKPin gY gX n m (p + 1) R.rs rr v Γ' → v = .bool rr.2 ∧ ∃ s : KS, Γ' = (fun s : KS => [bx gY 73 (krc gX s.v (s.hand : Int)), rowN 97 5 s.v s.fs.length (rfs s.fs)]) s ∧ (fun s : KS => s.vw = rr.1 ∧ KInv n m (p + 1) R.rs s) s := fun v Γ' ⟨C', h1, h2, h3, h4⟩ => ⟨h1, C', h4, h2, h3⟩
  refine Triple.enter Try.func42 rfl Try.ntmps42 rfl (fun W => ?_)
  dsimp only [argsF, Nat.reduceAdd]
  repeat' (first
   | refine WPl.nil ?_ | refine WPq.then ?_ | refine WPq.thenR ?_ | refine WPq.thenE ?_ | refine WPq.blockN ?_ | refine WPq.blockR ?_ | refine WPq.blockE ?_ | refine WPq.blockO rfl ?_ | refine WPc.seq ?_ | refine WPc.block ?_ | refine WPc.ret ?_ | refine WPc.exit ?_ | refine WPc.skip ?_ | refine WPc.region ?_
   | (refine isReg 8 ?_; refine WPc.drA [([10, 11, 12, 13, 14], [59, 60, 62, 63, 64]), ([10, 11, 12, 13, 14], [58, 62, 63, 64]), ([1, 10, 11, 12, 13, 14], [58, 59, 62, 63, 64]), ([0, 1, 2, 10, 11, 12, 13, 14], [58, 59, 60, 62, 63, 64]), ([10, 11, 12, 13, 14], [58, 59, 60, 61, 63, 64]), ([10, 11, 12, 13, 14], [58, 59, 60, 61, 62]), ([5, 10, 11, 12, 13, 14], [58, 59, 60, 61, 62, 63]), ([0, 1, 2, 3, 4, 5, 6, 10, 11, 12, 13, 14], [58, 59, 60, 61, 62, 63, 64]), ([0, 1, 2, 3, 4, 5, 6, 7, 10, 11, 12, 13, 14], [58, 59, 60, 61, 62, 63, 64, 65]), ([0, 1, 2, 3, 4, 5, 6, 7, 8, 10, 11, 12, 13, 14], [58, 59, 60, 61, 62, 63, 64, 65, 66])] [(10, 3), (11, 3), (12, 3), (13, 7), (14, 7), (10, 0), (10, 1), (10, 2), (11, 0), (11, 1), (11, 2), (12, 0), (12, 1), (12, 2), (13, 0), (13, 1), (13, 2), (13, 3), (13, 4), (13, 5), (13, 6), (14, 0), (14, 1), (14, 2), (14, 3), (14, 4), (14, 5), (14, 6)] (Γx := [bx gK 86 (cxc gV vF (C.hand : Int)), rowN 90 6 vF C.fs.length (frs C.fs), vault C.rs, bx gY 73 (krc gX K.v (K.hand : Int)), rowN 97 5 K.v K.fs.length (rfs K.fs)]) (hox := ownsW) ?_; dsimp only [prev0, List.length_nil, List.length_cons])
   | (refine gAny ?_; first | (refine gD 40 ?_; refine RGl.rdX (fun e hk => by (try dsimp only [bndR, ensR, oksR, fcutR, List.append_nil, List.nil_append, List.cons_append, List.append_assoc] at hk ⊢); exact ReadR.binE rfl rfl BinR.eql (congrArg Value.bool (decide_eq_false (show ¬ x.k = 1 by omega)))) ?_) | (refine gD 57 ?_; refine RGl.rdX (fun e hk => by (try dsimp only [bndR, ensR, oksR, fcutR, List.append_nil, List.nil_append, List.cons_append, List.append_assoc] at hk ⊢); exact ReadR.binE rfl rfl BinR.eql (congrArg Value.bool (decide_eq_true hkk))) ?_) | (refine gD 66 ?_; refine RGl.rdX (fun e hk => by (try dsimp only [bndR, ensR, oksR, fcutR, List.append_nil, List.nil_append, List.cons_append, List.append_assoc] at hk ⊢); exact ReadR.binE rfl rfl (BinR.eqlB rfl) (congrArg Value.bool (beq_self_eq_true rr.2))) ?_) | (refine gOp ?_; (refine gC 61 ?_; refine RGl.relG (.bool rr.2) (fun s : CS => chA gK gV vF s) (fun s : CS => s.vw = rr.1 ∧ CInv n m (p + 1) s) hvA (fun e hk => by (try dsimp only [bndR, ensR, oksR, fcutR, List.append_nil, List.nil_append, List.cons_append, List.append_assoc] at hk ⊢); exact OpT.callTs cA) ?_)) | (refine gOp ?_; (refine gC 65 ?_; refine RGl.relG (.bool rr.2) (fun s : KS => [bx gY 73 (krc gX s.v (s.hand : Int)), rowN 97 5 s.v s.fs.length (rfs s.fs)]) (fun s : KS => s.vw = rr.1 ∧ KInv n m (p + 1) R.rs s) hvB (fun e hk => by (try dsimp only [bndR, ensR, oksR, fcutR, List.append_nil, List.nil_append, List.cons_append, List.append_assoc] at hk ⊢); exact OpT.callTs cB) ?_)) | (refine gOp ?_; first | refine RGl.rdA ?_ | refine RGl.rdX (fun e hk => by (try dsimp only [bndR, ensR, oksR, fcutR, List.append_nil, List.nil_append, List.cons_append, List.append_assoc] at hk ⊢); exact readB) ?_) | (refine RGl.fin (fun e hk => ?_); (try dsimp only [bndA, ensAR, oksA, List.append_nil, List.nil_append, List.cons_append, List.append_assoc] at hk ⊢); (repeat (obtain ⟨hk1, hk⟩ := hk))) | fail)
   | (refine isCond ?_; first | refine WPc.cT ?_ | refine WPc.cF ?_ | (refine WPc.cQ (fun hc => ?_) (fun hc => ?_) <;> try exact prA))
   | (refine isD 7 ?_; refine WPl.boxC (kaC x) hfx rfl (fun g7 => ?_))
   | (refine isD 40 ?_; refine WPl.rdX (ReadR.binE rfl rfl BinR.eql (congrArg Value.bool (decide_eq_false (show ¬ x.k = 1 by omega)))) ?_)
   | (refine isD 57 ?_; refine WPl.rdX (ReadR.binE rfl rfl BinR.eql (congrArg Value.bool (decide_eq_true hkk))) ?_)
   | (refine isD 66 ?_; refine WPl.rdX (ReadR.binE rfl rfl (BinR.eqlB rfl) (congrArg Value.bool (beq_self_eq_true rr.2))) ?_)
   | (refine isOp ?_; first | refine WPl.rd ?_ | refine WPl.sk ?_ | refine WPl.rdB ?_)
   | (refine isBx ?_; refine WPl.nw fun g => ?_)
   | (show WPl _ _ _ _ _ _ _ (⟨_, .indexAddr _ _ _, _, _, _, _⟩ :: _) _; refine WPl.rdX (ReadR.indexE rfl rfl hasA (by first | assumption | omega)) ?_)
   | (show WPl _ _ _ _ _ _ _ (⟨_, .fieldAddr _ _ _, _, _, _, _⟩ :: _) _; refine WPl.rdX (ReadR.fieldE rfl hasA (by first | assumption | omega)) ?_)
   | (show WPl _ _ _ _ _ _ _ (⟨_, .load _ _, _, _, _, _⟩ :: _) _; first | refine WPl.rdX (ReadR.loadE rfl hasA (by assumption)) ?_ | refine WPl.rdX (ReadR.loadES (by assumption) (by first | assumption | omega) rfl hasA) ?_)
   | (show WPl _ _ _ _ _ _ _ (⟨_, .slice _ _ _ _ _, _, _, _, _⟩ :: _) _; first | refine WPl.rdX (ReadR.sliceH rfl rfl hasA (by omega)) ?_ | refine WPl.rdX (ReadR.sliceL rfl rfl hasA (by omega)) ?_ | refine WPl.rdX (ReadR.sliceLH rfl rfl rfl hasA (by omega) (by omega)) ?_)
   | (refine WPl.spQ (fun hc => ?_) (fun hc => ?_) <;> try exact prA)
   | fail)
  dsimp only [Nat.reduceAdd] at *
  have hA : (fun s : CS => s.vw = rr.1 ∧ CInv n m (p + 1) s) (pickG (fun s : CS => chA gK gV vF s) (fun s : CS => s.vw = rr.1 ∧ CInv n m (p + 1) s) (e 3).2) := by assumption
  have hB : (fun s : KS => s.vw = rr.1 ∧ KInv n m (p + 1) R.rs s) (pickG (fun s : KS => [bx gY 73 (krc gX s.v (s.hand : Int)), rowN 97 5 s.v s.fs.length (rfs s.fs)]) (fun s : KS => s.vw = rr.1 ∧ KInv n m (p + 1) R.rs s) (e 7).2) := by assumption
  obtain ⟨T, hT⟩ : ∃ T, T = (pickG (fun s : CS => chA gK gV vF s) (fun s : CS => s.vw = rr.1 ∧ CInv n m (p + 1) s) (e 3).2) := ⟨_, rfl⟩
  obtain ⟨U, hU⟩ : ∃ U, U = (pickG (fun s : KS => [bx gY 73 (krc gX s.v (s.hand : Int)), rowN 97 5 s.v s.fs.length (rfs s.fs)]) (fun s : KS => s.vw = rr.1 ∧ KInv n m (p + 1) R.rs s) (e 7).2) := ⟨_, rfl⟩
  rw [← hT] at hA
  rw [← hU] at hB
  rw [← hT, ← hU]
  clear hT hU
  obtain ⟨hA1, hA2⟩ := hA
  obtain ⟨hB1, hB2⟩ := hB
  (try dsimp only at *)
  refine WPq.dX (ho := ownsW) (vs := [.bool true]) (both5 gK gV vF mD vd gY gX ⟨T, S, U, R⟩) ⟨⟨T, S, U, R⟩, rfl, ⟨hA1.trans hB1.symm, hdv, hA2, hdi.mono (by omega), hB2, hri.mono (by omega), by rw [hB1]; exact hu1⟩, rfl⟩
theorem does53_t (hci : CInv n m p C) (hdi : DInv n k S) (hki : KInv n m p R.rs K) (hri : RInv n k R) (hcv : C.vw = K.vw) (hdv : S.vw = R.vw) (hu : Uq K.vw) (hn : n ≤ 64) (h8 : 8 ≤ m) (hm : m ≤ 64) (hkb : k ≤ 70000) (hp : p ≤ 100000) (hw : kaW x) (hkk : x.k = 3) :
    Triple Try.prog 42 #[hC gK, hD gV, hC gY, ag (kaC x)] (both5 gK gV vF mD vd gY gX ⟨C, S, K, R⟩) (RB5 gK gV vF mD vd gY gX n m (p + 1) (k + 64)) := by
  obtain ⟨w1, w2⟩ := hw
  have hfx := kaC_ok (x := x)
  have cA := cunpin_t gK gV vF mD vd n m p C x.no hci hm (by omega)
  have cB := kpin_t gY gX n m p R.rs K x.no (-1) hki hm (by omega) (by omega) (by omega)
  rw [hcv] at cA
  rw [pinBy_unpin hki] at cB
  have hu1 := hu.unpin x.no
  obtain ⟨rr, hrr⟩ : ∃ rr, rr = K.vw.unpin x.no := ⟨_, rfl⟩
  rw [← hrr] at cA cB hu1
  have hvA : ∀ v Γ', RPin gK gV vF mD vd n m p rr v Γ' → v = .bool rr.2 ∧ ∃ s : CS, Γ' = (fun s : CS => chA gK gV vF s) s ∧ (fun s : CS => s.vw = rr.1 ∧ CInv n m p s) s := fun v Γ' ⟨C', h1, h2, h3, h4⟩ => ⟨h1, C', h4, h2, h3⟩
  have hvB : ∀ v Γ', RKPin gY gX n m (p + 1) R.rs rr v Γ' → v = .bool rr.2 ∧ ∃ s : KS, Γ' = (fun s : KS => [bx gY 73 (krc gX s.v (s.hand : Int)), rowN 97 5 s.v s.fs.length (rfs s.fs)]) s ∧ (fun s : KS => s.vw = rr.1 ∧ KInv n m (p + 1) R.rs s) s := fun v Γ' ⟨C', h1, h2, h3, h4⟩ => ⟨h1, C', h4, h2, h3⟩
  refine Triple.enter Try.func42 rfl Try.ntmps42 rfl (fun W => ?_)
  dsimp only [argsF, Nat.reduceAdd]
  repeat' (first
   | refine WPl.nil ?_ | refine WPq.then ?_ | refine WPq.thenR ?_ | refine WPq.thenE ?_ | refine WPq.blockN ?_ | refine WPq.blockR ?_ | refine WPq.blockE ?_ | refine WPq.blockO rfl ?_ | refine WPc.seq ?_ | refine WPc.block ?_ | refine WPc.ret ?_ | refine WPc.exit ?_ | refine WPc.skip ?_ | refine WPc.region ?_
   | (refine isReg 10 ?_; refine WPc.drA [([10, 11, 12, 13, 14], [70, 71, 73, 74, 75]), ([10, 11, 12, 13, 14], [69, 73, 74, 75]), ([1, 10, 11, 12, 13, 14], [69, 70, 73, 74, 75]), ([0, 1, 2, 10, 11, 12, 13, 14], [69, 70, 71, 73, 74, 75]), ([10, 11, 12, 13, 14], [69, 70, 71, 72, 74, 75]), ([10, 11, 12, 13, 14], [69, 70, 71, 72, 73]), ([5, 10, 11, 12, 13, 14], [69, 70, 71, 72, 73, 74]), ([0, 1, 2, 3, 4, 5, 6, 10, 11, 12, 13, 14], [69, 70, 71, 72, 73, 74, 75]), ([0, 1, 2, 3, 4, 5, 6, 7, 10, 11, 12, 13, 14], [69, 70, 71, 72, 73, 74, 75, 76]), ([0, 1, 2, 3, 4, 5, 6, 7, 8, 10, 11, 12, 13, 14], [69, 70, 71, 72, 73, 74, 75, 76, 77])] [(10, 3), (11, 3), (12, 3), (13, 7), (14, 7), (10, 0), (10, 1), (10, 2), (11, 0), (11, 1), (11, 2), (12, 0), (12, 1), (12, 2), (13, 0), (13, 1), (13, 2), (13, 3), (13, 4), (13, 5), (13, 6), (14, 0), (14, 1), (14, 2), (14, 3), (14, 4), (14, 5), (14, 6)] (Γx := [bx gK 86 (cxc gV vF (C.hand : Int)), rowN 90 6 vF C.fs.length (frs C.fs), vault C.rs, bx gY 73 (krc gX K.v (K.hand : Int)), rowN 97 5 K.v K.fs.length (rfs K.fs)]) (hox := ownsW) ?_; dsimp only [prev0, List.length_nil, List.length_cons])
   | (refine gAny ?_; first | (refine gD 40 ?_; refine RGl.rdX (fun e hk => by (try dsimp only [bndR, ensR, oksR, fcutR, List.append_nil, List.nil_append, List.cons_append, List.append_assoc] at hk ⊢); exact ReadR.binE rfl rfl BinR.eql (congrArg Value.bool (decide_eq_false (show ¬ x.k = 1 by omega)))) ?_) | (refine gD 57 ?_; refine RGl.rdX (fun e hk => by (try dsimp only [bndR, ensR, oksR, fcutR, List.append_nil, List.nil_append, List.cons_append, List.append_assoc] at hk ⊢); exact ReadR.binE rfl rfl BinR.eql (congrArg Value.bool (decide_eq_false (show ¬ x.k = 2 by omega)))) ?_) | (refine gD 68 ?_; refine RGl.rdX (fun e hk => by (try dsimp only [bndR, ensR, oksR, fcutR, List.append_nil, List.nil_append, List.cons_append, List.append_assoc] at hk ⊢); exact ReadR.binE rfl rfl BinR.eql (congrArg Value.bool (decide_eq_true hkk))) ?_) | (refine gD 77 ?_; refine RGl.rdX (fun e hk => by (try dsimp only [bndR, ensR, oksR, fcutR, List.append_nil, List.nil_append, List.cons_append, List.append_assoc] at hk ⊢); exact ReadR.binE rfl rfl (BinR.eqlB rfl) (congrArg Value.bool (beq_self_eq_true rr.2))) ?_) | (refine gOp ?_; (refine gC 72 ?_; refine RGl.relG (.bool rr.2) (fun s : CS => chA gK gV vF s) (fun s : CS => s.vw = rr.1 ∧ CInv n m p s) hvA (fun e hk => by (try dsimp only [bndR, ensR, oksR, fcutR, List.append_nil, List.nil_append, List.cons_append, List.append_assoc] at hk ⊢); exact OpT.callTs cA) ?_)) | (refine gOp ?_; (refine gC 76 ?_; refine RGl.relG (.bool rr.2) (fun s : KS => [bx gY 73 (krc gX s.v (s.hand : Int)), rowN 97 5 s.v s.fs.length (rfs s.fs)]) (fun s : KS => s.vw = rr.1 ∧ KInv n m (p + 1) R.rs s) hvB (fun e hk => by (try dsimp only [bndR, ensR, oksR, fcutR, List.append_nil, List.nil_append, List.cons_append, List.append_assoc] at hk ⊢); exact OpT.callTs cB) ?_)) | (refine gOp ?_; first | refine RGl.rdA ?_ | refine RGl.rdX (fun e hk => by (try dsimp only [bndR, ensR, oksR, fcutR, List.append_nil, List.nil_append, List.cons_append, List.append_assoc] at hk ⊢); exact readB) ?_) | (refine RGl.fin (fun e hk => ?_); (try dsimp only [bndA, ensAR, oksA, List.append_nil, List.nil_append, List.cons_append, List.append_assoc] at hk ⊢); (repeat (obtain ⟨hk1, hk⟩ := hk))) | fail)
   | (refine isCond ?_; first | refine WPc.cT ?_ | refine WPc.cF ?_ | (refine WPc.cQ (fun hc => ?_) (fun hc => ?_) <;> try exact prA))
   | (refine isD 7 ?_; refine WPl.boxC (kaC x) hfx rfl (fun g7 => ?_))
   | (refine isD 40 ?_; refine WPl.rdX (ReadR.binE rfl rfl BinR.eql (congrArg Value.bool (decide_eq_false (show ¬ x.k = 1 by omega)))) ?_)
   | (refine isD 57 ?_; refine WPl.rdX (ReadR.binE rfl rfl BinR.eql (congrArg Value.bool (decide_eq_false (show ¬ x.k = 2 by omega)))) ?_)
   | (refine isD 68 ?_; refine WPl.rdX (ReadR.binE rfl rfl BinR.eql (congrArg Value.bool (decide_eq_true hkk))) ?_)
   | (refine isD 77 ?_; refine WPl.rdX (ReadR.binE rfl rfl (BinR.eqlB rfl) (congrArg Value.bool (beq_self_eq_true rr.2))) ?_)
   | (refine isOp ?_; first | refine WPl.rd ?_ | refine WPl.sk ?_ | refine WPl.rdB ?_)
   | (refine isBx ?_; refine WPl.nw fun g => ?_)
   | (show WPl _ _ _ _ _ _ _ (⟨_, .indexAddr _ _ _, _, _, _, _⟩ :: _) _; refine WPl.rdX (ReadR.indexE rfl rfl hasA (by first | assumption | omega)) ?_)
   | (show WPl _ _ _ _ _ _ _ (⟨_, .fieldAddr _ _ _, _, _, _, _⟩ :: _) _; refine WPl.rdX (ReadR.fieldE rfl hasA (by first | assumption | omega)) ?_)
   | (show WPl _ _ _ _ _ _ _ (⟨_, .load _ _, _, _, _, _⟩ :: _) _; first | refine WPl.rdX (ReadR.loadE rfl hasA (by assumption)) ?_ | refine WPl.rdX (ReadR.loadES (by assumption) (by first | assumption | omega) rfl hasA) ?_)
   | (show WPl _ _ _ _ _ _ _ (⟨_, .slice _ _ _ _ _, _, _, _, _⟩ :: _) _; first | refine WPl.rdX (ReadR.sliceH rfl rfl hasA (by omega)) ?_ | refine WPl.rdX (ReadR.sliceL rfl rfl hasA (by omega)) ?_ | refine WPl.rdX (ReadR.sliceLH rfl rfl rfl hasA (by omega) (by omega)) ?_)
   | (refine WPl.spQ (fun hc => ?_) (fun hc => ?_) <;> try exact prA)
   | fail)
  dsimp only [Nat.reduceAdd] at *
  have hA : (fun s : CS => s.vw = rr.1 ∧ CInv n m p s) (pickG (fun s : CS => chA gK gV vF s) (fun s : CS => s.vw = rr.1 ∧ CInv n m p s) (e 3).2) := by assumption
  have hB : (fun s : KS => s.vw = rr.1 ∧ KInv n m (p + 1) R.rs s) (pickG (fun s : KS => [bx gY 73 (krc gX s.v (s.hand : Int)), rowN 97 5 s.v s.fs.length (rfs s.fs)]) (fun s : KS => s.vw = rr.1 ∧ KInv n m (p + 1) R.rs s) (e 7).2) := by assumption
  obtain ⟨T, hT⟩ : ∃ T, T = (pickG (fun s : CS => chA gK gV vF s) (fun s : CS => s.vw = rr.1 ∧ CInv n m p s) (e 3).2) := ⟨_, rfl⟩
  obtain ⟨U, hU⟩ : ∃ U, U = (pickG (fun s : KS => [bx gY 73 (krc gX s.v (s.hand : Int)), rowN 97 5 s.v s.fs.length (rfs s.fs)]) (fun s : KS => s.vw = rr.1 ∧ KInv n m (p + 1) R.rs s) (e 7).2) := ⟨_, rfl⟩
  rw [← hT] at hA
  rw [← hU] at hB
  rw [← hT, ← hU]
  clear hT hU
  obtain ⟨hA1, hA2⟩ := hA
  obtain ⟨hB1, hB2⟩ := hB
  (try dsimp only at *)
  refine WPq.dX (ho := ownsW) (vs := [.bool true]) (both5 gK gV vF mD vd gY gX ⟨T, S, U, R⟩) ⟨⟨T, S, U, R⟩, rfl, ⟨hA1.trans hB1.symm, hdv, hA2.mono (Nat.le_succ _), hdi.mono (by omega), hB2, hri.mono (by omega), by rw [hB1]; exact hu1⟩, rfl⟩
theorem does54_t (hci : CInv n m p C) (hdi : DInv n k S) (hki : KInv n m p R.rs K) (hri : RInv n k R) (hcv : C.vw = K.vw) (hdv : S.vw = R.vw) (hu : Uq K.vw) (hn : n ≤ 64) (h8 : 8 ≤ m) (hm : m ≤ 64) (hkb : k ≤ 70000) (hp : p ≤ 100000) (hw : kaW x) (hkk : x.k = 4) :
    Triple Try.prog 42 #[hC gK, hD gV, hC gY, ag (kaC x)] (both5 gK gV vF mD vd gY gX ⟨C, S, K, R⟩) (RB5 gK gV vF mD vd gY gX n m (p + 1) (k + 64)) := by
  obtain ⟨w1, w2⟩ := hw
  have hfx := kaC_ok (x := x)
  have cA := cdrop_t gK gV vF mD vd n m p C x.no hci hm (by omega)
  have cB := kdrop_t gY gX n m p R.rs K x.no hki hm
  rw [hcv] at cA
  have hu1 := hu.drop x.no
  obtain ⟨rr, hrr⟩ : ∃ rr, rr = K.vw.drop x.no := ⟨_, rfl⟩
  rw [← hrr] at cA cB hu1
  have hvA : ∀ v Γ', RPin gK gV vF mD vd n m p rr v Γ' → v = .bool rr.2 ∧ ∃ s : CS, Γ' = (fun s : CS => chA gK gV vF s) s ∧ (fun s : CS => s.vw = rr.1 ∧ CInv n m p s) s := fun v Γ' ⟨C', h1, h2, h3, h4⟩ => ⟨h1, C', h4, h2, h3⟩
  have hvB : ∀ v Γ', RKPin gY gX n m p R.rs rr v Γ' → v = .bool rr.2 ∧ ∃ s : KS, Γ' = (fun s : KS => [bx gY 73 (krc gX s.v (s.hand : Int)), rowN 97 5 s.v s.fs.length (rfs s.fs)]) s ∧ (fun s : KS => s.vw = rr.1 ∧ KInv n m p R.rs s) s := fun v Γ' ⟨C', h1, h2, h3, h4⟩ => ⟨h1, C', h4, h2, h3⟩
  refine Triple.enter Try.func42 rfl Try.ntmps42 rfl (fun W => ?_)
  dsimp only [argsF, Nat.reduceAdd]
  repeat' (first
   | refine WPl.nil ?_ | refine WPq.then ?_ | refine WPq.thenR ?_ | refine WPq.thenE ?_ | refine WPq.blockN ?_ | refine WPq.blockR ?_ | refine WPq.blockE ?_ | refine WPq.blockO rfl ?_ | refine WPc.seq ?_ | refine WPc.block ?_ | refine WPc.ret ?_ | refine WPc.exit ?_ | refine WPc.skip ?_ | refine WPc.region ?_
   | (refine isReg 12 ?_; refine WPc.drA [([10, 11, 12, 13, 14], [81, 82, 84, 85, 86]), ([10, 11, 12, 13, 14], [80, 84, 85, 86]), ([1, 10, 11, 12, 13, 14], [80, 81, 84, 85, 86]), ([0, 1, 2, 10, 11, 12, 13, 14], [80, 81, 82, 84, 85, 86]), ([10, 11, 12, 13, 14], [80, 81, 82, 83, 85, 86]), ([10, 11, 12, 13, 14], [80, 81, 82, 83, 84]), ([5, 10, 11, 12, 13, 14], [80, 81, 82, 83, 84, 85]), ([0, 1, 2, 3, 4, 5, 6, 10, 11, 12, 13, 14], [80, 81, 82, 83, 84, 85, 86]), ([0, 1, 2, 3, 4, 5, 6, 7, 10, 11, 12, 13, 14], [80, 81, 82, 83, 84, 85, 86, 87]), ([0, 1, 2, 3, 4, 5, 6, 7, 8, 10, 11, 12, 13, 14], [80, 81, 82, 83, 84, 85, 86, 87, 88])] [(10, 3), (11, 3), (12, 3), (13, 7), (14, 7), (10, 0), (10, 1), (10, 2), (11, 0), (11, 1), (11, 2), (12, 0), (12, 1), (12, 2), (13, 0), (13, 1), (13, 2), (13, 3), (13, 4), (13, 5), (13, 6), (14, 0), (14, 1), (14, 2), (14, 3), (14, 4), (14, 5), (14, 6)] (Γx := [bx gK 86 (cxc gV vF (C.hand : Int)), rowN 90 6 vF C.fs.length (frs C.fs), vault C.rs, bx gY 73 (krc gX K.v (K.hand : Int)), rowN 97 5 K.v K.fs.length (rfs K.fs)]) (hox := ownsW) ?_; dsimp only [prev0, List.length_nil, List.length_cons])
   | (refine gAny ?_; first | (refine gD 40 ?_; refine RGl.rdX (fun e hk => by (try dsimp only [bndR, ensR, oksR, fcutR, List.append_nil, List.nil_append, List.cons_append, List.append_assoc] at hk ⊢); exact ReadR.binE rfl rfl BinR.eql (congrArg Value.bool (decide_eq_false (show ¬ x.k = 1 by omega)))) ?_) | (refine gD 57 ?_; refine RGl.rdX (fun e hk => by (try dsimp only [bndR, ensR, oksR, fcutR, List.append_nil, List.nil_append, List.cons_append, List.append_assoc] at hk ⊢); exact ReadR.binE rfl rfl BinR.eql (congrArg Value.bool (decide_eq_false (show ¬ x.k = 2 by omega)))) ?_) | (refine gD 68 ?_; refine RGl.rdX (fun e hk => by (try dsimp only [bndR, ensR, oksR, fcutR, List.append_nil, List.nil_append, List.cons_append, List.append_assoc] at hk ⊢); exact ReadR.binE rfl rfl BinR.eql (congrArg Value.bool (decide_eq_false (show ¬ x.k = 3 by omega)))) ?_) | (refine gD 79 ?_; refine RGl.rdX (fun e hk => by (try dsimp only [bndR, ensR, oksR, fcutR, List.append_nil, List.nil_append, List.cons_append, List.append_assoc] at hk ⊢); exact ReadR.binE rfl rfl BinR.eql (congrArg Value.bool (decide_eq_true hkk))) ?_) | (refine gD 88 ?_; refine RGl.rdX (fun e hk => by (try dsimp only [bndR, ensR, oksR, fcutR, List.append_nil, List.nil_append, List.cons_append, List.append_assoc] at hk ⊢); exact ReadR.binE rfl rfl (BinR.eqlB rfl) (congrArg Value.bool (beq_self_eq_true rr.2))) ?_) | (refine gOp ?_; (refine gC 83 ?_; refine RGl.relG (.bool rr.2) (fun s : CS => chA gK gV vF s) (fun s : CS => s.vw = rr.1 ∧ CInv n m p s) hvA (fun e hk => by (try dsimp only [bndR, ensR, oksR, fcutR, List.append_nil, List.nil_append, List.cons_append, List.append_assoc] at hk ⊢); exact OpT.callTs cA) ?_)) | (refine gOp ?_; (refine gC 87 ?_; refine RGl.relG (.bool rr.2) (fun s : KS => [bx gY 73 (krc gX s.v (s.hand : Int)), rowN 97 5 s.v s.fs.length (rfs s.fs)]) (fun s : KS => s.vw = rr.1 ∧ KInv n m p R.rs s) hvB (fun e hk => by (try dsimp only [bndR, ensR, oksR, fcutR, List.append_nil, List.nil_append, List.cons_append, List.append_assoc] at hk ⊢); exact OpT.callTs cB) ?_)) | (refine gOp ?_; first | refine RGl.rdA ?_ | refine RGl.rdX (fun e hk => by (try dsimp only [bndR, ensR, oksR, fcutR, List.append_nil, List.nil_append, List.cons_append, List.append_assoc] at hk ⊢); exact readB) ?_) | (refine RGl.fin (fun e hk => ?_); (try dsimp only [bndA, ensAR, oksA, List.append_nil, List.nil_append, List.cons_append, List.append_assoc] at hk ⊢); (repeat (obtain ⟨hk1, hk⟩ := hk))) | fail)
   | (refine isCond ?_; first | refine WPc.cT ?_ | refine WPc.cF ?_ | (refine WPc.cQ (fun hc => ?_) (fun hc => ?_) <;> try exact prA))
   | (refine isD 7 ?_; refine WPl.boxC (kaC x) hfx rfl (fun g7 => ?_))
   | (refine isD 40 ?_; refine WPl.rdX (ReadR.binE rfl rfl BinR.eql (congrArg Value.bool (decide_eq_false (show ¬ x.k = 1 by omega)))) ?_)
   | (refine isD 57 ?_; refine WPl.rdX (ReadR.binE rfl rfl BinR.eql (congrArg Value.bool (decide_eq_false (show ¬ x.k = 2 by omega)))) ?_)
   | (refine isD 68 ?_; refine WPl.rdX (ReadR.binE rfl rfl BinR.eql (congrArg Value.bool (decide_eq_false (show ¬ x.k = 3 by omega)))) ?_)
   | (refine isD 79 ?_; refine WPl.rdX (ReadR.binE rfl rfl BinR.eql (congrArg Value.bool (decide_eq_true hkk))) ?_)
   | (refine isD 88 ?_; refine WPl.rdX (ReadR.binE rfl rfl (BinR.eqlB rfl) (congrArg Value.bool (beq_self_eq_true rr.2))) ?_)
   | (refine isOp ?_; first | refine WPl.rd ?_ | refine WPl.sk ?_ | refine WPl.rdB ?_)
   | (refine isBx ?_; refine WPl.nw fun g => ?_)
   | (show WPl _ _ _ _ _ _ _ (⟨_, .indexAddr _ _ _, _, _, _, _⟩ :: _) _; refine WPl.rdX (ReadR.indexE rfl rfl hasA (by first | assumption | omega)) ?_)
   | (show WPl _ _ _ _ _ _ _ (⟨_, .fieldAddr _ _ _, _, _, _, _⟩ :: _) _; refine WPl.rdX (ReadR.fieldE rfl hasA (by first | assumption | omega)) ?_)
   | (show WPl _ _ _ _ _ _ _ (⟨_, .load _ _, _, _, _, _⟩ :: _) _; first | refine WPl.rdX (ReadR.loadE rfl hasA (by assumption)) ?_ | refine WPl.rdX (ReadR.loadES (by assumption) (by first | assumption | omega) rfl hasA) ?_)
   | (show WPl _ _ _ _ _ _ _ (⟨_, .slice _ _ _ _ _, _, _, _, _⟩ :: _) _; first | refine WPl.rdX (ReadR.sliceH rfl rfl hasA (by omega)) ?_ | refine WPl.rdX (ReadR.sliceL rfl rfl hasA (by omega)) ?_ | refine WPl.rdX (ReadR.sliceLH rfl rfl rfl hasA (by omega) (by omega)) ?_)
   | (refine WPl.spQ (fun hc => ?_) (fun hc => ?_) <;> try exact prA)
   | fail)
  dsimp only [Nat.reduceAdd] at *
  have hA : (fun s : CS => s.vw = rr.1 ∧ CInv n m p s) (pickG (fun s : CS => chA gK gV vF s) (fun s : CS => s.vw = rr.1 ∧ CInv n m p s) (e 3).2) := by assumption
  have hB : (fun s : KS => s.vw = rr.1 ∧ KInv n m p R.rs s) (pickG (fun s : KS => [bx gY 73 (krc gX s.v (s.hand : Int)), rowN 97 5 s.v s.fs.length (rfs s.fs)]) (fun s : KS => s.vw = rr.1 ∧ KInv n m p R.rs s) (e 7).2) := by assumption
  obtain ⟨T, hT⟩ : ∃ T, T = (pickG (fun s : CS => chA gK gV vF s) (fun s : CS => s.vw = rr.1 ∧ CInv n m p s) (e 3).2) := ⟨_, rfl⟩
  obtain ⟨U, hU⟩ : ∃ U, U = (pickG (fun s : KS => [bx gY 73 (krc gX s.v (s.hand : Int)), rowN 97 5 s.v s.fs.length (rfs s.fs)]) (fun s : KS => s.vw = rr.1 ∧ KInv n m p R.rs s) (e 7).2) := ⟨_, rfl⟩
  rw [← hT] at hA
  rw [← hU] at hB
  rw [← hT, ← hU]
  clear hT hU
  obtain ⟨hA1, hA2⟩ := hA
  obtain ⟨hB1, hB2⟩ := hB
  (try dsimp only at *)
  refine WPq.dX (ho := ownsW) (vs := [.bool true]) (both5 gK gV vF mD vd gY gX ⟨T, S, U, R⟩) ⟨⟨T, S, U, R⟩, rfl, ⟨hA1.trans hB1.symm, hdv, hA2.mono (Nat.le_succ _), hdi.mono (by omega), hB2.mono (Nat.le_succ _), hri.mono (by omega), by rw [hB1]; exact hu1⟩, rfl⟩
theorem does55_t (hci : CInv n m p C) (hdi : DInv n k S) (hki : KInv n m p R.rs K) (hri : RInv n k R) (hcv : C.vw = K.vw) (hdv : S.vw = R.vw) (hu : Uq K.vw) (hn : n ≤ 64) (h8 : 8 ≤ m) (hm : m ≤ 64) (hkb : k ≤ 70000) (hp : p ≤ 100000) (hw : kaW x) (hkk : x.k = 5) :
    Triple Try.prog 42 #[hC gK, hD gV, hC gY, ag (kaC x)] (both5 gK gV vF mD vd gY gX ⟨C, S, K, R⟩) (RB5 gK gV vF mD vd gY gX n m (p + 1) (k + 64)) := by
  obtain ⟨w1, w2⟩ := hw
  have hfx := kaC_ok (x := x)
  have c92 := csync_t gK gV vF mD vd n m p k C S hci hdi (by omega) hm (by omega)
  have c94 := ksync_t gY gX n m p k K R hki hri hu (dirty_those hu hki.rn) (by omega) hm (by omega)
  rw [hcv, hdv] at c92
  have hu1 := hu.sync R.vw
  obtain ⟨rr, hrr⟩ : ∃ rr, rr = K.vw.sync R.vw := ⟨_, rfl⟩
  rw [← hrr] at c92 c94 hu1
  refine Triple.enter Try.func42 rfl Try.ntmps42 rfl (fun W => ?_)
  dsimp only [argsF, Nat.reduceAdd]
  repeat' (first
   | refine WPl.nil ?_ | refine WPq.then ?_ | refine WPq.thenR ?_ | refine WPq.thenE ?_ | refine WPq.blockN ?_ | refine WPq.blockR ?_ | refine WPq.blockE ?_ | refine WPq.blockO rfl ?_ | refine WPc.seq ?_ | refine WPc.block ?_ | refine WPc.ret ?_ | refine WPc.exit ?_ | refine WPc.skip ?_ | refine WPc.region ?_
   | (refine isCond ?_; first | refine WPc.cT ?_ | refine WPc.cF ?_ | (refine WPc.cQ (fun hc => ?_) (fun hc => ?_) <;> try exact prA))
   | (refine isD 7 ?_; refine WPl.boxC (kaC x) hfx rfl (fun g7 => ?_))
   | (refine isD 40 ?_; refine WPl.rdX (ReadR.binE rfl rfl BinR.eql (congrArg Value.bool (decide_eq_false (show ¬ x.k = 1 by omega)))) ?_)
   | (refine isD 57 ?_; refine WPl.rdX (ReadR.binE rfl rfl BinR.eql (congrArg Value.bool (decide_eq_false (show ¬ x.k = 2 by omega)))) ?_)
   | (refine isD 68 ?_; refine WPl.rdX (ReadR.binE rfl rfl BinR.eql (congrArg Value.bool (decide_eq_false (show ¬ x.k = 3 by omega)))) ?_)
   | (refine isD 79 ?_; refine WPl.rdX (ReadR.binE rfl rfl BinR.eql (congrArg Value.bool (decide_eq_false (show ¬ x.k = 4 by omega)))) ?_)
   | (refine isD 90 ?_; refine WPl.rdX (ReadR.binE rfl rfl BinR.eql (congrArg Value.bool (decide_eq_true hkk))) ?_)
   | (refine isC 92 ?_; refine WPl.cXs (c92) fun v Γ1 hR => ?_; obtain ⟨C1, S1, rfl, hA1, hA2, hA3, hA4, rfl⟩ := hR; (try dsimp only [putF, List.cons_append, List.nil_append]))
   | (refine isC 94 ?_; refine WPl.cXs (c94) fun v Γ1 hR => ?_; obtain ⟨K1, R1, rfl, hB1, hB2, hB3, hB4, rfl⟩ := hR; (try dsimp only [putF, List.cons_append, List.nil_append]))
   | (refine isD 95 ?_; refine WPl.rdX (ReadR.binE rfl rfl BinR.eql (congrArg Value.bool (decide_eq_true rfl))) ?_)
   | (refine isOp ?_; first | refine WPl.rd ?_ | refine WPl.sk ?_ | refine WPl.rdB ?_)
   | (refine isBx ?_; refine WPl.nw fun g => ?_)
   | (show WPl _ _ _ _ _ _ _ (⟨_, .indexAddr _ _ _, _, _, _, _⟩ :: _) _; refine WPl.rdX (ReadR.indexE rfl rfl hasA (by first | assumption | omega)) ?_)
   | (show WPl _ _ _ _ _ _ _ (⟨_, .fieldAddr _ _ _, _, _, _, _⟩ :: _) _; refine WPl.rdX (ReadR.fieldE rfl hasA (by first | assumption | omega)) ?_)
   | (show WPl _ _ _ _ _ _ _ (⟨_, .load _ _, _, _, _, _⟩ :: _) _; first | refine WPl.rdX (ReadR.loadE rfl hasA (by assumption)) ?_ | refine WPl.rdX (ReadR.loadES (by assumption) (by first | assumption | omega) rfl hasA) ?_)
   | (show WPl _ _ _ _ _ _ _ (⟨_, .slice _ _ _ _ _, _, _, _, _⟩ :: _) _; first | refine WPl.rdX (ReadR.sliceH rfl rfl hasA (by omega)) ?_ | refine WPl.rdX (ReadR.sliceL rfl rfl hasA (by omega)) ?_ | refine WPl.rdX (ReadR.sliceLH rfl rfl rfl hasA (by omega) (by omega)) ?_)
   | (refine WPl.spQ (fun hc => ?_) (fun hc => ?_) <;> try exact prA)
   | fail)
  refine WPq.dX (ho := ownsW) (vs := [.bool true]) (both5 gK gV vF mD vd gY gX ⟨C1, S1, K1, R1⟩) ⟨⟨C1, S1, K1, R1⟩, rfl, ⟨hA1.trans hB1.symm, hA2.trans hB2.symm, hA3.mono (Nat.le_succ _), hA4.mono (by omega), hB3.mono (Nat.le_succ _), hB4.mono (by omega), by rw [hB1]; exact hu1⟩, rfl⟩
theorem does56_t (hci : CInv n m p C) (hdi : DInv n k S) (hki : KInv n m p R.rs K) (hri : RInv n k R) (hcv : C.vw = K.vw) (hdv : S.vw = R.vw) (hu : Uq K.vw) (hn : n ≤ 64) (h8 : 8 ≤ m) (hm : m ≤ 64) (hkb : k ≤ 70000) (hp : p ≤ 100000) (hw : kaW x) (hkk : x.k = 6) :
    Triple Try.prog 42 #[hC gK, hD gV, hC gY, ag (kaC x)] (both5 gK gV vF mD vd gY gX ⟨C, S, K, R⟩) (RB5 gK gV vF mD vd gY gX n m (p + 1) (k + 64)) := by
  obtain ⟨w1, w2⟩ := hw
  have hfx := kaC_ok (x := x)
  have hin : in64 ((x.b.toNat : Nat) : Int) := by have := x.b.toNat_lt; unfold in64; omega
  have cA := dfail_t gV mD vd n k S x.no ((x.b.toNat : Nat) : Int) hdi hin
  have cB := rfailK_t gX n k R x.no ((x.b.toNat : Nat) : Int) hri hin
  rw [hdv] at cA
  obtain ⟨r, hr⟩ : ∃ r, r = (R.vw.fail x.no ((x.b.toNat : Nat) : Int)).2 := ⟨_, rfl⟩
  obtain ⟨D1, hD1⟩ : ∃ D1, D1 = (R.vw.fail x.no ((x.b.toNat : Nat) : Int)).1 := ⟨_, rfl⟩
  rw [← hr, ← hD1] at cA cB
  have hx8 := x.b.toNat_lt
  have hwr : IntKind.i64.wrap ((x.b.toNat : Nat) : Int) = ((x.b.toNat : Nat) : Int) := by rw [IntKind.wrap_i64]; omega
  have hvA : ∀ v Γ', RD gV mD vd n k (.int .i64 r) D1 v Γ' → v = .int .i64 r ∧ ∃ s : DS, Γ' = (fun s : DS => dvA gV mD vd s) s ∧ (fun s : DS => s.vw = D1 ∧ DInv n k s) s := fun v Γ' ⟨C', h1, h2, h3, h4⟩ => ⟨h1, C', h4, h2, h3⟩
  have hvB : ∀ v Γ', RRk gX n k (.int .i64 r) D1 R.rs v Γ' → v = .int .i64 r ∧ ∃ s : RfS, Γ' = (fun s : RfS => rsA gX s) s ∧ (fun s : RfS => s.vw = D1 ∧ RInv n k s ∧ ∀ r ∈ R.rs, r ∈ s.rs) s := fun v Γ' ⟨C', h1, h2, h3, h5, h4⟩ => ⟨h1, C', h4, h2, h3, h5⟩
  refine Triple.enter Try.func42 rfl Try.ntmps42 rfl (fun W => ?_)
  dsimp only [argsF, Nat.reduceAdd]
  repeat' (first
   | refine WPl.nil ?_ | refine WPq.then ?_ | refine WPq.thenR ?_ | refine WPq.thenE ?_ | refine WPq.blockN ?_ | refine WPq.blockR ?_ | refine WPq.blockE ?_ | refine WPq.blockO rfl ?_ | refine WPc.seq ?_ | refine WPc.block ?_ | refine WPc.ret ?_ | refine WPc.exit ?_ | refine WPc.skip ?_ | refine WPc.region ?_
   | (refine isReg 16 ?_; refine WPc.drA [([19, 20, 21, 22, 23, 24, 25, 26, 27], [99, 100, 101, 102, 103, 105, 106, 107, 108, 109, 110, 111, 112, 113]), ([19, 20, 21, 22, 23, 24, 25, 26, 27], [98, 101, 102, 103, 105, 106, 107, 108, 109, 110, 111, 112, 113]), ([1, 19, 20, 21, 22, 23, 24, 25, 26, 27], [98, 99, 101, 102, 103, 105, 106, 107, 108, 109, 110, 111, 112, 113]), ([19, 20, 21, 22, 23, 24, 25, 26, 27], [98, 99, 100, 105, 106, 107, 108, 109, 110, 111, 112, 113]), ([3, 19, 20, 21, 22, 23, 24, 25, 26, 27], [98, 99, 100, 101, 105, 106, 107, 108, 109, 110, 111, 112, 113]), ([3, 4, 19, 20, 21, 22, 23, 24, 25, 26, 27], [98, 99, 100, 101, 102, 105, 106, 107, 108, 109, 110, 111, 112, 113]), ([0, 1, 2, 3, 4, 5, 19, 20, 21, 22, 23, 24, 25, 26, 27], [98, 99, 100, 101, 102, 103, 105, 106, 107, 108, 109, 110, 111, 112, 113]), ([19, 20, 21, 22, 23, 24, 25, 26, 27], [98, 99, 100, 101, 102, 103, 104, 109, 110, 111, 112, 113]), ([7, 19, 20, 21, 22, 23, 24, 25, 26, 27], [98, 99, 100, 101, 102, 103, 104, 105, 109, 110, 111, 112, 113]), ([7, 8, 19, 20, 21, 22, 23, 24, 25, 26, 27], [98, 99, 100, 101, 102, 103, 104, 105, 106, 109, 110, 111, 112, 113]), ([7, 8, 9, 19, 20, 21, 22, 23, 24, 25, 26, 27], [98, 99, 100, 101, 102, 103, 104, 105, 106, 107, 109, 110, 111, 112, 113]), ([19, 20, 21, 22, 23, 24, 25, 26, 27], [98, 99, 100, 101, 102, 103, 104, 105, 106, 107, 108, 111, 112, 113]), ([11, 19, 20, 21, 22, 23, 24, 25, 26, 27], [98, 99, 100, 101, 102, 103, 104, 105, 106, 107, 108, 109, 111, 112, 113]), ([19, 20, 21, 22, 23, 24, 25, 26, 27], [98, 99, 100, 101, 102, 103, 104, 105, 106, 107, 108, 109, 110]), ([13, 19, 20, 21, 22, 23, 24, 25, 26, 27], [98, 99, 100, 101, 102, 103, 104, 105, 106, 107, 108, 109, 110, 111]), ([13, 14, 19, 20, 21, 22, 23, 24, 25, 26, 27], [98, 99, 100, 101, 102, 103, 104, 105, 106, 107, 108, 109, 110, 111, 112]), ([0, 1, 2, 3, 4, 5, 6, 7, 8, 9, 10, 11, 12, 13, 14, 15, 19, 20, 21, 22, 23, 24, 25, 26, 27], [98, 99, 100, 101, 102, 103, 104, 105, 106, 107, 108, 109, 110, 111, 112, 113]), ([0, 1, 2, 3, 4, 5, 6, 7, 8, 9, 10, 11, 12, 13, 14, 15, 16, 19, 20, 21, 22, 23, 24, 25, 26, 27], [98, 99, 100, 101, 102, 103, 104, 105, 106, 107, 108, 109, 110, 111, 112, 113, 114]), ([0, 1, 2, 3, 4, 5, 6, 7, 8, 9, 10, 11, 12, 13, 14, 15, 16, 17, 19, 20, 21, 22, 23, 24, 25, 26, 27], [98, 99, 100, 101, 102, 103, 104, 105, 106, 107, 108, 109, 110, 111, 112, 113, 114, 115])] [(19, 6), (20, 6), (21, 6), (22, 6), (23, 16), (24, 16), (25, 16), (26, 16), (27, 16), (19, 0), (19, 1), (19, 2), (19, 3), (19, 4), (19, 5), (20, 0), (20, 1), (20, 2), (20, 3), (20, 4), (20, 5), (21, 0), (21, 1), (21, 2), (21, 3), (21, 4), (21, 5), (22, 0), (22, 1), (22, 2), (22, 3), (22, 4), (22, 5), (23, 0), (23, 1), (23, 2), (23, 3), (23, 4), (23, 5), (23, 6), (23, 7), (23, 8), (23, 9), (23, 10), (23, 11), (23, 12), (23, 13), (23, 14), (23, 15), (24, 0), (24, 1), (24, 2), (24, 3), (24, 4), (24, 5), (24, 6), (24, 7), (24, 8), (24, 9), (24, 10), (24, 11), (24, 12), (24, 13), (24, 14), (24, 15), (25, 0), (25, 1), (25, 2), (25, 3), (25, 4), (25, 5), (25, 6), (25, 7), (25, 8), (25, 9), (25, 10), (25, 11), (25, 12), (25, 13), (25, 14), (25, 15), (26, 0), (26, 1), (26, 2), (26, 3), (26, 4), (26, 5), (26, 6), (26, 7), (26, 8), (26, 9), (26, 10), (26, 11), (26, 12), (26, 13), (26, 14), (26, 15), (27, 0), (27, 1), (27, 2), (27, 3), (27, 4), (27, 5), (27, 6), (27, 7), (27, 8), (27, 9), (27, 10), (27, 11), (27, 12), (27, 13), (27, 14), (27, 15)] (Γx := [bx gV 79 (dvc S.fu vd mD S.cn), rowN 81 256 vd S.ls.length (secs S.ls), mp secM mD S.es, bag S.es, bx gX 51 (rdc R.vL R.vA R.vB R.fu R.wr), rowN 31 1 R.vL R.L.length (valsV R.L), rowN 3 1 R.vA R.Z.length (intsV (zAt R.Z)), rowN 31 1 R.vB R.Z.length (valsV (zB R.Z)), vault R.rs]) (hox := ownsW) ?_; dsimp only [prev0, List.length_nil, List.length_cons])
   | (refine gAny ?_; first | (refine gD 40 ?_; refine RGl.rdX (fun e hk => by (try dsimp only [bndR, ensR, oksR, fcutR, List.append_nil, List.nil_append, List.cons_append, List.append_assoc] at hk ⊢); exact ReadR.binE rfl rfl BinR.eql (congrArg Value.bool (decide_eq_false (show ¬ x.k = 1 by omega)))) ?_) | (refine gD 57 ?_; refine RGl.rdX (fun e hk => by (try dsimp only [bndR, ensR, oksR, fcutR, List.append_nil, List.nil_append, List.cons_append, List.append_assoc] at hk ⊢); exact ReadR.binE rfl rfl BinR.eql (congrArg Value.bool (decide_eq_false (show ¬ x.k = 2 by omega)))) ?_) | (refine gD 68 ?_; refine RGl.rdX (fun e hk => by (try dsimp only [bndR, ensR, oksR, fcutR, List.append_nil, List.nil_append, List.cons_append, List.append_assoc] at hk ⊢); exact ReadR.binE rfl rfl BinR.eql (congrArg Value.bool (decide_eq_false (show ¬ x.k = 3 by omega)))) ?_) | (refine gD 79 ?_; refine RGl.rdX (fun e hk => by (try dsimp only [bndR, ensR, oksR, fcutR, List.append_nil, List.nil_append, List.cons_append, List.append_assoc] at hk ⊢); exact ReadR.binE rfl rfl BinR.eql (congrArg Value.bool (decide_eq_false (show ¬ x.k = 4 by omega)))) ?_) | (refine gD 90 ?_; refine RGl.rdX (fun e hk => by (try dsimp only [bndR, ensR, oksR, fcutR, List.append_nil, List.nil_append, List.cons_append, List.append_assoc] at hk ⊢); exact ReadR.binE rfl rfl BinR.eql (congrArg Value.bool (decide_eq_false (show ¬ x.k = 5 by omega)))) ?_) | (refine gD 97 ?_; refine RGl.rdX (fun e hk => by (try dsimp only [bndR, ensR, oksR, fcutR, List.append_nil, List.nil_append, List.cons_append, List.append_assoc] at hk ⊢); exact ReadR.binE rfl rfl BinR.eql (congrArg Value.bool (decide_eq_true hkk))) ?_) | (refine gD 103 ?_; refine RGl.rdX (fun e hk => by (try dsimp only [bndR, ensR, oksR, fcutR, List.append_nil, List.nil_append, List.cons_append, List.append_assoc] at hk ⊢); exact ReadR.conv rfl hwr) ?_) | (refine gD 113 ?_; refine RGl.rdX (fun e hk => by (try dsimp only [bndR, ensR, oksR, fcutR, List.append_nil, List.nil_append, List.cons_append, List.append_assoc] at hk ⊢); exact ReadR.conv rfl hwr) ?_) | (refine gD 115 ?_; refine RGl.rdX (fun e hk => by (try dsimp only [bndR, ensR, oksR, fcutR, List.append_nil, List.nil_append, List.cons_append, List.append_assoc] at hk ⊢); exact ReadR.binE rfl rfl BinR.eql (congrArg Value.bool (decide_eq_true rfl))) ?_) | (refine gOp ?_; (refine gC 104 ?_; refine RGl.relG (.int .i64 r) (fun s : DS => dvA gV mD vd s) (fun s : DS => s.vw = D1 ∧ DInv n k s) hvA (fun e hk => by (try dsimp only [bndR, ensR, oksR, fcutR, List.append_nil, List.nil_append, List.cons_append, List.append_assoc] at hk ⊢); exact OpT.callTs cA) ?_)) | (refine gOp ?_; (refine gC 114 ?_; refine RGl.relG (.int .i64 r) (fun s : RfS => rsA gX s) (fun s : RfS => s.vw = D1 ∧ RInv n k s ∧ ∀ r ∈ R.rs, r ∈ s.rs) hvB (fun e hk => by (try dsimp only [bndR, ensR, oksR, fcutR, List.append_nil, List.nil_append, List.cons_append, List.append_assoc] at hk ⊢); exact OpT.callTs cB) ?_)) | (refine gOp ?_; first | refine RGl.rdA ?_ | refine RGl.rdX (fun e hk => by (try dsimp only [bndR, ensR, oksR, fcutR, List.append_nil, List.nil_append, List.cons_append, List.append_assoc] at hk ⊢); exact readB) ?_) | (refine RGl.fin (fun e hk => ?_); (try dsimp only [bndA, ensAR, oksA, List.append_nil, List.nil_append, List.cons_append, List.append_assoc] at hk ⊢); (repeat (obtain ⟨hk1, hk⟩ := hk))) | fail)
   | (refine isCond ?_; first | refine WPc.cT ?_ | refine WPc.cF ?_ | (refine WPc.cQ (fun hc => ?_) (fun hc => ?_) <;> try exact prA))
   | (refine isD 7 ?_; refine WPl.boxC (kaC x) hfx rfl (fun g7 => ?_))
   | (refine isD 40 ?_; refine WPl.rdX (ReadR.binE rfl rfl BinR.eql (congrArg Value.bool (decide_eq_false (show ¬ x.k = 1 by omega)))) ?_)
   | (refine isD 57 ?_; refine WPl.rdX (ReadR.binE rfl rfl BinR.eql (congrArg Value.bool (decide_eq_false (show ¬ x.k = 2 by omega)))) ?_)
   | (refine isD 68 ?_; refine WPl.rdX (ReadR.binE rfl rfl BinR.eql (congrArg Value.bool (decide_eq_false (show ¬ x.k = 3 by omega)))) ?_)
   | (refine isD 79 ?_; refine WPl.rdX (ReadR.binE rfl rfl BinR.eql (congrArg Value.bool (decide_eq_false (show ¬ x.k = 4 by omega)))) ?_)
   | (refine isD 90 ?_; refine WPl.rdX (ReadR.binE rfl rfl BinR.eql (congrArg Value.bool (decide_eq_false (show ¬ x.k = 5 by omega)))) ?_)
   | (refine isD 97 ?_; refine WPl.rdX (ReadR.binE rfl rfl BinR.eql (congrArg Value.bool (decide_eq_true hkk))) ?_)
   | (refine isD 103 ?_; refine WPl.rdX (ReadR.conv rfl hwr) ?_)
   | (refine isD 113 ?_; refine WPl.rdX (ReadR.conv rfl hwr) ?_)
   | (refine isD 115 ?_; refine WPl.rdX (ReadR.binE rfl rfl BinR.eql (congrArg Value.bool (decide_eq_true rfl))) ?_)
   | (refine isOp ?_; first | refine WPl.rd ?_ | refine WPl.sk ?_ | refine WPl.rdB ?_)
   | (refine isBx ?_; refine WPl.nw fun g => ?_)
   | (show WPl _ _ _ _ _ _ _ (⟨_, .indexAddr _ _ _, _, _, _, _⟩ :: _) _; refine WPl.rdX (ReadR.indexE rfl rfl hasA (by first | assumption | omega)) ?_)
   | (show WPl _ _ _ _ _ _ _ (⟨_, .fieldAddr _ _ _, _, _, _, _⟩ :: _) _; refine WPl.rdX (ReadR.fieldE rfl hasA (by first | assumption | omega)) ?_)
   | (show WPl _ _ _ _ _ _ _ (⟨_, .load _ _, _, _, _, _⟩ :: _) _; first | refine WPl.rdX (ReadR.loadE rfl hasA (by assumption)) ?_ | refine WPl.rdX (ReadR.loadES (by assumption) (by first | assumption | omega) rfl hasA) ?_)
   | (show WPl _ _ _ _ _ _ _ (⟨_, .slice _ _ _ _ _, _, _, _, _⟩ :: _) _; first | refine WPl.rdX (ReadR.sliceH rfl rfl hasA (by omega)) ?_ | refine WPl.rdX (ReadR.sliceL rfl rfl hasA (by omega)) ?_ | refine WPl.rdX (ReadR.sliceLH rfl rfl rfl hasA (by omega) (by omega)) ?_)
   | (refine WPl.spQ (fun hc => ?_) (fun hc => ?_) <;> try exact prA)
   | fail)
  dsimp only [Nat.reduceAdd] at *
  have hA : (fun s : DS => s.vw = D1 ∧ DInv n k s) (pickG (fun s : DS => dvA gV mD vd s) (fun s : DS => s.vw = D1 ∧ DInv n k s) (e 6).2) := by assumption
  have hB : (fun s : RfS => s.vw = D1 ∧ RInv n k s ∧ ∀ r ∈ R.rs, r ∈ s.rs) (pickG (fun s : RfS => rsA gX s) (fun s : RfS => s.vw = D1 ∧ RInv n k s ∧ ∀ r ∈ R.rs, r ∈ s.rs) (e 16).2) := by assumption
  obtain ⟨T, hT⟩ : ∃ T, T = (pickG (fun s : DS => dvA gV mD vd s) (fun s : DS => s.vw = D1 ∧ DInv n k s) (e 6).2) := ⟨_, rfl⟩
  obtain ⟨U, hU⟩ : ∃ U, U = (pickG (fun s : RfS => rsA gX s) (fun s : RfS => s.vw = D1 ∧ RInv n k s ∧ ∀ r ∈ R.rs, r ∈ s.rs) (e 16).2) := ⟨_, rfl⟩
  rw [← hT] at hA
  rw [← hU] at hB
  rw [← hT, ← hU]
  clear hT hU
  obtain ⟨hA1, hA2⟩ := hA
  obtain ⟨hB1, hB2, hB3⟩ := hB
  (try dsimp only at *)
  refine WPq.dX (ho := ownsW) (vs := [.bool true]) (both5 gK gV vF mD vd gY gX ⟨C, T, K, U⟩) ⟨⟨C, T, K, U⟩, rfl, ⟨hcv, hA1.trans hB1.symm, hci.mono (Nat.le_succ _), hA2.mono (by omega), (hki.mono (Nat.le_succ _)).more hB3, hB2.mono (by omega), hu⟩, rfl⟩
theorem does50_t (hci : CInv n m p C) (hdi : DInv n k S) (hki : KInv n m p R.rs K) (hri : RInv n k R) (hcv : C.vw = K.vw) (hdv : S.vw = R.vw) (hu : Uq K.vw) (hn : n ≤ 64) (h8 : 8 ≤ m) (hm : m ≤ 64) (hkb : k ≤ 70000) (hp : p ≤ 100000) (hw : kaW x) (hkk : x.k ≠ 1 ∧ x.k ≠ 2 ∧ x.k ≠ 3 ∧ x.k ≠ 4 ∧ x.k ≠ 5 ∧ x.k ≠ 6) :
    Triple Try.prog 42 #[hC gK, hD gV, hC gY, ag (kaC x)] (both5 gK gV vF mD vd gY gX ⟨C, S, K, R⟩) (RB5 gK gV vF mD vd gY gX n m (p + 1) (k + 64)) := by
  obtain ⟨w1, w2⟩ := hw
  have hfx := kaC_ok (x := x)
  by_cases hr : 0 ≤ x.no ∧ x.no < (n : Int)
  · obtain ⟨j, hj⟩ : ∃ j : Nat, x.no = (j : Int) := ⟨x.no.toNat, by omega⟩
    have c19 := cget_t gK gV vF mD vd n m p k C S j hci hdi (by omega) h8 hm (by omega) (by omega)
    have c26 := kget_t gY gX n m p k K R j hki hri (by omega) h8 hm (by omega) (by omega)
    rw [hcv, hdv] at c19
    rw [← hj] at c19 c26
    have hu1 := hu.get R.vw j
    obtain ⟨rr, hrr⟩ : ∃ rr, rr = K.vw.get R.vw j := ⟨_, rfl⟩
    rw [← hrr] at c19 c26 hu1
    clear hrr
    obtain ⟨C2, D2, bs, er⟩ := rr
    dsimp only at c19 c26 hu1
    by_cases h0 : er = 0
    · have cB : Triple Try.prog 66 #[hC gY, .int .i64 x.no] (krA gY gX K R) (fun v Γ => ∃ K1 R1 c z, v = .tuple #[c, .int .i64 er] ∧ c.oneCell' = true ∧ K1.vw = C2 ∧ R1.vw = D2 ∧ KInv n m p R1.rs K1 ∧ RInv n (k + 1) R1 ∧ (c, z) ∈ R1.rs ∧ z.b = bs ∧ Γ = krA gY gX K1 R1) := c26.mono (by
        rintro v Γ ⟨K1, R1, c, h1, h2, h3, h4, h5, h6, h7⟩
        rcases h7 with ⟨_, ⟨z, h8, h9⟩, h10⟩ | ⟨h8, _⟩
        · exact ⟨K1, R1, c, z, h1, h2, h3, h4, h5, h6, h8, h9, h10⟩
        · exact (h8 h0).elim)
      refine Triple.enter Try.func42 rfl Try.ntmps42 rfl (fun W => ?_)
      dsimp only [argsF, Nat.reduceAdd]
      repeat' (first
       | refine WPl.nil ?_ | refine WPq.then ?_ | refine WPq.thenR ?_ | refine WPq.thenE ?_ | refine WPq.blockN ?_ | refine WPq.blockR ?_ | refine WPq.blockE ?_ | refine WPq.blockO rfl ?_ | refine WPc.seq ?_ | refine WPc.block ?_ | refine WPc.ret ?_ | refine WPc.exit ?_ | refine WPc.skip ?_ | refine WPc.region ?_
       | (refine isCond ?_; first | refine WPc.cT ?_ | refine WPc.cF ?_ | (refine WPc.cQ (fun hc => ?_) (fun hc => ?_) <;> try exact prA))
       | (refine isD 7 ?_; refine WPl.boxC (kaC x) hfx rfl (fun g7 => ?_))
       | (refine isD 40 ?_; refine WPl.rdX (ReadR.binE rfl rfl BinR.eql (congrArg Value.bool (decide_eq_false (show ¬ x.k = 1 by omega)))) ?_)
       | (refine isD 57 ?_; refine WPl.rdX (ReadR.binE rfl rfl BinR.eql (congrArg Value.bool (decide_eq_false (show ¬ x.k = 2 by omega)))) ?_)
       | (refine isD 68 ?_; refine WPl.rdX (ReadR.binE rfl rfl BinR.eql (congrArg Value.bool (decide_eq_false (show ¬ x.k = 3 by omega)))) ?_)
       | (refine isD 79 ?_; refine WPl.rdX (ReadR.binE rfl rfl BinR.eql (congrArg Value.bool (decide_eq_false (show ¬ x.k = 4 by omega)))) ?_)
       | (refine isD 90 ?_; refine WPl.rdX (ReadR.binE rfl rfl BinR.eql (congrArg Value.bool (decide_eq_false (show ¬ x.k = 5 by omega)))) ?_)
       | (refine isD 97 ?_; refine WPl.rdX (ReadR.binE rfl rfl BinR.eql (congrArg Value.bool (decide_eq_false (show ¬ x.k = 6 by omega)))) ?_)
       | (refine isC 19 ?_; refine WPl.cXs (c19) fun v Γ1 hR => ?_; obtain ⟨C1, S1, sv, rfl, hsv, hA1, hA2, hA3, hA4, rfl⟩ := hR; (try dsimp only [putF, List.cons_append, List.nil_append]))
       | (refine isC 26 ?_; refine WPl.cXs (cB) fun v Γ1 hR => ?_; obtain ⟨K1, R1, cv, z, rfl, hcv1, hB1, hB2, hB3, hB4, hin1, hzb, rfl⟩ := hR; (try dsimp only [putF, List.cons_append, List.nil_append]))
       | (refine isD 30 ?_; refine WPl.rdX (ReadR.str rfl rfl rfl hasA) ?_)
       | (refine isD 32 ?_; refine WPl.rdX (ReadR.str rfl rfl rfl (HasS.vault memA hin1)) ?_)
       | (refine isD 33 ?_; refine WPl.rdX (ReadR.binE rfl rfl BinR.strUE (congrArg Value.bool (decide_eq_true hzb.symm))) ?_)
       | (refine isD 37 ?_; refine WPl.rdX (ReadR.binE rfl rfl BinR.eql (congrArg Value.bool (decide_eq_true rfl))) ?_)
       | (refine isOp ?_; first | refine WPl.rd ?_ | refine WPl.sk ?_ | refine WPl.rdB ?_)
       | (refine isBx ?_; refine WPl.nw fun g => ?_)
       | (show WPl _ _ _ _ _ _ _ (⟨_, .indexAddr _ _ _, _, _, _, _⟩ :: _) _; refine WPl.rdX (ReadR.indexE rfl rfl hasA (by first | assumption | omega)) ?_)
       | (show WPl _ _ _ _ _ _ _ (⟨_, .fieldAddr _ _ _, _, _, _, _⟩ :: _) _; refine WPl.rdX (ReadR.fieldE rfl hasA (by first | assumption | omega)) ?_)
       | (show WPl _ _ _ _ _ _ _ (⟨_, .load _ _, _, _, _, _⟩ :: _) _; first | refine WPl.rdX (ReadR.loadE rfl hasA (by assumption)) ?_ | refine WPl.rdX (ReadR.loadES (by assumption) (by first | assumption | omega) rfl hasA) ?_)
       | (show WPl _ _ _ _ _ _ _ (⟨_, .slice _ _ _ _ _, _, _, _, _⟩ :: _) _; first | refine WPl.rdX (ReadR.sliceH rfl rfl hasA (by omega)) ?_ | refine WPl.rdX (ReadR.sliceL rfl rfl hasA (by omega)) ?_ | refine WPl.rdX (ReadR.sliceLH rfl rfl rfl hasA (by omega) (by omega)) ?_)
       | (refine WPl.spQ (fun hc => ?_) (fun hc => ?_) <;> try exact prA)
       | fail)
      refine WPq.dX (ho := ownsW) (vs := [.bool true]) (both5 gK gV vF mD vd gY gX ⟨C1, S1, K1, R1⟩) ⟨⟨C1, S1, K1, R1⟩, rfl, ⟨hA1.trans hB1.symm, hA2.trans hB2.symm, hA3.mono (Nat.le_succ _), hA4.mono (by omega), hB3.mono (Nat.le_succ _), hB4.mono (by omega), by rw [hB1]; exact hu1⟩, rfl⟩
    · have cB : Triple Try.prog 66 #[hC gY, .int .i64 x.no] (krA gY gX K R) (fun v Γ => ∃ K1 R1 c, v = .tuple #[c, .int .i64 er] ∧ c.oneCell' = true ∧ K1.vw = C2 ∧ R1.vw = D2 ∧ KInv n m p R1.rs K1 ∧ RInv n (k + 1) R1 ∧ bs = [] ∧ Γ = ob c [] :: krA gY gX K1 R1) := c26.mono (by
        rintro v Γ ⟨K1, R1, c, h1, h2, h3, h4, h5, h6, h7⟩
        rcases h7 with ⟨h8, _⟩ | ⟨_, h8, h9⟩
        · exact (h0 h8).elim
        · exact ⟨K1, R1, c, h1, h2, h3, h4, h5, h6, h8, h9⟩)
      by_cases hbs : bs = []
      · subst hbs
        refine Triple.enter Try.func42 rfl Try.ntmps42 rfl (fun W => ?_)
        dsimp only [argsF, Nat.reduceAdd]
        repeat' (first
         | refine WPl.nil ?_ | refine WPq.then ?_ | refine WPq.thenR ?_ | refine WPq.thenE ?_ | refine WPq.blockN ?_ | refine WPq.blockR ?_ | refine WPq.blockE ?_ | refine WPq.blockO rfl ?_ | refine WPc.seq ?_ | refine WPc.block ?_ | refine WPc.ret ?_ | refine WPc.exit ?_ | refine WPc.skip ?_ | refine WPc.region ?_
         | (refine isCond ?_; first | refine WPc.cT ?_ | refine WPc.cF ?_ | (refine WPc.cQ (fun hc => ?_) (fun hc => ?_) <;> try exact prA))
         | (refine isD 7 ?_; refine WPl.boxC (kaC x) hfx rfl (fun g7 => ?_))
         | (refine isD 40 ?_; refine WPl.rdX (ReadR.binE rfl rfl BinR.eql (congrArg Value.bool (decide_eq_false (show ¬ x.k = 1 by omega)))) ?_)
         | (refine isD 57 ?_; refine WPl.rdX (ReadR.binE rfl rfl BinR.eql (congrArg Value.bool (decide_eq_false (show ¬ x.k = 2 by omega)))) ?_)
         | (refine isD 68 ?_; refine WPl.rdX (ReadR.binE rfl rfl BinR.eql (congrArg Value.bool (decide_eq_false (show ¬ x.k = 3 by omega)))) ?_)
         | (refine isD 79 ?_; refine WPl.rdX (ReadR.binE rfl rfl BinR.eql (congrArg Value.bool (decide_eq_false (show ¬ x.k = 4 by omega)))) ?_)
         | (refine isD 90 ?_; refine WPl.rdX (ReadR.binE rfl rfl BinR.eql (congrArg Value.bool (decide_eq_false (show ¬ x.k = 5 by omega)))) ?_)
         | (refine isD 97 ?_; refine WPl.rdX (ReadR.binE rfl rfl BinR.eql (congrArg Value.bool (decide_eq_false (show ¬ x.k = 6 by omega)))) ?_)
         | (refine isC 19 ?_; refine WPl.cXs (c19) fun v Γ1 hR => ?_; obtain ⟨C1, S1, sv, rfl, hsv, hA1, hA2, hA3, hA4, rfl⟩ := hR; (try dsimp only [putF, List.cons_append, List.nil_append]))
         | (refine isC 26 ?_; refine WPl.cXs (cB) fun v Γ1 hR => ?_; obtain ⟨K1, R1, cv, rfl, hcv1, hB1, hB2, hB3, hB4, _, rfl⟩ := hR; (try dsimp only [putF, List.cons_append, List.nil_append]))
         | (refine isD 33 ?_; refine WPl.rdX (ReadR.binE rfl rfl BinR.strUE (congrArg Value.bool (decide_eq_true rfl))) ?_)
         | (refine isD 37 ?_; refine WPl.rdX (ReadR.binE rfl rfl BinR.eql (congrArg Value.bool (decide_eq_true rfl))) ?_)
         | (refine isOp ?_; first | refine WPl.rd ?_ | refine WPl.sk ?_ | refine WPl.rdB ?_)
         | (refine isBx ?_; refine WPl.nw fun g => ?_)
         | (show WPl _ _ _ _ _ _ _ (⟨_, .indexAddr _ _ _, _, _, _, _⟩ :: _) _; refine WPl.rdX (ReadR.indexE rfl rfl hasA (by first | assumption | omega)) ?_)
         | (show WPl _ _ _ _ _ _ _ (⟨_, .fieldAddr _ _ _, _, _, _, _⟩ :: _) _; refine WPl.rdX (ReadR.fieldE rfl hasA (by first | assumption | omega)) ?_)
         | (show WPl _ _ _ _ _ _ _ (⟨_, .load _ _, _, _, _, _⟩ :: _) _; first | refine WPl.rdX (ReadR.loadE rfl hasA (by assumption)) ?_ | refine WPl.rdX (ReadR.loadES (by assumption) (by first | assumption | omega) rfl hasA) ?_)
         | (show WPl _ _ _ _ _ _ _ (⟨_, .slice _ _ _ _ _, _, _, _, _⟩ :: _) _; first | refine WPl.rdX (ReadR.sliceH rfl rfl hasA (by omega)) ?_ | refine WPl.rdX (ReadR.sliceL rfl rfl hasA (by omega)) ?_ | refine WPl.rdX (ReadR.sliceLH rfl rfl rfl hasA (by omega) (by omega)) ?_)
         | (refine WPl.spQ (fun hc => ?_) (fun hc => ?_) <;> try exact prA)
         | fail)
        refine WPq.dX (ho := ownsW) (vs := [.bool true]) (both5 gK gV vF mD vd gY gX ⟨C1, S1, K1, R1⟩) ⟨⟨C1, S1, K1, R1⟩, rfl, ⟨hA1.trans hB1.symm, hA2.trans hB2.symm, hA3.mono (Nat.le_succ _), hA4.mono (by omega), hB3.mono (Nat.le_succ _), hB4.mono (by omega), by rw [hB1]; exact hu1⟩, rfl⟩
      · skip
        refine Triple.enter Try.func42 rfl Try.ntmps42 rfl (fun W => ?_)
        dsimp only [argsF, Nat.reduceAdd]
        repeat' (first
         | refine WPl.nil ?_ | refine WPq.then ?_ | refine WPq.thenR ?_ | refine WPq.thenE ?_ | refine WPq.blockN ?_ | refine WPq.blockR ?_ | refine WPq.blockE ?_ | refine WPq.blockO rfl ?_ | refine WPc.seq ?_ | refine WPc.block ?_ | refine WPc.ret ?_ | refine WPc.exit ?_ | refine WPc.skip ?_ | refine WPc.region ?_
         | (refine isCond ?_; first | refine WPc.cT ?_ | refine WPc.cF ?_ | (refine WPc.cQ (fun hc => ?_) (fun hc => ?_) <;> try exact prA))
         | (refine isD 7 ?_; refine WPl.boxC (kaC x) hfx rfl (fun g7 => ?_))
         | (refine isD 40 ?_; refine WPl.rdX (ReadR.binE rfl rfl BinR.eql (congrArg Value.bool (decide_eq_false (show ¬ x.k = 1 by omega)))) ?_)
         | (refine isD 57 ?_; refine WPl.rdX (ReadR.binE rfl rfl BinR.eql (congrArg Value.bool (decide_eq_false (show ¬ x.k = 2 by omega)))) ?_)
         | (refine isD 68 ?_; refine WPl.rdX (ReadR.binE rfl rfl BinR.eql (congrArg Value.bool (decide_eq_false (show ¬ x.k = 3 by omega)))) ?_)
         | (refine isD 79 ?_; refine WPl.rdX (ReadR.binE rfl rfl BinR.eql (congrArg Value.bool (decide_eq_false (show ¬ x.k = 4 by omega)))) ?_)
         | (refine isD 90 ?_; refine WPl.rdX (ReadR.binE rfl rfl BinR.eql (congrArg Value.bool (decide_eq_false (show ¬ x.k = 5 by omega)))) ?_)
         | (refine isD 97 ?_; refine WPl.rdX (ReadR.binE rfl rfl BinR.eql (congrArg Value.bool (decide_eq_false (show ¬ x.k = 6 by omega)))) ?_)
         | (refine isC 19 ?_; refine WPl.cXs (c19) fun v Γ1 hR => ?_; obtain ⟨C1, S1, sv, rfl, hsv, hA1, hA2, hA3, hA4, rfl⟩ := hR; (try dsimp only [putF, List.cons_append, List.nil_append]))
         | (refine isC 26 ?_; refine WPl.cXs (cB) fun v Γ1 hR => ?_; obtain ⟨K1, R1, cv, rfl, hcv1, hB1, hB2, hB3, hB4, hz, rfl⟩ := hR; exact (hbs hz).elim; (try dsimp only [putF, List.cons_append, List.nil_append]))
         | (refine isOp ?_; first | refine WPl.rd ?_ | refine WPl.sk ?_ | refine WPl.rdB ?_)
         | (refine isBx ?_; refine WPl.nw fun g => ?_)
         | (show WPl _ _ _ _ _ _ _ (⟨_, .indexAddr _ _ _, _, _, _, _⟩ :: _) _; refine WPl.rdX (ReadR.indexE rfl rfl hasA (by first | assumption | omega)) ?_)
         | (show WPl _ _ _ _ _ _ _ (⟨_, .fieldAddr _ _ _, _, _, _, _⟩ :: _) _; refine WPl.rdX (ReadR.fieldE rfl hasA (by first | assumption | omega)) ?_)
         | (show WPl _ _ _ _ _ _ _ (⟨_, .load _ _, _, _, _, _⟩ :: _) _; first | refine WPl.rdX (ReadR.loadE rfl hasA (by assumption)) ?_ | refine WPl.rdX (ReadR.loadES (by assumption) (by first | assumption | omega) rfl hasA) ?_)
         | (show WPl _ _ _ _ _ _ _ (⟨_, .slice _ _ _ _ _, _, _, _, _⟩ :: _) _; first | refine WPl.rdX (ReadR.sliceH rfl rfl hasA (by omega)) ?_ | refine WPl.rdX (ReadR.sliceL rfl rfl hasA (by omega)) ?_ | refine WPl.rdX (ReadR.sliceLH rfl rfl rfl hasA (by omega) (by omega)) ?_)
         | (refine WPl.spQ (fun hc => ?_) (fun hc => ?_) <;> try exact prA)
         | fail)
  · have hi : x.no < 0 ∨ (n : Int) ≤ x.no := by omega
    have c19 := cgetNo_t gK gV vF mD vd n m p k C S x.no hci hdi (by omega) hi
    have c26 := kgetNo_t gY gX n m p k K R x.no hki hri (by omega) hi
    rw [hcv, hdv] at c19
    obtain ⟨rr, hrr⟩ : ∃ rr : Cv × Dv × List UInt8 × Int, rr = (K.vw, R.vw, [], 1) := ⟨_, rfl⟩
    have hu1 : Uq rr.1 := by rw [hrr]; exact hu
    rw [← hrr] at c19 c26
    clear hrr
    obtain ⟨C2, D2, bs, er⟩ := rr
    dsimp only at c19 c26 hu1
    by_cases h0 : er = 0
    · have cB : Triple Try.prog 66 #[hC gY, .int .i64 x.no] (krA gY gX K R) (fun v Γ => ∃ K1 R1 c z, v = .tuple #[c, .int .i64 er] ∧ c.oneCell' = true ∧ K1.vw = C2 ∧ R1.vw = D2 ∧ KInv n m p R1.rs K1 ∧ RInv n k R1 ∧ (c, z) ∈ R1.rs ∧ z.b = bs ∧ Γ = krA gY gX K1 R1) := c26.mono (by
        rintro v Γ ⟨K1, R1, c, h1, h2, h3, h4, h5, h6, h7⟩
        rcases h7 with ⟨_, ⟨z, h8, h9⟩, h10⟩ | ⟨h8, _⟩
        · exact ⟨K1, R1, c, z, h1, h2, h3, h4, h5, h6, h8, h9, h10⟩
        · exact (h8 h0).elim)
      refine Triple.enter Try.func42 rfl Try.ntmps42 rfl (fun W => ?_)
      dsimp only [argsF, Nat.reduceAdd]
      repeat' (first
       | refine WPl.nil ?_ | refine WPq.then ?_ | refine WPq.thenR ?_ | refine WPq.thenE ?_ | refine WPq.blockN ?_ | refine WPq.blockR ?_ | refine WPq.blockE ?_ | refine WPq.blockO rfl ?_ | refine WPc.seq ?_ | refine WPc.block ?_ | refine WPc.ret ?_ | refine WPc.exit ?_ | refine WPc.skip ?_ | refine WPc.region ?_
       | (refine isCond ?_; first | refine WPc.cT ?_ | refine WPc.cF ?_ | (refine WPc.cQ (fun hc => ?_) (fun hc => ?_) <;> try exact prA))
       | (refine isD 7 ?_; refine WPl.boxC (kaC x) hfx rfl (fun g7 => ?_))
       | (refine isD 40 ?_; refine WPl.rdX (ReadR.binE rfl rfl BinR.eql (congrArg Value.bool (decide_eq_false (show ¬ x.k = 1 by omega)))) ?_)
       | (refine isD 57 ?_; refine WPl.rdX (ReadR.binE rfl rfl BinR.eql (congrArg Value.bool (decide_eq_false (show ¬ x.k = 2 by omega)))) ?_)
       | (refine isD 68 ?_; refine WPl.rdX (ReadR.binE rfl rfl BinR.eql (congrArg Value.bool (decide_eq_false (show ¬ x.k = 3 by omega)))) ?_)
       | (refine isD 79 ?_; refine WPl.rdX (ReadR.binE rfl rfl BinR.eql (congrArg Value.bool (decide_eq_false (show ¬ x.k = 4 by omega)))) ?_)
       | (refine isD 90 ?_; refine WPl.rdX (ReadR.binE rfl rfl BinR.eql (congrArg Value.bool (decide_eq_false (show ¬ x.k = 5 by omega)))) ?_)
       | (refine isD 97 ?_; refine WPl.rdX (ReadR.binE rfl rfl BinR.eql (congrArg Value.bool (decide_eq_false (show ¬ x.k = 6 by omega)))) ?_)
       | (refine isC 19 ?_; refine WPl.cXs (c19) fun v Γ1 hR => ?_; obtain ⟨C1, S1, sv, rfl, hsv, hA1, hA2, hA3, hA4, rfl⟩ := hR; (try dsimp only [putF, List.cons_append, List.nil_append]))
       | (refine isC 26 ?_; refine WPl.cXs (cB) fun v Γ1 hR => ?_; obtain ⟨K1, R1, cv, z, rfl, hcv1, hB1, hB2, hB3, hB4, hin1, hzb, rfl⟩ := hR; (try dsimp only [putF, List.cons_append, List.nil_append]))
       | (refine isD 30 ?_; refine WPl.rdX (ReadR.str rfl rfl rfl hasA) ?_)
       | (refine isD 32 ?_; refine WPl.rdX (ReadR.str rfl rfl rfl (HasS.vault memA hin1)) ?_)
       | (refine isD 33 ?_; refine WPl.rdX (ReadR.binE rfl rfl BinR.strUE (congrArg Value.bool (decide_eq_true hzb.symm))) ?_)
       | (refine isD 37 ?_; refine WPl.rdX (ReadR.binE rfl rfl BinR.eql (congrArg Value.bool (decide_eq_true rfl))) ?_)
       | (refine isOp ?_; first | refine WPl.rd ?_ | refine WPl.sk ?_ | refine WPl.rdB ?_)
       | (refine isBx ?_; refine WPl.nw fun g => ?_)
       | (show WPl _ _ _ _ _ _ _ (⟨_, .indexAddr _ _ _, _, _, _, _⟩ :: _) _; refine WPl.rdX (ReadR.indexE rfl rfl hasA (by first | assumption | omega)) ?_)
       | (show WPl _ _ _ _ _ _ _ (⟨_, .fieldAddr _ _ _, _, _, _, _⟩ :: _) _; refine WPl.rdX (ReadR.fieldE rfl hasA (by first | assumption | omega)) ?_)
       | (show WPl _ _ _ _ _ _ _ (⟨_, .load _ _, _, _, _, _⟩ :: _) _; first | refine WPl.rdX (ReadR.loadE rfl hasA (by assumption)) ?_ | refine WPl.rdX (ReadR.loadES (by assumption) (by first | assumption | omega) rfl hasA) ?_)
       | (show WPl _ _ _ _ _ _ _ (⟨_, .slice _ _ _ _ _, _, _, _, _⟩ :: _) _; first | refine WPl.rdX (ReadR.sliceH rfl rfl hasA (by omega)) ?_ | refine WPl.rdX (ReadR.sliceL rfl rfl hasA (by omega)) ?_ | refine WPl.rdX (ReadR.sliceLH rfl rfl rfl hasA (by omega) (by omega)) ?_)
       | (refine WPl.spQ (fun hc => ?_) (fun hc => ?_) <;> try exact prA)
       | fail)
      refine WPq.dX (ho := ownsW) (vs := [.bool true]) (both5 gK gV vF mD vd gY gX ⟨C1, S1, K1, R1⟩) ⟨⟨C1, S1, K1, R1⟩, rfl, ⟨hA1.trans hB1.symm, hA2.trans hB2.symm, hA3.mono (Nat.le_succ _), hA4.mono (by omega), hB3.mono (Nat.le_succ _), hB4.mono (by omega), by rw [hB1]; exact hu1⟩, rfl⟩
    · have cB : Triple Try.prog 66 #[hC gY, .int .i64 x.no] (krA gY gX K R) (fun v Γ => ∃ K1 R1 c, v = .tuple #[c, .int .i64 er] ∧ c.oneCell' = true ∧ K1.vw = C2 ∧ R1.vw = D2 ∧ KInv n m p R1.rs K1 ∧ RInv n k R1 ∧ bs = [] ∧ Γ = ob c [] :: krA gY gX K1 R1) := c26.mono (by
        rintro v Γ ⟨K1, R1, c, h1, h2, h3, h4, h5, h6, h7⟩
        rcases h7 with ⟨h8, _⟩ | ⟨_, h8, h9⟩
        · exact (h0 h8).elim
        · exact ⟨K1, R1, c, h1, h2, h3, h4, h5, h6, h8, h9⟩)
      by_cases hbs : bs = []
      · subst hbs
        refine Triple.enter Try.func42 rfl Try.ntmps42 rfl (fun W => ?_)
        dsimp only [argsF, Nat.reduceAdd]
        repeat' (first
         | refine WPl.nil ?_ | refine WPq.then ?_ | refine WPq.thenR ?_ | refine WPq.thenE ?_ | refine WPq.blockN ?_ | refine WPq.blockR ?_ | refine WPq.blockE ?_ | refine WPq.blockO rfl ?_ | refine WPc.seq ?_ | refine WPc.block ?_ | refine WPc.ret ?_ | refine WPc.exit ?_ | refine WPc.skip ?_ | refine WPc.region ?_
         | (refine isCond ?_; first | refine WPc.cT ?_ | refine WPc.cF ?_ | (refine WPc.cQ (fun hc => ?_) (fun hc => ?_) <;> try exact prA))
         | (refine isD 7 ?_; refine WPl.boxC (kaC x) hfx rfl (fun g7 => ?_))
         | (refine isD 40 ?_; refine WPl.rdX (ReadR.binE rfl rfl BinR.eql (congrArg Value.bool (decide_eq_false (show ¬ x.k = 1 by omega)))) ?_)
         | (refine isD 57 ?_; refine WPl.rdX (ReadR.binE rfl rfl BinR.eql (congrArg Value.bool (decide_eq_false (show ¬ x.k = 2 by omega)))) ?_)
         | (refine isD 68 ?_; refine WPl.rdX (ReadR.binE rfl rfl BinR.eql (congrArg Value.bool (decide_eq_false (show ¬ x.k = 3 by omega)))) ?_)
         | (refine isD 79 ?_; refine WPl.rdX (ReadR.binE rfl rfl BinR.eql (congrArg Value.bool (decide_eq_false (show ¬ x.k = 4 by omega)))) ?_)
         | (refine isD 90 ?_; refine WPl.rdX (ReadR.binE rfl rfl BinR.eql (congrArg Value.bool (decide_eq_false (show ¬ x.k = 5 by omega)))) ?_)
         | (refine isD 97 ?_; refine WPl.rdX (ReadR.binE rfl rfl BinR.eql (congrArg Value.bool (decide_eq_false (show ¬ x.k = 6 by omega)))) ?_)
         | (refine isC 19 ?_; refine WPl.cXs (c19) fun v Γ1 hR => ?_; obtain ⟨C1, S1, sv, rfl, hsv, hA1, hA2, hA3, hA4, rfl⟩ := hR; (try dsimp only [putF, List.cons_append, List.nil_append]))
         | (refine isC 26 ?_; refine WPl.cXs (cB) fun v Γ1 hR => ?_; obtain ⟨K1, R1, cv, rfl, hcv1, hB1, hB2, hB3, hB4, _, rfl⟩ := hR; (try dsimp only [putF, List.cons_append, List.nil_append]))
         | (refine isD 33 ?_; refine WPl.rdX (ReadR.binE rfl rfl BinR.strUE (congrArg Value.bool (decide_eq_true rfl))) ?_)
         | (refine isD 37 ?_; refine WPl.rdX (ReadR.binE rfl rfl BinR.eql (congrArg Value.bool (decide_eq_true rfl))) ?_)
         | (refine isOp ?_; first | refine WPl.rd ?_ | refine WPl.sk ?_ | refine WPl.rdB ?_)
         | (refine isBx ?_; refine WPl.nw fun g => ?_)
         | (show WPl _ _ _ _ _ _ _ (⟨_, .indexAddr _ _ _, _, _, _, _⟩ :: _) _; refine WPl.rdX (ReadR.indexE rfl rfl hasA (by first | assumption | omega)) ?_)
         | (show WPl _ _ _ _ _ _ _ (⟨_, .fieldAddr _ _ _, _, _, _, _⟩ :: _) _; refine WPl.rdX (ReadR.fieldE rfl hasA (by first | assumption | omega)) ?_)
         | (show WPl _ _ _ _ _ _ _ (⟨_, .load _ _, _, _, _, _⟩ :: _) _; first | refine WPl.rdX (ReadR.loadE rfl hasA (by assumption)) ?_ | refine WPl.rdX (ReadR.loadES (by assumption) (by first | assumption | omega) rfl hasA) ?_)
         | (show WPl _ _ _ _ _ _ _ (⟨_, .slice _ _ _ _ _, _, _, _, _⟩ :: _) _; first | refine WPl.rdX (ReadR.sliceH rfl rfl hasA (by omega)) ?_ | refine WPl.rdX (ReadR.sliceL rfl rfl hasA (by omega)) ?_ | refine WPl.rdX (ReadR.sliceLH rfl rfl rfl hasA (by omega) (by omega)) ?_)
         | (refine WPl.spQ (fun hc => ?_) (fun hc => ?_) <;> try exact prA)
         | fail)
        refine WPq.dX (ho := ownsW) (vs := [.bool true]) (both5 gK gV vF mD vd gY gX ⟨C1, S1, K1, R1⟩) ⟨⟨C1, S1, K1, R1⟩, rfl, ⟨hA1.trans hB1.symm, hA2.trans hB2.symm, hA3.mono (Nat.le_succ _), hA4.mono (by omega), hB3.mono (Nat.le_succ _), hB4.mono (by omega), by rw [hB1]; exact hu1⟩, rfl⟩
      · skip
        refine Triple.enter Try.func42 rfl Try.ntmps42 rfl (fun W => ?_)
        dsimp only [argsF, Nat.reduceAdd]
        repeat' (first
         | refine WPl.nil ?_ | refine WPq.then ?_ | refine WPq.thenR ?_ | refine WPq.thenE ?_ | refine WPq.blockN ?_ | refine WPq.blockR ?_ | refine WPq.blockE ?_ | refine WPq.blockO rfl ?_ | refine WPc.seq ?_ | refine WPc.block ?_ | refine WPc.ret ?_ | refine WPc.exit ?_ | refine WPc.skip ?_ | refine WPc.region ?_
         | (refine isCond ?_; first | refine WPc.cT ?_ | refine WPc.cF ?_ | (refine WPc.cQ (fun hc => ?_) (fun hc => ?_) <;> try exact prA))
         | (refine isD 7 ?_; refine WPl.boxC (kaC x) hfx rfl (fun g7 => ?_))
         | (refine isD 40 ?_; refine WPl.rdX (ReadR.binE rfl rfl BinR.eql (congrArg Value.bool (decide_eq_false (show ¬ x.k = 1 by omega)))) ?_)
         | (refine isD 57 ?_; refine WPl.rdX (ReadR.binE rfl rfl BinR.eql (congrArg Value.bool (decide_eq_false (show ¬ x.k = 2 by omega)))) ?_)
         | (refine isD 68 ?_; refine WPl.rdX (ReadR.binE rfl rfl BinR.eql (congrArg Value.bool (decide_eq_false (show ¬ x.k = 3 by omega)))) ?_)
         | (refine isD 79 ?_; refine WPl.rdX (ReadR.binE rfl rfl BinR.eql (congrArg Value.bool (decide_eq_false (show ¬ x.k = 4 by omega)))) ?_)
         | (refine isD 90 ?_; refine WPl.rdX (ReadR.binE rfl rfl BinR.eql (congrArg Value.bool (decide_eq_false (show ¬ x.k = 5 by omega)))) ?_)
         | (refine isD 97 ?_; refine WPl.rdX (ReadR.binE rfl rfl BinR.eql (congrArg Value.bool (decide_eq_false (show ¬ x.k = 6 by omega)))) ?_)
         | (refine isC 19 ?_; refine WPl.cXs (c19) fun v Γ1 hR => ?_; obtain ⟨C1, S1, sv, rfl, hsv, hA1, hA2, hA3, hA4, rfl⟩ := hR; (try dsimp only [putF, List.cons_append, List.nil_append]))
         | (refine isC 26 ?_; refine WPl.cXs (cB) fun v Γ1 hR => ?_; obtain ⟨K1, R1, cv, rfl, hcv1, hB1, hB2, hB3, hB4, hz, rfl⟩ := hR; exact (hbs hz).elim; (try dsimp only [putF, List.cons_append, List.nil_append]))
         | (refine isOp ?_; first | refine WPl.rd ?_ | refine WPl.sk ?_ | refine WPl.rdB ?_)
         | (refine isBx ?_; refine WPl.nw fun g => ?_)
         | (show WPl _ _ _ _ _ _ _ (⟨_, .indexAddr _ _ _, _, _, _, _⟩ :: _) _; refine WPl.rdX (ReadR.indexE rfl rfl hasA (by first | assumption | omega)) ?_)
         | (show WPl _ _ _ _ _ _ _ (⟨_, .fieldAddr _ _ _, _, _, _, _⟩ :: _) _; refine WPl.rdX (ReadR.fieldE rfl hasA (by first | assumption | omega)) ?_)
         | (show WPl _ _ _ _ _ _ _ (⟨_, .load _ _, _, _, _, _⟩ :: _) _; first | refine WPl.rdX (ReadR.loadE rfl hasA (by assumption)) ?_ | refine WPl.rdX (ReadR.loadES (by assumption) (by first | assumption | omega) rfl hasA) ?_)
         | (show WPl _ _ _ _ _ _ _ (⟨_, .slice _ _ _ _ _, _, _, _, _⟩ :: _) _; first | refine WPl.rdX (ReadR.sliceH rfl rfl hasA (by omega)) ?_ | refine WPl.rdX (ReadR.sliceL rfl rfl hasA (by omega)) ?_ | refine WPl.rdX (ReadR.sliceLH rfl rfl rfl hasA (by omega) (by omega)) ?_)
         | (refine WPl.spQ (fun hc => ?_) (fun hc => ?_) <;> try exact prA)
         | fail)
theorem does5_t (hci : CInv n m p C) (hdi : DInv n k S) (hki : KInv n m p R.rs K) (hri : RInv n k R) (hcv : C.vw = K.vw) (hdv : S.vw = R.vw) (hu : Uq K.vw) (hn : n ≤ 64) (h8 : 8 ≤ m) (hm : m ≤ 64) (hkb : k ≤ 70000) (hp : p ≤ 100000) (hw : kaW x) :
    Triple Try.prog 42 #[hC gK, hD gV, hC gY, ag (kaC x)] (both5 gK gV vF mD vd gY gX ⟨C, S, K, R⟩) (RB5 gK gV vF mD vd gY gX n m (p + 1) (k + 64)) := by
  by_cases h1 : x.k = 1
  · exact does51_t gK gV vF mD vd gY gX n m p k C S K R x hci hdi hki hri hcv hdv hu hn h8 hm hkb hp hw h1
  by_cases h2 : x.k = 2
  · exact does52_t gK gV vF mD vd gY gX n m p k C S K R x hci hdi hki hri hcv hdv hu hn h8 hm hkb hp hw h2
  by_cases h3 : x.k = 3
  · exact does53_t gK gV vF mD vd gY gX n m p k C S K R x hci hdi hki hri hcv hdv hu hn h8 hm hkb hp hw h3
  by_cases h4 : x.k = 4
  · exact does54_t gK gV vF mD vd gY gX n m p k C S K R x hci hdi hki hri hcv hdv hu hn h8 hm hkb hp hw h4
  by_cases h5 : x.k = 5
  · exact does55_t gK gV vF mD vd gY gX n m p k C S K R x hci hdi hki hri hcv hdv hu hn h8 hm hkb hp hw h5
  by_cases h6 : x.k = 6
  · exact does56_t gK gV vF mD vd gY gX n m p k C S K R x hci hdi hki hri hcv hdv hu hn h8 hm hkb hp hw h6
  exact does50_t gK gV vF mD vd gY gX n m p k C S K R x hci hdi hki hri hcv hdv hu hn h8 hm hkb hp hw ⟨h1, h2, h3, h4, h5, h6⟩
end
end Go.Proofs.Ytepmikgjnmjheaa
