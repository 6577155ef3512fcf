/- What the row of reportSums_card_holds needs: part 6. -/
import Derived.Test.YtagedgcdonodfaaDoorRSu5
import Derived.Test.YtagedgcdonodfaaDoorRSu3
import Derived.Lib.LaidU8
import Derived.Test.YtagedgcdonodfaaDoorRows
import Derived.ProofKit
import Derived.OpenShut
import Derived.ChangeSame
import Derived.ChangeVars
import Derived.JoinedOf
import Derived.RowKit
import Derived.RowKitTokens
import Derived.LaidLaws
import Derived.LaidHandle
import Derived.LaidMore
import Derived.MakeChecks
import Derived.Stop.Joined
/- Report: the document's text: contract. -/
namespace Go.Proofs.YtagedgcdonodfaaDoor
set_option linter.unusedVariables false
def refW : List (List UInt8) := [[], nameL 1, nameL 2, nameL 3, nameL 4, nameL 5, nameL 6, nameL 7]
def wsA (l : List An) : Nat → Int × List UInt8
  | 0 => (0, [])
  | k + 1 => if whyN l ((k + 1 : Nat) : Int) = 0 then wsA l k else ((wsA l k).1 + (whyN l ((k + 1 : Nat) : Int) : Int), (wsA l k).2 ++ lineW l ((k + 1 : Nat) : Int))
def wsK (k : Nat) : List Int := (List.range k).map fun j => ((j + 1 : Nat) : Int)
open Go.RowKit
set_option linter.unusedSimpArgs false
set_option linter.unusedVariables false
set_option maxRecDepth 20000
set_option maxHeartbeats 4000000
attribute [local irreducible] WPc WPl WPq ReadR OpT BinR HasS bx rdN rowN Take Takes Prov Triple ResF BuildP Done ag Int.decLt Int.decLe Int.instDecidableEq
attribute [local irreducible] mp rmp rg rgo mput mget mfind mdel mhas tls whysL errsL talL lineW lineE lineT lineP ars nextE iterE wsA nameL
end Go.Proofs.YtagedgcdonodfaaDoor
/- Report: what the law asks of a report: contracts. -/
namespace Go.Proofs.YtagedgcdonodfaaDoor
set_option linter.unusedVariables false
theorem fpTS {P' Q' : Program} {Γf : List Asn} {n n2 : String} {k k2 : IntKind} {zs zs2 : List Int} (h : tabA P' n k zs ∈ Γf) (h2 : tabA Q' n2 k2 zs2 ∈ Γf) : ∀ A, A ∈ [tabA P' n k zs, tabA Q' n2 k2 zs2] → ∃ B, B ∈ Γf ∧ ∀ g, A.fp g → B.fp g := fun A hA => by
  rcases List.mem_cons.1 hA with rfl | hA
  · exact ⟨_, h, fun g hg => hg⟩
  · rw [List.mem_singleton.1 hA]; exact ⟨_, h2, fun g hg => hg⟩
theorem textM_t (gR mW mE mT : Nat) (C E : LN) (T : LT) (l : List An) (hrep : Rep l C E T) (hl : l.length ≤ 1000) (hln : ∀ a ∈ l, a.ln ≤ 60) (hes : ∀ a ∈ l, in64 a.er) (hsv : ∀ a ∈ l, in64 a.sv ∧ in64 a.bk) :
    Triple Tryd.prog 18 #[pB0 gR] ([tP, tS] ++ rpA gR mW mE mT C E T) (RTurns (sV (txtL l)) (rpA gR mW mE mT C E T)) :=
  (text_t gR mW mE mT C E T l hrep hl hln hes hsv).permT (List.perm_append_comm (l₁ := [tP, tS]) (l₂ := rpA gR mW mE mT C E T))
theorem rep_whyV {l : List An} {C E : LN} {T : LT} (h : Rep l C E T) (k : Int) : mget whM C k = (whyN l k : Int) := h.w.get k
open Go.RowKit
set_option linter.unusedSimpArgs false
set_option linter.unusedVariables false
set_option maxRecDepth 20000
set_option maxHeartbeats 4000000
attribute [local irreducible] WPc WPl WPq ReadR OpT BinR HasS bx rdN rowN Take Takes Prov Triple ResF BuildP Done ag Int.decLt Int.decLe Int.instDecidableEq
attribute [local irreducible] mp rmp rg rgo mput mget mfind mdel mhas tls whysL errsL talL lineW lineE lineT lineP ars nextE iterE wsA nameL txtL
end Go.Proofs.YtagedgcdonodfaaDoor
/- Report: a packet is counted; a report that is none: contracts. -/
namespace Go.Proofs.YtagedgcdonodfaaDoor
set_option linter.unusedVariables false
abbrev an0 : An := ⟨1, 1, 0, 0, false, 0, 0, 0, 0, false⟩
def txt0 : List UInt8 := [112, 97, 99, 107, 101, 116, 115, 32, 49, 10, 115, 101, 110, 116, 32, 49, 10, 116, 111, 32, 48, 32, 48, 32, 49, 32, 49, 10]
theorem txt0_eq : txtL [an0] = txt0 := by decide +kernel
theorem fpRow {Γf : List Asn} {e : TypeId} {sz m : Nat} {v : Value} {xs : List Value} (h : rowN e sz v m xs ∈ Γf) : ∀ A, A ∈ [rdN v m xs] → ∃ B, B ∈ Γf ∧ ∀ g, A.fp g → B.fp g := fun A hA => by
  rw [List.mem_singleton.1 hA]; exact ⟨_, h, fun g hg => hg.2⟩
theorem cutL_idem (l : List An) : cutL (cutL l) = cutL l := by
  unfold cutL
  rw [List.take_of_length_le (l := (l.take 30).map cutN) (by rw [List.length_map, List.length_take]; omega), List.map_map]
  refine List.map_congr_left fun a _ => ?_
  show cutN (cutN a) = cutN a
  unfold cutN
  simp
theorem cutL_len (l : List An) : (cutL l).length ≤ 30 := by unfold cutL; rw [List.length_map, List.length_take]; omega
theorem cutL_ln {l : List An} : ∀ a ∈ cutL l, a.ln ≤ 60 := fun a ha => by
  unfold cutL at ha
  obtain ⟨b, _, rfl⟩ := List.mem_map.1 ha
  unfold cutN
  exact Nat.min_le_left _ _
theorem pl_len {R : List AR} {l : List An} (h : plL R = l) : R.length = l.length := by rw [← h]; unfold plL; rw [List.length_map]
theorem pl_ln {R : List AR} {l : List An} (h : plL R = l) (hl : ∀ a ∈ l, a.ln ≤ 60) : ∀ r ∈ R, r.a.ln ≤ 60 := fun r hr => hl r.a (by rw [← h]; exact List.mem_map.2 ⟨r, hr, rfl⟩)
theorem ars_one (r : AR) : ars [r] = flat (anC r) := by unfold ars; simp
theorem packetsR_t (gR mW mE mT : Nat) (C E : LN) (T : LT) (l : List An) (hrep : Rep l C E T) (hl : l.length ≤ 1000) : Triple Tryd.prog 12 #[pB0 gR] [bx gR 52 (rpC mW mE mT), mp whM mW C] (RTurns (.int .i64 (l.countP cntA : Nat)) [bx gR 52 (rpC mW mE mT), mp whM mW C]) := fun w hw ha => by
  obtain ⟨es, clock, _, _, _, _, h1, h2⟩ := hw (mp whM mW C) (List.mem_cons_of_mem _ (List.mem_cons_self ..))
  have := packets_t gR mW mE mT C (rep_all hrep h1 hl).1
  rw [hrep.sw] at this
  exact this w hw ha
theorem sumT_perm {A B : LT} (h : A.Perm B) : sumT A = sumT B := by
  unfold sumT
  induction h with
  | nil => rfl
  | cons x _ ih => simp [ih]
  | swap x y l => simp; omega
  | trans _ _ i1 i2 => exact i1.trans i2
def RTalR (gR mW mE mT : Nat) (T : LT) (l : List An) : Value → List Asn → Prop := fun v Γ => v.oneCell' = true ∧ Γ = [bx gR 52 (rpC mW mE mT), mp toM mT T, rowN 31 4 v (talL l).length (tls (talL l))] ∧ sumT (talL l) = (whyN l 1 : Nat)
theorem talliesR_t (gR mW mE mT : Nat) (C E : LN) (T : LT) (l : List An) (hrep : Rep l C E T) (hl : l.length ≤ 1000) : Triple Tryd.prog 10 #[pB0 gR] [bx gR 52 (rpC mW mE mT), mp toM mT T] (RTalR gR mW mE mT T l) := fun w hw ha => by
  obtain ⟨es, clock, _, _, _, _, h1, h2⟩ := hw (mp toM mT T) (List.mem_cons_of_mem _ (List.mem_cons_self ..))
  refine (talliesP_t gR mW mE mT T (Nat.le_trans (rep_tlen hrep h1 hl) (by decide))).mono (fun v Γ h => ?_) w hw ha
  obtain ⟨S, hv, hΓ, hS1, hS2⟩ := h
  obtain rfl := tal_sorted hrep.t h1 hS1 hS2
  exact ⟨hv, hΓ, by rw [sumT_perm hS1, hrep.st]⟩
open Go.RowKit
set_option linter.unusedSimpArgs false
set_option linter.unusedVariables false
set_option maxRecDepth 20000
set_option maxHeartbeats 4000000
attribute [local irreducible] WPc WPl WPq ReadR OpT BinR HasS bx rdN rowN Take Takes Prov Triple ResF BuildP Done ag Int.decLt Int.decLe Int.instDecidableEq
attribute [local irreducible] mp rmp rg rgo mput mget mfind mdel mhas tls whysL errsL talL lineW lineE lineT lineP nextE iterE wsA nameL txtL
theorem lives_t : Triple Tryd.prog 13 #[] [tP, tS] (RVal (.bool true)) := by
  refine Triple.enter Tryd.func13 rfl Tryd.ntmps13 rfl (fun W => ?_)
  dsimp only [argsF, Nat.reduceAdd]
  repeat' (first
   | refine WPl.nil ?_ | refine WPq.then ?_ | refine WPq.thenR ?_ | refine WPq.thenE ?_ | refine WPq.blockN ?_ | refine WPq.blockR ?_ | refine WPq.blockE ?_ | refine WPq.blockO rfl ?_ | refine WPc.seq ?_ | refine WPc.block ?_ | refine WPc.ret ?_ | refine WPc.exit ?_ | refine WPc.skip ?_ | refine WPc.region ?_
   | (refine isCond ?_; first | refine WPc.cT ?_ | refine WPc.cF ?_ | (refine WPc.cQ (fun hc => ?_) (fun hc => ?_) <;> try exact prA))
   | (refine isC 3 ?_; refine WPl.cXs (rnew_t) fun v3 Γ1 hR => ?_; (obtain ⟨gR, mW, mE, mT, rfl, rfl⟩ := hR); (try dsimp only [putF, List.cons_append, List.nil_append]))
   | (refine isD 5 ?_; refine WPl.row .nil rfl rfl rfl (OpT.buildSlice (m := 1) (vs := u8s [1]) evpA oneA rfl rfl) fun v5 hv5 => ?_)
   | (refine isOp ?_; first | refine WPl.rd ?_ | refine WPl.sk ?_ | refine WPl.rdB ?_)
   | (show WPl _ _ _ _ _ _ _ (⟨_, .indexAddr _ _ _, _, _, _, _⟩ :: _) _; refine WPl.rdX (ReadR.indexE rfl rfl hasA (by first | assumption | omega)) ?_)
   | (show WPl _ _ _ _ _ _ _ (⟨_, .fieldAddr _ _ _, _, _, _, _⟩ :: _) _; refine WPl.rdX (ReadR.fieldE rfl hasA (by first | assumption | omega)) ?_)
   | (show WPl _ _ _ _ _ _ _ (⟨_, .load _ _, _, _, _, _⟩ :: _) _; first | refine WPl.rdX (ReadR.loadE rfl hasA (by assumption)) ?_ | refine WPl.rdX (ReadR.loadES (by assumption) (by first | assumption | omega) rfl hasA) ?_)
   | (show WPl _ _ _ _ _ _ _ (⟨_, .slice _ _ _ _ _, _, _, _, _⟩ :: _) _; first | refine WPl.rdX (ReadR.sliceH rfl rfl hasA (by omega)) ?_ | refine WPl.rdX (ReadR.sliceL rfl rfl hasA (by omega)) ?_ | refine WPl.rdX (ReadR.sliceLH rfl rfl rfl hasA (by omega) (by omega)) ?_)
   | (refine WPl.spQ (fun hc => ?_) (fun hc => ?_) <;> try exact prA)
   | fail)
  refine WPl.slOf (ty := 5) memA fun ad cp hv => ?_
  subst hv
  have hW0 : ∀ r ∈ [(⟨ad, cp, an0, [1]⟩ : AR)], anW r := fun r hr => by
    rw [List.mem_singleton.1 hr]
    exact ⟨in64_of (show -9000000000000000000 ≤ (1 : Int) by omega) (show (1 : Int) ≤ 9000000000000000000 by omega), in64_of (show -9000000000000000000 ≤ (0 : Int) by omega) (show (0 : Int) ≤ 9000000000000000000 by omega), in64_of (show -9000000000000000000 ≤ (0 : Int) by omega) (show (0 : Int) ≤ 9000000000000000000 by omega), in64_of (show -9000000000000000000 ≤ (0 : Int) by omega) (show (0 : Int) ≤ 9000000000000000000 by omega)⟩
  have hp1 : plL [(⟨ad, cp, an0, [1]⟩ : AR)] = [an0] := rfl
  have c9 := fun v8 => add_t gR mW mE mT v8 [(⟨ad, cp, an0, [1]⟩ : AR)] [] [] [] hW0 [] rep_nil (by simp) (fun r hr => by rw [List.mem_singleton.1 hr]; exact (show 1 ≤ 60 by decide)) (by simp)
  simp only [hp1, ars_one] at c9
  have hcn : [an0].countP cntA = 1 := by decide +kernel
  rw [hcn] at c9
  have c14 := fun C E T (h : Rep [an0] C E T) => packetsR_t gR mW mE mT C E T [an0] h (by simp)
  rw [hcn] at c14
  have c19 := fun C E T (h : Rep [an0] C E T) => textM_t gR mW mE mT C E T [an0] h (by simp) (fun a ha => by rw [List.mem_singleton.1 ha]; exact (show 1 ≤ 60 by decide)) (fun a ha => by rw [List.mem_singleton.1 ha]; exact in64_of (show -9000000000000000000 ≤ (0 : Int) by omega) (show (0 : Int) ≤ 9000000000000000000 by omega)) (fun a ha => by rw [List.mem_singleton.1 ha]; exact ⟨in64_of (show -9000000000000000000 ≤ (0 : Int) by omega) (show (0 : Int) ≤ 9000000000000000000 by omega), in64_of (show -9000000000000000000 ≤ (0 : Int) by omega) (show (0 : Int) ≤ 9000000000000000000 by omega)⟩)
  rw [txt0_eq] at c19
  repeat' (first
   | refine WPl.nil ?_ | refine WPq.then ?_ | refine WPq.thenR ?_ | refine WPq.thenE ?_ | refine WPq.blockN ?_ | refine WPq.blockR ?_ | refine WPq.blockE ?_ | refine WPq.blockO rfl ?_ | refine WPc.seq ?_ | refine WPc.block ?_ | refine WPc.ret ?_ | refine WPc.exit ?_ | refine WPc.skip ?_ | refine WPc.region ?_
   | (refine isCond ?_; first | refine WPc.cT ?_ | refine WPc.cF ?_ | (refine WPc.cQ (fun hc => ?_) (fun hc => ?_) <;> try exact prA))
   | (refine isD 8 ?_; refine WPl.litS1 (ds := anC ⟨ad, cp, an0, [1]⟩) fun v8 hv8 => ?_)
   | (refine isC 9 ?_; refine WPl.cM (c9 _) ?_ (fun vq Γ1 hR => ?_) (hΔ := provsR2); exact fpRow memA; obtain ⟨C, E, T, rfl, rfl, hrep⟩ := hR; (try dsimp only [putF, List.cons_append, List.nil_append]))
   | (refine isD 11 ?_; refine WPl.rdX (ReadR.binE rfl rfl BinR.eql (congrArg Value.bool (decide_eq_true rfl))) ?_)
   | (refine isC 14 ?_; refine WPl.cTs ((c14 _ _ _ hrep)) ?_; (try dsimp only [putF, List.cons_append, List.nil_append]))
   | (refine isD 15 ?_; refine WPl.rdX (ReadR.binE rfl rfl BinR.eql (congrArg Value.bool (decide_eq_true rfl))) ?_)
   | (refine isC 19 ?_; refine WPl.cM (c19 _ _ _ hrep) ?_ (fun vq Γ1 hR => ?_) (hΔ := provsR2); exact fpTS memA memA; obtain ⟨rfl, rfl⟩ := hR; (try dsimp only [putF, List.cons_append, List.nil_append]))
   | (refine isD 20 ?_; refine WPl.rdX (ReadR.binE rfl rfl (BinR.sEql (a := txt0) (b := txt0)) (congrArg Value.bool (decide_eq_true rfl))) ?_)
   | (refine isOp ?_; first | refine WPl.rd ?_ | refine WPl.sk ?_ | refine WPl.rdB ?_)
   | (show WPl _ _ _ _ _ _ _ (⟨_, .indexAddr _ _ _, _, _, _, _⟩ :: _) _; refine WPl.rdX (ReadR.indexE rfl rfl hasA (by first | assumption | omega)) ?_)
   | (show WPl _ _ _ _ _ _ _ (⟨_, .fieldAddr _ _ _, _, _, _, _⟩ :: _) _; refine WPl.rdX (ReadR.fieldE rfl hasA (by first | assumption | omega)) ?_)
   | (show WPl _ _ _ _ _ _ _ (⟨_, .load _ _, _, _, _, _⟩ :: _) _; first | refine WPl.rdX (ReadR.loadE rfl hasA (by assumption)) ?_ | refine WPl.rdX (ReadR.loadES (by assumption) (by first | assumption | omega) rfl hasA) ?_)
   | (show WPl _ _ _ _ _ _ _ (⟨_, .slice _ _ _ _ _, _, _, _, _⟩ :: _) _; first | refine WPl.rdX (ReadR.sliceH rfl rfl hasA (by omega)) ?_ | refine WPl.rdX (ReadR.sliceL rfl rfl hasA (by omega)) ?_ | refine WPl.rdX (ReadR.sliceLH rfl rfl rfl hasA (by omega) (by omega)) ?_)
   | (refine WPl.spQ (fun hc => ?_) (fun hc => ?_) <;> try exact prA)
   | fail)
  all_goals try (first | exact WPq.dTp | exact WPq.dTs | exact WPq.dV | exact WPq.dR | exact WPq.dR2 | exact WPq.dH | exact WPq.dBH | exact WPq.dT)
end Go.Proofs.YtagedgcdonodfaaDoor
/- Report: a report that is none: contract. -/
namespace Go.Proofs.YtagedgcdonodfaaDoor
set_option linter.unusedVariables false
open Go.RowKit
set_option linter.unusedSimpArgs false
set_option linter.unusedVariables false
set_option maxRecDepth 20000
set_option maxHeartbeats 4000000
attribute [local irreducible] WPc WPl WPq ReadR OpT BinR HasS bx rdN rowN Take Takes Prov Triple ResF BuildP Done ag Int.decLt Int.decLe Int.instDecidableEq
attribute [local irreducible] mp rmp rg rgo mput mget mfind mdel mhas tls whysL errsL talL lineW lineE lineT lineP nextE iterE wsA nameL txtL ars gbag rdA
end Go.Proofs.YtagedgcdonodfaaDoor
/- A list of answers (law 30), opened; the tables, as they are laid. -/
namespace Go.Proofs.YtagedgcdonodfaaDoor
open Go.ChangeShapes Go.WideShapes Go.ChangeAt Go.RowKit
set_option linter.unusedSimpArgs false
set_option linter.unusedVariables false
section
variable {H : Type} {enc : TypeId × Value → H} {P : Program} {W : World}
theorem fitsR_bool {ks : List KV} : ∀ {vs : List Value}, FitsV W (.k none :: ks) vs → ∃ (b : Bool) (r : List Value), vs = .bool b :: r ∧ FitsV W ks r
  | v :: r, h => by obtain ⟨⟨b, hb⟩, h⟩ := h; exact ⟨b, r, by rw [hb], h⟩
theorem fitsR_i64 {ks : List KV} : ∀ {vs : List Value}, FitsV W (.k (some .i64) :: ks) vs → ∃ (n : Int) (r : List Value), vs = .int .i64 n :: r ∧ in64 n ∧ FitsV W ks r
  | v :: r, h => by
    obtain ⟨⟨n, rfl, hw⟩, h⟩ := h
    have := bounds_i64 hw
    exact ⟨n, r, rfl, ⟨by omega, by omega⟩, h⟩
theorem fitsR_s {k : IntKind} {ks : List KV} : ∀ {vs : List Value}, FitsV W (.s k :: ks) vs → ∃ (v : Value) (r : List Value), vs = v :: r ∧ ∃ xs : List Int, (rdN v xs.length (xs.map (Value.int k))).holds W ∧ (∀ n ∈ xs, (Lit.int k n).wf = true) ∧ FitsV W ks r
  | v :: r, h => by
    obtain ⟨⟨xs, h1, h2⟩, h⟩ := h
    exact ⟨v, r, rfl, xs, h1, h2, h⟩
theorem fitsR_nil : ∀ {vs : List Value}, FitsV W [] vs → vs = []
  | [], _ => rfl
abbrev ansKs : List KV := [.k (some .i64), .s .u8, .k (some .i64), .k (some .i64), .k none, .k (some .i64), .k (some .i64), .k (some .i64), .k (some .i64), .k none]
theorem fits_an {es : List Value} (h : FitsV W ansKs es) : ∃ r : AR, es = flat (anC r) ∧ anW r ∧ r.d.length = r.a.ln ∧ (rb (vA r) r.d).holds W := by
  obtain ⟨why, r1, rfl, b1, i1⟩ := fitsR_i64 h
  obtain ⟨v, r2, rfl, xs, h3, h4, i2⟩ := fitsR_s i1
  obtain ⟨sv, r3, rfl, b3, i3⟩ := fitsR_i64 i2
  obtain ⟨bk, r4, rfl, b4, i4⟩ := fitsR_i64 i3
  obtain ⟨nw, r5, rfl, i5⟩ := fitsR_bool i4
  obtain ⟨er, r6, rfl, b6, i6⟩ := fitsR_i64 i5
  obtain ⟨e2, r7, rfl, b7, i7⟩ := fitsR_i64 i6
  obtain ⟨n, r8, rfl, b8, i8⟩ := fitsR_i64 i7
  obtain ⟨m, r9, rfl, b9, i9⟩ := fitsR_i64 i8
  obtain ⟨on, r10, rfl, i10⟩ := fitsR_bool i9
  obtain rfl := fitsR_nil i10
  obtain ⟨ad, cp, rfl⟩ : ∃ ad cp, v = .slice ad xs.length cp := by
    rcases h3 with ⟨hv, hn, _⟩ | ⟨a, c, hv, _⟩
    · exact ⟨none, 0, by rw [hv, hn]⟩
    · exact ⟨some a, c, hv⟩
  have e : xs.map (Value.int .u8) = u8s (xs.map fun n => UInt8.ofNat n.toNat) := by
    unfold u8s
    rw [List.map_map]
    apply List.map_congr_left
    intro n hn
    have hb := bounds_u8 (h4 n hn)
    show Value.int .u8 n = Value.int .u8 (((UInt8.ofNat n.toNat).toNat : Nat) : Int)
    have h3 : (UInt8.ofNat n.toNat).toNat = n.toNat % 256 := by simp
    rw [h3, show ((n.toNat % 256 : Nat) : Int) = n by omega]
  refine ⟨⟨ad, cp, ⟨why, xs.length, sv, bk, nw, er, e2, n, m, on⟩, xs.map fun n => UInt8.ofNat n.toNat⟩, rfl, ⟨b1, b3, b4, b6⟩, by rw [List.length_map], ?_⟩
  show (rdN (.slice ad xs.length cp) (xs.map fun n => UInt8.ofNat n.toNat).length (u8s (xs.map fun n => UInt8.ofNat n.toNat))).holds W
  rw [← e, List.length_map]
  exact h3
theorem open_ans {v : Value} {d : DataW H} {p : List MemPlace} {base : Nat} {t e : TypeId} (ht : P.underlying t = some (.slice e)) (hk : flatV P 8 e = some ansKs) (hc : P.cellsOf e = 10) (hval : Value.okWide P W .any base t v)
    (h : DataW.Trod enc P W 0 (fun _ => true) true t v d p) : ∃ R : List AR, (rdN v R.length (ars R)).holds W ∧ (rdA R).holds W ∧ (∀ r ∈ R, anW r) ∧ ∀ r ∈ R, r.d.length = r.a.ln := by
  obtain ⟨l, h1, h2⟩ := open_listV (q := fun r : AR => anW r ∧ r.d.length = r.a.ln ∧ (rb (vA r) r.d).holds W) anC (fun es he => fits_an he) 8 ht hk hc (by decide) hval h
  exact ⟨l, h1, fun r hr => (h2 r hr).2.2, fun r hr => (h2 r hr).1, fun r hr => (h2 r hr).2.1⟩
theorem tab_of_reads {name : String} {k : IntKind} {zs : List Int} {t e : TypeId} {n : Nat}
    (hgt : ((P.globalNamed name).bind fun g => (P.globals[g]?).map (·.type)) = some t) (ht : P.underlying t = some (.array n e)) (he : P.underlying e = some (.int k)) (hce : P.cellsOf e = 1) (hct : P.cellsOf t = n)
    {l : List (String × DataW Unit)} (h : laidMet P l W) (hm : (name, Lib.tabData k zs) ∈ l) : Lib.TabIs P W name k zs := by
  obtain ⟨g', t', cs, fuel, p, hg', ht', hvar, hd⟩ := Lib.laidMet.reads h hm
  rw [hg', Option.bind_some, ht'] at hgt
  obtain rfl := Option.some.inj hgt
  unfold Lib.TabIs
  rw [hvar, ← Lib.cells_of_tab ht he hce hct hd]
end
end Go.Proofs.YtagedgcdonodfaaDoor
/- Closed facts of the program, each once. -/
namespace Go.Proofs.YtagedgcdonodfaaDoor
open Go.ChangeShapes Go.WideShapes Go.ChangeAt Go.RowKit
theorem Tryd.enters : Tryd.prog.mayEnter = true := by kernel_rfl
end Go.Proofs.YtagedgcdonodfaaDoor
/- Report: sums: contract. -/
namespace Go.Proofs.YtagedgcdonodfaaDoor
set_option linter.unusedVariables false
def swA (l : List An) : Nat → Int
  | 0 => 0
  | k + 1 => swA l k + (whyN l (k : Int) : Int)
theorem swA_all (l : List An) : swA l 9 = (l.countP cntA : Int) := by
  have h0 : whyN l 0 = 0 := by
    by_cases h : whyN l 0 = 0
    · exact h
    · have := why_range h; omega
  have h8 : whyN l 8 = 0 := by
    by_cases h : whyN l 8 = 0
    · exact h
    · have := why_range h; omega
  have e : swA l 9 = 0 + (whyN l 0 : Int) + whyN l 1 + whyN l 2 + whyN l 3 + whyN l 4 + whyN l 5 + whyN l 6 + whyN l 7 + whyN l 8 := rfl
  rw [e, cnt_sum, h0, h8]
  omega
theorem swA_len (l : List An) (hl : l.length ≤ 1000) : ∀ k, 0 ≤ swA l k ∧ swA l k ≤ 1000 * k
  | 0 => by simp [swA]
  | k + 1 => by
    have := swA_len l hl k
    have h1 := why_len (l := l) (k := (k : Int))
    rw [swA]
    omega
theorem sumT_take {S : LT} {i : Nat} {x : TE} (h : S[i]? = some x) : sumT (S.take (i + 1)) = sumT (S.take i) + x.2.1 := by
  unfold sumT
  rw [List.take_add_one, h]
  simp
theorem sumT_len {l : List An} (hln : ∀ a ∈ l, a.ln ≤ 60) (hl : l.length ≤ 1000) : ∀ i, i ≤ (talL l).length → 0 ≤ sumT ((talL l).take i) ∧ sumT ((talL l).take i) ≤ 1000 * i
  | 0, _ => by simp [sumT]
  | i + 1, h => by
    have h1 := sumT_len hln hl i (by omega)
    obtain ⟨x, hx⟩ : ∃ x, (talL l)[i]? = some x := ⟨_, List.getElem?_eq_getElem (by omega)⟩
    rw [sumT_take hx]
    have h2 := tal_small hln (List.mem_of_getElem? hx)
    omega
open Go.RowKit
set_option linter.unusedSimpArgs false
set_option linter.unusedVariables false
set_option maxRecDepth 20000
set_option maxHeartbeats 4000000
attribute [local irreducible] WPc WPl WPq ReadR OpT BinR HasS bx rdN rowN Take Takes Prov Triple ResF BuildP Done ag Int.decLt Int.decLe Int.instDecidableEq
attribute [local irreducible] mp rmp rg rgo mput mget mfind mdel mhas tls whysL errsL talL lineW lineE lineT lineP nextE iterE wsA nameL txtL ars gbag rdA cutL
theorem sums_t (vl : Value) (R : List AR) (hRW : ∀ r ∈ R, anW r) (hRd : ∀ r ∈ R, r.d.length = r.a.ln) : Triple Tryd.prog 3 #[vl] [rdN vl R.length (ars R), rdA R, tP, tS] (RVal (.bool true)) := by
  have c12 := few_t vl R hRW hRd
  obtain ⟨l, hl⟩ : ∃ l, l = cutL (plL R) := ⟨_, rfl⟩
  rw [← hl] at c12
  have hl30 : l.length ≤ 30 := by rw [hl]; exact cutL_len _
  have hln : ∀ a ∈ l, a.ln ≤ 60 := by rw [hl]; exact cutL_ln
  have c13 : ∀ (gR mW mE mT : Nat) (vf : Value) (S : List AR), plL S = l → (∀ r ∈ S, anW r) → Triple Tryd.prog 8 #[pB0 gR, vf] ([rdN vf S.length (ars S)] ++ rpA gR mW mE mT [] [] []) (RAdd gR mW mE mT l (l.countP cntA)) := fun gR mW mE mT vf S hp hw => by
    have := add_t gR mW mE mT vf S [] [] [] hw [] rep_nil (by rw [pl_len hp]; simp; omega) (pl_ln hp hln) (by simp)
    rw [hp] at this
    exact this
  refine Triple.enter Tryd.func3 rfl Tryd.ntmps3 rfl (fun W => ?_)
  dsimp only [argsF, Nat.reduceAdd]
  repeat' (first
   | refine WPl.nil ?_ | refine WPq.then ?_ | refine WPq.thenR ?_ | refine WPq.thenE ?_ | refine WPq.blockN ?_ | refine WPq.blockR ?_ | refine WPq.blockE ?_ | refine WPq.blockO rfl ?_ | refine WPc.seq ?_ | refine WPc.block ?_ | refine WPc.ret ?_ | refine WPc.exit ?_ | refine WPc.skip ?_ | refine WPc.region ?_
   | (refine isCond ?_; first | refine WPc.cT ?_ | refine WPc.cF ?_ | (refine WPc.cQ (fun hc => ?_) (fun hc => ?_) <;> try exact prA))
   | (refine isC 9 ?_; refine WPl.cXs (rnew_t) fun v9 Γ1 hR => ?_; (obtain ⟨gR, mW, mE, mT, rfl, rfl⟩ := hR); (try dsimp only [putF, List.cons_append, List.nil_append]))
   | (refine isC 12 ?_; refine WPl.cX (c12) (fun v12 Γ1 hR => ?_) (hΔ := provsK); obtain ⟨S12, hv12, rfl, hp12, hw12, hd12⟩ := hR; (try dsimp only [putF, List.cons_append, List.nil_append]))
   | (refine isC 13 ?_; refine WPl.cM (c13 _ _ _ _ _ _ hp12 hw12) ?_ (fun vq Γ1 hR => ?_) (hΔ := provsR2); exact fpRow memA; obtain ⟨C, E, T, rfl, rfl, hrep⟩ := hR; (try dsimp only [putF, List.cons_append, List.nil_append]))
   | (refine isC 15 ?_; refine WPl.cXs ((talliesR_t _ _ _ _ _ _ _ _ hrep (by omega))) fun v15 Γ1 hR => ?_; (obtain ⟨hv15, rfl, hsum⟩ := hR); (try dsimp only [putF, List.cons_append, List.nil_append]))
   | (refine isOp ?_; first | refine WPl.rd ?_ | refine WPl.sk ?_ | refine WPl.rdB ?_)
   | (show WPl _ _ _ _ _ _ _ (⟨_, .indexAddr _ _ _, _, _, _, _⟩ :: _) _; refine WPl.rdX (ReadR.indexE rfl rfl hasA (by first | assumption | omega)) ?_)
   | (show WPl _ _ _ _ _ _ _ (⟨_, .fieldAddr _ _ _, _, _, _, _⟩ :: _) _; refine WPl.rdX (ReadR.fieldE rfl hasA (by first | assumption | omega)) ?_)
   | (show WPl _ _ _ _ _ _ _ (⟨_, .load _ _, _, _, _, _⟩ :: _) _; first | refine WPl.rdX (ReadR.loadE rfl hasA (by assumption)) ?_ | refine WPl.rdX (ReadR.loadES (by assumption) (by first | assumption | omega) rfl hasA) ?_)
   | (show WPl _ _ _ _ _ _ _ (⟨_, .slice _ _ _ _ _, _, _, _, _⟩ :: _) _; first | refine WPl.rdX (ReadR.sliceH rfl rfl hasA (by omega)) ?_ | refine WPl.rdX (ReadR.sliceL rfl rfl hasA (by omega)) ?_ | refine WPl.rdX (ReadR.sliceLH rfl rfl rfl hasA (by omega) (by omega)) ?_)
   | (refine WPl.spQ (fun hc => ?_) (fun hc => ?_) <;> try exact prA)
   | fail)
  have htl := tls_len (talL l)
  have htal := talL_len l
  first | refine WPc.loop (σ := Nat × Int) (fun st => st.1 ≤ 9 ∧ st.2 = swA l st.1) (fun st => [bx gR 52 (rpC mW mE mT), mp whM mW C, mp whM mE E, mp toM mT T, rowN 31 4 v15 (talL l).length (tls (talL l)), tP, tS]) (fun st => [(3, pB0 gR), (4, .int .i64 st.2), (5, .int .i64 0), (6, v15), (7, .int .i64 (st.1 : Int))]) (fun st => 9 - st.1) (⟨0, 0⟩) ?_ takesA frsA (fun st km hx hk => ?_)
  · exact ⟨Nat.zero_le _, by with_unfolding_all rfl⟩
  obtain ⟨i, al⟩ := st
  obtain ⟨hi, hst⟩ := hx
  dsimp only at hi hst hk ⊢
  obtain ⟨b1, b2⟩ := swA_len l (by omega) i
  by_cases hin : i < 9
  · have hwl := why_len (l := l) (k := (i : Int))
    have c23 := why_t gR mW mE mT C (i : Int) (in64_of (by omega) (by omega))
    rw [rep_whyV hrep] at c23
    have hs : swA l (i + 1) = swA l i + (whyN l (i : Int) : Int) := rfl
    repeat' (first
     | refine WPl.nil ?_ | refine WPq.then ?_ | refine WPq.thenR ?_ | refine WPq.thenE ?_ | refine WPq.blockN ?_ | refine WPq.blockR ?_ | refine WPq.blockE ?_ | refine WPq.blockO rfl ?_ | refine WPc.seq ?_ | refine WPc.block ?_ | refine WPc.ret ?_ | refine WPc.exit ?_ | refine WPc.skip ?_ | refine WPc.region ?_
     | (refine isCond ?_; first | refine WPc.cT ?_ | refine WPc.cF ?_ | (refine WPc.cQ (fun hc => ?_) (fun hc => ?_) <;> try exact prA))
     | (refine isD 17 ?_; refine WPl.rdX (ReadR.binE rfl rfl BinR.lss (congrArg Value.bool (decide_eq_true (show (i : Int) < 9 by omega)))) ?_)
     | (refine isC 23 ?_; refine WPl.cV c23 ?_ (hΔ := provsM))
     | (refine isD 24 ?_; refine WPl.rdX (ReadR.binE rfl rfl (BinR.addI (by omega) (by omega)) rfl) ?_)
     | (refine isOp ?_; first | refine WPl.rd ?_ | refine WPl.sk ?_ | refine WPl.rdB ?_)
     | (show WPl _ _ _ _ _ _ _ (⟨_, .indexAddr _ _ _, _, _, _, _⟩ :: _) _; refine WPl.rdX (ReadR.indexE rfl rfl hasA (by first | assumption | omega)) ?_)
     | (show WPl _ _ _ _ _ _ _ (⟨_, .fieldAddr _ _ _, _, _, _, _⟩ :: _) _; refine WPl.rdX (ReadR.fieldE rfl hasA (by first | assumption | omega)) ?_)
     | (show WPl _ _ _ _ _ _ _ (⟨_, .load _ _, _, _, _, _⟩ :: _) _; first | refine WPl.rdX (ReadR.loadE rfl hasA (by assumption)) ?_ | refine WPl.rdX (ReadR.loadES (by assumption) (by first | assumption | omega) rfl hasA) ?_)
     | (show WPl _ _ _ _ _ _ _ (⟨_, .slice _ _ _ _ _, _, _, _, _⟩ :: _) _; first | refine WPl.rdX (ReadR.sliceH rfl rfl hasA (by omega)) ?_ | refine WPl.rdX (ReadR.sliceL rfl rfl hasA (by omega)) ?_ | refine WPl.rdX (ReadR.sliceLH rfl rfl rfl hasA (by omega) (by omega)) ?_)
     | (refine WPl.spQ (fun hc => ?_) (fun hc => ?_) <;> try exact prA)
     | fail)
    exact WPq.rnd (i + 1, al + (whyN l (i : Int) : Int)) ⟨by dsimp only; omega, by dsimp only; rw [hs, hst]⟩ (by dsimp only; omega)
  have hie : i = 9 := by omega
  subst hie
  rw [swA_all] at hst
  clear hk hin hi b1 b2
  repeat' (first
   | refine WPl.nil ?_ | refine WPq.then ?_ | refine WPq.thenR ?_ | refine WPq.thenE ?_ | refine WPq.blockN ?_ | refine WPq.blockR ?_ | refine WPq.blockE ?_ | refine WPq.blockO rfl ?_ | refine WPc.seq ?_ | refine WPc.block ?_ | refine WPc.ret ?_ | refine WPc.exit ?_ | refine WPc.skip ?_ | refine WPc.region ?_
   | (refine isCond ?_; first | refine WPc.cT ?_ | refine WPc.cF ?_ | (refine WPc.cQ (fun hc => ?_) (fun hc => ?_) <;> try exact prA))
   | (refine isD 17 ?_; refine WPl.rdX (ReadR.binE rfl rfl BinR.lss (congrArg Value.bool (decide_eq_false (show ¬ ((9 : Nat) : Int) < 9 by omega)))) ?_)
   | (refine isOp ?_; first | refine WPl.rd ?_ | refine WPl.sk ?_ | refine WPl.rdB ?_)
   | (show WPl _ _ _ _ _ _ _ (⟨_, .indexAddr _ _ _, _, _, _, _⟩ :: _) _; refine WPl.rdX (ReadR.indexE rfl rfl hasA (by first | assumption | omega)) ?_)
   | (show WPl _ _ _ _ _ _ _ (⟨_, .fieldAddr _ _ _, _, _, _, _⟩ :: _) _; refine WPl.rdX (ReadR.fieldE rfl hasA (by first | assumption | omega)) ?_)
   | (show WPl _ _ _ _ _ _ _ (⟨_, .load _ _, _, _, _, _⟩ :: _) _; first | refine WPl.rdX (ReadR.loadE rfl hasA (by assumption)) ?_ | refine WPl.rdX (ReadR.loadES (by assumption) (by first | assumption | omega) rfl hasA) ?_)
   | (show WPl _ _ _ _ _ _ _ (⟨_, .slice _ _ _ _ _, _, _, _, _⟩ :: _) _; first | refine WPl.rdX (ReadR.sliceH rfl rfl hasA (by omega)) ?_ | refine WPl.rdX (ReadR.sliceL rfl rfl hasA (by omega)) ?_ | refine WPl.rdX (ReadR.sliceLH rfl rfl rfl hasA (by omega) (by omega)) ?_)
   | (refine WPl.spQ (fun hc => ?_) (fun hc => ?_) <;> try exact prA)
   | fail)
  first | refine WPc.loop (σ := Nat × Int) (fun st => st.1 ≤ (talL l).length ∧ st.2 = sumT ((talL l).take st.1)) (fun st => [bx gR 52 (rpC mW mE mT), mp whM mW C, mp whM mE E, mp toM mT T, rowN 31 4 v15 (talL l).length (tls (talL l)), tP, tS]) (fun st => [(3, pB0 gR), (4, .int .i64 al), (5, .int .i64 st.2), (6, v15), (8, .int .i64 (st.1 : Int))]) (fun st => (talL l).length - st.1) (⟨0, 0⟩) ?_ takesA frsA (fun st km hx hk => ?_)
  · exact ⟨Nat.zero_le _, by rw [List.take_zero]; rfl⟩
  obtain ⟨i, sn⟩ := st
  obtain ⟨hi, hsn⟩ := hx
  dsimp only at hi hsn hk ⊢
  obtain ⟨b1, b2⟩ := sumT_len hln (by omega) i hi
  by_cases hin : i < (talL l).length
  · obtain ⟨x, hx⟩ : ∃ x, (talL l)[i]? = some x := ⟨_, List.getElem?_eq_getElem hin⟩
    have q2 := tls_in (o := 2) hx (by omega) rfl
    have hts := sumT_take hx
    have hsm := tal_small hln (List.mem_of_getElem? hx)
    repeat' (first
     | refine WPl.nil ?_ | refine WPq.then ?_ | refine WPq.thenR ?_ | refine WPq.thenE ?_ | refine WPq.blockN ?_ | refine WPq.blockR ?_ | refine WPq.blockE ?_ | refine WPq.blockO rfl ?_ | refine WPc.seq ?_ | refine WPc.block ?_ | refine WPc.ret ?_ | refine WPc.exit ?_ | refine WPc.skip ?_ | refine WPc.region ?_
     | (refine isCond ?_; first | refine WPc.cT ?_ | refine WPc.cF ?_ | (refine WPc.cQ (fun hc => ?_) (fun hc => ?_) <;> try exact prA))
     | (refine isD 28 ?_; refine WPl.rdX (ReadR.binE rfl rfl BinR.lss (congrArg Value.bool (decide_eq_true (show (i : Int) < ((talL l).length : Int) by omega)))) ?_)
     | (refine isD 34 ?_; refine WPl.rdX (ReadR.indexE (i := i) rfl rfl hasA (by omega)) ?_)
     | (refine isD 35 ?_; refine WPl.rdX (ReadR.fieldE rfl hasA (by omega)) ?_)
     | (refine isD 36 ?_; refine WPl.rdX (ReadR.loadE rfl hasA q2) ?_)
     | (refine isD 37 ?_; refine WPl.rdX (ReadR.binE rfl rfl (BinR.addI (by omega) (by omega)) rfl) ?_)
     | (refine isOp ?_; first | refine WPl.rd ?_ | refine WPl.sk ?_ | refine WPl.rdB ?_)
     | (show WPl _ _ _ _ _ _ _ (⟨_, .indexAddr _ _ _, _, _, _, _⟩ :: _) _; refine WPl.rdX (ReadR.indexE rfl rfl hasA (by first | assumption | omega)) ?_)
     | (show WPl _ _ _ _ _ _ _ (⟨_, .fieldAddr _ _ _, _, _, _, _⟩ :: _) _; refine WPl.rdX (ReadR.fieldE rfl hasA (by first | assumption | omega)) ?_)
     | (show WPl _ _ _ _ _ _ _ (⟨_, .load _ _, _, _, _, _⟩ :: _) _; first | refine WPl.rdX (ReadR.loadE rfl hasA (by assumption)) ?_ | refine WPl.rdX (ReadR.loadES (by assumption) (by first | assumption | omega) rfl hasA) ?_)
     | (show WPl _ _ _ _ _ _ _ (⟨_, .slice _ _ _ _ _, _, _, _, _⟩ :: _) _; first | refine WPl.rdX (ReadR.sliceH rfl rfl hasA (by omega)) ?_ | refine WPl.rdX (ReadR.sliceL rfl rfl hasA (by omega)) ?_ | refine WPl.rdX (ReadR.sliceLH rfl rfl rfl hasA (by omega) (by omega)) ?_)
     | (refine WPl.spQ (fun hc => ?_) (fun hc => ?_) <;> try exact prA)
     | fail)
    exact WPq.rnd (i + 1, sn + x.2.1) ⟨by dsimp only; omega, by dsimp only; rw [hts, hsn]⟩ (by dsimp only; omega)
  have hie : i = (talL l).length := by omega
  subst hie
  rw [List.take_length, hsum] at hsn
  have c40 := packetsR_t gR mW mE mT C E T l hrep (by omega)
  have c45 := why_t gR mW mE mT C 1 (in64_of (by omega) (by omega))
  rw [rep_whyV hrep] at c45
  repeat' (first
   | refine WPl.nil ?_ | refine WPq.then ?_ | refine WPq.thenR ?_ | refine WPq.thenE ?_ | refine WPq.blockN ?_ | refine WPq.blockR ?_ | refine WPq.blockE ?_ | refine WPq.blockO rfl ?_ | refine WPc.seq ?_ | refine WPc.block ?_ | refine WPc.ret ?_ | refine WPc.exit ?_ | refine WPc.skip ?_ | refine WPc.region ?_
   | (refine isCond ?_; first | refine WPc.cT ?_ | refine WPc.cF ?_ | (refine WPc.cQ (fun hc => ?_) (fun hc => ?_) <;> try exact prA))
   | (refine isD 28 ?_; refine WPl.rdX (ReadR.binE rfl rfl BinR.lss (congrArg Value.bool (decide_eq_false (show ¬ ((talL l).length : Int) < ((talL l).length : Int) by omega)))) ?_)
   | (refine isC 40 ?_; refine WPl.cTs (c40) ?_; (try dsimp only [putF, List.cons_append, List.nil_append]))
   | (refine isD 41 ?_; refine WPl.rdX (ReadR.binE rfl rfl BinR.eql (congrArg Value.bool (decide_eq_true hst))) ?_)
   | (refine isC 45 ?_; refine WPl.cV c45 ?_ (hΔ := provsM))
   | (refine isD 46 ?_; refine WPl.rdX (ReadR.binE rfl rfl BinR.eql (congrArg Value.bool (decide_eq_true hsn))) ?_)
   | (refine isC 49 ?_; refine WPl.cV lives_t ?_ (hΔ := provsR2))
   | (refine isOp ?_; first | refine WPl.rd ?_ | refine WPl.sk ?_ | refine WPl.rdB ?_)
   | (show WPl _ _ _ _ _ _ _ (⟨_, .indexAddr _ _ _, _, _, _, _⟩ :: _) _; refine WPl.rdX (ReadR.indexE rfl rfl hasA (by first | assumption | omega)) ?_)
   | (show WPl _ _ _ _ _ _ _ (⟨_, .fieldAddr _ _ _, _, _, _, _⟩ :: _) _; refine WPl.rdX (ReadR.fieldE rfl hasA (by first | assumption | omega)) ?_)
   | (show WPl _ _ _ _ _ _ _ (⟨_, .load _ _, _, _, _, _⟩ :: _) _; first | refine WPl.rdX (ReadR.loadE rfl hasA (by assumption)) ?_ | refine WPl.rdX (ReadR.loadES (by assumption) (by first | assumption | omega) rfl hasA) ?_)
   | (show WPl _ _ _ _ _ _ _ (⟨_, .slice _ _ _ _ _, _, _, _, _⟩ :: _) _; first | refine WPl.rdX (ReadR.sliceH rfl rfl hasA (by omega)) ?_ | refine WPl.rdX (ReadR.sliceL rfl rfl hasA (by omega)) ?_ | refine WPl.rdX (ReadR.sliceLH rfl rfl rfl hasA (by omega) (by omega)) ?_)
   | (refine WPl.spQ (fun hc => ?_) (fun hc => ?_) <;> try exact prA)
   | fail)
  exact WPq.dV
end Go.Proofs.YtagedgcdonodfaaDoor
/- ReportSums, lifted: for every input, and the tables as they are laid, the law returns true. -/
namespace Go.Proofs.YtagedgcdonodfaaDoor
open Go.ChangeShapes Go.WideShapes Go.ChangeAt Go.RowKit
set_option linter.unusedVariables false
/-- The tables are laid in the heap that the door's own run leaves. -/
theorem door30 (os : Os) (args : Array Value) : laidMetH Tryd.prog Rows.reportSumsRow.laid ((World.doorLaid Tryd.prog 4000 os).forCall (fun _ _ => 0) ⟨#[], args, []⟩).memory :=
  laidMetH_of_parts3 (fuel := 400) (laidMet_of_run' 400 (by kernel_rfl) (by kernel_rfl)) (by kernel_rfl) (by kernel_rfl)
theorem mem_pow : ("internal/strconv.uint64pow10", (Lib.tabData .u64 Lib.pow10Tab : DataW Unit)) ∈ Rows.reportSumsRow.laid := by
  rw [← show Rows.laid_internal_strconv_uint64pow10 (H := Unit) = Lib.tabData .u64 Lib.pow10Tab from by kernel_rfl]
  exact .tail _ (.tail _ (.head _))
theorem mem_asc : ("strings.asciiSpace", (Lib.tabData .u8 Lib.asciiSpaceTab : DataW Unit)) ∈ Rows.reportSumsRow.laid := by
  rw [← show Rows.laid_strings_asciiSpace (H := Unit) = Lib.tabData .u8 Lib.asciiSpaceTab from by kernel_rfl]
  exact .tail _ (.tail _ (.tail _ (.tail _ (.head _))))
theorem tabs_of {W : World} (h : laidMetH Tryd.prog Rows.reportSumsRow.laid W) : tP.holds W ∧ tS.holds W := by
  rw [MakeChecks.laidMetH_plain _ _ _ (by kernel_rfl)] at h
  exact ⟨tab_of_reads (P := Tryd.prog) (t := 156) (e := 99) (n := 20) (by kernel_rfl) (by kernel_rfl) (by kernel_rfl) (by kernel_rfl) (by kernel_rfl) h mem_pow,
    tab_of_reads (P := Tryd.prog) (t := 101) (e := 5) (n := 256) (by kernel_rfl) (by kernel_rfl) (by kernel_rfl) (by kernel_rfl) (by kernel_rfl) h mem_asc⟩
set_option maxRecDepth 100000 in
theorem reportSums_lifted (os : Os) (started : os.Started) (H : Type) (enc : TypeId × Value → H) :
    ReturnsInHanded {} Tryd.checked os 3 .any (fun w args => (Rows.reportSumsSpec.pre enc Tryd.prog Tryd.f3 Rows.reportSumsRow.domain false w args ∧ laidMetH Tryd.prog Rows.reportSumsRow.laid w) ∧ sizedMet enc Tryd.prog Tryd.f3 (OpenSpec.ofChange Rows.reportSumsSpec) false w args)
      (Rows.reportSumsSpec.post enc Tryd.prog Tryd.f3 false true false false) := by
  refine returnsInHanded_of_change_and (C := Tryd.checked) (X := fun w _ => laidMetH Tryd.prog Rows.reportSumsRow.laid w) (fun _ _ _ hh h => h.of_heap hh) Tryd.own started (by kernel_rfl) Tryd.func3
    (ChangeSpec.witness_shaped (enc := enc) (C := Tryd.checked) (os := os) (X := fun w _ => laidMetH Tryd.prog Rows.reportSumsRow.laid w) false (World.doorLaid Tryd.prog 4000 os) #[.slice none 0 0] 8 rfl (World.shaped_of_RefB (by kernel_rfl) (by kernel_rfl)) (by kernel_rfl) (by kernel_rfl) (by kernel_rfl) (door30 os _)) ?_
  intro W base args ds gs before hval0 hW _ _ hL _
  have hval : ∀ (j : Nat) t v, Tryd.f3.params[j]? = some t → args[j]? = some v → Value.okWide Tryd.prog W .any base t v := hval0
  have hW' := hW
  obtain ⟨p, q, hA0, hV, rfl, hfz, hnd⟩ := hW
  have hA : DataW.TrodAll enc Tryd.prog W 0 (fun _ => true) true Tryd.f3.params.toList args.toList ds p := hA0
  rw [Tryd.params3] at hA hval
  obtain ⟨v0, vs0, d0, ds0, p0, q0, hargs, rfl, rfl, h0, r0⟩ := trodAll_cons hA
  obtain ⟨rfl, rfl, rfl⟩ := trodAll_nil r0
  obtain rfl : args = #[v0] := by cases args; simp_all
  obtain ⟨rfl, rfl⟩ := trodVars_none hV
  have k0 := h0
  have lt0 : ∀ x ∈ p0, x.block < W.heap.size := by obtain ⟨m, hm⟩ := k0; exact DataW.trod_lt m _ _ _ hm
  obtain ⟨R0, hr0, hb0, hw0, hl0⟩ := open_ans Tryd.underlying22 (by kernel_rfl) (by kernel_rfl) (hval 0 22 v0 rfl rfl) h0
  obtain ⟨htP, htS⟩ := tabs_of hL
  clear hA0 hval0
  refine (law_of (W := W) (sums_t v0 R0 hw0 hl0) (by simp [rdN_own, rdA, tabA]) (hold1 hr0 (hold1 hb0 (hold1 htP (hold1 htS hold0))))).mono fun e W' ⟨he, bel⟩ => ?_
  subst he
  exact ⟨_, rfl, _, _, _, [], _, [], hW', trodAll_mk1 (shut_bool Tryd.underlying4 _), (trodAll_cons_mk (Below.trod Tryd.laidOut (by kernel_rfl) (of_decide_eq_true (by kernel_rfl)) k0 bel lt0) trodAll_mk0), rfl, bel.frame _, fun h => by cases h⟩
end Go.Proofs.YtagedgcdonodfaaDoor
