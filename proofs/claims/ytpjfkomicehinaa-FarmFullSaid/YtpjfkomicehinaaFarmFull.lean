/- Law FarmFull: the walk. -/
import Derived.Test.YtpjfkomicehinaaGl
import Derived.Test.YtpjfkomicehinaaGn
namespace Go.Proofs.Ytpjfkomicehinaa
abbrev fS (i : Nat) : Sh := ⟨(i : Int), Adr.zero, i + 1, 17, 0, 5⟩
def fL (k : Nat) : List Sb := (List.range k).map fun j => ⟨fS j, []⟩
abbrev fB (i : Int) : Bk := ⟨i, Adr.zero, 5, 1, false⟩
def fBs (k : Nat) : List Bk := (List.range k).map fun (j : Nat) => fB (((20 - k + j : Nat) : Int))
def gL (a k : Nat) : List Sb := (List.range 8).map fun j => ⟨fS j, if j = a then fBs k else []⟩
theorem fL_add : ∀ i : Nat, i < 20 → addS (fL (min i 8)) (fS i) ([] : List Bk).length = (fL (min (i + 1) 8), if i < 8 then 0 else 2) := by with_unfolding_all decide +kernel
theorem gL_0 : ∀ a : Nat, a < 8 → gL a 0 = fL 8 := by with_unfolding_all decide +kernel
theorem gL_add : ∀ a : Nat, a < 8 → ∀ k : Nat, k < 20 → addB (gL a (min k 16)) (a : Int) (fB (19 - (k : Int))) = (gL a (min (k + 1) 16), if k < 16 then 0 else 2) := by with_unfolding_all decide +kernel
theorem gL_find : ∀ a : Nat, a < 8 → findS (gL a 16) (a : Int) = some ⟨fS a, fBs 16⟩ := by with_unfolding_all decide +kernel
theorem fBs_shares : (sharesB (fBs 16) []).length = 16 := by with_unfolding_all decide +kernel
theorem gL_drop : ∀ a : Nat, a < 8 → ((gL a 16).filter fun x => !decide (x.s.id = (a : Int))).length = 7 := by with_unfolding_all decide +kernel
theorem HasS.gbag {α : Type} {Γ : List Asn} {row : α → List Asn} {es : List α} {y : α} {e : TypeId} {sz n : Nat} {xs : List Value} {vl : Value} (h : Go.Proofs.Ytpjfkomicehinaa.gbag row es ∈ Γ) (hx : y ∈ es) (hA : rowN e sz vl n xs ∈ row y) : HasS Γ vl n xs :=
  fun _ hw => row_reads ((hw _ h).1 _ (List.mem_flatMap.2 ⟨y, hx, hA⟩))
open Go.RowKit
set_option linter.unusedSimpArgs false
set_option linter.unusedVariables false
set_option maxRecDepth 20000
set_option maxHeartbeats 4000000
attribute [local irreducible] WPc WPl WPq ReadR OpT BinR HasS bx rdN rowN Take Takes Prov Triple ResF BuildP Done ag Int.decLt Int.decLe Int.instDecidableEq
attribute [local irreducible] mp rmp rg rgo mput mget mfind mdel gbag bks ies lbB hasB findS doorS mpe fL gL fBs addS addB sharesB shrs
theorem farmFull_t (c : UInt8) : Triple Try.prog 3 #[.int .u8 ((c.toNat : Nat) : Int)] [] (RVal (.bool true)) := by
  have clv := glives_t
  have e0 : bks ([] : List Bk) = [] := by with_unfolding_all rfl
  have hc8 := c.toNat_lt
  refine Triple.enter Try.func3 rfl Try.ntmps3 rfl (fun W => ?_)
  dsimp only [argsF, Nat.reduceAdd]
  refine WPc.nilRowN 36 21 ?_
  refine WPc.nilRowN 3 1 ?_
  repeat' (first
   | refine WPl.nil ?_ | refine WPq.then ?_ | refine WPq.thenR ?_ | refine WPq.thenE ?_ | refine WPq.blockN ?_ | refine WPq.blockR ?_ | refine WPq.blockE ?_ | refine WPq.blockO rfl ?_ | refine WPc.seq ?_ | refine WPc.block ?_ | refine WPc.ret ?_ | refine WPc.exit ?_ | refine WPc.skip ?_ | refine WPc.region ?_
   | (refine isCond ?_; first | refine WPc.cT ?_ | refine WPc.cF ?_ | (refine WPc.cQ (fun hc => ?_) (fun hc => ?_) <;> try exact prA))
   | (refine isC 9 ?_; refine WPl.cXs (gnew_t) fun v Γ1 hR => ?_; obtain ⟨gF, mi, md, rfl, rfl⟩ := hR; (try dsimp only [putF, List.cons_append, List.nil_append]))
   | (refine isOp ?_; first | refine WPl.rd ?_ | refine WPl.sk ?_ | refine WPl.rdB ?_)
   | (show WPl _ _ _ _ _ _ _ (⟨_, .indexAddr _ _ _, _, _, _, _⟩ :: _) _; refine WPl.rdX (ReadR.indexE rfl rfl hasA (by first | assumption | omega)) ?_)
   | (show WPl _ _ _ _ _ _ _ (⟨_, .fieldAddr _ _ _, _, _, _, _⟩ :: _) _; refine WPl.rdX (ReadR.fieldE rfl hasA (by first | assumption | omega)) ?_)
   | (show WPl _ _ _ _ _ _ _ (⟨_, .load _ _, _, _, _, _⟩ :: _) _; first | refine WPl.rdX (ReadR.loadE rfl hasA (by assumption)) ?_ | refine WPl.rdX (ReadR.loadES (by assumption) (by first | assumption | omega) rfl hasA) ?_)
   | (show WPl _ _ _ _ _ _ _ (⟨_, .slice _ _ _ _ _, _, _, _, _⟩ :: _) _; first | refine WPl.rdX (ReadR.sliceH rfl rfl hasA (by omega)) ?_ | refine WPl.rdX (ReadR.sliceL rfl rfl hasA (by omega)) ?_ | refine WPl.rdX (ReadR.sliceLH rfl rfl rfl hasA (by omega) (by omega)) ?_)
   | (refine WPl.spQ (fun hc => ?_) (fun hc => ?_) <;> try exact prA)
   | fail)
  first | refine WPc.loop (σ := Nat × FM) (fun st => st.1 ≤ 20 ∧ PInv (fL (min st.1 8)) st.2) (fun st => [rowN 36 21 (.slice none 0 0) 0 [], rowN 3 1 (.slice none 0 0) 0 [], bx gF 66 (fac mi md), mp idM mi (ies st.2.ps), mp drM md st.2.ds, gbag prow st.2.ps]) (fun st => [(0, .int .u8 ((c.toNat : Nat) : Int)), (3, hF gF), (4, .int .i64 (st.1 : Int))]) (fun st => 20 - st.1) ((0, ⟨[], []⟩)) ?_ takesA frsA (fun st km hx hk => ?_)
  · refine ⟨Nat.zero_le _, ?_⟩
    show PInv (fL 0) ⟨[], []⟩
    rw [show fL 0 = [] by with_unfolding_all rfl]
    exact PInv.empty
  obtain ⟨i, F⟩ := st
  obtain ⟨hi, hp⟩ := hx
  dsimp only at hi hp hk ⊢
  have hkm : km = 20 - i := hk
  clear hk
  by_cases hlt : i < 20
  · have hlt' : (i : Int) < 20 := by omega
    have c20 := gadd_t gF mi md (fL (min i 8)) F hp (fS i) (.slice none 0 0) [] rfl ⟨⟨by show (-9223372036854775808 : Int) ≤ (i : Int); omega, by show (i : Int) ≤ 9223372036854775807; omega⟩, by show i + 1 < 65536; omega⟩
    rw [fL_add i hlt, e0] at c20
    have c20 : Triple Try.prog 8 #[hF gF, ag (shC (fS i) (.slice none 0 0))] ([rdN (.slice none 0 0) 0 []] ++ fmA gF mi md F) (RFm gF mi md (.int .i64 (if i < 8 then 0 else 2)) (fL (min (i + 1) 8))) := c20
    have hw : IntKind.u16.wrap ((i : Int) + 1) = ((i + 1 : Nat) : Int) := by rw [IntKind.wrap_u16]; omega
    by_cases h8 : i < 8
    · have hlt8 : (i : Int) < 8 := by omega
      rw [if_pos h8] at c20
      repeat' (first
       | refine WPl.nil ?_ | refine WPq.then ?_ | refine WPq.thenR ?_ | refine WPq.thenE ?_ | refine WPq.blockN ?_ | refine WPq.blockR ?_ | refine WPq.blockE ?_ | refine WPq.blockO rfl ?_ | refine WPc.seq ?_ | refine WPc.block ?_ | refine WPc.ret ?_ | refine WPc.exit ?_ | refine WPc.skip ?_ | refine WPc.region ?_
       | (refine isCond ?_; first | refine WPc.cT ?_ | refine WPc.cF ?_ | (refine WPc.cQ (fun hc => ?_) (fun hc => ?_) <;> try first | exact prA | (exfalso; first | omega)))
       | (refine isD 11 ?_; refine WPl.rdX (ReadR.binE rfl rfl BinR.lss (congrArg Value.bool (decide_eq_true hlt'))) ?_)
       | (refine isD 17 ?_; refine WPl.rdX (ReadR.binE rfl rfl (BinR.addI (by omega) (by omega)) rfl) ?_)
       | (refine isD 18 ?_; refine WPl.rdX (ReadR.conv rfl hw) ?_)
       | (refine isD 19 ?_; refine WPl.rdX (ReadR.build (cs' := shC (fS i) (.slice none 0 0)) (by with_unfolding_all exact buildA)) ?_)
       | (refine isC 20 ?_; refine WPl.cO (c20) (fun v Γ1 hR => ?_) ?_; rotate_left; exact fpA; obtain ⟨F1, rfl, hp1, rfl⟩ := hR; (try dsimp only [putF, List.cons_append, List.nil_append]))
       | (refine isD 22 ?_; refine WPl.rdX (ReadR.binE rfl rfl BinR.eql (congrArg Value.bool (decide_eq_true (show (0 : Int) = 0 from rfl)))) ?_)
       | (refine isD 24 ?_; refine WPl.rdX (ReadR.binE rfl rfl BinR.lss (congrArg Value.bool (decide_eq_true hlt8))) ?_)
       | (refine isD 25 ?_; refine WPl.rdX (ReadR.binE rfl rfl (BinR.neqB rfl) rfl) ?_)
       | (refine isD 28 ?_; refine WPl.rdX (ReadR.binE rfl rfl BinR.geq (congrArg Value.bool (decide_eq_false (by omega)))) ?_)
       | (refine isOp ?_; first | refine WPl.rd ?_ | refine WPl.sk ?_ | refine WPl.rdB ?_)
       | (show WPl _ _ _ _ _ _ _ (⟨_, .indexAddr _ _ _, _, _, _, _⟩ :: _) _; refine WPl.rdX (ReadR.indexE rfl rfl hasA (by first | assumption | omega)) ?_)
       | (show WPl _ _ _ _ _ _ _ (⟨_, .fieldAddr _ _ _, _, _, _, _⟩ :: _) _; refine WPl.rdX (ReadR.fieldE rfl hasA (by first | assumption | omega)) ?_)
       | (show WPl _ _ _ _ _ _ _ (⟨_, .load _ _, _, _, _, _⟩ :: _) _; first | refine WPl.rdX (ReadR.loadE rfl hasA (by assumption)) ?_ | refine WPl.rdX (ReadR.loadES (by assumption) (by first | assumption | omega) rfl hasA) ?_)
       | (show WPl _ _ _ _ _ _ _ (⟨_, .slice _ _ _ _ _, _, _, _, _⟩ :: _) _; first | refine WPl.rdX (ReadR.sliceH rfl rfl hasA (by omega)) ?_ | refine WPl.rdX (ReadR.sliceL rfl rfl hasA (by omega)) ?_ | refine WPl.rdX (ReadR.sliceLH rfl rfl rfl hasA (by omega) (by omega)) ?_)
       | (refine WPl.spQ (fun hc => ?_) (fun hc => ?_) <;> try first | exact prA | (exfalso; first | omega))
       | fail)
      exact WPq.rnd (i + 1, F1) ⟨hlt, hp1⟩ (by dsimp only; omega)
    · have hlt8 : ¬ (i : Int) < 8 := by omega
      rw [if_neg h8] at c20
      repeat' (first
       | refine WPl.nil ?_ | refine WPq.then ?_ | refine WPq.thenR ?_ | refine WPq.thenE ?_ | refine WPq.blockN ?_ | refine WPq.blockR ?_ | refine WPq.blockE ?_ | refine WPq.blockO rfl ?_ | refine WPc.seq ?_ | refine WPc.block ?_ | refine WPc.ret ?_ | refine WPc.exit ?_ | refine WPc.skip ?_ | refine WPc.region ?_
       | (refine isCond ?_; first | refine WPc.cT ?_ | refine WPc.cF ?_ | (refine WPc.cQ (fun hc => ?_) (fun hc => ?_) <;> try first | exact prA | (exfalso; first | omega)))
       | (refine isD 11 ?_; refine WPl.rdX (ReadR.binE rfl rfl BinR.lss (congrArg Value.bool (decide_eq_true hlt'))) ?_)
       | (refine isD 17 ?_; refine WPl.rdX (ReadR.binE rfl rfl (BinR.addI (by omega) (by omega)) rfl) ?_)
       | (refine isD 18 ?_; refine WPl.rdX (ReadR.conv rfl hw) ?_)
       | (refine isD 19 ?_; refine WPl.rdX (ReadR.build (cs' := shC (fS i) (.slice none 0 0)) (by with_unfolding_all exact buildA)) ?_)
       | (refine isC 20 ?_; refine WPl.cO (c20) (fun v Γ1 hR => ?_) ?_; rotate_left; exact fpA; obtain ⟨F1, rfl, hp1, rfl⟩ := hR; (try dsimp only [putF, List.cons_append, List.nil_append]))
       | (refine isD 22 ?_; refine WPl.rdX (ReadR.binE rfl rfl BinR.eql (congrArg Value.bool (decide_eq_false (show ¬ (2 : Int) = 0 by omega)))) ?_)
       | (refine isD 24 ?_; refine WPl.rdX (ReadR.binE rfl rfl BinR.lss (congrArg Value.bool (decide_eq_false hlt8))) ?_)
       | (refine isD 25 ?_; refine WPl.rdX (ReadR.binE rfl rfl (BinR.neqB rfl) rfl) ?_)
       | (refine isD 28 ?_; refine WPl.rdX (ReadR.binE rfl rfl BinR.geq (congrArg Value.bool (decide_eq_true (by omega)))) ?_)
       | (refine isD 31 ?_; refine WPl.rdX (ReadR.binE rfl rfl BinR.neq (congrArg (fun q => Value.bool (!q)) (decide_eq_true (rfl : (2 : Int) = 2)))) ?_)
       | (refine isOp ?_; first | refine WPl.rd ?_ | refine WPl.sk ?_ | refine WPl.rdB ?_)
       | (show WPl _ _ _ _ _ _ _ (⟨_, .indexAddr _ _ _, _, _, _, _⟩ :: _) _; refine WPl.rdX (ReadR.indexE rfl rfl hasA (by first | assumption | omega)) ?_)
       | (show WPl _ _ _ _ _ _ _ (⟨_, .fieldAddr _ _ _, _, _, _, _⟩ :: _) _; refine WPl.rdX (ReadR.fieldE rfl hasA (by first | assumption | omega)) ?_)
       | (show WPl _ _ _ _ _ _ _ (⟨_, .load _ _, _, _, _, _⟩ :: _) _; first | refine WPl.rdX (ReadR.loadE rfl hasA (by assumption)) ?_ | refine WPl.rdX (ReadR.loadES (by assumption) (by first | assumption | omega) rfl hasA) ?_)
       | (show WPl _ _ _ _ _ _ _ (⟨_, .slice _ _ _ _ _, _, _, _, _⟩ :: _) _; first | refine WPl.rdX (ReadR.sliceH rfl rfl hasA (by omega)) ?_ | refine WPl.rdX (ReadR.sliceL rfl rfl hasA (by omega)) ?_ | refine WPl.rdX (ReadR.sliceLH rfl rfl rfl hasA (by omega) (by omega)) ?_)
       | (refine WPl.spQ (fun hc => ?_) (fun hc => ?_) <;> try first | exact prA | (exfalso; first | omega))
       | fail)
      exact WPq.rnd (i + 1, F1) ⟨hlt, hp1⟩ (by dsimp only; omega)
  have hi20 : i = 20 := by omega
  subst hi20
  have hlt' : ¬ ((20 : Nat) : Int) < 20 := by omega
  obtain ⟨a, ha⟩ : ∃ a, a = c.toNat % 8 := ⟨_, rfl⟩
  have ha8 : a < 8 := by omega
  have hw36 : ((c.toNat : Nat) : Int) % 8 = (a : Int) := by omega
  have hp : PInv (gL a 0) F := by rw [gL_0 a ha8]; exact hp
  repeat' (first
   | refine WPl.nil ?_ | refine WPq.then ?_ | refine WPq.thenR ?_ | refine WPq.thenE ?_ | refine WPq.blockN ?_ | refine WPq.blockR ?_ | refine WPq.blockE ?_ | refine WPq.blockO rfl ?_ | refine WPc.seq ?_ | refine WPc.block ?_ | refine WPc.ret ?_ | refine WPc.exit ?_ | refine WPc.skip ?_ | refine WPc.region ?_
   | (refine isCond ?_; first | refine WPc.cT ?_ | refine WPc.cF ?_ | (refine WPc.cQ (fun hc => ?_) (fun hc => ?_) <;> try first | exact prA | (exfalso; first | omega)))
   | (refine isD 11 ?_; refine WPl.rdX (ReadR.binE rfl rfl BinR.lss (congrArg Value.bool (decide_eq_false hlt'))) ?_)
   | (refine isOp ?_; first | refine WPl.rd ?_ | refine WPl.sk ?_ | refine WPl.rdB ?_)
   | (show WPl _ _ _ _ _ _ _ (⟨_, .indexAddr _ _ _, _, _, _, _⟩ :: _) _; refine WPl.rdX (ReadR.indexE rfl rfl hasA (by first | assumption | omega)) ?_)
   | (show WPl _ _ _ _ _ _ _ (⟨_, .fieldAddr _ _ _, _, _, _, _⟩ :: _) _; refine WPl.rdX (ReadR.fieldE rfl hasA (by first | assumption | omega)) ?_)
   | (show WPl _ _ _ _ _ _ _ (⟨_, .load _ _, _, _, _, _⟩ :: _) _; first | refine WPl.rdX (ReadR.loadE rfl hasA (by assumption)) ?_ | refine WPl.rdX (ReadR.loadES (by assumption) (by first | assumption | omega) rfl hasA) ?_)
   | (show WPl _ _ _ _ _ _ _ (⟨_, .slice _ _ _ _ _, _, _, _, _⟩ :: _) _; first | refine WPl.rdX (ReadR.sliceH rfl rfl hasA (by omega)) ?_ | refine WPl.rdX (ReadR.sliceL rfl rfl hasA (by omega)) ?_ | refine WPl.rdX (ReadR.sliceLH rfl rfl rfl hasA (by omega) (by omega)) ?_)
   | (refine WPl.spQ (fun hc => ?_) (fun hc => ?_) <;> try first | exact prA | (exfalso; first | omega))
   | fail)
  rw [hw36]
  clear hi hw36 ha
  first | refine WPc.loop (σ := Nat × FM) (fun st => st.1 ≤ 20 ∧ PInv (gL a (min st.1 16)) st.2) (fun st => [rowN 36 21 (.slice none 0 0) 0 [], rowN 3 1 (.slice none 0 0) 0 [], bx gF 66 (fac mi md), mp idM mi (ies st.2.ps), mp drM md st.2.ds, gbag prow st.2.ps]) (fun st => [(3, hF gF), (6, .int .i64 (a : Int)), (7, .int .i64 (st.1 : Int))]) (fun st => 20 - st.1) ((0, F)) ?_ takesA frsA (fun st km hx hk => ?_)
  · exact ⟨Nat.zero_le _, hp⟩
  clear hp
  obtain ⟨k, F⟩ := st
  obtain ⟨hi, hp⟩ := hx
  dsimp only at hi hp hk ⊢
  have hkm2 : km = 20 - k := hk
  clear hk
  have ha64 : in64 (a : Int) := ⟨by omega, by omega⟩
  by_cases hlt : k < 20
  · have hlt'' : (k : Int) < 20 := by omega
    have c46 := gaddB_t gF mi md (gL a (min k 16)) F hp (a : Int) (fB (19 - (k : Int))) ha64
    rw [gL_add a ha8 k hlt] at c46
    by_cases h8 : k < 16
    · have hlt8 : (k : Int) < 16 := by omega
      rw [if_pos h8] at c46
      repeat' (first
       | refine WPl.nil ?_ | refine WPq.then ?_ | refine WPq.thenR ?_ | refine WPq.thenE ?_ | refine WPq.blockN ?_ | refine WPq.blockR ?_ | refine WPq.blockE ?_ | refine WPq.blockO rfl ?_ | refine WPc.seq ?_ | refine WPc.block ?_ | refine WPc.ret ?_ | refine WPc.exit ?_ | refine WPc.skip ?_ | refine WPc.region ?_
       | (refine isCond ?_; first | refine WPc.cT ?_ | refine WPc.cF ?_ | (refine WPc.cQ (fun hc => ?_) (fun hc => ?_) <;> try first | exact prA | (exfalso; first | omega)))
       | (refine isD 38 ?_; refine WPl.rdX (ReadR.binE rfl rfl BinR.lss (congrArg Value.bool (decide_eq_true hlt''))) ?_)
       | (refine isD 44 ?_; refine WPl.rdX (ReadR.binE rfl rfl (BinR.subI (by omega) (by omega)) rfl) ?_)
       | (refine isD 45 ?_; refine WPl.rdX (ReadR.build (cs' := bkC (fB (19 - (k : Int)))) (by with_unfolding_all exact buildA)) ?_)
       | (refine isC 46 ?_; refine WPl.cXs (c46) fun v Γ1 hR => ?_; obtain ⟨F1, rfl, hp1, rfl⟩ := hR; (try dsimp only [putF, List.cons_append, List.nil_append]))
       | (refine isD 48 ?_; refine WPl.rdX (ReadR.binE rfl rfl BinR.eql (congrArg Value.bool (decide_eq_true (show (0 : Int) = 0 from rfl)))) ?_)
       | (refine isD 50 ?_; refine WPl.rdX (ReadR.binE rfl rfl BinR.lss (congrArg Value.bool (decide_eq_true hlt8))) ?_)
       | (refine isD 51 ?_; refine WPl.rdX (ReadR.binE rfl rfl (BinR.neqB rfl) rfl) ?_)
       | (refine isD 54 ?_; refine WPl.rdX (ReadR.binE rfl rfl BinR.geq (congrArg Value.bool (decide_eq_false (by omega)))) ?_)
       | (refine isOp ?_; first | refine WPl.rd ?_ | refine WPl.sk ?_ | refine WPl.rdB ?_)
       | (show WPl _ _ _ _ _ _ _ (⟨_, .indexAddr _ _ _, _, _, _, _⟩ :: _) _; refine WPl.rdX (ReadR.indexE rfl rfl hasA (by first | assumption | omega)) ?_)
       | (show WPl _ _ _ _ _ _ _ (⟨_, .fieldAddr _ _ _, _, _, _, _⟩ :: _) _; refine WPl.rdX (ReadR.fieldE rfl hasA (by first | assumption | omega)) ?_)
       | (show WPl _ _ _ _ _ _ _ (⟨_, .load _ _, _, _, _, _⟩ :: _) _; first | refine WPl.rdX (ReadR.loadE rfl hasA (by assumption)) ?_ | refine WPl.rdX (ReadR.loadES (by assumption) (by first | assumption | omega) rfl hasA) ?_)
       | (show WPl _ _ _ _ _ _ _ (⟨_, .slice _ _ _ _ _, _, _, _, _⟩ :: _) _; first | refine WPl.rdX (ReadR.sliceH rfl rfl hasA (by omega)) ?_ | refine WPl.rdX (ReadR.sliceL rfl rfl hasA (by omega)) ?_ | refine WPl.rdX (ReadR.sliceLH rfl rfl rfl hasA (by omega) (by omega)) ?_)
       | (refine WPl.spQ (fun hc => ?_) (fun hc => ?_) <;> try first | exact prA | (exfalso; first | omega))
       | fail)
      exact WPq.rnd (k + 1, F1) ⟨hlt, hp1⟩ (by dsimp only; omega)
    · have hlt8 : ¬ (k : Int) < 16 := by omega
      rw [if_neg h8] at c46
      repeat' (first
       | refine WPl.nil ?_ | refine WPq.then ?_ | refine WPq.thenR ?_ | refine WPq.thenE ?_ | refine WPq.blockN ?_ | refine WPq.blockR ?_ | refine WPq.blockE ?_ | refine WPq.blockO rfl ?_ | refine WPc.seq ?_ | refine WPc.block ?_ | refine WPc.ret ?_ | refine WPc.exit ?_ | refine WPc.skip ?_ | refine WPc.region ?_
       | (refine isCond ?_; first | refine WPc.cT ?_ | refine WPc.cF ?_ | (refine WPc.cQ (fun hc => ?_) (fun hc => ?_) <;> try first | exact prA | (exfalso; first | omega)))
       | (refine isD 38 ?_; refine WPl.rdX (ReadR.binE rfl rfl BinR.lss (congrArg Value.bool (decide_eq_true hlt''))) ?_)
       | (refine isD 44 ?_; refine WPl.rdX (ReadR.binE rfl rfl (BinR.subI (by omega) (by omega)) rfl) ?_)
       | (refine isD 45 ?_; refine WPl.rdX (ReadR.build (cs' := bkC (fB (19 - (k : Int)))) (by with_unfolding_all exact buildA)) ?_)
       | (refine isC 46 ?_; refine WPl.cXs (c46) fun v Γ1 hR => ?_; obtain ⟨F1, rfl, hp1, rfl⟩ := hR; (try dsimp only [putF, List.cons_append, List.nil_append]))
       | (refine isD 48 ?_; refine WPl.rdX (ReadR.binE rfl rfl BinR.eql (congrArg Value.bool (decide_eq_false (show ¬ (2 : Int) = 0 by omega)))) ?_)
       | (refine isD 50 ?_; refine WPl.rdX (ReadR.binE rfl rfl BinR.lss (congrArg Value.bool (decide_eq_false hlt8))) ?_)
       | (refine isD 51 ?_; refine WPl.rdX (ReadR.binE rfl rfl (BinR.neqB rfl) rfl) ?_)
       | (refine isD 54 ?_; refine WPl.rdX (ReadR.binE rfl rfl BinR.geq (congrArg Value.bool (decide_eq_true (by omega)))) ?_)
       | (refine isD 57 ?_; refine WPl.rdX (ReadR.binE rfl rfl BinR.neq (congrArg (fun q => Value.bool (!q)) (decide_eq_true (rfl : (2 : Int) = 2)))) ?_)
       | (refine isOp ?_; first | refine WPl.rd ?_ | refine WPl.sk ?_ | refine WPl.rdB ?_)
       | (show WPl _ _ _ _ _ _ _ (⟨_, .indexAddr _ _ _, _, _, _, _⟩ :: _) _; refine WPl.rdX (ReadR.indexE rfl rfl hasA (by first | assumption | omega)) ?_)
       | (show WPl _ _ _ _ _ _ _ (⟨_, .fieldAddr _ _ _, _, _, _, _⟩ :: _) _; refine WPl.rdX (ReadR.fieldE rfl hasA (by first | assumption | omega)) ?_)
       | (show WPl _ _ _ _ _ _ _ (⟨_, .load _ _, _, _, _, _⟩ :: _) _; first | refine WPl.rdX (ReadR.loadE rfl hasA (by assumption)) ?_ | refine WPl.rdX (ReadR.loadES (by assumption) (by first | assumption | omega) rfl hasA) ?_)
       | (show WPl _ _ _ _ _ _ _ (⟨_, .slice _ _ _ _ _, _, _, _, _⟩ :: _) _; first | refine WPl.rdX (ReadR.sliceH rfl rfl hasA (by omega)) ?_ | refine WPl.rdX (ReadR.sliceL rfl rfl hasA (by omega)) ?_ | refine WPl.rdX (ReadR.sliceLH rfl rfl rfl hasA (by omega) (by omega)) ?_)
       | (refine WPl.spQ (fun hc => ?_) (fun hc => ?_) <;> try first | exact prA | (exfalso; first | omega))
       | fail)
      exact WPq.rnd (k + 1, F1) ⟨hlt, hp1⟩ (by dsimp only; omega)
  have hk20 : k = 20 := by omega
  subst hk20
  have hp : PInv (gL a 16) F := hp
  have hlt'' : ¬ ((20 : Nat) : Int) < 20 := by omega
  have hfd := gL_find a ha8
  obtain ⟨A, B, x, hps, hxb, hxi, hm⟩ := hp.at hfd
  have hxL := (findS_some hfd).1
  have hxl : x.bs.length ≤ 16 := by have := hp.blen _ hxL; rw [← hxb] at this; exact this
  have c62 := gshares1_t gF mi md F (a : Int) ha64 x hm hxl (.slice none 0 0) [] (by simp)
  have hxbs : x.bs = fBs 16 := congrArg Sb.bs hxb
  have hsh : (sharesB x.bs []).length = 16 := by rw [hxbs]; exact fBs_shares
  rw [hsh] at c62
  obtain ⟨shx, hshx⟩ : ∃ shx, shx = shrs (sharesB x.bs []) := ⟨_, rfl⟩
  rw [← hshx] at c62
  have c68 := gdrop1_t gF mi md (gL a 16) F hp (a : Int) ha64 _ hfd
  have hdr := gL_drop a ha8
  obtain ⟨Ld, hLd⟩ : ∃ Ld, Ld = (gL a 16).filter fun x => !decide (x.s.id = (a : Int)) := ⟨_, rfl⟩
  rw [← hLd] at c68 hdr
  have c73 := fun F' (h : PInv Ld F') => gids_t gF mi md Ld F' h
  rw [hdr] at c73
  repeat' (first
   | refine WPl.nil ?_ | refine WPq.then ?_ | refine WPq.thenR ?_ | refine WPq.thenE ?_ | refine WPq.blockN ?_ | refine WPq.blockR ?_ | refine WPq.blockE ?_ | refine WPq.blockO rfl ?_ | refine WPc.seq ?_ | refine WPc.block ?_ | refine WPc.ret ?_ | refine WPc.exit ?_ | refine WPc.skip ?_ | refine WPc.region ?_
   | (refine isCond ?_; first | refine WPc.cT ?_ | refine WPc.cF ?_ | (refine WPc.cQ (fun hc => ?_) (fun hc => ?_) <;> try first | exact prA | (exfalso; first | omega)))
   | (refine isD 38 ?_; refine WPl.rdX (ReadR.binE rfl rfl BinR.lss (congrArg Value.bool (decide_eq_false hlt''))) ?_)
   | (refine isOp ?_; first | refine WPl.rd ?_ | refine WPl.sk ?_ | refine WPl.rdB ?_)
   | (show WPl _ _ _ _ _ _ _ (⟨_, .indexAddr _ _ _, _, _, _, _⟩ :: _) _; refine WPl.rdX (ReadR.indexE rfl rfl hasA (by first | assumption | omega)) ?_)
   | (show WPl _ _ _ _ _ _ _ (⟨_, .fieldAddr _ _ _, _, _, _, _⟩ :: _) _; refine WPl.rdX (ReadR.fieldE rfl hasA (by first | assumption | omega)) ?_)
   | (show WPl _ _ _ _ _ _ _ (⟨_, .load _ _, _, _, _, _⟩ :: _) _; first | refine WPl.rdX (ReadR.loadE rfl hasA (by assumption)) ?_ | refine WPl.rdX (ReadR.loadES (by assumption) (by first | assumption | omega) rfl hasA) ?_)
   | (show WPl _ _ _ _ _ _ _ (⟨_, .slice _ _ _ _ _, _, _, _, _⟩ :: _) _; first | refine WPl.rdX (ReadR.sliceH rfl rfl hasA (by omega)) ?_ | refine WPl.rdX (ReadR.sliceL rfl rfl hasA (by omega)) ?_ | refine WPl.rdX (ReadR.sliceLH rfl rfl rfl hasA (by omega) (by omega)) ?_)
   | (refine WPl.spQ (fun hc => ?_) (fun hc => ?_) <;> try first | exact prA | (exfalso; first | omega))
   | fail)
  have hxm : x ∈ F.ps := by rw [hps]; simp
  have hb1 : bx x.g 33 (shC x.s x.v) ∈ prow x := by unfold prow; exact List.mem_cons_self ..
  have hb2 : rowN 36 21 x.v x.bs.length (bks x.bs) ∈ prow x := by unfold prow; exact List.mem_cons_of_mem _ (List.mem_cons_self ..)
  have hrd : HasS [rowN 36 21 (.slice none 0 0) 0 [], rowN 3 1 (.slice none 0 0) 0 [], bx gF 66 (fac mi md), mp idM mi (ies F.ps), mp drM md F.ds, gbag prow F.ps] x.v x.bs.length (bks x.bs) := HasS.gbag (row := prow) (es := F.ps) memA hxm hb2
  refine WPl.callR c62 (by first | exact ⟨rfl, rfl, rfl, trivial⟩ | rfl | decide) (.cons (Prov.bx memA) (.cons (Prov.mp memA) (.cons (Prov.gbag (B := rbx x.g 33 (shC x.s x.v)) memA hxm hb1 rfl fun _ h => h) (.cons (Prov.rd hrd) provsA)))) rfl rfl rfl fun v62 hv62 => ?_
  repeat' (first
   | refine WPl.nil ?_ | refine WPq.then ?_ | refine WPq.thenR ?_ | refine WPq.thenE ?_ | refine WPq.blockN ?_ | refine WPq.blockR ?_ | refine WPq.blockE ?_ | refine WPq.blockO rfl ?_ | refine WPc.seq ?_ | refine WPc.block ?_ | refine WPc.ret ?_ | refine WPc.exit ?_ | refine WPc.skip ?_ | refine WPc.region ?_
   | (refine isCond ?_; first | refine WPc.cT ?_ | refine WPc.cF ?_ | (refine WPc.cQ (fun hc => ?_) (fun hc => ?_) <;> try exact prA))
   | (refine isD 64 ?_; refine WPl.rdX (ReadR.binE rfl rfl BinR.eql (congrArg Value.bool (decide_eq_true (show (16 : Int) = 16 from rfl)))) ?_)
   | (refine isC 68 ?_; refine WPl.cXs (c68) fun v Γ1 hR => ?_; obtain ⟨F2, rfl, hp2, rfl⟩ := hR; (try dsimp only [putF, List.cons_append, List.nil_append]))
   | (refine isD 69 ?_; refine WPl.rdX (ReadR.binE rfl rfl BinR.eql (congrArg Value.bool (decide_eq_true (show (0 : Int) = 0 from rfl)))) ?_)
   | (refine isC 73 ?_; refine WPl.cR (c73 F2 hp2) (fun v73 hv73 => ?_) (hΔ := provsM))
   | (refine isD 75 ?_; refine WPl.rdX (ReadR.binE rfl rfl BinR.eql (congrArg Value.bool (decide_eq_true (show (7 : Int) = 7 from rfl)))) ?_)
   | (refine isC 78 ?_; refine WPl.cV (clv) ?_)
   | (refine isOp ?_; first | refine WPl.rd ?_ | refine WPl.sk ?_ | refine WPl.rdB ?_)
   | (show WPl _ _ _ _ _ _ _ (⟨_, .indexAddr _ _ _, _, _, _, _⟩ :: _) _; refine WPl.rdX (ReadR.indexE rfl rfl hasA (by first | assumption | omega)) ?_)
   | (show WPl _ _ _ _ _ _ _ (⟨_, .fieldAddr _ _ _, _, _, _, _⟩ :: _) _; refine WPl.rdX (ReadR.fieldE rfl hasA (by first | assumption | omega)) ?_)
   | (show WPl _ _ _ _ _ _ _ (⟨_, .load _ _, _, _, _, _⟩ :: _) _; first | refine WPl.rdX (ReadR.loadE rfl hasA (by assumption)) ?_ | refine WPl.rdX (ReadR.loadES (by assumption) (by first | assumption | omega) rfl hasA) ?_)
   | (show WPl _ _ _ _ _ _ _ (⟨_, .slice _ _ _ _ _, _, _, _, _⟩ :: _) _; first | refine WPl.rdX (ReadR.sliceH rfl rfl hasA (by omega)) ?_ | refine WPl.rdX (ReadR.sliceL rfl rfl hasA (by omega)) ?_ | refine WPl.rdX (ReadR.sliceLH rfl rfl rfl hasA (by omega) (by omega)) ?_)
   | (refine WPl.spQ (fun hc => ?_) (fun hc => ?_) <;> try exact prA)
   | fail)
  exact WPq.dV
end Go.Proofs.Ytpjfkomicehinaa
