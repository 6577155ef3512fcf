/- Layer 3 (dev): contracts: New, Read, Write. -/
import Derived.Test.YtepmikgjnmjheaaDw
namespace Go.Proofs.Ytepmikgjnmjheaa
open Go.RowKit
set_option linter.unusedSimpArgs false
set_option linter.unusedVariables false
set_option maxRecDepth 20000
set_option maxHeartbeats 4000000
attribute [local irreducible] WPc WPl WPq ReadR OpT BinR HasS bx rdN rowN Take Takes Prov Triple ResF BuildP Done ag Int.decLt Int.decLe Int.instDecidableEq
attribute [local irreducible] mp rmp rg rgo bag vrow secs mput mget mfind mdel
abbrev f4 : List Int := [-1, -1, -1, -1]
def DevL (gV mD : Nat) (vd : Value) (fu : List Int) (ls : List Sec) (es : List (Int × Vs)) (cn : Int) : List Asn :=
  [bx gV 79 (dvc fu vd mD cn), rowN 81 256 vd ls.length (secs ls), mp secM mD es, bag es]
def RNewD (n : Nat) : Value → List Asn → Prop := fun v Γ => ∃ gV mD vd, v = .tuple #[hD gV, .int .i64 0] ∧ vd.oneCell' = true ∧ Γ = [bx gV 79 (dvc f4 vd mD 0), rowN 81 256 vd (List.replicate n (secF 0)).length (secs (List.replicate n (secF 0))), mp secM mD [], bag []]
theorem intsV_one (l : List Int) : ∀ v, v ∈ intsV l → v.oneCell' = true := by
  intro v hv
  unfold intsV at hv
  obtain ⟨a, _, rfl⟩ := List.mem_map.1 hv
  rfl
theorem dvc_ok {fu : List Int} {vd : Value} {mD : Nat} {cn : Int} (h4 : fu.length = 4) (hv : vd.oneCell' = true) : FOk (dvc fu vd mD cn) := FOk.seg (by rw [intsV_len, h4]) (intsV_one fu) (.one1 hv (.one1 rfl (.one1 rfl .nil)))
theorem newNo_t (n : Int) (hn : n < 16 ∨ 1600 < n) :
    Triple Try.prog 12 #[.int .i64 n] [] (RVal (.tuple #[.pointer none, .int .i64 1])) := by
  refine Triple.enter Try.func12 rfl Try.ntmps12 rfl (fun W => ?_)
  dsimp only [argsF, Nat.reduceAdd]
  repeat' (first
   | refine WPl.nil ?_ | refine WPq.then ?_ | refine WPq.thenR ?_ | refine WPq.thenE ?_ | refine WPq.blockN ?_ | refine WPq.blockR ?_ | refine WPq.blockE ?_ | refine WPq.blockO rfl ?_ | refine WPc.seq ?_ | refine WPc.block ?_ | refine WPc.ret ?_ | refine WPc.exit ?_ | refine WPc.skip ?_ | refine WPc.region ?_
   | (refine isCond ?_; first | refine WPc.cT ?_ | refine WPc.cF ?_ | (refine WPc.cQ (fun hc => ?_) (fun hc => ?_) <;> try first | exact prA | (exfalso; first | omega)))
   | (refine isMk ?_; refine WPl.mk fun v hv => ?_)
   | (refine isOp ?_; first | refine WPl.rd ?_ | refine WPl.sk ?_ | refine WPl.rdB ?_)
   | (refine isBx ?_; refine WPl.nw fun g => ?_)
   | (show WPl _ _ _ _ _ _ _ (⟨_, .indexAddr _ _ _, _, _, _, _⟩ :: _) _; refine WPl.rdX (ReadR.indexE rfl rfl hasA (by first | assumption | omega)) ?_)
   | (show WPl _ _ _ _ _ _ _ (⟨_, .fieldAddr _ _ _, _, _, _, _⟩ :: _) _; refine WPl.rdX (ReadR.fieldE rfl hasA (by first | assumption | omega)) ?_)
   | (show WPl _ _ _ _ _ _ _ (⟨_, .load _ _, _, _, _, _⟩ :: _) _; first | refine WPl.rdX (ReadR.loadE rfl hasA (by assumption)) ?_ | refine WPl.rdX (ReadR.loadES (by assumption) (by first | assumption | omega) rfl hasA) ?_)
   | (show WPl _ _ _ _ _ _ _ (⟨_, .slice _ _ _ _ _, _, _, _, _⟩ :: _) _; first | refine WPl.rdX (ReadR.sliceH rfl rfl hasA (by omega)) ?_ | refine WPl.rdX (ReadR.sliceL rfl rfl hasA (by omega)) ?_ | refine WPl.rdX (ReadR.sliceLH rfl rfl rfl hasA (by omega) (by omega)) ?_)
   | (refine WPl.spQ (fun hc => ?_) (fun hc => ?_) <;> try first | exact prA | (exfalso; first | omega))
   | fail)
  all_goals exact WPq.dV
theorem new_t (n : Nat) (h16 : 16 ≤ n) (hn : n ≤ 1600) :
    Triple Try.prog 12 #[.int .i64 (n : Int)] [] (RNewD n) := by
  have hcl := clr_secs n
  refine Triple.enter Try.func12 rfl Try.ntmps12 rfl (fun W => ?_)
  dsimp only [argsF, Nat.reduceAdd]
  repeat' (first
   | refine WPl.nil ?_ | refine WPq.then ?_ | refine WPq.thenR ?_ | refine WPq.thenE ?_ | refine WPq.blockN ?_ | refine WPq.blockR ?_ | refine WPq.blockE ?_ | refine WPq.blockO rfl ?_ | refine WPc.seq ?_ | refine WPc.block ?_ | refine WPc.ret ?_ | refine WPc.exit ?_ | refine WPc.skip ?_ | refine WPc.region ?_
   | (refine isCond ?_; first | refine WPc.cT ?_ | refine WPc.cF ?_ | (refine WPc.cQ (fun hc => ?_) (fun hc => ?_) <;> try first | exact prA | (exfalso; first | omega)))
   | (refine isD 12 ?_; refine WPl.mkN n (by omega) fun vd hvd => ?_)
   | (refine isD 13 ?_; refine WPl.mnew secM fun mD => ?_)
   | (refine isD 15 ?_; refine WPl.boxC (dvc [0, 0, 0, 0] vd mD 0) (dvc_ok rfl hvd) rfl (fun gV => ?_))
   | (refine isC 19 ?_; refine WPl.cTs (fclear_t gV mD vd [0, 0, 0, 0] 0 rfl) ?_; (try dsimp only [putF, List.cons_append, List.nil_append]))
   | (refine isMk ?_; refine WPl.mk fun v hv => ?_)
   | (refine isOp ?_; first | refine WPl.rd ?_ | refine WPl.sk ?_ | refine WPl.rdB ?_)
   | (refine isBx ?_; refine WPl.nw fun g => ?_)
   | (show WPl _ _ _ _ _ _ _ (⟨_, .indexAddr _ _ _, _, _, _, _⟩ :: _) _; refine WPl.rdX (ReadR.indexE rfl rfl hasA (by first | assumption | omega)) ?_)
   | (show WPl _ _ _ _ _ _ _ (⟨_, .fieldAddr _ _ _, _, _, _, _⟩ :: _) _; refine WPl.rdX (ReadR.fieldE rfl hasA (by first | assumption | omega)) ?_)
   | (show WPl _ _ _ _ _ _ _ (⟨_, .load _ _, _, _, _, _⟩ :: _) _; first | refine WPl.rdX (ReadR.loadE rfl hasA (by assumption)) ?_ | refine WPl.rdX (ReadR.loadES (by assumption) (by first | assumption | omega) rfl hasA) ?_)
   | (show WPl _ _ _ _ _ _ _ (⟨_, .slice _ _ _ _ _, _, _, _, _⟩ :: _) _; first | refine WPl.rdX (ReadR.sliceH rfl rfl hasA (by omega)) ?_ | refine WPl.rdX (ReadR.sliceL rfl rfl hasA (by omega)) ?_ | refine WPl.rdX (ReadR.sliceLH rfl rfl rfl hasA (by omega) (by omega)) ?_)
   | (refine WPl.spQ (fun hc => ?_) (fun hc => ?_) <;> try first | exact prA | (exfalso; first | omega))
   | fail)
  all_goals refine WPq.bag0 ?_
  rw [hcl]
  exact WPq.dX (ho := ownsV) (vs := [hD gV, .int .i64 0]) [bx gV 79 (dvc f4 vd mD 0), rowN 81 256 vd n (secs (List.replicate n (secF 0))), mp secM mD [], bag []] ⟨gV, mD, vd, rfl, hvd, by rw [List.length_replicate]⟩
section
variable (gV mD : Nat) (vd : Value) (fu : List Int) (cn : Int) (ls : List Sec) (es : List (Int × Vs))
def nowS (s : Sec) (es : List (Int × Vs)) (j : Nat) : Sec := match mfind es (j : Int) with
  | some y => y.ws.getLastD s
  | none => s
/-- What waits: keys that are sectors, and nothing empty. -/
def EOk (n : Nat) (es : List (Int × Vs)) : Prop := ∀ y ∈ es, (∃ j : Nat, y.1 = (j : Int) ∧ j < n) ∧ y.2.ws ≠ [] ∧ y.2.ws.length ≤ 100000
def RRead (b : List UInt8) (er : Int) (Γd : List Asn) : Value → List Asn → Prop := fun v Γ => ∃ s, v = .tuple #[s, .int .i64 er] ∧ s.oneCell' = true ∧ Γ = hdN s b.length (u8s b) :: Γd
theorem readNo_t (i : Int) (hi : i < 0 ∨ (ls.length : Int) ≤ i) (hn : ls.length ≤ 1000000) :
    Triple Try.prog 16 #[hD gV, .int .i64 i] [(bx gV 79 (dvc fu vd mD cn)), (rowN 81 256 vd (List.length ls) (secs ls))] (RRead [] 1 [(bx gV 79 (dvc fu vd mD cn)), (rowN 81 256 vd (List.length ls) (secs ls))]) := by
  have c1 := has_t gV mD vd fu cn i ls hn
  rw [show (decide (0 ≤ i) && decide (i < (ls.length : Int))) = false by simp; omega] at c1
  refine Triple.enter Try.func16 rfl Try.ntmps16 rfl (fun W => ?_)
  dsimp only [argsF, Nat.reduceAdd]
  repeat' (first
   | refine WPl.nil ?_ | refine WPq.then ?_ | refine WPq.thenR ?_ | refine WPq.thenE ?_ | refine WPq.blockN ?_ | refine WPq.blockR ?_ | refine WPq.blockE ?_ | refine WPq.blockO rfl ?_ | refine WPc.seq ?_ | refine WPc.block ?_ | refine WPc.ret ?_ | refine WPc.exit ?_ | refine WPc.skip ?_ | refine WPc.region ?_
   | (refine isCond ?_; first | refine WPc.cT ?_ | refine WPc.cF ?_ | (refine WPc.cQ (fun hc => ?_) (fun hc => ?_) <;> try exact prA))
   | (refine isC 10 ?_; refine WPl.cV c1 ?_ (hΔ := provsG))
   | (refine isOp ?_; first | refine WPl.rd ?_ | refine WPl.sk ?_ | refine WPl.rdB ?_)
   | (refine isAl ?_; refine WPl.nw fun g => ?_)
   | (refine isSt ?_; first | refine WPl.st1 ?_ | refine WPl.stA ?_ | refine WPl.stEB ?_ | refine WPl.stRB ?_)
   | (show WPl _ _ _ _ _ _ _ (⟨_, .indexAddr _ _ _, _, _, _, _⟩ :: _) _; refine WPl.rdX (ReadR.indexE rfl rfl hasA (by first | assumption | omega)) ?_)
   | (show WPl _ _ _ _ _ _ _ (⟨_, .fieldAddr _ _ _, _, _, _, _⟩ :: _) _; refine WPl.rdX (ReadR.fieldE rfl hasA (by first | assumption | omega)) ?_)
   | (show WPl _ _ _ _ _ _ _ (⟨_, .load _ _, _, _, _, _⟩ :: _) _; first | refine WPl.rdX (ReadR.loadE rfl hasA (by assumption)) ?_ | refine WPl.rdX (ReadR.loadES (by assumption) (by first | assumption | omega) rfl hasA) ?_)
   | (show WPl _ _ _ _ _ _ _ (⟨_, .slice _ _ _ _ _, _, _, _, _⟩ :: _) _; first | refine WPl.rdX (ReadR.sliceH rfl rfl hasA (by omega)) ?_ | refine WPl.rdX (ReadR.sliceL rfl rfl hasA (by omega)) ?_ | refine WPl.rdX (ReadR.sliceLH rfl rfl rfl hasA (by omega) (by omega)) ?_)
   | (refine WPl.spQ (fun hc => ?_) (fun hc => ?_) <;> try exact prA)
   | fail)
  all_goals refine WPq.nilHd ?_
  exact WPq.dX (ho := ownsV) (vs := [.slice none 0 0, .int .i64 1]) _ ⟨_, rfl, rfl, rfl⟩
theorem readN_t (i : Int) :
    Triple Try.prog 16 #[.pointer none, .int .i64 i] [] (RVal (.tuple #[.slice none 0 0, .int .i64 1])) := by
  have c1 := hasN_t i
  refine Triple.enter Try.func16 rfl Try.ntmps16 rfl (fun W => ?_)
  dsimp only [argsF, Nat.reduceAdd]
  repeat' (first
   | refine WPl.nil ?_ | refine WPq.then ?_ | refine WPq.thenR ?_ | refine WPq.thenE ?_ | refine WPq.blockN ?_ | refine WPq.blockR ?_ | refine WPq.blockE ?_ | refine WPq.blockO rfl ?_ | refine WPc.seq ?_ | refine WPc.block ?_ | refine WPc.ret ?_ | refine WPc.exit ?_ | refine WPc.skip ?_ | refine WPc.region ?_
   | (refine isCond ?_; first | refine WPc.cT ?_ | refine WPc.cF ?_ | (refine WPc.cQ (fun hc => ?_) (fun hc => ?_) <;> try exact prA))
   | (refine isC 10 ?_; refine WPl.cV c1 ?_ (hΔ := provsG))
   | (refine isOp ?_; first | refine WPl.rd ?_ | refine WPl.sk ?_ | refine WPl.rdB ?_)
   | (refine isAl ?_; refine WPl.nw fun g => ?_)
   | (refine isSt ?_; first | refine WPl.st1 ?_ | refine WPl.stA ?_ | refine WPl.stEB ?_ | refine WPl.stRB ?_)
   | (show WPl _ _ _ _ _ _ _ (⟨_, .indexAddr _ _ _, _, _, _, _⟩ :: _) _; refine WPl.rdX (ReadR.indexE rfl rfl hasA (by first | assumption | omega)) ?_)
   | (show WPl _ _ _ _ _ _ _ (⟨_, .fieldAddr _ _ _, _, _, _, _⟩ :: _) _; refine WPl.rdX (ReadR.fieldE rfl hasA (by first | assumption | omega)) ?_)
   | (show WPl _ _ _ _ _ _ _ (⟨_, .load _ _, _, _, _, _⟩ :: _) _; first | refine WPl.rdX (ReadR.loadE rfl hasA (by assumption)) ?_ | refine WPl.rdX (ReadR.loadES (by assumption) (by first | assumption | omega) rfl hasA) ?_)
   | (show WPl _ _ _ _ _ _ _ (⟨_, .slice _ _ _ _ _, _, _, _, _⟩ :: _) _; first | refine WPl.rdX (ReadR.sliceH rfl rfl hasA (by omega)) ?_ | refine WPl.rdX (ReadR.sliceL rfl rfl hasA (by omega)) ?_ | refine WPl.rdX (ReadR.sliceLH rfl rfl rfl hasA (by omega) (by omega)) ?_)
   | (refine WPl.spQ (fun hc => ?_) (fun hc => ?_) <;> try exact prA)
   | fail)
  all_goals exact WPq.dV
theorem read_t (j : Nat) (a : Int) (hj : j < ls.length) (hn : ls.length ≤ 1000000) (h4 : fu.length = 4) (ha : fu[1]? = some a) (hlo : -1 ≤ a) (hhi : a ≤ 9223372036854775807) (hok : EOk ls.length es) :
    Triple Try.prog 16 #[hD gV, .int .i64 (j : Int)] [(bx gV 79 (dvc fu vd mD cn)), (rowN 81 256 vd (List.length ls) (secs ls)), mp secM mD es, bag es] (RRead (if a = 0 then [] else (nowS ls[j] es j).b) (if a = 0 then 3 else 0) [(bx gV 79 (dvc (fburn fu 1 a) vd mD cn)), (rowN 81 256 vd (List.length ls) (secs ls)), mp secM mD es, bag es]) := by
  have c1 := has_t gV mD vd fu cn (j : Int) ls hn
  rw [show (decide (0 ≤ (j : Int)) && decide ((j : Int) < (ls.length : Int))) = true by simp; omega] at c1
  have c2 := burns_t gV mD vd fu cn 1 a h4 (by omega) ha hlo hhi
  have hin : in64 (j : Int) := by unfold in64; omega
  by_cases h0 : a = 0
  · rw [show decide (a = 0) = true by simpa using h0] at c2
    rw [if_pos h0, if_pos h0]
    refine Triple.enter Try.func16 rfl Try.ntmps16 rfl (fun W => ?_)
    dsimp only [argsF, Nat.reduceAdd]
    repeat' (first
     | refine WPl.nil ?_ | refine WPq.then ?_ | refine WPq.thenR ?_ | refine WPq.thenE ?_ | refine WPq.blockN ?_ | refine WPq.blockR ?_ | refine WPq.blockE ?_ | refine WPq.blockO rfl ?_ | refine WPc.seq ?_ | refine WPc.block ?_ | refine WPc.ret ?_ | refine WPc.exit ?_ | refine WPc.skip ?_ | refine WPc.region ?_
     | (refine isCond ?_; first | refine WPc.cT ?_ | refine WPc.cF ?_ | (refine WPc.cQ (fun hc => ?_) (fun hc => ?_) <;> try exact prA))
     | (refine isC 10 ?_; refine WPl.cV c1 ?_ (hΔ := provsG))
     | (refine isC 16 ?_; refine WPl.cTs (c2) ?_; (try dsimp only [putF, List.cons_append, List.nil_append]))
     | (refine isOp ?_; first | refine WPl.rd ?_ | refine WPl.sk ?_ | refine WPl.rdB ?_)
     | (refine isAl ?_; refine WPl.nw fun g => ?_)
     | (refine isSt ?_; first | refine WPl.st1 ?_ | refine WPl.stA ?_ | refine WPl.stEB ?_ | refine WPl.stRB ?_)
     | (show WPl _ _ _ _ _ _ _ (⟨_, .indexAddr _ _ _, _, _, _, _⟩ :: _) _; refine WPl.rdX (ReadR.indexE rfl rfl hasA (by first | assumption | omega)) ?_)
     | (show WPl _ _ _ _ _ _ _ (⟨_, .fieldAddr _ _ _, _, _, _, _⟩ :: _) _; refine WPl.rdX (ReadR.fieldE rfl hasA (by first | assumption | omega)) ?_)
     | (show WPl _ _ _ _ _ _ _ (⟨_, .load _ _, _, _, _, _⟩ :: _) _; first | refine WPl.rdX (ReadR.loadE rfl hasA (by assumption)) ?_ | refine WPl.rdX (ReadR.loadES (by assumption) (by first | assumption | omega) rfl hasA) ?_)
     | (show WPl _ _ _ _ _ _ _ (⟨_, .slice _ _ _ _ _, _, _, _, _⟩ :: _) _; first | refine WPl.rdX (ReadR.sliceH rfl rfl hasA (by omega)) ?_ | refine WPl.rdX (ReadR.sliceL rfl rfl hasA (by omega)) ?_ | refine WPl.rdX (ReadR.sliceLH rfl rfl rfl hasA (by omega) (by omega)) ?_)
     | (refine WPl.spQ (fun hc => ?_) (fun hc => ?_) <;> try exact prA)
     | fail)
    all_goals refine WPq.nilHd ?_
    exact WPq.dX (ho := ownsV) (vs := [.slice none 0 0, .int .i64 3]) _ ⟨_, rfl, rfl, rfl⟩
  · rw [show decide (a = 0) = false by simpa using h0] at c2
    rw [if_neg h0, if_neg h0]
    cases hf : mfind es (j : Int) with
    | none =>
      have c3 := nowL_t gV mD vd (fburn fu 1 a) cn j es hin ls[j] ls (by unfold mget; rw [hf]; rfl) (List.getElem?_eq_getElem hj) hn
      have hr : nowS ls[j] es j = ls[j] := by unfold nowS; rw [hf]
      rw [hr]
      obtain ⟨s, hs⟩ : ∃ s, s = ls[j] := ⟨_, rfl⟩
      rw [← hs] at c3 ⊢
      have hsb := s.len
      refine Triple.enter Try.func16 rfl Try.ntmps16 rfl (fun W => ?_)
      dsimp only [argsF, Nat.reduceAdd]
      repeat' (first
       | refine WPl.nil ?_ | refine WPq.then ?_ | refine WPq.thenR ?_ | refine WPq.thenE ?_ | refine WPq.blockN ?_ | refine WPq.blockR ?_ | refine WPq.blockE ?_ | refine WPq.blockO rfl ?_ | refine WPc.seq ?_ | refine WPc.block ?_ | refine WPc.ret ?_ | refine WPc.exit ?_ | refine WPc.skip ?_ | refine WPc.region ?_
       | (refine isCond ?_; first | refine WPc.cT ?_ | refine WPc.cF ?_ | (refine WPc.cQ (fun hc => ?_) (fun hc => ?_) <;> try exact prA))
       | (refine isC 10 ?_; refine WPl.cV c1 ?_ (hΔ := provsG))
       | (refine isC 16 ?_; refine WPl.cTs (c2) ?_; (try dsimp only [putF, List.cons_append, List.nil_append]))
       | (refine isC 19 ?_; refine WPl.cV c3 ?_ (hΔ := provsG))
       | (refine isOp ?_; first | refine WPl.rd ?_ | refine WPl.sk ?_ | refine WPl.rdB ?_)
       | (refine isAl ?_; refine WPl.nw fun g => ?_)
       | (refine isSt ?_; first | refine WPl.st1 ?_ | refine WPl.stA ?_ | refine WPl.stEB ?_ | refine WPl.stRB ?_)
       | (show WPl _ _ _ _ _ _ _ (⟨_, .indexAddr _ _ _, _, _, _, _⟩ :: _) _; refine WPl.rdX (ReadR.indexE rfl rfl hasA (by first | assumption | omega)) ?_)
       | (show WPl _ _ _ _ _ _ _ (⟨_, .fieldAddr _ _ _, _, _, _, _⟩ :: _) _; refine WPl.rdX (ReadR.fieldE rfl hasA (by first | assumption | omega)) ?_)
       | (show WPl _ _ _ _ _ _ _ (⟨_, .load _ _, _, _, _, _⟩ :: _) _; first | refine WPl.rdX (ReadR.loadE rfl hasA (by assumption)) ?_ | refine WPl.rdX (ReadR.loadES (by assumption) (by first | assumption | omega) rfl hasA) ?_)
       | (show WPl _ _ _ _ _ _ _ (⟨_, .slice _ _ _ _ _, _, _, _, _⟩ :: _) _; first | refine WPl.rdX (ReadR.sliceH rfl rfl hasA (by omega)) ?_ | refine WPl.rdX (ReadR.sliceL rfl rfl hasA (by omega)) ?_ | refine WPl.rdX (ReadR.sliceLH rfl rfl rfl hasA (by omega) (by omega)) ?_)
       | (refine WPl.spQ (fun hc => ?_) (fun hc => ?_) <;> try exact prA)
       | fail)
      refine WPq.asHd (v := .slice (some ⟨g, 0, none⟩) 256 256) (m := s.b.length) (xs := u8s s.b) takeA hasA rfl ?_
      exact WPq.dX (ho := ownsV) (vs := [.slice (some ⟨g, 0, none⟩) 256 256, .int .i64 0]) _ ⟨_, rfl, rfl, rfl⟩
    | some y =>
      obtain ⟨_, hne, hlw⟩ := hok _ (mfind_mem hf)
      obtain ⟨yv, ws⟩ := y
      dsimp only at hne hlw
      have hlt : ws.length - 1 < ws.length := by have := List.length_pos_iff.2 hne; omega
      have hr : nowS ls[j] es j = ws[ws.length - 1] := by
        unfold nowS
        rw [hf]
        show ws.getLastD ls[j] = _
        rw [List.getLastD_eq_getLast?, List.getLast?_eq_getElem?, List.getElem?_eq_getElem hlt]
        rfl
      have c3 := nowW_t gV mD vd (fburn fu 1 a) cn (j : Int) es hin ws[ws.length - 1] yv ws (by rw [mget_of_find hf]) (List.getElem?_eq_getElem hlt) (by omega)
      rw [hr]
      obtain ⟨s, hs⟩ : ∃ s, s = ws[ws.length - 1] := ⟨_, rfl⟩
      rw [← hs] at c3 ⊢
      have hsb := s.len
      refine Triple.enter Try.func16 rfl Try.ntmps16 rfl (fun W => ?_)
      dsimp only [argsF, Nat.reduceAdd]
      refine WPc.bagO hf ?_
      repeat' (first
       | refine WPl.nil ?_ | refine WPq.then ?_ | refine WPq.thenR ?_ | refine WPq.thenE ?_ | refine WPq.blockN ?_ | refine WPq.blockR ?_ | refine WPq.blockE ?_ | refine WPq.blockO rfl ?_ | refine WPc.seq ?_ | refine WPc.block ?_ | refine WPc.ret ?_ | refine WPc.exit ?_ | refine WPc.skip ?_ | refine WPc.region ?_
       | (refine isCond ?_; first | refine WPc.cT ?_ | refine WPc.cF ?_ | (refine WPc.cQ (fun hc => ?_) (fun hc => ?_) <;> try exact prA))
       | (refine isC 10 ?_; refine WPl.cV c1 ?_ (hΔ := provsG))
       | (refine isC 16 ?_; refine WPl.cTs (c2) ?_; (try dsimp only [putF, List.cons_append, List.nil_append]))
       | (refine isC 19 ?_; refine WPl.cV c3 ?_ (hΔ := provsG))
       | (refine isOp ?_; first | refine WPl.rd ?_ | refine WPl.sk ?_ | refine WPl.rdB ?_)
       | (refine isAl ?_; refine WPl.nw fun g => ?_)
       | (refine isSt ?_; first | refine WPl.st1 ?_ | refine WPl.stA ?_ | refine WPl.stEB ?_ | refine WPl.stRB ?_)
       | (show WPl _ _ _ _ _ _ _ (⟨_, .indexAddr _ _ _, _, _, _, _⟩ :: _) _; refine WPl.rdX (ReadR.indexE rfl rfl hasA (by first | assumption | omega)) ?_)
       | (show WPl _ _ _ _ _ _ _ (⟨_, .fieldAddr _ _ _, _, _, _, _⟩ :: _) _; refine WPl.rdX (ReadR.fieldE rfl hasA (by first | assumption | omega)) ?_)
       | (show WPl _ _ _ _ _ _ _ (⟨_, .load _ _, _, _, _, _⟩ :: _) _; first | refine WPl.rdX (ReadR.loadE rfl hasA (by assumption)) ?_ | refine WPl.rdX (ReadR.loadES (by assumption) (by first | assumption | omega) rfl hasA) ?_)
       | (show WPl _ _ _ _ _ _ _ (⟨_, .slice _ _ _ _ _, _, _, _, _⟩ :: _) _; first | refine WPl.rdX (ReadR.sliceH rfl rfl hasA (by omega)) ?_ | refine WPl.rdX (ReadR.sliceL rfl rfl hasA (by omega)) ?_ | refine WPl.rdX (ReadR.sliceLH rfl rfl rfl hasA (by omega) (by omega)) ?_)
       | (refine WPl.spQ (fun hc => ?_) (fun hc => ?_) <;> try exact prA)
       | fail)
      refine WPq.bagI hf ?_
      refine WPq.asHd (v := .slice (some ⟨g, 0, none⟩) 256 256) (m := s.b.length) (xs := u8s s.b) takeA hasA rfl ?_
      exact WPq.dX (ho := ownsV) (vs := [.slice (some ⟨g, 0, none⟩) 256 256, .int .i64 0]) _ ⟨_, rfl, rfl, rfl⟩
end
end Go.Proofs.Ytepmikgjnmjheaa
