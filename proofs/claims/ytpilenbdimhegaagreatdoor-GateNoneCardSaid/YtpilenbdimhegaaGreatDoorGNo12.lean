/- What the row of gateNone_card_holds needs: part 12. -/
import Derived.Test.YtpilenbdimhegaaGreatDoorGNo11
import Derived.Test.YtpilenbdimhegaaGreatDoorGNo9
import Derived.ChangeSame
import Derived.ChangeVars
import Derived.JoinedOf
import Derived.RowKit
import Derived.RowKitTokens
import Derived.LaidLaws
import Derived.LaidHandle
import Derived.LaidMore
import Derived.Stop.Joined
/- Layer 42 (gate): the statement's own packet goes on, and the next one is held; GateNone returns true. -/
namespace Go.Proofs.YtpilenbdimhegaaGreatDoor
open Go.RowKit
set_option linter.unusedSimpArgs false
set_option linter.unusedVariables false
set_option maxRecDepth 20000
set_option maxHeartbeats 4000000
attribute [local irreducible] WPc WPl WPq ReadR OpT BinR HasS bx rdN rowN Take Takes Prov Triple ResF BuildP Done ag Int.decLt Int.decLe Int.instDecidableEq
def p42 : Pf := (Adr.zero, 24)
def x42 : Pk := ⟨⟨false, 17, 20, Adr.zero, Adr.zero, false, 9⟩, ⟨5, 6, 0, 6, false, 8⟩, f16⟩
theorem e42 : pkE (pbL f16 0 9 [7]) = 0 ∧ ferr (pbL f16 0 9 [7]) = 0 ∧ (fhead (pbL f16 0 9 [7])).part = false ∧ byteN (pbL f16 0 9 [7]) 0 / 16 = 4 := by decide +kernel
theorem r42 : pkR (pbL f16 0 9 [7]) = x42 := by kernel_rfl
theorem m42 : p42 = (maskA x42.fl.src (if x42.fl.src.six then 64 else 24), maskN x42.fl.src (if x42.fl.src.six then 64 else 24)) := by decide +kernel
theorem t42 : takeD 0 1 1 [] p42 1 0 = ([⟨p42, 0, 0⟩], true) ∧ takeD 0 1 1 [⟨p42, 0, 0⟩] p42 1 0 = ([⟨p42, 0, 0⟩], false) := ⟨by kernel_rfl, by kernel_rfl⟩
attribute [local irreducible] mp gbag jes pool pkE pkR ferr fhead maskA maskN mput takeD pbL pbE p42 x42
theorem lives42_t : Triple Tryz.prog 9 #[] [] (RVal (.bool true)) := by
  have hbk : BOk 0 1 1 := ⟨by omega, by omega, by omega, by omega, by omega, by omega⟩
  have c9 := gnew_t 0 1 1 hbk 24 64 (by omega) (by omega) (by omega) (by omega)
  have c13 := some_t
  have hl := h16_len
  have c15 := fun v => rbuild_t f16 0 9 v [7] (by decide) (by decide) (by decide)
  rw [h16_err] at c15
  obtain ⟨e1, e2, e3, e4⟩ := e42
  obtain ⟨t1, t2⟩ := t42
  have h64 : in64 p42.2 := by with_unfolding_all (unfold in64 p42; dsimp only; omega)
  have l16a := f16.src.len
  have l16b := f16.dst.len
  have r0 := r42
  have m0 := m42
  generalize pbL f16 0 9 [7] = B at *
  refine Triple.enter Tryz.func9 rfl Tryz.ntmps9 rfl (fun W => ?_)
  dsimp only [argsF, Nat.reduceAdd]
  refine WPc.nilRowN 58 40 ?_
  repeat' (first
   | refine WPl.nil ?_ | refine WPq.then ?_ | refine WPq.thenR ?_ | refine WPq.thenE ?_ | refine WPq.blockN ?_ | refine WPq.blockR ?_ | refine WPq.blockE ?_ | refine WPq.blockO rfl ?_ | refine WPc.seq ?_ | refine WPc.block ?_ | refine WPc.ret ?_ | refine WPc.exit ?_ | refine WPc.skip ?_ | refine WPc.region ?_
   | (refine isCond ?_; first | refine WPc.cT ?_ | refine WPc.cF ?_ | (refine WPc.cQ (fun hc => ?_) (fun hc => ?_) <;> try exact prA))
   | (refine isLit ?_; refine WPl.lit fun v hv => ?_)
   | (refine isC 13 ?_; refine WPl.cV (c13) ?_)
   | (refine isD 8 ?_; refine WPl.rdX (ReadR.build (cs' := rtc 0 1 1) buildA) ?_)
   | (refine isC 9 ?_; refine WPl.cX c9 fun v9 Γ1 hR => ?_; obtain ⟨gG, gB, mB, f, gT, mT, gJ, mJ, rfl, rfl, hI⟩ := hR; (try dsimp only [putF, List.cons_append, List.nil_append]))
   | (refine isC 15 ?_; refine WPl.cR2 ((c15 _)) fun v15 hv15 => ?_)
   | (refine isC 20 ?_; refine WPl.cO ((passO_t gG gB mB gT mT gJ mJ 24 64 (by omega) (by omega) (by omega) (by omega) 0 1 1 hbk ([], [], f) hI [] [⟨p42, 0, 0⟩] rfl 0 [] [] 0 (by omega) (fun _ h => by cases h) (fun _ h => by cases h) (Nat.zero_le _) v15 B (by omega) (by omega) e4 e2 e3 x42 e1 r0 p42 m0 h64 (wU (0 + 1)) (mput [] p42 ⟨p42, wU (0 + 1), 0⟩) (taddNew_t gT mT 200 0 [] p42 1 h64 (by omega) rfl (by show ((0 : Nat) : Int) < 200; omega)) t1)) (fun v Γ1 hR => ?_) ?_; rotate_left; exact fpA; obtain ⟨w, hw, rfl, s1, rfl, hI1, hD1⟩ := hR; (try dsimp only [putF, List.cons_append, List.nil_append]))
   | (refine isC 23 ?_; refine WPl.cO ((passH_t gG gB mB gT mT gJ mJ 24 64 (by omega) (by omega) (by omega) (by omega) 0 1 1 hbk s1 hI1 [⟨p42, 0, 0⟩] [⟨p42, 0, 0⟩] hD1 (wU (0 + 1)) (mput [] p42 ⟨p42, wU (0 + 1), 0⟩) [] 0 (by omega) (fun _ h => by cases h) (fun _ h => by cases h) (Nat.zero_le _) v15 B (by omega) (by omega) e4 e2 e3 x42 e1 r0 p42 m0 h64 t2)) (fun v Γ1 hR => ?_) ?_; rotate_left; exact fpA; obtain ⟨rfl, s2, rfl, hI2, hD2⟩ := hR; (try dsimp only [putF, List.cons_append, List.nil_append]))
   | (refine isD 26 ?_; refine WPl.rdX (ReadR.binE rfl rfl BinR.eql (congrArg Value.bool (decide_eq_true rfl))) ?_)
   | (refine isD 29 ?_; refine WPl.rdX (ReadR.binE rfl rfl BinR.eql (congrArg Value.bool (decide_eq_true rfl))) ?_)
   | (refine isD 34 ?_; refine WPl.rdX (ReadR.str rfl rfl rfl hasA) ?_)
   | (refine isD 36 ?_; refine WPl.rdX (ReadR.str rfl rfl rfl hasA) ?_)
   | (refine isD 37 ?_; refine WPl.rdX (ReadR.binE rfl rfl BinR.strUE (congrArg Value.bool (decide_eq_true rfl))) ?_)
   | (refine isD 42 ?_; refine WPl.rdX (ReadR.binE rfl rfl BinR.eql (congrArg Value.bool (decide_eq_true rfl))) ?_)
   | (refine isOp ?_; first | refine WPl.rd ?_ | refine WPl.sk ?_ | refine WPl.rdB ?_)
   | (refine isAl ?_; refine WPl.nw fun g => ?_)
   | (refine isSt ?_; first | refine WPl.st1 ?_ | refine WPl.stA ?_ | refine WPl.stEB ?_ | refine WPl.stRB ?_)
   | (show WPl _ _ _ _ _ _ _ (⟨_, .indexAddr _ _ _, _, _, _, _⟩ :: _) _; refine WPl.rdX (ReadR.indexE rfl rfl hasA (by first | assumption | omega)) ?_)
   | (show WPl _ _ _ _ _ _ _ (⟨_, .fieldAddr _ _ _, _, _, _, _⟩ :: _) _; refine WPl.rdX (ReadR.fieldE rfl hasA (by first | assumption | omega)) ?_)
   | (show WPl _ _ _ _ _ _ _ (⟨_, .load _ _, _, _, _, _⟩ :: _) _; first | refine WPl.rdX (ReadR.loadE rfl hasA (by assumption)) ?_ | refine WPl.rdX (ReadR.loadES (by assumption) (by first | assumption | omega) rfl hasA) ?_)
   | (show WPl _ _ _ _ _ _ _ (⟨_, .slice _ _ _ _ _, _, _, _, _⟩ :: _) _; first | refine WPl.rdX (ReadR.sliceH rfl rfl hasA (by omega)) ?_ | refine WPl.rdX (ReadR.sliceL rfl rfl hasA (by omega)) ?_ | refine WPl.rdX (ReadR.sliceLH rfl rfl rfl hasA (by omega) (by omega)) ?_)
   | (refine WPl.spQ (fun hc => ?_) (fun hc => ?_) <;> try exact prA)
   | fail)
  all_goals try (first | exact WPq.dTp | exact WPq.dTs | exact WPq.dV | exact WPq.dR | exact WPq.dR2 | exact WPq.dH | exact WPq.dBH | exact WPq.dT)
theorem gateNone_t (x : GA) (h1 : x.f.sp < 65536) (h2 : x.f.dp < 65536) (hv : x.v.oneCell' = true) : Triple Tryz.prog 6 #[ag (gaC x)] [rb x.v x.d] (RVal (.bool true)) := by
  have c7 := gbytes_t x h1 h2 hv
  have c8 := fun v => pass0_t v 5
  have c25 := heavy0_t 5
  have c31 := waiting0_t
  have c36 := rules0_t
  have c41 := lives42_t
  have ls := x.f.src.len
  have ld := x.f.dst.len
  generalize gaB x = L at *
  refine Triple.enter Tryz.func6 rfl Tryz.ntmps6 rfl (fun W => ?_)
  dsimp only [argsF, Nat.reduceAdd]
  refine WPc.nilRow 5 ?_
  repeat' (first
   | refine WPl.nil ?_ | refine WPq.then ?_ | refine WPq.thenR ?_ | refine WPq.thenE ?_ | refine WPq.blockN ?_ | refine WPq.blockR ?_ | refine WPq.blockE ?_ | refine WPq.blockO rfl ?_ | refine WPc.seq ?_ | refine WPc.block ?_ | refine WPc.ret ?_ | refine WPc.exit ?_ | refine WPc.skip ?_ | refine WPc.region ?_
   | (refine isCond ?_; first | refine WPc.cT ?_ | refine WPc.cF ?_ | (refine WPc.cQ (fun hc => ?_) (fun hc => ?_) <;> try exact prA))
   | (refine isC 7 ?_; refine WPl.cR (c7) fun v7 hv7 => ?_)
   | (refine isC 8 ?_; refine WPl.cV ((c8 _)) ?_)
   | (refine isD 11 ?_; refine WPl.rdX (ReadR.binE rfl rfl BinR.eql (congrArg Value.bool (decide_eq_true rfl))) ?_)
   | (refine isD 15 ?_; refine WPl.rdX (ReadR.binE rfl rfl BinR.eql (congrArg Value.bool (decide_eq_true rfl))) ?_)
   | (refine isD 21 ?_; refine WPl.rdX (ReadR.binE rfl rfl BinR.eql (congrArg Value.bool (decide_eq_true rfl))) ?_)
   | (refine isC 25 ?_; refine WPl.cV (c25) ?_)
   | (refine isD 27 ?_; refine WPl.rdX (ReadR.binE rfl rfl BinR.eql (congrArg Value.bool (decide_eq_true rfl))) ?_)
   | (refine isC 31 ?_; refine WPl.cV (c31) ?_)
   | (refine isD 32 ?_; refine WPl.rdX (ReadR.binE rfl rfl BinR.eql (congrArg Value.bool (decide_eq_true rfl))) ?_)
   | (refine isC 36 ?_; refine WPl.cV (c36) ?_)
   | (refine isD 38 ?_; refine WPl.rdX (ReadR.binE rfl rfl BinR.eql (congrArg Value.bool (decide_eq_true rfl))) ?_)
   | (refine isC 41 ?_; refine WPl.cV (c41) ?_)
   | (refine isOp ?_; first | refine WPl.rd ?_ | refine WPl.sk ?_ | refine WPl.rdB ?_)
   | (refine isAl ?_; refine WPl.nw fun g => ?_)
   | (refine isBx ?_; refine WPl.nw fun g => ?_)
   | (refine isSt ?_; first | refine WPl.st1 ?_ | refine WPl.stA ?_ | refine WPl.stEB ?_ | refine WPl.stRB ?_)
   | (show WPl _ _ _ _ _ _ _ (⟨_, .indexAddr _ _ _, _, _, _, _⟩ :: _) _; refine WPl.rdX (ReadR.indexE rfl rfl hasA (by first | assumption | omega)) ?_)
   | (show WPl _ _ _ _ _ _ _ (⟨_, .fieldAddr _ _ _, _, _, _, _⟩ :: _) _; refine WPl.rdX (ReadR.fieldE rfl hasA (by first | assumption | omega)) ?_)
   | (show WPl _ _ _ _ _ _ _ (⟨_, .load _ _, _, _, _, _⟩ :: _) _; first | refine WPl.rdX (ReadR.loadE rfl hasA (by assumption)) ?_ | refine WPl.rdX (ReadR.loadES (by assumption) (by first | assumption | omega) rfl hasA) ?_)
   | (show WPl _ _ _ _ _ _ _ (⟨_, .slice _ _ _ _ _, _, _, _, _⟩ :: _) _; first | refine WPl.rdX (ReadR.sliceH rfl rfl hasA (by omega)) ?_ | refine WPl.rdX (ReadR.sliceL rfl rfl hasA (by omega)) ?_ | refine WPl.rdX (ReadR.sliceLH rfl rfl rfl hasA (by omega) (by omega)) ?_)
   | (refine WPl.spQ (fun hc => ?_) (fun hc => ?_) <;> try exact prA)
   | fail)
  all_goals try (first | exact WPq.dTp | exact WPq.dTs | exact WPq.dV | exact WPq.dR | exact WPq.dR2 | exact WPq.dH | exact WPq.dBH | exact WPq.dT)
end Go.Proofs.YtpilenbdimhegaaGreatDoor
/- GateNone, lifted: for every input, and the tables as they are laid, the law returns true. -/
namespace Go.Proofs.YtpilenbdimhegaaGreatDoor
open Go.ChangeShapes Go.WideShapes Go.ChangeAt Go.RowKit
set_option linter.unusedVariables false
/-- The tables are laid in the heap that the door's own run leaves. -/
theorem door42 (os : Os) (args : Array Value) : laidMetH Tryz.prog Rows.gateNoneRow.laid ((World.doorLaid Tryz.prog 4000 os).forCall (fun _ _ => 0) ⟨#[], args, []⟩).memory :=
  laidMetH_of_parts3 (fuel := 80) (laidMet_of_run' 80 (by kernel_rfl) (by kernel_rfl)) (by kernel_rfl) (by kernel_rfl)
set_option maxRecDepth 100000 in
theorem gateNone_lifted (os : Os) (started : os.Started) (H : Type) (enc : TypeId × Value → H) :
    ReturnsInHanded {} Tryz.checked os 6 .any (fun w args => (Rows.gateNoneSpec.pre enc Tryz.prog Tryz.f6 Rows.gateNoneRow.domain false w args ∧ laidMetH Tryz.prog Rows.gateNoneRow.laid w) ∧ sizedMet enc Tryz.prog Tryz.f6 (OpenSpec.ofChange Rows.gateNoneSpec) false w args)
      (Rows.gateNoneSpec.post enc Tryz.prog Tryz.f6 false true false false) := by
  refine returnsInHanded_of_change_and (C := Tryz.checked) (X := fun w _ => laidMetH Tryz.prog Rows.gateNoneRow.laid w) (fun _ _ _ hh h => h.of_heap hh) Tryz.own started (by kernel_rfl) Tryz.func6
    (ChangeSpec.witness_shaped (enc := enc) (C := Tryz.checked) (os := os) (X := fun w _ => laidMetH Tryz.prog Rows.gateNoneRow.laid w) false (World.doorLaid Tryz.prog 4000 os) #[.agg #[.bool false, .int .u8 0, .int .u8 0, .int .u8 0, .int .u8 0, .int .u8 0, .int .u8 0, .int .u8 0, .int .u8 0, .int .u8 0, .int .u8 0, .int .u8 0, .int .u8 0, .int .u8 0, .int .u8 0, .int .u8 0, .int .u8 0, .bool false, .int .u8 0, .int .u8 0, .int .u8 0, .int .u8 0, .int .u8 0, .int .u8 0, .int .u8 0, .int .u8 0, .int .u8 0, .int .u8 0, .int .u8 0, .int .u8 0, .int .u8 0, .int .u8 0, .int .u8 0, .int .u8 0, .int .u16 0, .int .u16 0, .int .u8 0, .int .u8 0, .slice none 0 0, .bool false, .int .u8 0, .int .u8 0, .int .u8 0]] 8 rfl (World.shaped_of_RefB (by kernel_rfl) (by kernel_rfl)) (by kernel_rfl) (by kernel_rfl) (by kernel_rfl) (door42 os _)) ?_
  intro W base args ds gs before hval0 hW _ _ hL _
  have hval : ∀ (j : Nat) t v, Tryz.f6.params[j]? = some t → args[j]? = some v → Value.okWide Tryz.prog W .any base t v := hval0
  have hW' := hW
  obtain ⟨p, q, hA0, hV, rfl, hfz, hnd⟩ := hW
  have hA : DataW.TrodAll enc Tryz.prog W 0 (fun _ => true) true Tryz.f6.params.toList args.toList ds p := hA0
  rw [Tryz.params6] at hA hval
  obtain ⟨v0, vs0, d0, ds0, p0, q0, hargs, rfl, rfl, h0, r0⟩ := trodAll_cons hA
  obtain ⟨rfl, rfl, rfl⟩ := trodAll_nil r0
  obtain rfl : args = #[v0] := by cases args; simp_all
  obtain ⟨rfl, rfl⟩ := trodVars_none hV
  have k0 := h0
  have lt0 : ∀ x ∈ p0, x.block < W.heap.size := by obtain ⟨m, hm⟩ := k0; exact DataW.trod_lt m _ _ _ hm
  obtain ⟨x0, rfl, hx0, hy0, hz0, hb0⟩ := open_ga Tryz.underlying41 (by kernel_rfl) (hval 0 41 v0 rfl rfl) h0
  clear hA0 hval0
  refine (law_of (W := W) (gateNone_t x0 hx0 hy0 hz0) (by simp [rdN_own]) (hold1 hb0 hold0)).mono fun e W' ⟨he, bel⟩ => ?_
  subst he
  exact ⟨_, rfl, _, _, _, [], _, [], hW', trodAll_mk1 (shut_bool Tryz.underlying4 _), (trodAll_cons_mk (Below.trod Tryz.laidOut (by kernel_rfl) (of_decide_eq_true (by kernel_rfl)) k0 bel lt0) trodAll_mk0), rfl, bel.frame _, fun h => by cases h⟩

end Go.Proofs.YtpilenbdimhegaaGreatDoor
