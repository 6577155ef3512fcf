/- What the row of gateHeld_card_holds needs: part 7. -/
import Derived.Test.YtpilenbdimhegaaGreatDoorGHe6
import Derived.Test.YtpilenbdimhegaaGreatDoorGHe5
import Derived.Test.YtpilenbdimhegaaGreatDoorGHe4
import Derived.Maps.RangeRun
/- Layer 16 (pkt): packets built; what the statements use; PktBack returns true. -/
namespace Go.Proofs.YtpilenbdimhegaaGreatDoor
open Go.RowKit
set_option linter.unusedSimpArgs false
set_option linter.unusedVariables false
set_option maxRecDepth 20000
set_option maxHeartbeats 4000000
attribute [local irreducible] WPc WPl WPq ReadR OpT BinR HasS bx rdN rowN Take Takes Prov Triple ResF BuildP Done ag Int.decLt Int.decLe Int.instDecidableEq

def pbH (f : Fl) (hops : UInt8) : Hd := ⟨f.src.six, f.proto, 0, f.src, f.dst, false, hops⟩
def pbS (f : Fl) (flags : UInt8) : Sg := ⟨f.sp, f.dp, flags, 0, false, 0⟩
def pbB (f : Fl) (flags hops : UInt8) (d : List UInt8) : List UInt8 := swL (pbH f hops) (pbS f flags) d
def pbE (f : Fl) (flags hops : UInt8) (d : List UInt8) : Int :=
  if ¬ swE (pbH f hops) (pbS f flags) d.length = 0 then swE (pbH f hops) (pbS f flags) d.length
  else if f.src.six then xwerr (pbH f hops) (pbB f flags hops d).length else fwerr (pbH f hops) (pbB f flags hops d).length
def pbL (f : Fl) (flags hops : UInt8) (d : List UInt8) : List UInt8 :=
  if ¬ swE (pbH f hops) (pbS f flags) d.length = 0 then []
  else if f.src.six then xwL (pbH f hops) (pbB f flags hops d) else fwL (pbH f hops) (pbB f flags hops d)
theorem swL_len {h : Hd} {s : Sg} {d : List UInt8} (he : swE h s d.length = 0) : (swL h s d).length ≤ 20 + d.length := by
  have h1 := swT_len s d
  have h2 := swU_len s d
  have h3 := summ_len (h := h) (l := swT s d) (k := 16) (by omega)
  have h4 := summ_len (h := h) (l := swU s d) (k := 6) (by omega)
  unfold swL
  rw [if_pos he]
  split
  · omega
  · split <;> omega
section
attribute [local irreducible] swL swE xwL xwerr fwL fwerr
end
def Fl.back (f : Fl) : Fl := ⟨f.dst, f.src, f.dp, f.sp, f.proto⟩
def f16 : Fl := ⟨Adr.zero, Adr.zero, 5, 6, 17⟩
theorem some_t : Triple Tryz.prog 29 #[] [] (RVal (ag (flc f16))) := by
  refine Triple.enter Tryz.func29 rfl Tryz.ntmps29 rfl (fun W => ?_)
  dsimp only [argsF, Nat.reduceAdd]
  repeat' (first
   | refine WPl.nil ?_ | refine WPq.then ?_ | refine WPq.thenR ?_ | refine WPq.thenE ?_ | refine WPq.blockN ?_ | refine WPq.blockR ?_ | refine WPq.blockE ?_ | refine WPq.blockO rfl ?_ | refine WPc.seq ?_ | refine WPc.block ?_ | refine WPc.ret ?_ | refine WPc.exit ?_ | refine WPc.skip ?_ | refine WPc.region ?_
   | (refine isCond ?_; first | refine WPc.cT ?_ | refine WPc.cF ?_ | (refine WPc.cQ (fun hc => ?_) (fun hc => ?_) <;> try exact prA))
   | (refine isOp ?_; first | refine WPl.rd ?_ | refine WPl.sk ?_ | refine WPl.rdB ?_)
   | (refine isAl ?_; refine WPl.nw fun g => ?_)
   | (refine isSt ?_; first | refine WPl.st1 ?_ | refine WPl.stA ?_ | refine WPl.stEB ?_ | refine WPl.stRB ?_)
   | (show WPl _ _ _ _ _ _ _ (⟨_, .indexAddr _ _ _, _, _, _, _⟩ :: _) _; refine WPl.rdX (ReadR.indexE rfl rfl hasA (by first | assumption | omega)) ?_)
   | (show WPl _ _ _ _ _ _ _ (⟨_, .fieldAddr _ _ _, _, _, _, _⟩ :: _) _; refine WPl.rdX (ReadR.fieldE rfl hasA (by first | assumption | omega)) ?_)
   | (show WPl _ _ _ _ _ _ _ (⟨_, .load _ _, _, _, _, _⟩ :: _) _; first | refine WPl.rdX (ReadR.loadE rfl hasA (by assumption)) ?_ | refine WPl.rdX (ReadR.loadES (by assumption) (by first | assumption | omega) rfl hasA) ?_)
   | (show WPl _ _ _ _ _ _ _ (⟨_, .slice _ _ _ _ _, _, _, _, _⟩ :: _) _; first | refine WPl.rdX (ReadR.sliceH rfl rfl hasA (by omega)) ?_ | refine WPl.rdX (ReadR.sliceL rfl rfl hasA (by omega)) ?_ | refine WPl.rdX (ReadR.sliceLH rfl rfl rfl hasA (by omega) (by omega)) ?_)
   | (refine WPl.spQ (fun hc => ?_) (fun hc => ?_) <;> try exact prA)
   | fail)
  all_goals try (first | exact WPq.dTp | exact WPq.dTs | exact WPq.dV | exact WPq.dR | exact WPq.dR2 | exact WPq.dH | exact WPq.dBH | exact WPq.dT)
theorem h16_err : pbE f16 0 9 [7] = 0 := by decide +kernel
theorem h16_len : (pbL f16 0 9 [7]).length = 29 := by decide +kernel
attribute [local irreducible] pbL pbE pkR pkE
end Go.Proofs.YtpilenbdimhegaaGreatDoor
/- References of layers 13, 15, 16: packets of UDP of IPv4, written: contracts. -/
namespace Go.Proofs.YtpilenbdimhegaaGreatDoor
open Go.RowKit
set_option linter.unusedSimpArgs false
set_option linter.unusedVariables false
set_option maxRecDepth 20000
set_option maxHeartbeats 4000000
attribute [local irreducible] WPc WPl WPq ReadR OpT BinR HasS bx rdN rowN Take Takes Prov Triple ResF BuildP Done ag Int.decLt Int.decLe Int.instDecidableEq
attribute [local irreducible] be psu swT swU
theorem rswrite_t (h : Hd) (s : Sg) (vd : Value) (d : List UInt8) (hd : d.length ≤ 1000) (hs1 : s.src < 65536) (hs2 : s.dst < 65536) (h17 : h.proto.toNat = 17) (hb : swBad h s = false) (hz : s.zero = false) :
    Triple Tryz.prog 58 #[ag (hdc h), ag (sgc s), vd] [rb vd d] (RW (summ h (swU s d) 6) 0) := by
  have l1 := h.src.len
  have l2 := h.dst.len
  obtain ⟨b1, b2, b3, b4, b5, b6⟩ := swBad_no hb
  have g1 := rgood_t h.src
  have g2 := rgood_t h.dst
  rw [b3] at g1
  rw [b4] at g2
  have hb1 := be_length s.src 2
  have hb2 := be_length s.dst 2
  have hb3 := be_length (8 + d.length) 2
  have hul := swU_len s d
  have hue : [] ++ be s.src 2 ++ be s.dst 2 ++ be (8 + d.length) 2 ++ nbs [0, 0] ++ d = swU s d := by unfold swU; simp
  have hpl := psu_len h (swU s d).length
  have hnl := sumN_le h (swU s d)
  have c1 := rpseudo_t h ((swU s d).length : Int) (swU s d).length (wrapLen (by omega)) (by omega)
  have c2 := fun v => rsum_t v (psu h (swU s d).length ++ swU s d) (by simp; omega)
  have hcl := csum_le (psu h (swU s d).length ++ swU s d)
  have hN : sumN h (swU s d) = if csum (psu h (swU s d).length ++ swU s d) = 0 then 65535 else csum (psu h (swU s d).length ++ swU s d) := by
    unfold sumN
    by_cases hc : csum (psu h (swU s d).length ++ swU s d) = 0
    · rw [if_pos ⟨hc, h17⟩, if_pos hc]
    · rw [if_neg (fun hh => hc hh.1), if_neg hc]
  have hres : ((swU s d).set 6 (UInt8.ofNat (sumN h (swU s d) / 256))).set 7 (UInt8.ofNat (sumN h (swU s d))) = summ h (swU s d) 6 := by rw [over_set2 (by omega)]; rfl
  have hsl : ((swU s d).set 6 (UInt8.ofNat (sumN h (swU s d) / 256))).length = 8 + d.length := by rw [List.length_set]; exact hul
  rw [← hres]
  obtain ⟨m, hm⟩ : ∃ m, m = sumN h (swU s d) := ⟨_, rfl⟩
  obtain ⟨c, hc⟩ : ∃ c, c = csum (psu h (swU s d).length ++ swU s d) := ⟨_, rfl⟩
  rw [← hm] at hN hnl hsl ⊢
  rw [← hc] at c2 hcl hN
  obtain ⟨p, hp⟩ : ∃ p, p = psu h (swU s d).length := ⟨_, rfl⟩
  rw [← hp] at c1 c2 hpl
  clear hc hm hres hp
  obtain ⟨U, hU⟩ : ∃ U, U = swU s d := ⟨_, rfl⟩
  rw [← hU] at hue hul c1 c2 hsl ⊢
  clear hU
  have hw1 := wrap_hi hnl
  have hw2 := wrap_lo hnl
  subst hue
  by_cases hc0 : c = 0
  · rw [if_pos hc0] at hN
    subst hN
    subst hc0
    refine Triple.enter Tryz.func58 rfl Tryz.ntmps58 rfl (fun W => ?_)
    dsimp only [argsF, Nat.reduceAdd]
    repeat' (first
     | refine WPl.nil ?_ | refine WPq.then ?_ | refine WPq.thenR ?_ | refine WPq.thenE ?_ | refine WPq.blockN ?_ | refine WPq.blockR ?_ | refine WPq.blockE ?_ | refine WPq.blockO rfl ?_ | refine WPc.seq ?_ | refine WPc.block ?_ | refine WPc.ret ?_ | refine WPc.exit ?_ | refine WPc.skip ?_ | refine WPc.region ?_
     | (refine isReg 7 ?_; refine WPc.drA [([], [62, 63, 64, 66, 67, 68]), ([], [61, 66, 67, 68]), ([1], [61, 62, 66, 67, 68]), ([1, 2], [61, 62, 63, 66, 67, 68]), ([0, 1, 2, 3], [61, 62, 63, 64, 66, 67, 68]), ([], [61, 62, 63, 64, 65]), ([5], [61, 62, 63, 64, 65, 66]), ([5, 6], [61, 62, 63, 64, 65, 66, 67]), ([0, 1, 2, 3, 4, 5, 6, 7], [61, 62, 63, 64, 65, 66, 67, 68]), ([0, 1, 2, 3, 4, 5, 6, 7, 8], [61, 62, 63, 64, 65, 66, 67, 68, 69])] [] (Γx := []) ?_; dsimp only [prev0, List.length_nil, List.length_cons])
     | (refine gAny ?_; first | (refine gC 31 ?_; refine RGl.vl (fun e hk => OpT.callN (g1)) ?_) | (refine gC 37 ?_; refine RGl.vl (fun e hk => OpT.callN (g2)) ?_) | (refine gC 65 ?_; refine RGl.row (Γ1 := fun _ => []) (fun e hk => OpT.callN (rput_t _ [] s.src 2 (by omega) (by omega) (by simp))) ?_) | (refine gC 69 ?_; refine RGl.row (Γ1 := fun _ => []) (fun e hk => OpT.callN (rput_t _ ([] ++ be s.src 2) s.dst 2 (by omega) (by omega) (by simp; omega))) ?_) | (refine gC 83 ?_; refine RGl.row (Γ1 := fun _ => []) (fun e hk => OpT.callN (rput_t _ ([] ++ be s.src 2 ++ be s.dst 2) (8 + d.length) 2 (by omega) (by omega) (by simp; omega))) ?_) | (refine gC 105 ?_; refine RGl.row (Γ1 := fun _ => []) (fun e hk => OpT.callN (c1)) ?_) | (refine gC 108 ?_; refine RGl.vl (fun e hk => OpT.callN (c2 _)) ?_) | (refine gD 123 ?_; refine RGl.rdX (fun e hk => by (try dsimp only [bndR, ensR, oksR, fcutR, List.append_nil, List.nil_append, List.cons_append, List.append_assoc] at hk ⊢); exact ReadR.convT hw1 rfl rfl) ?_) | (refine gD 126 ?_; refine RGl.rdX (fun e hk => by (try dsimp only [bndR, ensR, oksR, fcutR, List.append_nil, List.nil_append, List.cons_append, List.append_assoc] at hk ⊢); exact ReadR.convT hw2 rfl rfl) ?_) | (refine gOp ?_; first | refine RGl.rdA ?_ | refine RGl.rdX (fun e hk => by (try dsimp only [bndR, ensR, oksR, fcutR, List.append_nil, List.nil_append, List.cons_append, List.append_assoc] at hk ⊢); exact readB) ?_) | (refine gLit ?_; refine RGl.litA ?_) | (refine RGl.fin (fun e hk => ?_); (try dsimp only [bndA, ensAR, oksA, List.append_nil, List.nil_append, List.cons_append, List.append_assoc] at hk ⊢); (repeat (obtain ⟨hk1, hk⟩ := hk))) | fail)
     | (refine isCond ?_; first | refine WPc.cT ?_ | refine WPc.cF ?_ | (refine WPc.cQ (fun hc => ?_) (fun hc => ?_) <;> try exact prA))
     | (refine isLit ?_; refine WPl.lit fun v hv => ?_)
     | (refine isApp ?_; refine WPl.app fun v hv => ?_)
     | (refine isC 31 ?_; refine WPl.cV (g1) ?_)
     | (refine isC 37 ?_; refine WPl.cV (g2) ?_)
     | (refine isC 65 ?_; refine WPl.cR (rput_t _ [] s.src 2 (by omega) (by omega) (by simp)) fun v hv => ?_)
     | (refine isC 69 ?_; refine WPl.cR (rput_t _ ([] ++ be s.src 2) s.dst 2 (by omega) (by omega) (by simp; omega)) fun v hv => ?_)
     | (refine isC 83 ?_; refine WPl.cR (rput_t _ ([] ++ be s.src 2 ++ be s.dst 2) (8 + d.length) 2 (by omega) (by omega) (by simp; omega)) fun v hv => ?_)
     | (refine isC 105 ?_; refine WPl.cR (c1) fun v hv => ?_)
     | (refine isC 108 ?_; refine WPl.cV (c2 _) ?_)
     | (refine isD 123 ?_; refine WPl.rdX (ReadR.convT hw1 rfl rfl) ?_)
     | (refine isD 126 ?_; refine WPl.rdX (ReadR.convT hw2 rfl rfl) ?_)
     | (refine isOp ?_; first | refine WPl.rd ?_ | refine WPl.sk ?_ | refine WPl.rdB ?_)
     | (refine isBx ?_; refine WPl.nw fun g => ?_)
     | (refine isSt ?_; first | refine WPl.st1 ?_ | refine WPl.stA ?_ | refine WPl.stEB ?_ | refine WPl.stRB ?_)
     | (show WPl _ _ _ _ _ _ _ (⟨_, .indexAddr _ _ _, _, _, _, _⟩ :: _) _; refine WPl.rdX (ReadR.indexE rfl rfl hasA (by first | assumption | omega)) ?_)
     | (show WPl _ _ _ _ _ _ _ (⟨_, .fieldAddr _ _ _, _, _, _, _⟩ :: _) _; refine WPl.rdX (ReadR.fieldE rfl hasA (by first | assumption | omega)) ?_)
     | (show WPl _ _ _ _ _ _ _ (⟨_, .load _ _, _, _, _, _⟩ :: _) _; first | refine WPl.rdX (ReadR.loadE rfl hasA (by assumption)) ?_ | refine WPl.rdX (ReadR.loadES (by assumption) (by first | assumption | omega) rfl hasA) ?_)
     | (show WPl _ _ _ _ _ _ _ (⟨_, .slice _ _ _ _ _, _, _, _, _⟩ :: _) _; first | refine WPl.rdX (ReadR.sliceH rfl rfl hasA (by omega)) ?_ | refine WPl.rdX (ReadR.sliceL rfl rfl hasA (by omega)) ?_ | refine WPl.rdX (ReadR.sliceLH rfl rfl rfl hasA (by omega) (by omega)) ?_)
     | (refine WPl.spQ (fun hc => ?_) (fun hc => ?_) <;> try exact prA)
     | fail)
    all_goals try (first | exact WPq.dTp | exact WPq.dTs | exact WPq.dV | exact WPq.dR | exact WPq.dR2 | exact WPq.dH | exact WPq.dBH | exact WPq.dT)
  · rw [if_neg hc0] at hN
    subst hN
    refine Triple.enter Tryz.func58 rfl Tryz.ntmps58 rfl (fun W => ?_)
    dsimp only [argsF, Nat.reduceAdd]
    repeat' (first
     | refine WPl.nil ?_ | refine WPq.then ?_ | refine WPq.thenR ?_ | refine WPq.thenE ?_ | refine WPq.blockN ?_ | refine WPq.blockR ?_ | refine WPq.blockE ?_ | refine WPq.blockO rfl ?_ | refine WPc.seq ?_ | refine WPc.block ?_ | refine WPc.ret ?_ | refine WPc.exit ?_ | refine WPc.skip ?_ | refine WPc.region ?_
     | (refine isReg 7 ?_; refine WPc.drA [([], [62, 63, 64, 66, 67, 68]), ([], [61, 66, 67, 68]), ([1], [61, 62, 66, 67, 68]), ([1, 2], [61, 62, 63, 66, 67, 68]), ([0, 1, 2, 3], [61, 62, 63, 64, 66, 67, 68]), ([], [61, 62, 63, 64, 65]), ([5], [61, 62, 63, 64, 65, 66]), ([5, 6], [61, 62, 63, 64, 65, 66, 67]), ([0, 1, 2, 3, 4, 5, 6, 7], [61, 62, 63, 64, 65, 66, 67, 68]), ([0, 1, 2, 3, 4, 5, 6, 7, 8], [61, 62, 63, 64, 65, 66, 67, 68, 69])] [] (Γx := []) ?_; dsimp only [prev0, List.length_nil, List.length_cons])
     | (refine gAny ?_; first | (refine gC 31 ?_; refine RGl.vl (fun e hk => OpT.callN (g1)) ?_) | (refine gC 37 ?_; refine RGl.vl (fun e hk => OpT.callN (g2)) ?_) | (refine gC 65 ?_; refine RGl.row (Γ1 := fun _ => []) (fun e hk => OpT.callN (rput_t _ [] s.src 2 (by omega) (by omega) (by simp))) ?_) | (refine gC 69 ?_; refine RGl.row (Γ1 := fun _ => []) (fun e hk => OpT.callN (rput_t _ ([] ++ be s.src 2) s.dst 2 (by omega) (by omega) (by simp; omega))) ?_) | (refine gC 83 ?_; refine RGl.row (Γ1 := fun _ => []) (fun e hk => OpT.callN (rput_t _ ([] ++ be s.src 2 ++ be s.dst 2) (8 + d.length) 2 (by omega) (by omega) (by simp; omega))) ?_) | (refine gC 105 ?_; refine RGl.row (Γ1 := fun _ => []) (fun e hk => OpT.callN (c1)) ?_) | (refine gC 108 ?_; refine RGl.vl (fun e hk => OpT.callN (c2 _)) ?_) | (refine gD 123 ?_; refine RGl.rdX (fun e hk => by (try dsimp only [bndR, ensR, oksR, fcutR, List.append_nil, List.nil_append, List.cons_append, List.append_assoc] at hk ⊢); exact ReadR.convT hw1 rfl rfl) ?_) | (refine gD 126 ?_; refine RGl.rdX (fun e hk => by (try dsimp only [bndR, ensR, oksR, fcutR, List.append_nil, List.nil_append, List.cons_append, List.append_assoc] at hk ⊢); exact ReadR.convT hw2 rfl rfl) ?_) | (refine gOp ?_; first | refine RGl.rdA ?_ | refine RGl.rdX (fun e hk => by (try dsimp only [bndR, ensR, oksR, fcutR, List.append_nil, List.nil_append, List.cons_append, List.append_assoc] at hk ⊢); exact readB) ?_) | (refine gLit ?_; refine RGl.litA ?_) | (refine RGl.fin (fun e hk => ?_); (try dsimp only [bndA, ensAR, oksA, List.append_nil, List.nil_append, List.cons_append, List.append_assoc] at hk ⊢); (repeat (obtain ⟨hk1, hk⟩ := hk))) | fail)
     | (refine isCond ?_; first | refine WPc.cT ?_ | refine WPc.cF ?_ | (refine WPc.cQ (fun hc => ?_) (fun hc => ?_) <;> try exact prA))
     | (refine isLit ?_; refine WPl.lit fun v hv => ?_)
     | (refine isApp ?_; refine WPl.app fun v hv => ?_)
     | (refine isC 31 ?_; refine WPl.cV (g1) ?_)
     | (refine isC 37 ?_; refine WPl.cV (g2) ?_)
     | (refine isC 65 ?_; refine WPl.cR (rput_t _ [] s.src 2 (by omega) (by omega) (by simp)) fun v hv => ?_)
     | (refine isC 69 ?_; refine WPl.cR (rput_t _ ([] ++ be s.src 2) s.dst 2 (by omega) (by omega) (by simp; omega)) fun v hv => ?_)
     | (refine isC 83 ?_; refine WPl.cR (rput_t _ ([] ++ be s.src 2 ++ be s.dst 2) (8 + d.length) 2 (by omega) (by omega) (by simp; omega)) fun v hv => ?_)
     | (refine isC 105 ?_; refine WPl.cR (c1) fun v hv => ?_)
     | (refine isC 108 ?_; refine WPl.cV (c2 _) ?_)
     | (refine isD 123 ?_; refine WPl.rdX (ReadR.convT hw1 rfl rfl) ?_)
     | (refine isD 126 ?_; refine WPl.rdX (ReadR.convT hw2 rfl rfl) ?_)
     | (refine isOp ?_; first | refine WPl.rd ?_ | refine WPl.sk ?_ | refine WPl.rdB ?_)
     | (refine isBx ?_; refine WPl.nw fun g => ?_)
     | (refine isSt ?_; first | refine WPl.st1 ?_ | refine WPl.stA ?_ | refine WPl.stEB ?_ | refine WPl.stRB ?_)
     | (show WPl _ _ _ _ _ _ _ (⟨_, .indexAddr _ _ _, _, _, _, _⟩ :: _) _; refine WPl.rdX (ReadR.indexE rfl rfl hasA (by first | assumption | omega)) ?_)
     | (show WPl _ _ _ _ _ _ _ (⟨_, .fieldAddr _ _ _, _, _, _, _⟩ :: _) _; refine WPl.rdX (ReadR.fieldE rfl hasA (by first | assumption | omega)) ?_)
     | (show WPl _ _ _ _ _ _ _ (⟨_, .load _ _, _, _, _, _⟩ :: _) _; first | refine WPl.rdX (ReadR.loadE rfl hasA (by assumption)) ?_ | refine WPl.rdX (ReadR.loadES (by assumption) (by first | assumption | omega) rfl hasA) ?_)
     | (show WPl _ _ _ _ _ _ _ (⟨_, .slice _ _ _ _ _, _, _, _, _⟩ :: _) _; first | refine WPl.rdX (ReadR.sliceH rfl rfl hasA (by omega)) ?_ | refine WPl.rdX (ReadR.sliceL rfl rfl hasA (by omega)) ?_ | refine WPl.rdX (ReadR.sliceLH rfl rfl rfl hasA (by omega) (by omega)) ?_)
     | (refine WPl.spQ (fun hc => ?_) (fun hc => ?_) <;> try exact prA)
     | fail)
    all_goals try (first | exact WPq.dTp | exact WPq.dTs | exact WPq.dV | exact WPq.dR | exact WPq.dR2 | exact WPq.dH | exact WPq.dBH | exact WPq.dT)
end Go.Proofs.YtpilenbdimhegaaGreatDoor
/- References of layers 13 to 16: packets written, in all cases: contracts. -/
namespace Go.Proofs.YtpilenbdimhegaaGreatDoor
open Go.RowKit
set_option linter.unusedSimpArgs false
set_option linter.unusedVariables false
set_option maxRecDepth 20000
set_option maxHeartbeats 4000000
attribute [local irreducible] WPc WPl WPq ReadR OpT BinR HasS bx rdN rowN Take Takes Prov Triple ResF BuildP Done ag Int.decLt Int.decLe Int.instDecidableEq
attribute [local irreducible] be psu swT swU
theorem rfourG_t (a : Adr) : Triple Tryz.prog 85 #[ag (adc a)] [] (RVal (.bool (!a.six && a.good))) := by
  have g1 := rgood_t a
  have l1 := a.len
  cases hs : a.six with
  | true =>
    refine Triple.enter Tryz.func85 rfl Tryz.ntmps85 rfl (fun W => ?_)
    dsimp only [argsF, Nat.reduceAdd]
    repeat' (first
     | refine WPl.nil ?_ | refine WPq.then ?_ | refine WPc.seq ?_ | refine WPc.ret ?_ | refine WPc.region ?_
     | (refine isOp ?_; first | refine WPl.rd ?_ | refine WPl.sk ?_ | refine WPl.rdB ?_)
     | (refine isBx ?_; refine WPl.nw fun g => ?_)
     | (refine WPl.spQ (fun hc => ?_) (fun hc => ?_) <;> try exact prA)
     | fail)
    all_goals try (first | exact WPq.dTp | exact WPq.dTs | exact WPq.dV | exact WPq.dR | exact WPq.dR2 | exact WPq.dH | exact WPq.dBH | exact WPq.dT)
  | false =>
    refine Triple.enter Tryz.func85 rfl Tryz.ntmps85 rfl (fun W => ?_)
    dsimp only [argsF, Nat.reduceAdd]
    repeat' (first
     | refine WPl.nil ?_ | refine WPq.then ?_ | refine WPc.seq ?_ | refine WPc.ret ?_ | refine WPc.region ?_
     | (refine isC 8 ?_; refine WPl.cV (g1) ?_)
     | (refine isOp ?_; first | refine WPl.rd ?_ | refine WPl.sk ?_ | refine WPl.rdB ?_)
     | (refine isBx ?_; refine WPl.nw fun g => ?_)
     | (refine WPl.spQ (fun hc => ?_) (fun hc => ?_) <;> try exact prA)
     | fail)
    all_goals try (first | exact WPq.dTp | exact WPq.dTs | exact WPq.dV | exact WPq.dR | exact WPq.dR2 | exact WPq.dH | exact WPq.dBH | exact WPq.dT)
theorem rfwriteNo_t (h : Hd) (vd : Value) (d : List UInt8) (hb : fwBad h = true) : Triple Tryz.prog 60 #[ag (hdc h), vd] [rb vd d] (RW [] 1) := by
  have l1 := h.src.len
  have l2 := h.dst.len
  have g1 := rfourG_t h.src
  have g2 := rfourG_t h.dst
  have hall : ¬ (h.six = false ∧ (!h.src.six && h.src.good) = true ∧ (!h.dst.six && h.dst.good) = true ∧ ¬ ((h.hops.toNat : Nat) : Int) = 0 ∧ h.part = false) := by
    rintro ⟨a1, a2, a3, a4, a5⟩
    unfold fwBad at hb
    simp at a2 a3
    rw [a1, a5, a2.1, a2.2, a3.1, a3.2] at hb
    simp at hb
    exact a4 (by omega)
  generalize (!h.src.six && h.src.good) = X1 at *
  generalize (!h.dst.six && h.dst.good) = X2 at *
  by_cases b1 : h.six = true
  · skip
    refine Triple.enter Tryz.func60 rfl Tryz.ntmps60 rfl (fun W => ?_)
    dsimp only [argsF, Nat.reduceAdd]
    repeat' (first
     | refine WPl.nil ?_ | refine WPq.then ?_ | refine WPq.thenR ?_ | refine WPc.seq ?_ | refine WPc.ret ?_ | refine WPc.region ?_
     | (refine isCond ?_; first | refine WPc.cT ?_ | refine WPc.cF ?_ | (refine WPc.cQ (fun hc => ?_) (fun hc => ?_) <;> try exact prA))
     | (refine isLit ?_; refine WPl.lit fun v hv => ?_)
     | (refine isOp ?_; first | refine WPl.rd ?_ | refine WPl.sk ?_ | refine WPl.rdB ?_)
     | (refine isBx ?_; refine WPl.nw fun g => ?_)
     | (refine WPl.spQ (fun hc => ?_) (fun hc => ?_) <;> try exact prA)
     | fail)
    all_goals try (first | exact WPq.dTp | exact WPq.dTs | exact WPq.dV | exact WPq.dR | exact WPq.dR2 | exact WPq.dH | exact WPq.dBH | exact WPq.dT)
  have b1' : h.six = false := by simpa using b1
  by_cases b2 : X1 = true
  rotate_left
  · rw [show X1 = false by simpa using b2] at g1
    refine Triple.enter Tryz.func60 rfl Tryz.ntmps60 rfl (fun W => ?_)
    dsimp only [argsF, Nat.reduceAdd]
    repeat' (first
     | refine WPl.nil ?_ | refine WPq.then ?_ | refine WPq.thenR ?_ | refine WPc.seq ?_ | refine WPc.ret ?_ | refine WPc.region ?_
     | (refine isCond ?_; first | refine WPc.cT ?_ | refine WPc.cF ?_ | (refine WPc.cQ (fun hc => ?_) (fun hc => ?_) <;> try exact prA))
     | (refine isLit ?_; refine WPl.lit fun v hv => ?_)
     | (refine isC 13 ?_; refine WPl.cV (g1) ?_)
     | (refine isOp ?_; first | refine WPl.rd ?_ | refine WPl.sk ?_ | refine WPl.rdB ?_)
     | (refine isBx ?_; refine WPl.nw fun g => ?_)
     | (refine WPl.spQ (fun hc => ?_) (fun hc => ?_) <;> try exact prA)
     | fail)
    all_goals try (first | exact WPq.dTp | exact WPq.dTs | exact WPq.dV | exact WPq.dR | exact WPq.dR2 | exact WPq.dH | exact WPq.dBH | exact WPq.dT)
  by_cases b3 : X2 = true
  rotate_left
  · rw [show X2 = false by simpa using b3] at g2
    rw [b2] at g1
    refine Triple.enter Tryz.func60 rfl Tryz.ntmps60 rfl (fun W => ?_)
    dsimp only [argsF, Nat.reduceAdd]
    repeat' (first
     | refine WPl.nil ?_ | refine WPq.then ?_ | refine WPq.thenR ?_ | refine WPc.seq ?_ | refine WPc.ret ?_ | refine WPc.region ?_
     | (refine isCond ?_; first | refine WPc.cT ?_ | refine WPc.cF ?_ | (refine WPc.cQ (fun hc => ?_) (fun hc => ?_) <;> try exact prA))
     | (refine isLit ?_; refine WPl.lit fun v hv => ?_)
     | (refine isC 13 ?_; refine WPl.cV (g1) ?_)
     | (refine isC 19 ?_; refine WPl.cV (g2) ?_)
     | (refine isOp ?_; first | refine WPl.rd ?_ | refine WPl.sk ?_ | refine WPl.rdB ?_)
     | (refine isBx ?_; refine WPl.nw fun g => ?_)
     | (refine WPl.spQ (fun hc => ?_) (fun hc => ?_) <;> try exact prA)
     | fail)
    all_goals try (first | exact WPq.dTp | exact WPq.dTs | exact WPq.dV | exact WPq.dR | exact WPq.dR2 | exact WPq.dH | exact WPq.dBH | exact WPq.dT)
  rw [b2] at g1
  rw [b3] at g2
  by_cases b4 : ((h.hops.toNat : Nat) : Int) = 0
  · skip
    refine Triple.enter Tryz.func60 rfl Tryz.ntmps60 rfl (fun W => ?_)
    dsimp only [argsF, Nat.reduceAdd]
    repeat' (first
     | refine WPl.nil ?_ | refine WPq.then ?_ | refine WPq.thenR ?_ | refine WPc.seq ?_ | refine WPc.ret ?_ | refine WPc.region ?_
     | (refine isCond ?_; first | refine WPc.cT ?_ | refine WPc.cF ?_ | (refine WPc.cQ (fun hc => ?_) (fun hc => ?_) <;> try exact prA))
     | (refine isLit ?_; refine WPl.lit fun v hv => ?_)
     | (refine isC 13 ?_; refine WPl.cV (g1) ?_)
     | (refine isC 19 ?_; refine WPl.cV (g2) ?_)
     | (refine isD 25 ?_; refine WPl.rdX (ReadR.binE rfl rfl BinR.eql (congrArg Value.bool (decide_eq_true b4))) ?_)
     | (refine isOp ?_; first | refine WPl.rd ?_ | refine WPl.sk ?_ | refine WPl.rdB ?_)
     | (refine isBx ?_; refine WPl.nw fun g => ?_)
     | (refine WPl.spQ (fun hc => ?_) (fun hc => ?_) <;> try exact prA)
     | fail)
    all_goals try (first | exact WPq.dTp | exact WPq.dTs | exact WPq.dV | exact WPq.dR | exact WPq.dR2 | exact WPq.dH | exact WPq.dBH | exact WPq.dT)
  have b5 : h.part = true := by
    cases hp : h.part with
    | true => rfl
    | false => exact absurd ⟨b1', b2, b3, b4, hp⟩ hall
  refine Triple.enter Tryz.func60 rfl Tryz.ntmps60 rfl (fun W => ?_)
  dsimp only [argsF, Nat.reduceAdd]
  repeat' (first
   | refine WPl.nil ?_ | refine WPq.then ?_ | refine WPq.thenR ?_ | refine WPc.seq ?_ | refine WPc.ret ?_ | refine WPc.region ?_
   | (refine isCond ?_; first | refine WPc.cT ?_ | refine WPc.cF ?_ | (refine WPc.cQ (fun hc => ?_) (fun hc => ?_) <;> try exact prA))
   | (refine isLit ?_; refine WPl.lit fun v hv => ?_)
   | (refine isC 13 ?_; refine WPl.cV (g1) ?_)
   | (refine isC 19 ?_; refine WPl.cV (g2) ?_)
   | (refine isD 25 ?_; refine WPl.rdX (ReadR.binE rfl rfl BinR.eql (congrArg Value.bool (decide_eq_false b4))) ?_)
   | (refine isOp ?_; first | refine WPl.rd ?_ | refine WPl.sk ?_ | refine WPl.rdB ?_)
   | (refine isBx ?_; refine WPl.nw fun g => ?_)
   | (refine WPl.spQ (fun hc => ?_) (fun hc => ?_) <;> try exact prA)
   | fail)
  all_goals try (first | exact WPq.dTp | exact WPq.dTs | exact WPq.dV | exact WPq.dR | exact WPq.dR2 | exact WPq.dH | exact WPq.dBH | exact WPq.dT)
theorem rfwG_t (h : Hd) (vd : Value) (d : List UInt8) (hd : d.length ≤ 1000) : Triple Tryz.prog 60 #[ag (hdc h), vd] [rb vd d] (RW (fwL h d) (fwerr h d.length)) := by
  cases hb : fwBad h with
  | true =>
    have e : fwerr h d.length = 1 := by unfold fwerr; rw [hb, if_pos rfl]
    rw [e, show fwL h d = [] by unfold fwL; rw [e, if_neg (by omega)]]
    exact rfwriteNo_t h vd d hb
  | false =>
    have e : fwerr h d.length = 0 := by unfold fwerr; rw [hb, if_neg (by decide), if_neg (by omega)]
    rw [e, show fwL h d = fpkt h d by unfold fwL; rw [e, if_pos rfl]]
    exact rfwrite_t h vd d hd hb
theorem rxwG_t (h : Hd) (vd : Value) (d : List UInt8) (hd : d.length ≤ 1000) : Triple Tryz.prog 59 #[ag (hdc h), vd] [rb vd d] (RW (xwL h d) (xwerr h d.length)) := by
  have l1 := h.src.len
  have l2 := h.dst.len
  have g1 := rbtw_t h.proto
  have a1 := rbytes_t h.src
  have a2 := rbytes_t h.dst
  have c45 := fun v => rput_t v (nbs [96, 0, 0, 0]) d.length 2 (by omega) (by omega) (by simp [nbs])
  have hbl := be_length d.length 2
  have y1 := h.src.bytes_le
  have y2 := h.dst.bytes_le
  have e0 : xpkt h d = nbs [96, 0, 0, 0] ++ be d.length 2 ++ nbs [((h.proto.toNat : Nat) : Int), ((h.hops.toNat : Nat) : Int)] ++ h.src.bytes ++ h.dst.bytes ++ d := by unfold xpkt; simp
  by_cases b1 : h.six = true
  rotate_left
  · have ex : xwerr h d.length = 1 := by unfold xwerr; rw [if_pos (by unfold xwBad; rw [show h.six = false by simpa using b1]; rfl)]
    rw [ex, show xwL h d = [] by unfold xwL; rw [ex, if_neg (by omega)]]
    refine Triple.enter Tryz.func59 rfl Tryz.ntmps59 rfl (fun W => ?_)
    dsimp only [argsF, Nat.reduceAdd]
    repeat' (first
     | refine WPl.nil ?_ | refine WPq.then ?_ | refine WPq.thenR ?_ | refine WPc.seq ?_ | refine WPc.ret ?_ | refine WPc.region ?_
     | (refine isCond ?_; first | refine WPc.cT ?_ | refine WPc.cF ?_ | (refine WPc.cQ (fun hc => ?_) (fun hc => ?_) <;> try exact prA))
     | (refine isLit ?_; refine WPl.lit fun v hv => ?_)
     | (refine isOp ?_; first | refine WPl.rd ?_ | refine WPl.sk ?_ | refine WPl.rdB ?_)
     | (refine isBx ?_; refine WPl.nw fun g => ?_)
     | (refine WPl.spQ (fun hc => ?_) (fun hc => ?_) <;> try exact prA)
     | fail)
    all_goals try (first | exact WPq.dTp | exact WPq.dTs | exact WPq.dV | exact WPq.dR | exact WPq.dR2 | exact WPq.dH | exact WPq.dBH | exact WPq.dT)
  by_cases b2 : h.src.six = true
  rotate_left
  · have ex : xwerr h d.length = 1 := by unfold xwerr; rw [if_pos (by unfold xwBad; rw [show h.src.six = false by simpa using b2]; simp)]
    rw [ex, show xwL h d = [] by unfold xwL; rw [ex, if_neg (by omega)]]
    refine Triple.enter Tryz.func59 rfl Tryz.ntmps59 rfl (fun W => ?_)
    dsimp only [argsF, Nat.reduceAdd]
    repeat' (first
     | refine WPl.nil ?_ | refine WPq.then ?_ | refine WPq.thenR ?_ | refine WPc.seq ?_ | refine WPc.ret ?_ | refine WPc.region ?_
     | (refine isCond ?_; first | refine WPc.cT ?_ | refine WPc.cF ?_ | (refine WPc.cQ (fun hc => ?_) (fun hc => ?_) <;> try exact prA))
     | (refine isLit ?_; refine WPl.lit fun v hv => ?_)
     | (refine isOp ?_; first | refine WPl.rd ?_ | refine WPl.sk ?_ | refine WPl.rdB ?_)
     | (refine isBx ?_; refine WPl.nw fun g => ?_)
     | (refine WPl.spQ (fun hc => ?_) (fun hc => ?_) <;> try exact prA)
     | fail)
    all_goals try (first | exact WPq.dTp | exact WPq.dTs | exact WPq.dV | exact WPq.dR | exact WPq.dR2 | exact WPq.dH | exact WPq.dBH | exact WPq.dT)
  by_cases b3 : h.dst.six = true
  rotate_left
  · have ex : xwerr h d.length = 1 := by unfold xwerr; rw [if_pos (by unfold xwBad; rw [show h.dst.six = false by simpa using b3]; simp)]
    rw [ex, show xwL h d = [] by unfold xwL; rw [ex, if_neg (by omega)]]
    refine Triple.enter Tryz.func59 rfl Tryz.ntmps59 rfl (fun W => ?_)
    dsimp only [argsF, Nat.reduceAdd]
    repeat' (first
     | refine WPl.nil ?_ | refine WPq.then ?_ | refine WPq.thenR ?_ | refine WPc.seq ?_ | refine WPc.ret ?_ | refine WPc.region ?_
     | (refine isCond ?_; first | refine WPc.cT ?_ | refine WPc.cF ?_ | (refine WPc.cQ (fun hc => ?_) (fun hc => ?_) <;> try exact prA))
     | (refine isLit ?_; refine WPl.lit fun v hv => ?_)
     | (refine isOp ?_; first | refine WPl.rd ?_ | refine WPl.sk ?_ | refine WPl.rdB ?_)
     | (refine isBx ?_; refine WPl.nw fun g => ?_)
     | (refine WPl.spQ (fun hc => ?_) (fun hc => ?_) <;> try exact prA)
     | fail)
    all_goals try (first | exact WPq.dTp | exact WPq.dTs | exact WPq.dV | exact WPq.dR | exact WPq.dR2 | exact WPq.dH | exact WPq.dBH | exact WPq.dT)
  by_cases b4 : ((h.hops.toNat : Nat) : Int) = 0
  · have ex : xwerr h d.length = 1 := by unfold xwerr; rw [if_pos (by unfold xwBad; rw [decide_eq_true b4]; simp)]
    rw [ex, show xwL h d = [] by unfold xwL; rw [ex, if_neg (by omega)]]
    refine Triple.enter Tryz.func59 rfl Tryz.ntmps59 rfl (fun W => ?_)
    dsimp only [argsF, Nat.reduceAdd]
    repeat' (first
     | refine WPl.nil ?_ | refine WPq.then ?_ | refine WPq.thenR ?_ | refine WPc.seq ?_ | refine WPc.ret ?_ | refine WPc.region ?_
     | (refine isCond ?_; first | refine WPc.cT ?_ | refine WPc.cF ?_ | (refine WPc.cQ (fun hc => ?_) (fun hc => ?_) <;> try exact prA))
     | (refine isLit ?_; refine WPl.lit fun v hv => ?_)
     | (refine isD 25 ?_; refine WPl.rdX (ReadR.binE rfl rfl BinR.eql (congrArg Value.bool (decide_eq_true b4))) ?_)
     | (refine isOp ?_; first | refine WPl.rd ?_ | refine WPl.sk ?_ | refine WPl.rdB ?_)
     | (refine isBx ?_; refine WPl.nw fun g => ?_)
     | (refine WPl.spQ (fun hc => ?_) (fun hc => ?_) <;> try exact prA)
     | fail)
    all_goals try (first | exact WPq.dTp | exact WPq.dTs | exact WPq.dV | exact WPq.dR | exact WPq.dR2 | exact WPq.dH | exact WPq.dBH | exact WPq.dT)
  by_cases b5 : h.part = true
  · have ex : xwerr h d.length = 1 := by unfold xwerr; rw [if_pos (by unfold xwBad; rw [b5]; simp)]
    rw [ex, show xwL h d = [] by unfold xwL; rw [ex, if_neg (by omega)]]
    refine Triple.enter Tryz.func59 rfl Tryz.ntmps59 rfl (fun W => ?_)
    dsimp only [argsF, Nat.reduceAdd]
    repeat' (first
     | refine WPl.nil ?_ | refine WPq.then ?_ | refine WPq.thenR ?_ | refine WPc.seq ?_ | refine WPc.ret ?_ | refine WPc.region ?_
     | (refine isCond ?_; first | refine WPc.cT ?_ | refine WPc.cF ?_ | (refine WPc.cQ (fun hc => ?_) (fun hc => ?_) <;> try exact prA))
     | (refine isLit ?_; refine WPl.lit fun v hv => ?_)
     | (refine isD 25 ?_; refine WPl.rdX (ReadR.binE rfl rfl BinR.eql (congrArg Value.bool (decide_eq_false b4))) ?_)
     | (refine isOp ?_; first | refine WPl.rd ?_ | refine WPl.sk ?_ | refine WPl.rdB ?_)
     | (refine isBx ?_; refine WPl.nw fun g => ?_)
     | (refine WPl.spQ (fun hc => ?_) (fun hc => ?_) <;> try exact prA)
     | fail)
    all_goals try (first | exact WPq.dTp | exact WPq.dTs | exact WPq.dV | exact WPq.dR | exact WPq.dR2 | exact WPq.dH | exact WPq.dBH | exact WPq.dT)
  have b5' : h.part = false := by simpa using b5
  by_cases b6 : btw h.proto = true
  · have ex : xwerr h d.length = 1 := by unfold xwerr; rw [if_pos (by unfold xwBad; rw [b6]; simp)]
    rw [ex, show xwL h d = [] by unfold xwL; rw [ex, if_neg (by omega)]]
    rw [b6] at g1
    refine Triple.enter Tryz.func59 rfl Tryz.ntmps59 rfl (fun W => ?_)
    dsimp only [argsF, Nat.reduceAdd]
    repeat' (first
     | refine WPl.nil ?_ | refine WPq.then ?_ | refine WPq.thenR ?_ | refine WPc.seq ?_ | refine WPc.ret ?_ | refine WPc.region ?_
     | (refine isCond ?_; first | refine WPc.cT ?_ | refine WPc.cF ?_ | (refine WPc.cQ (fun hc => ?_) (fun hc => ?_) <;> try exact prA))
     | (refine isLit ?_; refine WPl.lit fun v hv => ?_)
     | (refine isC 34 ?_; refine WPl.cV (g1) ?_)
     | (refine isD 25 ?_; refine WPl.rdX (ReadR.binE rfl rfl BinR.eql (congrArg Value.bool (decide_eq_false b4))) ?_)
     | (refine isOp ?_; first | refine WPl.rd ?_ | refine WPl.sk ?_ | refine WPl.rdB ?_)
     | (refine isBx ?_; refine WPl.nw fun g => ?_)
     | (refine WPl.spQ (fun hc => ?_) (fun hc => ?_) <;> try exact prA)
     | fail)
    all_goals try (first | exact WPq.dTp | exact WPq.dTs | exact WPq.dV | exact WPq.dR | exact WPq.dR2 | exact WPq.dH | exact WPq.dBH | exact WPq.dT)
  have b6' : btw h.proto = false := by simpa using b6
  have ex : xwerr h d.length = 0 := by
    unfold xwerr
    rw [if_neg (by unfold xwBad; rw [b1, b2, b3, b5', b6', decide_eq_false b4]; simp), if_neg (by omega)]
  rw [ex, show xwL h d = xpkt h d by unfold xwL; rw [ex, if_pos rfl], e0]
  rw [b6'] at g1
  generalize h.src.bytes = y1 at *
  generalize h.dst.bytes = y2 at *
  refine Triple.enter Tryz.func59 rfl Tryz.ntmps59 rfl (fun W => ?_)
  dsimp only [argsF, Nat.reduceAdd]
  repeat' (first
   | refine WPl.nil ?_ | refine WPq.then ?_ | refine WPc.seq ?_ | refine WPc.skip ?_ | refine WPc.region ?_
   | (refine isReg 5 ?_; refine WPc.drA [([], [42, 43, 44, 46, 47, 48, 49, 50]), ([], [41, 46, 47, 48, 49, 50]), ([1], [41, 42, 46, 47, 48, 49, 50]), ([1, 2], [41, 42, 43, 46, 47, 48, 49, 50]), ([0, 1, 2, 3], [41, 42, 43, 44, 46, 47, 48, 49, 50]), ([], [41, 42, 43, 44, 45, 48, 49]), ([5], [41, 42, 43, 44, 45, 46, 48, 49]), ([], [41, 42, 43, 44, 45, 46, 47]), ([7], [41, 42, 43, 44, 45, 46, 47, 48]), ([5, 6, 7, 8], [41, 42, 43, 44, 45, 46, 47, 48, 49]), ([0, 1, 2, 3, 4, 5, 6, 7, 8, 9], [41, 42, 43, 44, 45, 46, 47, 48, 49, 50]), ([0, 1, 2, 3, 4, 5, 6, 7, 8, 9, 10], [41, 42, 43, 44, 45, 46, 47, 48, 49, 50, 51])] [(4, 10)] (Γx := []) ?_; dsimp only [prev0, List.length_nil, List.length_cons])
   | (refine gAny ?_; first | (refine gC 45 ?_; refine RGl.row (Γ1 := fun _ => []) (fun e hk => OpT.callN ((c45 _))) ?_) | (refine gOp ?_; first | refine RGl.rdA ?_ | refine RGl.rdX (fun e hk => by (try dsimp only [bndR, ensR, oksR, fcutR, List.append_nil, List.nil_append, List.cons_append, List.append_assoc] at hk ⊢); exact readB) ?_) | (refine gLit ?_; refine RGl.litA ?_) | (refine gApp ?_; refine RGl.appA ?_) | (refine RGl.fin (fun e hk => ?_); (try dsimp only [bndA, ensAR, oksA, List.append_nil, List.nil_append, List.cons_append, List.append_assoc] at hk ⊢); (repeat (obtain ⟨hk1, hk⟩ := hk))) | fail)
   | (refine isCond ?_; first | refine WPc.cT ?_ | refine WPc.cF ?_ | (refine WPc.cQ (fun hc => ?_) (fun hc => ?_) <;> try exact prA))
   | (refine isC 34 ?_; refine WPl.cV (g1) ?_)
   | (refine isD 25 ?_; refine WPl.rdX (ReadR.binE rfl rfl BinR.eql (congrArg Value.bool (decide_eq_false b4))) ?_)
   | (refine isD 39 ?_; refine WPl.rdX (ReadR.binE rfl rfl BinR.gtr (congrArg Value.bool (decide_eq_false (by omega)))) ?_)
   | (refine isOp ?_; first | refine WPl.rd ?_ | refine WPl.sk ?_ | refine WPl.rdB ?_)
   | (refine isBx ?_; refine WPl.nw fun g => ?_)
   | (refine WPl.spQ (fun hc => ?_) (fun hc => ?_) <;> try exact prA)
   | fail)
  dsimp only [Nat.reduceAdd]
  have h6 : (e 10).1.oneCell' = true := by assumption
  generalize (e 10).1 = w6 at *
  repeat' (first
   | refine WPq.then ?_ | refine WPc.ret ?_
   | (refine isReg 6 ?_; refine WPc.drA [([13], [53, 54, 55, 57, 58, 61]), ([13], [52, 57, 58, 61]), ([1, 13], [52, 53, 57, 58, 61]), ([1, 2, 13], [52, 53, 54, 57, 58, 61]), ([0, 1, 2, 3, 13], [52, 53, 54, 55, 57, 58, 61]), ([13], [52, 53, 54, 55, 56, 61]), ([5, 13], [52, 53, 54, 55, 56, 57, 61]), ([0, 1, 2, 3, 4, 5, 6, 13], [52, 53, 54, 55, 56, 57, 58, 61]), ([0, 1, 2, 3, 4, 5, 6, 7, 13], [52, 53, 54, 55, 56, 57, 58, 59, 61]), ([13], [52, 53, 54, 55, 56, 57, 58, 59, 60]), ([0, 1, 2, 3, 4, 5, 6, 7, 8, 9, 13], [52, 53, 54, 55, 56, 57, 58, 59, 60, 61]), ([0, 1, 2, 3, 4, 5, 6, 7, 8, 9, 10, 13], [52, 53, 54, 55, 56, 57, 58, 59, 60, 61, 62]), ([0, 1, 2, 3, 4, 5, 6, 7, 8, 9, 10, 11, 13], [4, 52, 53, 54, 55, 56, 57, 58, 59, 60, 61, 62])] [(13, 4), (4, 8), (8, 10), (13, 0), (13, 1), (13, 2), (13, 3), (4, 7)] (Γx := [ob w6 (nbs [96, 0, 0, 0] ++ be d.length 2 ++ nbs [((h.proto.toNat : Nat) : Int), ((h.hops.toNat : Nat) : Int)])]) ?_; dsimp only [prev0, List.length_nil, List.length_cons])
   | (refine gAny ?_; first | (refine gC 55 ?_; refine RGl.row (Γ1 := fun _ => []) (fun e hk => OpT.callN (a1)) ?_) | (refine gC 59 ?_; refine RGl.row (Γ1 := fun _ => []) (fun e hk => OpT.callN (a2)) ?_) | (refine gOp ?_; first | refine RGl.rdA ?_ | refine RGl.rdX (fun e hk => by (try dsimp only [bndR, ensR, oksR, fcutR, List.append_nil, List.nil_append, List.cons_append, List.append_assoc] at hk ⊢); exact readB) ?_) | (refine gApp ?_; refine RGl.appA ?_) | (refine RGl.fin (fun e hk => ?_); (try dsimp only [bndA, ensAR, oksA, List.append_nil, List.nil_append, List.cons_append, List.append_assoc] at hk ⊢); (repeat (obtain ⟨hk1, hk⟩ := hk))) | fail)
   | fail)
  all_goals try (first | exact WPq.dTp | exact WPq.dTs | exact WPq.dV | exact WPq.dR | exact WPq.dR2 | exact WPq.dH | exact WPq.dBH | exact WPq.dT)

end Go.Proofs.YtpilenbdimhegaaGreatDoor
/- References of layers 15 and 16: a segment and a packet written, in all cases: contracts. -/
namespace Go.Proofs.YtpilenbdimhegaaGreatDoor
open Go.RowKit
set_option linter.unusedSimpArgs false
set_option linter.unusedVariables false
set_option maxRecDepth 20000
set_option maxHeartbeats 4000000
attribute [local irreducible] WPc WPl WPq ReadR OpT BinR HasS bx rdN rowN Take Takes Prov Triple ResF BuildP Done ag Int.decLt Int.decLe Int.instDecidableEq
attribute [local irreducible] be psu swT swU
theorem rswT_t (h : Hd) (s : Sg) (vd : Value) (d : List UInt8) (hd : d.length ≤ 1000) (hs1 : s.src < 65536) (hs2 : s.dst < 65536) (h6 : h.proto.toNat = 6) (hb : swBad h s = false) :
    Triple Tryz.prog 58 #[ag (hdc h), ag (sgc s), vd] [rb vd d] (RW (summ h (swT s d) 16) 0) := by
  have l1 := h.src.len
  have l2 := h.dst.len
  obtain ⟨b1, b2, b3, b4, b5, b6⟩ := swBad_no hb
  have g1 := rgood_t h.src
  have g2 := rgood_t h.dst
  rw [b3] at g1
  rw [b4] at g2
  have hb1 := be_length s.src 2
  have hb2 := be_length s.dst 2
  have hul := swT_len s d
  have hue : [] ++ be s.src 2 ++ be s.dst 2 ++ nbs [0, 0, 0, 0, 0, 0, 0, 0, 80, ((s.flags.toNat : Nat) : Int), 0, 0, 0, 0, 0, 0] ++ d = swT s d := by unfold swT; simp [nbs, List.replicate]
  have hpl := psu_len h (swT s d).length
  have hnl := sumN_le h (swT s d)
  have c1 := rpseudo_t h ((swT s d).length : Int) (swT s d).length (wrapLen (by omega)) (by omega)
  have c2 := fun v => rsum_t v (psu h (swT s d).length ++ swT s d) (by simp; omega)
  have hcl := csum_le (psu h (swT s d).length ++ swT s d)
  have hN : sumN h (swT s d) = csum (psu h (swT s d).length ++ swT s d) := by
    unfold sumN
    rw [if_neg (fun hh => by have := hh.2; omega)]
  have hres : ((swT s d).set 16 (UInt8.ofNat (sumN h (swT s d) / 256))).set 17 (UInt8.ofNat (sumN h (swT s d))) = summ h (swT s d) 16 := by rw [over_set2 (by omega)]; rfl
  have hsl : ((swT s d).set 16 (UInt8.ofNat (sumN h (swT s d) / 256))).length = 20 + d.length := by rw [List.length_set]; exact hul
  rw [← hres]
  rw [hN] at hnl hsl ⊢
  obtain ⟨c, hc⟩ : ∃ c, c = csum (psu h (swT s d).length ++ swT s d) := ⟨_, rfl⟩
  rw [← hc] at c2 hcl hnl hsl ⊢
  obtain ⟨p, hp⟩ : ∃ p, p = psu h (swT s d).length := ⟨_, rfl⟩
  rw [← hp] at c1 c2 hpl
  clear hc hres hp hN
  obtain ⟨U, hU⟩ : ∃ U, U = swT s d := ⟨_, rfl⟩
  rw [← hU] at hue hul c1 c2 hsl ⊢
  clear hU
  have hw1 := wrap_hi hnl
  have hw2 := wrap_lo hnl
  subst hue
  have hlen : 17 < ((be s.src 2 ++ be s.dst 2 ++ nbs [0, 0, 0, 0, 0, 0, 0, 0, 80, ((s.flags.toNat : Nat) : Int), 0, 0, 0, 0, 0, 0] ++ d).set 16 (UInt8.ofNat (c / 256))).length := by
    rw [List.length_set]
    simp only [List.length_append, be_length, nbs, List.length_map, List.length_cons, List.length_nil]
    omega
  refine Triple.enter Tryz.func58 rfl Tryz.ntmps58 rfl (fun W => ?_)
  dsimp only [argsF, Nat.reduceAdd]
  repeat' (first
   | refine WPl.nil ?_ | refine WPq.then ?_ | refine WPc.seq ?_ | refine WPc.ret ?_ | refine WPc.skip ?_ | refine WPc.region ?_
   | (refine isReg 7 ?_; refine WPc.drA [([], [62, 63, 64, 66, 67, 68]), ([], [61, 66, 67, 68]), ([1], [61, 62, 66, 67, 68]), ([1, 2], [61, 62, 63, 66, 67, 68]), ([0, 1, 2, 3], [61, 62, 63, 64, 66, 67, 68]), ([], [61, 62, 63, 64, 65]), ([5], [61, 62, 63, 64, 65, 66]), ([5, 6], [61, 62, 63, 64, 65, 66, 67]), ([0, 1, 2, 3, 4, 5, 6, 7], [61, 62, 63, 64, 65, 66, 67, 68]), ([0, 1, 2, 3, 4, 5, 6, 7, 8], [61, 62, 63, 64, 65, 66, 67, 68, 69])] [] (Γx := []) ?_; dsimp only [prev0, List.length_nil, List.length_cons])
   | (refine gAny ?_; first | (refine gC 65 ?_; refine RGl.row (Γ1 := fun _ => []) (fun e hk => OpT.callN (rput_t _ [] s.src 2 (by omega) (by omega) (by simp))) ?_) | (refine gC 69 ?_; refine RGl.row (Γ1 := fun _ => []) (fun e hk => OpT.callN (rput_t _ ([] ++ be s.src 2) s.dst 2 (by omega) (by omega) (by simp; omega))) ?_) | (refine gOp ?_; first | refine RGl.rdA ?_ | refine RGl.rdX (fun e hk => by (try dsimp only [bndR, ensR, oksR, fcutR, List.append_nil, List.nil_append, List.cons_append, List.append_assoc] at hk ⊢); exact readB) ?_) | (refine gLit ?_; refine RGl.litA ?_) | (refine RGl.fin (fun e hk => ?_); (try dsimp only [bndA, ensAR, oksA, List.append_nil, List.nil_append, List.cons_append, List.append_assoc] at hk ⊢); (repeat (obtain ⟨hk1, hk⟩ := hk))) | fail)
   | (refine isCond ?_; first | refine WPc.cT ?_ | refine WPc.cF ?_ | (refine WPc.cQ (fun hc => ?_) (fun hc => ?_) <;> try exact prA))
   | (refine isLit ?_; refine WPl.lit fun v hv => ?_)
   | (refine isApp ?_; refine WPl.app fun v hv => ?_)
   | (refine isC 31 ?_; refine WPl.cV (g1) ?_)
   | (refine isC 37 ?_; refine WPl.cV (g2) ?_)
   | (refine isC 105 ?_; refine WPl.cR (c1) fun v hv => ?_)
   | (refine isC 108 ?_; refine WPl.cV (c2 _) ?_)
   | (refine isD 123 ?_; refine WPl.rdX (ReadR.convT hw1 rfl rfl) ?_)
   | (refine isD 126 ?_; refine WPl.rdX (ReadR.convT hw2 rfl rfl) ?_)
   | (refine isOp ?_; first | refine WPl.rd ?_ | refine WPl.sk ?_ | refine WPl.rdB ?_)
   | (refine isBx ?_; refine WPl.nw fun g => ?_)
   | (refine isSt ?_; first | refine WPl.st1 ?_ | refine WPl.stA ?_ | refine WPl.stEB ?_ | refine WPl.stRB ?_)
   | (refine WPl.spQ (fun hc => ?_) (fun hc => ?_) <;> try exact prA)
   | fail)
  all_goals try (first | exact WPq.dTp | exact WPq.dTs | exact WPq.dV | exact WPq.dR | exact WPq.dR2 | exact WPq.dH | exact WPq.dBH | exact WPq.dT)
theorem rswNo_t (h : Hd) (s : Sg) (vd : Value) (d : List UInt8) (hd : d.length ≤ 1000) (he : ¬ swE h s d.length = 0) :
    Triple Tryz.prog 58 #[ag (hdc h), ag (sgc s), vd] [rb vd d] (RW [] (swE h s d.length)) := by
  have l1 := h.src.len
  have l2 := h.dst.len
  have g1 := rgood_t h.src
  have g2 := rgood_t h.dst
  have hpr := h.proto.toNat_lt
  by_cases hp : ¬ h.proto.toNat = 6 ∧ ¬ h.proto.toNat = 17
  · have e : swE h s d.length = 6 := by unfold swE; rw [if_pos hp]
    rw [e]
    obtain ⟨p1, p2⟩ := hp
    have q1 : Value.bool (!decide (((h.proto.toNat : Nat) : Int) = 6)) = .bool true := by rw [decide_eq_false (by omega)]; rfl
    have q2 : Value.bool (!decide (((h.proto.toNat : Nat) : Int) = 17)) = .bool true := by rw [decide_eq_false (by omega)]; rfl
    refine Triple.enter Tryz.func58 rfl Tryz.ntmps58 rfl (fun W => ?_)
    dsimp only [argsF, Nat.reduceAdd]
    repeat' (first
     | refine WPl.nil ?_ | refine WPq.then ?_ | refine WPq.thenR ?_ | refine WPc.seq ?_ | refine WPc.ret ?_ | refine WPc.region ?_
     | (refine isCond ?_; first | refine WPc.cT ?_ | refine WPc.cF ?_ | (refine WPc.cQ (fun hc => ?_) (fun hc => ?_) <;> try exact prA))
     | (refine isLit ?_; refine WPl.lit fun v hv => ?_)
     | (refine isD 13 ?_; refine WPl.rdX (ReadR.binE rfl rfl BinR.neq q1) ?_)
     | (refine isD 17 ?_; refine WPl.rdX (ReadR.binE rfl rfl BinR.neq q2) ?_)
     | (refine isOp ?_; first | refine WPl.rd ?_ | refine WPl.sk ?_ | refine WPl.rdB ?_)
     | (refine isBx ?_; refine WPl.nw fun g => ?_)
     | fail)
    all_goals try (first | exact WPq.dTp | exact WPq.dTs | exact WPq.dV | exact WPq.dR | exact WPq.dR2 | exact WPq.dH | exact WPq.dBH | exact WPq.dT)
  · have hb : swBad h s = true := by
      apply Classical.byContradiction
      intro hb
      apply he
      unfold swE
      rw [if_neg hp, if_neg hb, if_neg (by omega)]
    have e : swE h s d.length = 1 := by unfold swE; rw [if_neg hp, if_pos hb]
    rw [e]
    have hp' : h.proto.toNat = 6 ∨ h.proto.toNat = 17 := by omega
    have hall : ¬ (¬ (s.src : Int) = 0 ∧ ¬ (s.dst : Int) = 0 ∧ h.src.good = true ∧ h.dst.good = true ∧ h.src.six = h.six ∧ h.dst.six = h.six) := by
      rintro ⟨a1, a2, a3, a4, a5, a6⟩
      unfold swBad at hb
      rw [a3, a4, a5, a6, decide_eq_false a1, decide_eq_false a2] at hb
      simp at hb
    generalize h.src.good = X1 at *
    generalize h.dst.good = X2 at *
    by_cases b1 : (s.src : Int) = 0
    · rcases hp' with hp' | hp'
      · skip
        refine Triple.enter Tryz.func58 rfl Tryz.ntmps58 rfl (fun W => ?_)
        dsimp only [argsF, Nat.reduceAdd]
        repeat' (first
         | refine WPl.nil ?_ | refine WPq.then ?_ | refine WPq.thenR ?_ | refine WPc.seq ?_ | refine WPc.ret ?_ | refine WPc.skip ?_ | refine WPc.region ?_
         | (refine isCond ?_; first | refine WPc.cT ?_ | refine WPc.cF ?_ | (refine WPc.cQ (fun hc => ?_) (fun hc => ?_) <;> try exact prA))
         | (refine isLit ?_; refine WPl.lit fun v hv => ?_)
         | (refine isD 22 ?_; refine WPl.rdX (ReadR.binE rfl rfl BinR.eql (congrArg Value.bool (decide_eq_true b1))) ?_)
         | (refine isOp ?_; first | refine WPl.rd ?_ | refine WPl.sk ?_ | refine WPl.rdB ?_)
         | (refine isBx ?_; refine WPl.nw fun g => ?_)
         | (refine WPl.spQ (fun hc => ?_) (fun hc => ?_) <;> try exact prA)
         | fail)
        all_goals try (first | exact WPq.dTp | exact WPq.dTs | exact WPq.dV | exact WPq.dR | exact WPq.dR2 | exact WPq.dH | exact WPq.dBH | exact WPq.dT)
      · skip
        refine Triple.enter Tryz.func58 rfl Tryz.ntmps58 rfl (fun W => ?_)
        dsimp only [argsF, Nat.reduceAdd]
        repeat' (first
         | refine WPl.nil ?_ | refine WPq.then ?_ | refine WPq.thenR ?_ | refine WPc.seq ?_ | refine WPc.ret ?_ | refine WPc.skip ?_ | refine WPc.region ?_
         | (refine isCond ?_; first | refine WPc.cT ?_ | refine WPc.cF ?_ | (refine WPc.cQ (fun hc => ?_) (fun hc => ?_) <;> try exact prA))
         | (refine isLit ?_; refine WPl.lit fun v hv => ?_)
         | (refine isD 22 ?_; refine WPl.rdX (ReadR.binE rfl rfl BinR.eql (congrArg Value.bool (decide_eq_true b1))) ?_)
         | (refine isOp ?_; first | refine WPl.rd ?_ | refine WPl.sk ?_ | refine WPl.rdB ?_)
         | (refine isBx ?_; refine WPl.nw fun g => ?_)
         | (refine WPl.spQ (fun hc => ?_) (fun hc => ?_) <;> try exact prA)
         | fail)
        all_goals try (first | exact WPq.dTp | exact WPq.dTs | exact WPq.dV | exact WPq.dR | exact WPq.dR2 | exact WPq.dH | exact WPq.dBH | exact WPq.dT)
    by_cases b2 : (s.dst : Int) = 0
    · rcases hp' with hp' | hp'
      · skip
        refine Triple.enter Tryz.func58 rfl Tryz.ntmps58 rfl (fun W => ?_)
        dsimp only [argsF, Nat.reduceAdd]
        repeat' (first
         | refine WPl.nil ?_ | refine WPq.then ?_ | refine WPq.thenR ?_ | refine WPc.seq ?_ | refine WPc.ret ?_ | refine WPc.skip ?_ | refine WPc.region ?_
         | (refine isCond ?_; first | refine WPc.cT ?_ | refine WPc.cF ?_ | (refine WPc.cQ (fun hc => ?_) (fun hc => ?_) <;> try exact prA))
         | (refine isLit ?_; refine WPl.lit fun v hv => ?_)
         | (refine isD 22 ?_; refine WPl.rdX (ReadR.binE rfl rfl BinR.eql (congrArg Value.bool (decide_eq_false b1))) ?_)
         | (refine isD 26 ?_; refine WPl.rdX (ReadR.binE rfl rfl BinR.eql (congrArg Value.bool (decide_eq_true b2))) ?_)
         | (refine isOp ?_; first | refine WPl.rd ?_ | refine WPl.sk ?_ | refine WPl.rdB ?_)
         | (refine isBx ?_; refine WPl.nw fun g => ?_)
         | (refine WPl.spQ (fun hc => ?_) (fun hc => ?_) <;> try exact prA)
         | fail)
        all_goals try (first | exact WPq.dTp | exact WPq.dTs | exact WPq.dV | exact WPq.dR | exact WPq.dR2 | exact WPq.dH | exact WPq.dBH | exact WPq.dT)
      · skip
        refine Triple.enter Tryz.func58 rfl Tryz.ntmps58 rfl (fun W => ?_)
        dsimp only [argsF, Nat.reduceAdd]
        repeat' (first
         | refine WPl.nil ?_ | refine WPq.then ?_ | refine WPq.thenR ?_ | refine WPc.seq ?_ | refine WPc.ret ?_ | refine WPc.skip ?_ | refine WPc.region ?_
         | (refine isCond ?_; first | refine WPc.cT ?_ | refine WPc.cF ?_ | (refine WPc.cQ (fun hc => ?_) (fun hc => ?_) <;> try exact prA))
         | (refine isLit ?_; refine WPl.lit fun v hv => ?_)
         | (refine isD 22 ?_; refine WPl.rdX (ReadR.binE rfl rfl BinR.eql (congrArg Value.bool (decide_eq_false b1))) ?_)
         | (refine isD 26 ?_; refine WPl.rdX (ReadR.binE rfl rfl BinR.eql (congrArg Value.bool (decide_eq_true b2))) ?_)
         | (refine isOp ?_; first | refine WPl.rd ?_ | refine WPl.sk ?_ | refine WPl.rdB ?_)
         | (refine isBx ?_; refine WPl.nw fun g => ?_)
         | (refine WPl.spQ (fun hc => ?_) (fun hc => ?_) <;> try exact prA)
         | fail)
        all_goals try (first | exact WPq.dTp | exact WPq.dTs | exact WPq.dV | exact WPq.dR | exact WPq.dR2 | exact WPq.dH | exact WPq.dBH | exact WPq.dT)
    by_cases b3 : X1 = false
    · rw [b3] at g1
      rcases hp' with hp' | hp'
      · skip
        refine Triple.enter Tryz.func58 rfl Tryz.ntmps58 rfl (fun W => ?_)
        dsimp only [argsF, Nat.reduceAdd]
        repeat' (first
         | refine WPl.nil ?_ | refine WPq.then ?_ | refine WPq.thenR ?_ | refine WPc.seq ?_ | refine WPc.ret ?_ | refine WPc.skip ?_ | refine WPc.region ?_
         | (refine isCond ?_; first | refine WPc.cT ?_ | refine WPc.cF ?_ | (refine WPc.cQ (fun hc => ?_) (fun hc => ?_) <;> try exact prA))
         | (refine isLit ?_; refine WPl.lit fun v hv => ?_)
         | (refine isD 22 ?_; refine WPl.rdX (ReadR.binE rfl rfl BinR.eql (congrArg Value.bool (decide_eq_false b1))) ?_)
         | (refine isD 26 ?_; refine WPl.rdX (ReadR.binE rfl rfl BinR.eql (congrArg Value.bool (decide_eq_false b2))) ?_)
         | (refine isC 31 ?_; refine WPl.cV (g1) ?_)
         | (refine isOp ?_; first | refine WPl.rd ?_ | refine WPl.sk ?_ | refine WPl.rdB ?_)
         | (refine isBx ?_; refine WPl.nw fun g => ?_)
         | (refine WPl.spQ (fun hc => ?_) (fun hc => ?_) <;> try exact prA)
         | fail)
        all_goals try (first | exact WPq.dTp | exact WPq.dTs | exact WPq.dV | exact WPq.dR | exact WPq.dR2 | exact WPq.dH | exact WPq.dBH | exact WPq.dT)
      · skip
        refine Triple.enter Tryz.func58 rfl Tryz.ntmps58 rfl (fun W => ?_)
        dsimp only [argsF, Nat.reduceAdd]
        repeat' (first
         | refine WPl.nil ?_ | refine WPq.then ?_ | refine WPq.thenR ?_ | refine WPc.seq ?_ | refine WPc.ret ?_ | refine WPc.skip ?_ | refine WPc.region ?_
         | (refine isCond ?_; first | refine WPc.cT ?_ | refine WPc.cF ?_ | (refine WPc.cQ (fun hc => ?_) (fun hc => ?_) <;> try exact prA))
         | (refine isLit ?_; refine WPl.lit fun v hv => ?_)
         | (refine isD 22 ?_; refine WPl.rdX (ReadR.binE rfl rfl BinR.eql (congrArg Value.bool (decide_eq_false b1))) ?_)
         | (refine isD 26 ?_; refine WPl.rdX (ReadR.binE rfl rfl BinR.eql (congrArg Value.bool (decide_eq_false b2))) ?_)
         | (refine isC 31 ?_; refine WPl.cV (g1) ?_)
         | (refine isOp ?_; first | refine WPl.rd ?_ | refine WPl.sk ?_ | refine WPl.rdB ?_)
         | (refine isBx ?_; refine WPl.nw fun g => ?_)
         | (refine WPl.spQ (fun hc => ?_) (fun hc => ?_) <;> try exact prA)
         | fail)
        all_goals try (first | exact WPq.dTp | exact WPq.dTs | exact WPq.dV | exact WPq.dR | exact WPq.dR2 | exact WPq.dH | exact WPq.dBH | exact WPq.dT)
    have b3' : X1 = true := by simpa using b3
    rw [b3'] at g1
    by_cases b4 : X2 = false
    · rw [b4] at g2
      rcases hp' with hp' | hp'
      · skip
        refine Triple.enter Tryz.func58 rfl Tryz.ntmps58 rfl (fun W => ?_)
        dsimp only [argsF, Nat.reduceAdd]
        repeat' (first
         | refine WPl.nil ?_ | refine WPq.then ?_ | refine WPq.thenR ?_ | refine WPc.seq ?_ | refine WPc.ret ?_ | refine WPc.skip ?_ | refine WPc.region ?_
         | (refine isCond ?_; first | refine WPc.cT ?_ | refine WPc.cF ?_ | (refine WPc.cQ (fun hc => ?_) (fun hc => ?_) <;> try exact prA))
         | (refine isLit ?_; refine WPl.lit fun v hv => ?_)
         | (refine isD 22 ?_; refine WPl.rdX (ReadR.binE rfl rfl BinR.eql (congrArg Value.bool (decide_eq_false b1))) ?_)
         | (refine isD 26 ?_; refine WPl.rdX (ReadR.binE rfl rfl BinR.eql (congrArg Value.bool (decide_eq_false b2))) ?_)
         | (refine isC 31 ?_; refine WPl.cV (g1) ?_)
         | (refine isC 37 ?_; refine WPl.cV (g2) ?_)
         | (refine isOp ?_; first | refine WPl.rd ?_ | refine WPl.sk ?_ | refine WPl.rdB ?_)
         | (refine isBx ?_; refine WPl.nw fun g => ?_)
         | (refine WPl.spQ (fun hc => ?_) (fun hc => ?_) <;> try exact prA)
         | fail)
        all_goals try (first | exact WPq.dTp | exact WPq.dTs | exact WPq.dV | exact WPq.dR | exact WPq.dR2 | exact WPq.dH | exact WPq.dBH | exact WPq.dT)
      · skip
        refine Triple.enter Tryz.func58 rfl Tryz.ntmps58 rfl (fun W => ?_)
        dsimp only [argsF, Nat.reduceAdd]
        repeat' (first
         | refine WPl.nil ?_ | refine WPq.then ?_ | refine WPq.thenR ?_ | refine WPc.seq ?_ | refine WPc.ret ?_ | refine WPc.skip ?_ | refine WPc.region ?_
         | (refine isCond ?_; first | refine WPc.cT ?_ | refine WPc.cF ?_ | (refine WPc.cQ (fun hc => ?_) (fun hc => ?_) <;> try exact prA))
         | (refine isLit ?_; refine WPl.lit fun v hv => ?_)
         | (refine isD 22 ?_; refine WPl.rdX (ReadR.binE rfl rfl BinR.eql (congrArg Value.bool (decide_eq_false b1))) ?_)
         | (refine isD 26 ?_; refine WPl.rdX (ReadR.binE rfl rfl BinR.eql (congrArg Value.bool (decide_eq_false b2))) ?_)
         | (refine isC 31 ?_; refine WPl.cV (g1) ?_)
         | (refine isC 37 ?_; refine WPl.cV (g2) ?_)
         | (refine isOp ?_; first | refine WPl.rd ?_ | refine WPl.sk ?_ | refine WPl.rdB ?_)
         | (refine isBx ?_; refine WPl.nw fun g => ?_)
         | (refine WPl.spQ (fun hc => ?_) (fun hc => ?_) <;> try exact prA)
         | fail)
        all_goals try (first | exact WPq.dTp | exact WPq.dTs | exact WPq.dV | exact WPq.dR | exact WPq.dR2 | exact WPq.dH | exact WPq.dBH | exact WPq.dT)
    have b4' : X2 = true := by simpa using b4
    rw [b4'] at g2
    by_cases b5 : (!(h.src.six == h.six)) = true
    · rcases hp' with hp' | hp'
      · skip
        refine Triple.enter Tryz.func58 rfl Tryz.ntmps58 rfl (fun W => ?_)
        dsimp only [argsF, Nat.reduceAdd]
        repeat' (first
         | refine WPl.nil ?_ | refine WPq.then ?_ | refine WPq.thenR ?_ | refine WPc.seq ?_ | refine WPc.ret ?_ | refine WPc.skip ?_ | refine WPc.region ?_
         | (refine isCond ?_; first | refine WPc.cT ?_ | refine WPc.cF ?_ | (refine WPc.cQ (fun hc => ?_) (fun hc => ?_) <;> try exact prA))
         | (refine isLit ?_; refine WPl.lit fun v hv => ?_)
         | (refine isD 22 ?_; refine WPl.rdX (ReadR.binE rfl rfl BinR.eql (congrArg Value.bool (decide_eq_false b1))) ?_)
         | (refine isD 26 ?_; refine WPl.rdX (ReadR.binE rfl rfl BinR.eql (congrArg Value.bool (decide_eq_false b2))) ?_)
         | (refine isC 31 ?_; refine WPl.cV (g1) ?_)
         | (refine isC 37 ?_; refine WPl.cV (g2) ?_)
         | (refine isD 46 ?_; refine WPl.rdX (ReadR.binE rfl rfl (BinR.neqB (by kernel_rfl)) (congrArg Value.bool b5)) ?_)
         | (refine isOp ?_; first | refine WPl.rd ?_ | refine WPl.sk ?_ | refine WPl.rdB ?_)
         | (refine isBx ?_; refine WPl.nw fun g => ?_)
         | (refine WPl.spQ (fun hc => ?_) (fun hc => ?_) <;> try exact prA)
         | fail)
        all_goals try (first | exact WPq.dTp | exact WPq.dTs | exact WPq.dV | exact WPq.dR | exact WPq.dR2 | exact WPq.dH | exact WPq.dBH | exact WPq.dT)
      · skip
        refine Triple.enter Tryz.func58 rfl Tryz.ntmps58 rfl (fun W => ?_)
        dsimp only [argsF, Nat.reduceAdd]
        repeat' (first
         | refine WPl.nil ?_ | refine WPq.then ?_ | refine WPq.thenR ?_ | refine WPc.seq ?_ | refine WPc.ret ?_ | refine WPc.skip ?_ | refine WPc.region ?_
         | (refine isCond ?_; first | refine WPc.cT ?_ | refine WPc.cF ?_ | (refine WPc.cQ (fun hc => ?_) (fun hc => ?_) <;> try exact prA))
         | (refine isLit ?_; refine WPl.lit fun v hv => ?_)
         | (refine isD 22 ?_; refine WPl.rdX (ReadR.binE rfl rfl BinR.eql (congrArg Value.bool (decide_eq_false b1))) ?_)
         | (refine isD 26 ?_; refine WPl.rdX (ReadR.binE rfl rfl BinR.eql (congrArg Value.bool (decide_eq_false b2))) ?_)
         | (refine isC 31 ?_; refine WPl.cV (g1) ?_)
         | (refine isC 37 ?_; refine WPl.cV (g2) ?_)
         | (refine isD 46 ?_; refine WPl.rdX (ReadR.binE rfl rfl (BinR.neqB (by kernel_rfl)) (congrArg Value.bool b5)) ?_)
         | (refine isOp ?_; first | refine WPl.rd ?_ | refine WPl.sk ?_ | refine WPl.rdB ?_)
         | (refine isBx ?_; refine WPl.nw fun g => ?_)
         | (refine WPl.spQ (fun hc => ?_) (fun hc => ?_) <;> try exact prA)
         | fail)
        all_goals try (first | exact WPq.dTp | exact WPq.dTs | exact WPq.dV | exact WPq.dR | exact WPq.dR2 | exact WPq.dH | exact WPq.dBH | exact WPq.dT)
    have b5 : (!(h.src.six == h.six)) = false := by simpa using b5
    have b6 : (!(h.dst.six == h.six)) = true := by
      apply Classical.byContradiction
      intro b6
      exact hall ⟨b1, b2, b3', b4', by simpa using b5, by simpa using b6⟩
    rcases hp' with hp' | hp'
    · skip
      refine Triple.enter Tryz.func58 rfl Tryz.ntmps58 rfl (fun W => ?_)
      dsimp only [argsF, Nat.reduceAdd]
      repeat' (first
       | refine WPl.nil ?_ | refine WPq.then ?_ | refine WPq.thenR ?_ | refine WPc.seq ?_ | refine WPc.ret ?_ | refine WPc.skip ?_ | refine WPc.region ?_
       | (refine isCond ?_; first | refine WPc.cT ?_ | refine WPc.cF ?_ | (refine WPc.cQ (fun hc => ?_) (fun hc => ?_) <;> try exact prA))
       | (refine isLit ?_; refine WPl.lit fun v hv => ?_)
       | (refine isD 22 ?_; refine WPl.rdX (ReadR.binE rfl rfl BinR.eql (congrArg Value.bool (decide_eq_false b1))) ?_)
       | (refine isD 26 ?_; refine WPl.rdX (ReadR.binE rfl rfl BinR.eql (congrArg Value.bool (decide_eq_false b2))) ?_)
       | (refine isC 31 ?_; refine WPl.cV (g1) ?_)
       | (refine isC 37 ?_; refine WPl.cV (g2) ?_)
       | (refine isD 46 ?_; refine WPl.rdX (ReadR.binE rfl rfl (BinR.neqB (by kernel_rfl)) (congrArg Value.bool b5)) ?_)
       | (refine isD 54 ?_; refine WPl.rdX (ReadR.binE rfl rfl (BinR.neqB (by kernel_rfl)) (congrArg Value.bool b6)) ?_)
       | (refine isOp ?_; first | refine WPl.rd ?_ | refine WPl.sk ?_ | refine WPl.rdB ?_)
       | (refine isBx ?_; refine WPl.nw fun g => ?_)
       | (refine WPl.spQ (fun hc => ?_) (fun hc => ?_) <;> try exact prA)
       | fail)
      all_goals try (first | exact WPq.dTp | exact WPq.dTs | exact WPq.dV | exact WPq.dR | exact WPq.dR2 | exact WPq.dH | exact WPq.dBH | exact WPq.dT)
    · skip
      refine Triple.enter Tryz.func58 rfl Tryz.ntmps58 rfl (fun W => ?_)
      dsimp only [argsF, Nat.reduceAdd]
      repeat' (first
       | refine WPl.nil ?_ | refine WPq.then ?_ | refine WPq.thenR ?_ | refine WPc.seq ?_ | refine WPc.ret ?_ | refine WPc.skip ?_ | refine WPc.region ?_
       | (refine isCond ?_; first | refine WPc.cT ?_ | refine WPc.cF ?_ | (refine WPc.cQ (fun hc => ?_) (fun hc => ?_) <;> try exact prA))
       | (refine isLit ?_; refine WPl.lit fun v hv => ?_)
       | (refine isD 22 ?_; refine WPl.rdX (ReadR.binE rfl rfl BinR.eql (congrArg Value.bool (decide_eq_false b1))) ?_)
       | (refine isD 26 ?_; refine WPl.rdX (ReadR.binE rfl rfl BinR.eql (congrArg Value.bool (decide_eq_false b2))) ?_)
       | (refine isC 31 ?_; refine WPl.cV (g1) ?_)
       | (refine isC 37 ?_; refine WPl.cV (g2) ?_)
       | (refine isD 46 ?_; refine WPl.rdX (ReadR.binE rfl rfl (BinR.neqB (by kernel_rfl)) (congrArg Value.bool b5)) ?_)
       | (refine isD 54 ?_; refine WPl.rdX (ReadR.binE rfl rfl (BinR.neqB (by kernel_rfl)) (congrArg Value.bool b6)) ?_)
       | (refine isOp ?_; first | refine WPl.rd ?_ | refine WPl.sk ?_ | refine WPl.rdB ?_)
       | (refine isBx ?_; refine WPl.nw fun g => ?_)
       | (refine WPl.spQ (fun hc => ?_) (fun hc => ?_) <;> try exact prA)
       | fail)
      all_goals try (first | exact WPq.dTp | exact WPq.dTs | exact WPq.dV | exact WPq.dR | exact WPq.dR2 | exact WPq.dH | exact WPq.dBH | exact WPq.dT)
/-- A segment is written, or why there is none. -/
theorem rswG_t (h : Hd) (s : Sg) (vd : Value) (d : List UInt8) (hd : d.length ≤ 1000) (hs1 : s.src < 65536) (hs2 : s.dst < 65536) (hz : s.zero = false) :
    Triple Tryz.prog 58 #[ag (hdc h), ag (sgc s), vd] [rb vd d] (RW (swL h s d) (swE h s d.length)) := by
  by_cases he : swE h s d.length = 0
  · obtain ⟨p, hb, _⟩ := swE_zero he
    rw [he]
    unfold swL
    rw [if_pos he]
    by_cases h6 : h.proto.toNat = 6
    · rw [if_pos h6]
      exact rswT_t h s vd d hd hs1 hs2 h6 hb
    · rw [if_neg h6, if_neg (fun hh => by rw [hz] at hh; cases hh.1)]
      exact rswrite_t h s vd d hd hs1 hs2 (by omega) hb hz
  · rw [show swL h s d = [] by unfold swL; rw [if_neg he]]
    exact rswNo_t h s vd d hd he
section
attribute [local irreducible] swL swE xwL xwerr fwL fwerr
theorem rbuild_t (f : Fl) (flags hops : UInt8) (vd : Value) (d : List UInt8) (hd : d.length ≤ 500) (h1 : f.sp < 65536) (h2 : f.dp < 65536) :
    Triple Tryz.prog 28 #[ag (flc f), .int .u8 ((flags.toNat : Nat) : Int), .int .u8 ((hops.toNat : Nat) : Int), vd] [rb vd d] (RW (pbL f flags hops d) (pbE f flags hops d)) := by
  have l1 := f.src.len
  have l2 := f.dst.len
  have c1 := rswG_t (pbH f hops) (pbS f flags) vd d (by omega) h1 h2 rfl
  by_cases he : swE (pbH f hops) (pbS f flags) d.length = 0
  · have hBl := swL_len he
    obtain ⟨B, hB⟩ : ∃ B, B = pbB f flags hops d := ⟨_, rfl⟩
    have hB' : swL (pbH f hops) (pbS f flags) d = B := hB.symm
    rw [hB', he] at c1
    rw [hB'] at hBl
    have hL : pbL f flags hops d = if f.src.six then xwL (pbH f hops) B else fwL (pbH f hops) B := by unfold pbL; rw [if_neg (by rw [he]; simp), hB]
    have hE : pbE f flags hops d = if f.src.six then xwerr (pbH f hops) B.length else fwerr (pbH f hops) B.length := by unfold pbE; rw [if_neg (by rw [he]; simp), hB]
    rw [hL, hE]
    clear hL hE hB hB' he
    cases hs : f.src.six with
    | true =>
      simp only [if_true]
      have c2 := fun u => rxwG_t (pbH f hops) u B (by omega)
      obtain ⟨L, hL⟩ : ∃ L, L = xwL (pbH f hops) B := ⟨_, rfl⟩
      obtain ⟨c, hc⟩ : ∃ c, c = xwerr (pbH f hops) B.length := ⟨_, rfl⟩
      rw [← hL, ← hc] at c2 ⊢
      clear hL hc
      unfold pbH pbS at *
      refine Triple.enter Tryz.func28 rfl Tryz.ntmps28 rfl (fun W => ?_)
      dsimp only [argsF, Nat.reduceAdd]
      repeat' (first
       | refine WPl.nil ?_ | refine WPq.then ?_ | refine WPq.thenR ?_ | refine WPc.seq ?_ | refine WPc.ret ?_ | refine WPc.skip ?_ | refine WPc.region ?_
       | (refine isCond ?_; first | refine WPc.cT ?_ | refine WPc.cF ?_ | (refine WPc.cQ (fun hc => ?_) (fun hc => ?_) <;> try exact prA))
       | (refine isC 33 ?_; refine WPl.cR2 (c1) fun v hv => ?_)
       | (refine isC 44 ?_; refine WPl.cR2 (c2 _) fun v hv => ?_)
       | (refine isOp ?_; first | refine WPl.rd ?_ | refine WPl.sk ?_ | refine WPl.rdB ?_)
       | (refine isAl ?_; refine WPl.nw fun g => ?_)
       | (refine isBx ?_; refine WPl.nw fun g => ?_)
       | (refine isSt ?_; first | refine WPl.st1 ?_ | refine WPl.stA ?_ | refine WPl.stEB ?_ | refine WPl.stRB ?_)
       | fail)
      all_goals try (first | exact WPq.dTp | exact WPq.dTs | exact WPq.dV | exact WPq.dR | exact WPq.dR2 | exact WPq.dH | exact WPq.dBH | exact WPq.dT)
    | false =>
      simp only [Bool.false_eq_true, if_false]
      have c2 := fun u => rfwG_t (pbH f hops) u B (by omega)
      obtain ⟨L, hL⟩ : ∃ L, L = fwL (pbH f hops) B := ⟨_, rfl⟩
      obtain ⟨c, hc⟩ : ∃ c, c = fwerr (pbH f hops) B.length := ⟨_, rfl⟩
      rw [← hL, ← hc] at c2 ⊢
      clear hL hc
      unfold pbH pbS at *
      refine Triple.enter Tryz.func28 rfl Tryz.ntmps28 rfl (fun W => ?_)
      dsimp only [argsF, Nat.reduceAdd]
      repeat' (first
       | refine WPl.nil ?_ | refine WPq.then ?_ | refine WPc.seq ?_ | refine WPc.ret ?_ | refine WPc.skip ?_ | refine WPc.region ?_
       | (refine isCond ?_; first | refine WPc.cT ?_ | refine WPc.cF ?_ | (refine WPc.cQ (fun hc => ?_) (fun hc => ?_) <;> try exact prA))
       | (refine isC 33 ?_; refine WPl.cR2 (c1) fun v hv => ?_)
       | (refine isC 49 ?_; refine WPl.cR2 (c2 _) fun v hv => ?_)
       | (refine isOp ?_; first | refine WPl.rd ?_ | refine WPl.sk ?_ | refine WPl.rdB ?_)
       | (refine isAl ?_; refine WPl.nw fun g => ?_)
       | (refine isBx ?_; refine WPl.nw fun g => ?_)
       | (refine isSt ?_; first | refine WPl.st1 ?_ | refine WPl.stA ?_ | refine WPl.stEB ?_ | refine WPl.stRB ?_)
       | fail)
      all_goals try (first | exact WPq.dTp | exact WPq.dTs | exact WPq.dV | exact WPq.dR | exact WPq.dR2 | exact WPq.dH | exact WPq.dBH | exact WPq.dT)
  · rw [show pbL f flags hops d = [] by unfold pbL; rw [if_pos he], show pbE f flags hops d = swE (pbH f hops) (pbS f flags) d.length by unfold pbE; rw [if_pos he]]
    obtain ⟨B, hB⟩ : ∃ B, B = swL (pbH f hops) (pbS f flags) d := ⟨_, rfl⟩
    obtain ⟨c, hc⟩ : ∃ c, c = swE (pbH f hops) (pbS f flags) d.length := ⟨_, rfl⟩
    rw [← hB, ← hc] at c1
    rw [← hc] at he ⊢
    clear hB hc
    unfold pbH pbS at *
    refine Triple.enter Tryz.func28 rfl Tryz.ntmps28 rfl (fun W => ?_)
    dsimp only [argsF, Nat.reduceAdd]
    repeat' (first
     | refine WPl.nil ?_ | refine WPq.then ?_ | refine WPq.thenR ?_ | refine WPc.seq ?_ | refine WPc.ret ?_ | refine WPc.region ?_
     | (refine isCond ?_; first | refine WPc.cT ?_ | refine WPc.cF ?_ | (refine WPc.cQ (fun hc => ?_) (fun hc => ?_) <;> try exact prA))
     | (refine isC 33 ?_; refine WPl.cR2 (c1) fun v hv => ?_)
     | (refine isLit ?_; refine WPl.lit fun v hv => ?_)
     | (refine isOp ?_; first | refine WPl.rd ?_ | refine WPl.sk ?_ | refine WPl.rdB ?_)
     | (refine isAl ?_; refine WPl.nw fun g => ?_)
     | (refine isBx ?_; refine WPl.nw fun g => ?_)
     | (refine isSt ?_; first | refine WPl.st1 ?_ | refine WPl.stA ?_ | refine WPl.stEB ?_ | refine WPl.stRB ?_)
     | fail)
    all_goals try (first | exact WPq.dTp | exact WPq.dTs | exact WPq.dV | exact WPq.dR | exact WPq.dR2 | exact WPq.dH | exact WPq.dBH | exact WPq.dT)
end

end Go.Proofs.YtpilenbdimhegaaGreatDoor
/- Separation: a pool, several blocks of one type as one assertion. -/
namespace Go.Proofs.YtpilenbdimhegaaGreatDoor
open Go.RowKit
set_option linter.unusedSimpArgs false
set_option linter.unusedVariables false

/-- These blocks are one's own, and hold these cells. -/
def pool (T : TypeId) (f : Nat → Option Ch) : Asn where
  own := true
  fp := fun g => ∃ cs, f g = some cs
  holds := fun w => ∀ g cs, f g = some cs → (bx g T cs).holds w
  lt := fun w h g hg => by
    obtain ⟨cs, hcs⟩ := hg
    exact (bx g T cs).lt w (h g cs hcs) g rfl
  loc := fun w w' h hl g cs hcs => (bx g T cs).loc w w' (h g cs hcs) fun g' hg' => hl g' (by rw [show g' = g from hg']; exact ⟨cs, hcs⟩)
theorem pool_own {T : TypeId} {f : Nat → Option Ch} : (pool T f).own = true := rfl
def fset (f : Nat → Option Ch) (g : Nat) (cs : Ch) : Nat → Option Ch := fun g' => if g' = g then some cs else f g'
theorem fset_same {f : Nat → Option Ch} {g : Nat} {cs : Ch} : fset f g cs g = some cs := if_pos rfl
theorem fset_ne {f : Nat → Option Ch} {g g' : Nat} {cs : Ch} (h : g' ≠ g) : fset f g cs g' = f g' := if_neg h
section
variable {P : Program} {n : Nat} {W : World} {S : Nat → Prop} {Γ : List Asn} {F : List (Nat × Value)} {Q : Exit → Act → World → Prop} {ops : Array Oper} {os : List Oper}
variable {d : Option Tmp} {ty : TypeId} {pos : String} {af : Array Edge} {gd : Option (Nat × Bool)} {T T' : TypeId} {f : Nat → Option Ch} {g off : Nat} {cs : Ch}
theorem ReadR.loadP [hT : TyI P T false 1] {x : Operand} {vd : Value} (hm : pool T' f ∈ Γ) (hf : f g = some cs) (hs : sel cs off 1 = some [(1, [vd])]) (hx : evF F x = some (.pointer (some ⟨g, off, none⟩))) :
    ReadR P n Γ F ⟨d, .load T x, ty, pos, af, gd⟩ vd := fun ρ w hff hw => by
  have hb := hw _ hm g cs hf
  have hc : w.cell? ⟨g, off, none⟩ = some vd := by
    rw [bx_cell hb]
    exact sel_cells hs hb.2.len 0 vd rfl
  simp [execOp, hff.eval hx, Instr.loadAt, Instr.sureAddr, run_load1 (T := T) hc]
theorem ReadR.loadPA {sz : Nat} [hT : TyI P T true sz] {x : Operand} {ds : Ch} (hm : pool T' f ∈ Γ) (hf : f g = some cs) (hs : sel cs off sz = some ds) (hx : evF F x = some (.pointer (some ⟨g, off, none⟩))) :
    ReadR P n Γ F ⟨d, .load T x, ty, pos, af, gd⟩ (ag ds) := fun ρ w hff hw => by
  simp [execOp, hff.eval hx, Instr.loadAt, Instr.sureAddr, run_loadA (T := T) hs (hw _ hm g cs hf)]
theorem OpT.storeP {ag : Bool} {sz : Nat} {cs' new : Ch} {a x : Operand} {vd : Value} {Γf : List Asn} [hT : TyI P T ag sz] (ha : evF F a = some (.pointer (some ⟨g, off, none⟩))) (hx : evF F x = some vd) (hp : Takes Γ [pool T' f] Γf) (hf : f g = some cs) (hv : vd.cells = (flat new).toArray) (hn : FOk new) (ht : total new = sz) (hu : upd new cs off sz = some cs') :
    OpT P n Γ F ⟨d, .store T a x, ty, pos, af, gd⟩ [pool T' f] (RLeave [pool T' (fset f g cs')]) := fun ρ w hff hw _ => by
  have hb0 : (pool T' f).holds w := hw _ (hp.mem_iff.2 (List.mem_cons_self ..))
  have hb := hb0 g cs hf
  obtain ⟨h1, h2⟩ := run_store_bx (P := P) (T := T) hb hv hn ht hu
  have : (execOp ρ.eval ⟨d, .store T a x, ty, pos, af, gd⟩).run P w = .ok .skip (w.setRow g (flat cs').toArray) := by
    simp [execOp, hff.eval ha, hff.eval hx, Instr.storeAt, Instr.sureAddr, Sem.run_bind, h1]
  unfold DoesW
  rw [this]
  have hg : ∀ g', (pool T' f).fp g' → ownFp [pool T' f] g' := fun g' h' => ⟨_, List.mem_singleton.2 rfl, rfl, h'⟩
  refine ⟨_, rfl, .one (Mod.setRow (hg g ⟨cs, hf⟩) _ _) (fun g' ds hds => ?_) fun g' hg' => .inr (hg g' ?_)⟩
  · unfold fset at hds
    split at hds
    · rename_i e
      subst e
      cases hds
      exact h2
    · rename_i e
      have h3 := hb0 g' ds hds
      exact ⟨by rw [setRow_other w g g' _ (fun hh => e hh)]; exact h3.1, h3.2⟩
  · obtain ⟨ds, hds⟩ := hg'
    unfold fset at hds
    split at hds
    · rename_i e
      subst e
      exact ⟨cs, hf⟩
    · exact ⟨ds, hds⟩
theorem OpT.storeP1 {cs' : Ch} {a x : Operand} {vd : Value} {Γf : List Asn} [hT : TyI P T false 1] (ha : evF F a = some (.pointer (some ⟨g, off, none⟩))) (hx : evF F x = some vd) (hp : Takes Γ [pool T' f] Γf) (hf : f g = some cs) (h1 : vd.oneCell' = true) (hu : upd [(1, [vd])] cs off 1 = some cs') :
    OpT P n Γ F ⟨d, .store T a x, ty, pos, af, gd⟩ [pool T' f] (RLeave [pool T' (fset f g cs')]) := OpT.storeP (new := [(1, [vd])]) ha hx hp hf (by rw [cells_one h1]; rfl) (.one1 h1 .nil) rfl hu
theorem WPl.stP {cs' : Ch} {a x : Operand} {vd : Value} {Γf : List Asn} [hT : TyI P T false 1] (hf : f g = some cs) (k : WPl P n W S (pool T' (fset f g cs') :: Γf) F ops os Q)
    (ha : evF F a = some (.pointer (some ⟨g, off, none⟩)) := by first | rfl | fail) (hx : evF F x = some vd := by first | rfl | fail) (hp : Take Γ (pool T' f) Γf := by first | exact takeA | fail) (h1 : vd.oneCell' = true := by first | rfl | assumption | fail) (hu : upd [(1, [vd])] cs off 1 = some cs' := by first | (dsimp only [sel, takeCh, upd, dropCh, appCh, setAt, chAt, Option.map_some, List.cons_append, List.nil_append, Nat.reduceSub, Nat.reduceAdd] <;> exact rfl) | fail) (hw : wantG F ops gd = some true := by first | rfl | fail) :
    WPl P n W S Γ F ops (⟨none, .store T a x, ty, pos, af, gd⟩ :: os) Q := WPl.turn (.cons hp .nil) rfl hw (OpT.storeP (new := [(1, [vd])]) ha hx (.cons hp .nil) hf (by rw [cells_one h1]; rfl) (.one1 h1 .nil) rfl hu) k
theorem ownsP {Γ : List Asn} (h : ∀ A, A ∈ Γ → A.own = true := by ((repeat' (first | exact own_nil | refine own_cons (by first | exact bx_own | exact rowN_own | exact mp_own | exact pool_own | exact star_own | exact rfl) ?_ | fail)) <;> fail)) : ∀ A, A ∈ Γ → A.own = true := h
theorem WPq.dTp {fn : Func} {rs : List ResultVar} {vs : List Value} {c : Value} {Γ1 Γx : List Asn} {e : Exit} (he : e = .ret ∨ e = .normal := by first | exact .inl rfl | exact .inr rfl | fail) (hr : fn.results = rs.toArray := by first | rfl | fail) (h : ResF P Γ F rs vs := by first | exact resA | fail) (hp : Takes Γ Γ1 Γx := by first | exact takesA | fail) (hc : resV vs = c := by first | rfl | fail) (ho : ∀ A, A ∈ Γ1 → A.own = true := by first | exact ownsP | fail) :
    WPq n W S Γ F (Done P fn W S (RTurns c Γ1)) e := WPq.done he hr h hp ho ⟨hc, rfl⟩
theorem ReadR.minT {x y : Operand} {ts : Array TypeId} {k : IntKind} {a b c : Int} (h : (if b < a then b else a) = c) (hx : evF F x = some (.int k a)) (hy : evF F y = some (.int k b)) :
    ReadR P n Γ F ⟨d, .call { callee := .builtin .min, args := #[x, y], argTypes := ts }, ty, pos, af, gd⟩ (.int k c) := h ▸ ReadR.min hx hy
theorem ReadR.maxT {x y : Operand} {ts : Array TypeId} {k : IntKind} {a b c : Int} (h : (if a < b then b else a) = c) (hx : evF F x = some (.int k a)) (hy : evF F y = some (.int k b)) :
    ReadR P n Γ F ⟨d, .call { callee := .builtin .max, args := #[x, y], argTypes := ts }, ty, pos, af, gd⟩ (.int k c) := h ▸ ReadR.max hx hy
/-- What a call leaves, told by a law of it. -/
theorem WPq.dX {fn : Func} {rs : List ResultVar} {vs : List Value} {R : Value → List Asn → Prop} (Γ1 : List Asn) {Γx : List Asn} {e : Exit} (hR : R (resV vs) Γ1) (he : e = .ret ∨ e = .normal := by first | exact .inl rfl | exact .inr rfl | fail) (hr : fn.results = rs.toArray := by first | rfl | fail) (h : ResF P Γ F rs vs := by first | exact resA | fail) (hp : Takes Γ Γ1 Γx := by first | exact takesA | fail) (ho : ∀ A, A ∈ Γ1 → A.own = true := by first | exact ownsP | fail) :
    WPq n W S Γ F (Done P fn W S R) e := WPq.done he hr h hp ho hR
/-- The state told in other words. -/
theorem Good.conv {Γ' : List Asn} {w : World} (h : Good W S Γ w) (hh : Holds Γ w → Holds Γ' w) (ha : Γ.Pairwise Apart → Γ'.Pairwise Apart) (hf : ∀ A, A ∈ Γ' → A.own = true → ∀ g, A.fp g → ∃ B, B ∈ Γ ∧ B.own = true ∧ B.fp g) : Good W S Γ' w :=
  ⟨h.mod, hh h.all, ha h.apart, fun A hA ho g hg => by
    obtain ⟨B, hB, h1, h2⟩ := hf A hA ho g hg
    exact h.mine B hB h1 g h2⟩
/-- A block joins a pool. -/
theorem Good.poolIn {Γf : List Asn} {w : World} (h : Good W S (bx g T cs :: pool T f :: Γf) w) : f g = none ∧ Good W S (pool T (fset f g cs) :: Γf) w := by
  have h1 := h.apart
  rw [List.pairwise_cons, List.pairwise_cons] at h1
  obtain ⟨a1, a2, a3⟩ := h1
  have hn : f g = none := by
    cases hfg : f g with
    | none => rfl
    | some ds => exact (a1 _ (List.mem_cons_self ..) (.inl rfl) g rfl ⟨ds, hfg⟩).elim
  have hsub : ∀ g', (pool T (fset f g cs)).fp g' → g' = g ∨ (pool T f).fp g' := fun g' ⟨ds, hds⟩ => by
    unfold fset at hds
    split at hds
    · rename_i e; exact .inl e
    · exact .inr ⟨ds, hds⟩
  refine ⟨hn, h.conv (fun hh A hA => ?_) (fun _ => List.pairwise_cons.2 ⟨fun B hB hor g' hg' hB' => ?_, a3⟩) (fun A hA ho g' hg' => ?_)⟩
  · rcases List.mem_cons.1 hA with rfl | hA
    · intro g' ds hds
      unfold fset at hds
      split at hds
      · rename_i e
        subst e
        cases hds
        exact hh _ (List.mem_cons_self ..)
      · exact hh (pool T f) (List.mem_cons_of_mem _ (List.mem_cons_self ..)) g' ds hds
    · exact hh A (List.mem_cons_of_mem _ (List.mem_cons_of_mem _ hA))
  · rcases hsub g' hg' with h2 | h2
    · exact a1 B (List.mem_cons_of_mem _ hB) (.inl rfl) g' h2 hB'
    · exact a2 B hB (.inl rfl) g' h2 hB'
  · rcases List.mem_cons.1 hA with rfl | hA
    · rcases hsub g' hg' with h2 | h2
      · exact ⟨_, List.mem_cons_self .., rfl, h2⟩
      · exact ⟨pool T f, List.mem_cons_of_mem _ (List.mem_cons_self ..), rfl, h2⟩
    · exact ⟨A, List.mem_cons_of_mem _ (List.mem_cons_of_mem _ hA), ho, hg'⟩
theorem WPc.poolIn {c : Code} {Γf : List Asn} (k : f g = none → WPc P n W S (pool T (fset f g cs) :: Γf) F c Q) (hp : Takes Γ [bx g T cs, pool T f] Γf := by first | exact takesA | fail) : WPc P n W S Γ F c Q := fun a w hf hg =>
  let h := Good.poolIn (hg.perm hp)
  k h.1 a w hf h.2
theorem Good.pool0 {w : World} (T : TypeId) (h : Good W S Γ w) : Good W S (pool T (fun _ => none) :: Γ) w :=
  ⟨h.mod, fun A hA => by
    rcases List.mem_cons.1 hA with rfl | hA
    · intro g cs hcs; cases hcs
    · exact h.all A hA, List.pairwise_cons.2 ⟨fun B _ _ g ⟨cs, hcs⟩ _ => (by cases hcs), h.apart⟩, fun A hA ho g hg => by
    rcases List.mem_cons.1 hA with rfl | hA
    · obtain ⟨cs, hcs⟩ := hg; cases hcs
    · exact h.mine A hA ho g hg⟩
theorem WPc.pool0 {c : Code} (T : TypeId) (k : WPc P n W S (pool T (fun _ => none) :: Γ) F c Q) : WPc P n W S Γ F c Q := fun a w hf hg => k a w hf (hg.pool0 T)
/-- Opened, closed: several assertions as one. -/
theorem Good.open' {Γ1 Γf : List Asn} {w : World} (ho : ∀ A, A ∈ Γ1 → A.own = true) (h : Good W S (star Γ1 :: Γf) w) : Good W S (Γ1 ++ Γf) w := by
  have h1 := h.apart
  rw [List.pairwise_cons] at h1
  have hs := h.all _ (List.mem_cons_self ..)
  refine h.conv (fun hh A hA => ?_) (fun _ => List.pairwise_append.2 ⟨hs.2, h1.2, fun A hA B hB hor g' hg' hB' => ?_⟩) (fun A hA ho' g' hg' => ?_)
  · rcases List.mem_append.1 hA with hA | hA
    · exact hs.1 A hA
    · exact hh A (List.mem_cons_of_mem _ hA)
  · exact h1.1 B hB (.inl rfl) g' ⟨A, hA, hg'⟩ hB'
  · rcases List.mem_append.1 hA with hA | hA
    · exact ⟨_, List.mem_cons_self .., rfl, A, hA, hg'⟩
    · exact ⟨A, List.mem_cons_of_mem _ hA, ho', hg'⟩
theorem Good.close {Γ1 Γf : List Asn} {w : World} (ho : ∀ A, A ∈ Γ1 → A.own = true) (h : Good W S (Γ1 ++ Γf) w) : Good W S (star Γ1 :: Γf) w := by
  obtain ⟨a1, a2, a3⟩ := List.pairwise_append.1 h.apart
  refine h.conv (fun hh A hA => ?_) (fun _ => List.pairwise_cons.2 ⟨fun B hB hor g' hg' hB' => ?_, a2⟩) (fun A hA ho' g' hg' => ?_)
  · rcases List.mem_cons.1 hA with rfl | hA
    · exact ⟨fun B hB => hh B (List.mem_append_left _ hB), a1⟩
    · exact hh A (List.mem_append_right _ hA)
  · obtain ⟨A, hA, hg'⟩ := hg'
    exact a3 A hA B hB (.inl (ho A hA)) g' hg' hB'
  · rcases List.mem_cons.1 hA with rfl | hA
    · obtain ⟨B, hB, hg'⟩ := hg'
      exact ⟨B, List.mem_append_left _ hB, ho B hB, hg'⟩
    · exact ⟨A, List.mem_append_right _ hA, ho', hg'⟩
end
end Go.Proofs.YtpilenbdimhegaaGreatDoor
/- Maps that are ranged over; functions that are called by their value. -/
namespace Go.Proofs.YtpilenbdimhegaaGreatDoor
open Go.RowKit
set_option linter.unusedSimpArgs false
set_option linter.unusedVariables false
set_option linter.unusedSectionVars false

section
variable {K V : Type} [DecidableEq K]
theorem mdel_filter {l : List (K × V)} {k : K} (hn : (l.map (·.1)).Nodup) : mdel l k = l.filter (fun x => decide (x.1 ≠ k)) := by
  induction l with
  | nil => rfl
  | cons x l ih =>
    rw [List.map_cons, List.nodup_cons] at hn
    unfold mdel
    split
    · rename_i e
      subst e
      rw [List.filter_cons]
      simp only [ne_eq, not_true_eq_false, decide_false, Bool.false_eq_true, if_false]
      symm
      rw [List.filter_eq_self]
      intro y hy
      have : y.1 ≠ x.1 := fun h => hn.1 (h ▸ List.mem_map.2 ⟨y, hy, rfl⟩)
      simpa using this
    · rename_i e
      rw [List.filter_cons, if_pos (by simpa using e), ih hn.2]
/-- Map m and its iterator r: l is held, td is left, c is the one that came last. -/
def rg (M : MK K V) (m r : Nat) (l td : List (K × V)) (c : Option (K × V)) : Asn where
  own := true
  fp := fun g => g = m ∨ g = r
  holds := fun w => m ≠ r ∧ ∃ es clock since seen c0, w.heap[r]? = some (.mapIter (some m) since seen c0) ∧ w.heap[m]? = some (.map es clock) ∧
    (es.toList.map (fun e => (e.key, e.val)) = l.map (fun x => (M.kc x.1, M.vc x.2)) ∧ (es.toList.map (·.born)).Pairwise (· < ·) ∧ (∀ e ∈ es.toList, e.born < clock) ∧ (l.map (·.1)).Nodup ∧ ∀ x ∈ l, M.wf x.1) ∧
    (since ≤ c0 ∧ since ≤ clock) ∧ (∀ e ∈ es.toList, e.born < since) ∧ (leftOf es seen).toList.map (fun e => (e.key, e.val)) = td.map (fun x => (M.kc x.1, M.vc x.2)) ∧ td.Sublist l ∧
    (∀ x, c = some x → c0 = clock ∧ ∃ e ∈ es.toList, seen.back? = some e.born ∧ e.key = M.kc x.1 ∧ e.val = M.vc x.2)
  lt := fun w h g hg => by
    obtain ⟨_, es, clock, since, seen, c0, h1, h2, _⟩ := h
    rcases hg with rfl | rfl
    · exact (Array.getElem?_eq_some_iff.1 h2).1
    · exact (Array.getElem?_eq_some_iff.1 h1).1
  loc := fun w w' h hl => by
    obtain ⟨h0, es, clock, since, seen, c0, h1, h2, h3⟩ := h
    exact ⟨h0, es, clock, since, seen, c0, by rw [hl r (.inr rfl)]; exact h1, by rw [hl m (.inl rfl)]; exact h2, h3⟩
theorem rg_mp {M : MK K V} {m r : Nat} {l td : List (K × V)} {c : Option (K × V)} {w : World} (h : (rg M m r l td c).holds w) : (mp M m l).holds w := by
  obtain ⟨h0, es, clock, since, seen, c0, h1, h2, h3, _⟩ := h
  exact ⟨es, clock, h2, h3⟩

theorem born_inj {L : List MapEntry} (hp : (L.map (·.born)).Pairwise (· < ·)) {A B : List MapEntry} {e : MapEntry} (h : L = A ++ e :: B) : L.filter (fun x => !(x.born == e.born)) = A ++ B := by
  subst h
  rw [List.map_append, List.map_cons, List.pairwise_append, List.pairwise_cons] at hp
  obtain ⟨h1, ⟨h2, h3⟩, h4⟩ := hp
  rw [List.filter_append, List.filter_cons]
  simp only [beq_self_eq_true, Bool.not_true, Bool.false_eq_true, if_false]
  congr 1
  · rw [List.filter_eq_self]
    intro x hx
    have := h4 x.born (List.mem_map.2 ⟨x, hx, rfl⟩) e.born (List.mem_cons_self ..)
    have hne : x.born ≠ e.born := by omega
    simpa using hne
  · rw [List.filter_eq_self]
    intro x hx
    have := h2 x.born (List.mem_map.2 ⟨x, hx, rfl⟩)
    have hne : x.born ≠ e.born := by omega
    simpa using hne
theorem leftOf_sub' {es : Array MapEntry} {seen : Array Nat} : (leftOf es seen).toList = es.toList.filter (fun e => !seen.contains e.born) := by
  unfold leftOf; rw [Array.toList_filter]
theorem left_push {es : Array MapEntry} {seen : Array Nat} {b : Nat} : (leftOf es (seen.push b)).toList = (leftOf es seen).toList.filter (fun x => !(x.born == b)) := by
  unfold leftOf
  rw [Array.toList_filter, Array.toList_filter, List.filter_filter]
  congr 1
  funext x
  rw [Array.contains_push, Bool.not_or, Bool.and_comm]
end

section
variable {P : Program} {n : Nat} {W : World} {S : Nat → Prop} {Γ : List Asn} {F : List (Nat × Value)} {Q : Exit → Act → World → Prop} {ops : Array Oper} {os : List Oper}
variable {ty : TypeId} {pos : String} {af : Array Edge} {gd : Option (Nat × Bool)}
variable {K V : Type} [DecidableEq K] {T : TypeId} {M : MK K V}
def RRg (M : MK K V) (m : Nat) (l : List (K × V)) : Value → List Asn → Prop := fun v Γ => ∃ r, v = .pointer (some ⟨r, 0, none⟩) ∧ Γ = [rg M m r l l none]
theorem OpT.mrange [h : MapI P T M] {d : Option Tmp} {x : Operand} {m : Nat} {l : List (K × V)} {Γf : List Asn} (hx : evF F x = some (.map (some m))) (hp : Takes Γ [mp M m l] Γf) :
    OpT P n Γ F ⟨d, .range T x, ty, pos, af, gd⟩ [mp M m l] (RRg M m l) := fun ρ w hf hw _ => by
  obtain ⟨kT, eT, hu, _⟩ := h.law
  obtain ⟨es, clock, hb, h1, h2, h3, h4, h5⟩ := hw _ (hp.mem_iff.2 (List.mem_cons_self ..))
  have hrun : (execOp ρ.eval ⟨d, .range T x, ty, pos, af, gd⟩).run P w = .ok (.value (.pointer (some ⟨w.heap.size, 0, none⟩))) (w.alloc (.mapIter (some m) clock #[] clock)) := by
    simp [execOp, hf.eval hx, Instr.range, Sem.run_bind, run_underlying hu, MapKept.run_getObj_map hb, Result.andThen, newObj, Sem.run]
  unfold DoesW
  rw [hrun]
  have hlt : m < w.heap.size := (Array.getElem?_eq_some_iff.1 hb).1
  have hm : (w.alloc (.mapIter (some m) clock #[] clock)).heap[m]? = some (.map es clock) := by
    show (w.heap.push _)[m]? = _
    rw [Array.getElem?_push_lt hlt, ← Array.getElem?_eq_getElem hlt, hb]
  refine ⟨_, ⟨_, rfl, rfl⟩, .one (Mod.alloc _ _ _) ⟨Nat.ne_of_lt hlt, es, clock, clock, #[], clock, alloc_new _ _, hm, ⟨h1, h2, h3, h4, h5⟩, ⟨Nat.le_refl _, Nat.le_refl _⟩, h3, ?_, List.Sublist.refl _, fun x hx => by cases hx⟩ fun g hg => ?_⟩
  · rw [← h1]
    congr 1
    rw [leftOf_sub', List.filter_eq_self]
    intro a _
    simp
  · rcases hg with rfl | rfl
    · exact .inr ⟨_, List.mem_singleton.2 rfl, rfl, rfl⟩
    · exact .inl (Nat.le_refl _)
def RNxt (M : MK K V) (m r : Nat) (l td : List (K × V)) (c : Option (K × V)) : Value → List Asn → Prop := fun v Γ =>
  (td = [] ∧ v = .tuple #[.bool false] ∧ Γ = [rg M m r l td c]) ∨ ∃ A x B, td = A ++ x :: B ∧ v = .tuple #[.bool true, M.kc x.1, M.vc x.2] ∧ Γ = [rg M m r l (A ++ B) (some x)]
theorem map_split {α β γ : Type} {f : α → γ} {g : β → γ} : ∀ {A B : List α} {e : α} {td : List β}, (A ++ e :: B).map f = td.map g → ∃ A' x B', td = A' ++ x :: B' ∧ f e = g x ∧ (A ++ B).map f = (A' ++ B').map g
  | [], B, e, td, h => by
    cases td with
    | nil => cases h
    | cons x td =>
      simp only [List.nil_append, List.map_cons, List.cons.injEq] at h
      exact ⟨[], x, td, rfl, h.1, h.2⟩
  | a :: A, B, e, td, h => by
    cases td with
    | nil => cases h
    | cons y td =>
      simp only [List.cons_append, List.map_cons, List.cons.injEq] at h
      obtain ⟨A', x, B', h1, h2, h3⟩ := map_split h.2
      exact ⟨y :: A', x, B', by rw [h1]; rfl, h2, by simp only [List.cons_append, List.map_cons, h3, h.1]⟩
theorem OpT.next {d : Option Tmp} {x : Operand} {m r : Nat} {l td : List (K × V)} {c : Option (K × V)} {Γf : List Asn} (hx : evF F x = some (.pointer (some ⟨r, 0, none⟩))) (hp : Takes Γ [rg M m r l td c] Γf) :
    OpT P n Γ F ⟨d, .next x false, ty, pos, af, gd⟩ [rg M m r l td c] (RNxt M m r l td c) := fun ρ w hf hw _ => by
  have hb0 : (rg M m r l td c).holds w := hw _ (hp.mem_iff.2 (List.mem_cons_self ..))
  have hb1 := hb0
  obtain ⟨h0, es, clock, since, seen, c0, hr, hm, hmp, hsc, hold, hleft, hsub, hcur⟩ := hb0
  have hown : ∀ g, (g = m ∨ g = r) → ownFp [rg M m r l td c] g := fun g hg => ⟨_, List.mem_singleton.2 rfl, rfl, hg⟩
  rcases run_next_at (P := P) w ty r m since c0 seen es clock hr hm hold hsc.1 with ⟨hz, hrun⟩ | ⟨e, he, w1, hw1, hrun⟩
  · have hex : (execOp ρ.eval ⟨d, .next x false, ty, pos, af, gd⟩).run P w = .ok (.value (.tuple #[.bool false])) w := by
      simp [execOp, hf.eval hx, Sem.run_bind, hrun]
    have htd : td = [] := by
      have h1 := congrArg List.length hleft
      rw [List.length_map, List.length_map, Array.length_toList, hz] at h1
      exact List.eq_nil_of_length_eq_zero h1.symm
    unfold DoesW
    rw [hex]
    exact ⟨_, .inl ⟨htd, rfl, rfl⟩, .one (Mod.refl _ _) hb1 fun g hg => .inr (hown g hg)⟩
  · have hex : (execOp ρ.eval ⟨d, .next x false, ty, pos, af, gd⟩).run P w = .ok (.value (.tuple #[.bool true, e.key, e.val])) (ChangeMaps.setBlock w1 r (.mapIter (some m) since (seen.push e.born) clock)) := by
      simp [execOp, hf.eval hx, Sem.run_bind, hrun]
    have hmem : e ∈ es.toList := by
      have he2 := he
      rw [leftOf_sub'] at he2
      exact (List.mem_filter.1 he2).1
    obtain ⟨A, B, hAB⟩ := List.append_of_mem he
    have hmap := hleft
    rw [hAB] at hmap
    obtain ⟨A', y, B', htd, hey, hmap2⟩ := map_split hmap
    simp only [Prod.mk.injEq] at hey
    unfold DoesW
    rw [hex]
    have hw1h : w1.heap = w.heap := by rcases hw1 with rfl | rfl <;> rfl
    have hmod : Mod (ownFp [rg M m r l td c]) w w1 := by
      rcases hw1 with rfl | rfl
      · exact Mod.refl _ _
      · exact ⟨rfl, rfl, rfl, Nat.le_refl _, Nat.le_succ _, fun _ _ _ => rfl⟩
    refine ⟨_, .inr ⟨A', y, B', htd, by rw [hey.1, hey.2], rfl⟩, .one (hmod.trans (mod_block (hown r (.inr rfl)) _ _)) ⟨h0, es, clock, since, seen.push e.born, clock, block_set (by rw [hw1h]; exact hr), ?_, hmp, ?_, hold, ?_, ?_, fun x' hx' => ⟨rfl, e, hmem, Array.back?_push, by cases hx'; exact hey.1, by cases hx'; exact hey.2⟩⟩ fun g hg => .inr (hown g hg)⟩
    · rw [← hm, ← hw1h]; simp [ChangeMaps.setBlock, Array.getElem?_setIfInBounds, Ne.symm h0]
    · exact ⟨hsc.2, hsc.2⟩
    · rw [left_push, born_inj ?_ hAB]
      · exact hmap2
      · unfold leftOf
        rw [Array.toList_filter]
        exact hmp.2.1.sublist (List.Sublist.map _ List.filter_sublist)
    · refine List.Sublist.trans ?_ hsub
      rw [htd]
      exact List.Sublist.append (List.Sublist.refl _) (List.sublist_cons_self ..)
theorem leftOf_sub {es : Array MapEntry} {seen : Array Nat} : (leftOf es seen).toList = es.toList.filter (fun e => !seen.contains e.born) := by
  unfold leftOf; rw [Array.toList_filter]
theorem run_mdelR [h : MapI P T M] {m r : Nat} {l td : List (K × V)} {c : Option (K × V)} {w : World} {kT' ty : TypeId} (hm : (rg M m r l td c).holds w) (k : K) (hkw : M.wf k) :
    ∃ o, (Builtin.delete_ #[T, kT'] ty #[.map (some m), M.kc k]).run P w = .ok (.tuple #[]) (ChangeMaps.setBlock w m o) ∧ (rg M m r (mdel l k) (td.filter (fun x => decide (x.1 ≠ k))) none).holds (ChangeMaps.setBlock w m o) := by
  obtain ⟨kT, eT, hu, hK, hk, hz⟩ := h.law
  obtain ⟨h0, es, clock, since, seen, c0, hr, hb, ⟨he, h1, h2, hn, hwf⟩, hsc, hold, hleft, hsub, hcur⟩ := hm
  obtain ⟨kl, hkl⟩ := hk k hkw
  have hall : ∀ e ∈ es.toList, ∃ l, keyOf P kT e.key = some l := fun e hm => by
    obtain ⟨x', hx', hk'⟩ := mp_key he hm
    rw [hk']; exact hk _ (hwf x' hx')
  have hr' : ∀ o, (ChangeMaps.setBlock w m o).heap[r]? = some (.mapIter (some m) since seen c0) := fun o => by
    rw [← hr]; simp [ChangeMaps.setBlock, Array.getElem?_setIfInBounds, h0]
  have hsub2 : (td.filter (fun x => decide (x.1 ≠ k))).Sublist (mdel l k) := by
    rw [mdel_filter hn]; exact hsub.filter _
  rcases hK.find w hkl es.toList hall with ⟨f1, f2⟩ | ⟨j, e0, f1, f2, f3⟩
  · have hno := mp_no he f2
    have htd : td.filter (fun x => decide (x.1 ≠ k)) = td := by
      rw [List.filter_eq_self]
      intro x hx
      simpa using hno x (hsub.subset hx)
    refine ⟨.map es clock, ?_, h0, es, clock, since, seen, c0, hr' _, block_set hb, ⟨?_, h1, h2, mdel_keys hn, fun x hx => hwf x (mdel_sub.subset hx)⟩, hsc, hold, ?_, hsub2, fun x' hx' => by cases hx'⟩
    · simp [Builtin.delete_, run_underlying hu, MapKept.run_getObj_map hb, hK.check w _ hkl, f1, MapKept.run_setObj_map _ hb, Result.andThen, ChangeMaps.setBlock]
    · rw [(mfind_none hno).2.2]; exact he
    · rw [htd]; exact hleft
  · obtain ⟨x, g1, g2, g3⟩ := mp_at he f2
    have hx : x.1 = k := h.inj _ _ (g2.symm.trans f3)
    have hs : (es.eraseIdxIfInBounds j).toList = es.toList.eraseIdx j := by
      unfold Array.eraseIdxIfInBounds
      split
      · rw [Array.toList_eraseIdx]
      · rename_i h4
        rw [List.eraseIdx_of_length_le (by simpa using h4)]
    refine ⟨.map (es.eraseIdxIfInBounds j) clock, ?_, h0, _, clock, since, seen, c0, hr' _, block_set hb, ⟨?_, ?_, ?_, mdel_keys hn, fun x hx => hwf x (mdel_sub.subset hx)⟩, hsc, ?_, ?_, hsub2, fun x' hx' => by cases hx'⟩
    · simp [Builtin.delete_, run_underlying hu, MapKept.run_getObj_map hb, hK.check w _ hkl, f1, MapKept.run_setObj_map _ hb, Result.andThen, ChangeMaps.setBlock]
    · rw [hs, (mfind_some hn g1 hx).2.2, ChangeMaps.map_eraseIdx, ChangeMaps.map_eraseIdx, he]
    · rw [hs]
      exact h1.sublist ((List.eraseIdx_sublist _ _).map _)
    · intro e he'
      rw [hs] at he'
      exact h2 e (List.mem_of_mem_eraseIdx he')
    · intro e he'
      rw [hs] at he'
      exact hold e (List.mem_of_mem_eraseIdx he')
    · have hjl := (List.getElem?_eq_some_iff.1 f2).1
      have hes : es.toList = es.toList.take j ++ e0 :: es.toList.drop (j + 1) := by
        have h9 := List.drop_eq_getElem_cons hjl
        rw [(List.getElem?_eq_some_iff.1 f2).2] at h9
        rw [← h9, List.take_append_drop]
      have her : (es.eraseIdxIfInBounds j).toList = es.toList.filter (fun y => !(y.born == e0.born)) := by
        rw [hs, born_inj h1 hes, List.eraseIdx_eq_take_drop_succ]
      rw [leftOf_sub, her, List.filter_filter]
      rw [leftOf_sub] at hleft
      have hcomm : es.toList.filter (fun a => (!seen.contains a.born) && !(a.born == e0.born)) = (es.toList.filter (fun a => !seen.contains a.born)).filter (fun a => !(a.born == e0.born)) := by
        rw [List.filter_filter]; congr 1; funext a; rw [Bool.and_comm]
      rw [hcomm]
      -- the entries left, each beside its key and element
      have hpw : ∀ e ∈ es.toList.filter (fun a => !seen.contains a.born), (e.born == e0.born) = true ↔ e.key = M.kc k := fun e hee => by
        have hee' := (List.mem_filter.1 hee).1
        have hem : e ∈ es.toList := hee'
        constructor
        · intro hb2
          have hb3 : e.born = e0.born := by simpa using hb2
          have : e = e0 := by
            by_cases hne : e = e0
            · exact hne
            · exfalso
              have key : ∀ {L : List MapEntry}, (L.map (·.born)).Pairwise (· < ·) → ∀ a ∈ L, ∀ b ∈ L, a.born = b.born → a = b := by
                intro L
                induction L with
                | nil => intro _ a ha; cases ha
                | cons z L ih =>
                  intro hp a ha b hb hab
                  rw [List.map_cons, List.pairwise_cons] at hp
                  rcases List.mem_cons.1 ha with ha1 | ha1
                  · rcases List.mem_cons.1 hb with hb1 | hb1
                    · rw [ha1, hb1]
                    · have := hp.1 b.born (List.mem_map.2 ⟨b, hb1, rfl⟩); rw [ha1] at hab; omega
                  · rcases List.mem_cons.1 hb with hb1 | hb1
                    · have := hp.1 a.born (List.mem_map.2 ⟨a, ha1, rfl⟩); rw [hb1] at hab; omega
                    · exact ih hp.2 a ha1 b hb1 hab
              exact hne (key h1 e hem e0 (List.mem_of_getElem? f2) hb3)
          rw [this]; exact f3
        · intro hkey
          obtain ⟨i, hi⟩ := List.getElem?_of_mem hem
          obtain ⟨z, z1, z2, _⟩ := mp_at he hi
          have hzk : z.1 = k := h.inj _ _ (z2.symm.trans hkey)
          have hij : i = j := by
            have q1 : (l.map (·.1))[i]? = some k := by rw [List.getElem?_map, z1, ← hzk]; rfl
            have q2 : (l.map (·.1))[j]? = some k := by rw [List.getElem?_map, g1, ← hx]; rfl
            exact (List.getElem?_inj (List.getElem?_eq_some_iff.1 q1).1 hn).1 (q1.trans q2.symm)
          subst hij
          rw [f2] at hi
          cases hi
          simp
      have hfin : ∀ {L : List MapEntry} {td : List (K × V)}, (∀ e ∈ L, (e.born == e0.born) = true ↔ e.key = M.kc k) → L.map (fun e => (e.key, e.val)) = td.map (fun x => (M.kc x.1, M.vc x.2)) → (L.filter (fun a => !(a.born == e0.born))).map (fun e => (e.key, e.val)) = (td.filter (fun x => decide (x.1 ≠ k))).map (fun x => (M.kc x.1, M.vc x.2)) := by
        intro L
        induction L with
        | nil => intro td _ hh; cases td with
          | nil => rfl
          | cons _ _ => cases hh
        | cons z L ih =>
          intro td hq hh
          cases td with
          | nil => cases hh
          | cons y td =>
            simp only [List.map_cons, List.cons.injEq, Prod.mk.injEq] at hh
            have ih' := ih (fun e hee => hq e (List.mem_cons_of_mem _ hee)) hh.2
            have hz1 := hq z (List.mem_cons_self ..)
            rw [List.filter_cons, List.filter_cons]
            by_cases hy : y.1 = k
            · have : (z.born == e0.born) = true := hz1.2 (by rw [hh.1.1, hy])
              rw [this]
              simp only [Bool.not_true, Bool.false_eq_true, if_false, hy, ne_eq, not_true_eq_false, decide_false]
              exact ih'
            · have : (z.born == e0.born) = false := by
                rw [← Bool.not_eq_true]
                intro hb2
                exact hy (h.inj _ _ (hh.1.1.symm.trans (hz1.1 hb2)))
              rw [this]
              simp only [Bool.not_false, if_true, ne_eq, hy, not_false_eq_true, decide_true, List.map_cons, ih', hh.1.1, hh.1.2]
      exact hfin hpw hleft
theorem OpT.mdelR [h : MapI P T M] {d : Option Tmp} {x i : Operand} {kT' : TypeId} {m r : Nat} {l td : List (K × V)} {c : Option (K × V)} {k : K} {Γf : List Asn} (hkw : M.wf k) (hx : evF F x = some (.map (some m))) (hi : evF F i = some (M.kc k)) (hp : Takes Γ [rg M m r l td c] Γf) :
    OpT P n Γ F ⟨d, .call { callee := .builtin .delete, args := #[x, i], argTypes := #[T, kT'] }, ty, pos, af, gd⟩ [rg M m r l td c] (RLeave [rg M m r (Go.Proofs.YtpilenbdimhegaaGreatDoor.mdel l k) (td.filter (fun x => decide (x.1 ≠ k))) none]) := fun ρ w hf hw _ => by
  have hb : (rg M m r l td c).holds w := hw _ (hp.mem_iff.2 (List.mem_cons_self ..))
  obtain ⟨o, h1, h2⟩ := run_mdelR (P := P) (T := T) (kT' := kT') (ty := ty) hb k hkw
  have : (execOp ρ.eval ⟨d, .call { callee := .builtin .delete, args := #[x, i], argTypes := #[T, kT'] }, ty, pos, af, gd⟩).run P w = .ok (.value (.tuple #[])) (ChangeMaps.setBlock w m o) := by
    simp [execOp, resolve, invoke, builtin, hf.eval hx, hf.eval hi, Sem.run_bind, h1]
  unfold DoesW
  rw [this]
  have hg : ∀ g, (g = m ∨ g = r) → ownFp [rg M m r l td c] g := fun g hg => ⟨_, List.mem_singleton.2 rfl, rfl, hg⟩
  exact ⟨_, rfl, .one (mod_block (hg m (.inl rfl)) _ _) h2 fun g' hg' => .inr (hg g' hg')⟩
theorem ReadR.entry {d : Option Tmp} {x : Operand} {m r : Nat} {l td : List (K × V)} {y : K × V} {kv vv : Value} (hk : M.kc y.1 = kv) (hv : M.vc y.2 = vv) (hm : rg M m r l td (some y) ∈ Γ) (hx : evF F x = some (.pointer (some ⟨r, 0, none⟩))) :
    ReadR P n Γ F ⟨d, .entry x, ty, pos, af, gd⟩ (.tuple #[kv, vv]) := fun ρ w hf hw => by
  subst hk hv
  obtain ⟨h0, es, clock, since, seen, c0, hr, hb, ⟨he, h1, h2, hn, hwf⟩, hsc, hold, hleft, hsub, hcur⟩ := hw _ hm
  obtain ⟨rfl, e, hem, hbk, hke, hve⟩ := hcur y rfl
  have hnd : (es.toList.map (·.born)).Nodup := h1.imp (fun h => Nat.ne_of_lt h)
  have hfd : es.find? (·.born == e.born) = some e := by rw [← Array.find?_toList]; exact find_born e es.toList hnd hem
  have : (Instr.entry (.pointer (some ⟨r, 0, none⟩))).run P w = .ok (.tuple #[e.key, e.val]) w := by
    simp only [Instr.entry, getObj, Sem.run_bind, Sem.run, hr, hb, Result.andThen, hbk, bne_self_eq_false, Bool.false_eq_true, if_false, hfd]
    rfl
  simp [execOp, hf.eval hx, Sem.run_bind, this, hke, hve]
theorem WPl.mrange [h : MapI P T M] {d : Nat} {x : Operand} {m : Nat} {l : List (K × V)} {Γf : List Asn} (k : ∀ r, WPl P n W S (rg M m r l l none :: Γf) ((d, .pointer (some ⟨r, 0, none⟩)) :: F) ops os Q) (hx : evF F x = some (.map (some m)) := by first | rfl | fail) (hp : Take Γ (mp M m l) Γf := by first | exact takeA | fail) (hlt : Nat.blt d n = true := by first | rfl | fail) (hw : wantG F ops gd = some true := by first | rfl | fail) :
    WPl P n W S Γ F ops (⟨some d, .range T x, ty, pos, af, gd⟩ :: os) Q :=
  WPl.op (.cons hp .nil) hlt hw (OpT.mrange (h := h) hx (.cons hp .nil)) (by rintro v Γ' ⟨r, rfl, rfl⟩; exact k r)
theorem WPl.mnext {d : Nat} {x : Operand} {m r : Nat} {l td : List (K × V)} {c : Option (K × V)} {Γf : List Asn} (kf : K → Value) (vf : V → Value) (k0 : td = [] → WPl P n W S (rg M m r l td c :: Γf) ((d, .tuple #[.bool false]) :: F) ops os Q)
    (k1 : ∀ A y B, td = A ++ y :: B → WPl P n W S (rg M m r l (A ++ B) (some y) :: Γf) ((d, .tuple #[.bool true, kf y.1, vf y.2]) :: F) ops os Q) (hk : ∀ z, M.kc z = kf z := by first | exact fun _ => rfl | fail) (hv : ∀ z, M.vc z = vf z := by first | exact fun _ => rfl | fail)
    (hx : evF F x = some (.pointer (some ⟨r, 0, none⟩)) := by first | rfl | fail) (hp : Take Γ (rg M m r l td c) Γf := by first | exact takeA | fail) (hlt : Nat.blt d n = true := by first | rfl | fail) (hw : wantG F ops gd = some true := by first | rfl | fail) :
    WPl P n W S Γ F ops (⟨some d, .next x false, ty, pos, af, gd⟩ :: os) Q :=
  WPl.op (.cons hp .nil) hlt hw (OpT.next hx (.cons hp .nil)) (by
    rintro v Γ' (⟨h0, rfl, rfl⟩ | ⟨A, y, B, h0, rfl, rfl⟩)
    · exact k0 h0
    · have := k1 A y B h0
      rw [← hk, ← hv] at this
      exact this)
theorem WPl.mdelR [h : MapI P T M] {x i : Operand} {kT' : TypeId} {m r : Nat} {l td : List (K × V)} {c : Option (K × V)} (kk : K) (hkw : M.wf kk) {Γf : List Asn} (k : WPl P n W S (rg M m r (Go.Proofs.YtpilenbdimhegaaGreatDoor.mdel l kk) (td.filter (fun x => decide (x.1 ≠ kk))) none :: Γf) F ops os Q) (hx : evF F x = some (.map (some m)) := by first | rfl | fail) (hi : evF F i = some (M.kc kk) := by first | rfl | fail) (hp : Take Γ (rg M m r l td c) Γf := by first | exact takeA | fail) (hw : wantG F ops gd = some true := by first | rfl | fail) :
    WPl P n W S Γ F ops (⟨none, .call { callee := .builtin .delete, args := #[x, i], argTypes := #[T, kT'] }, ty, pos, af, gd⟩ :: os) Q := WPl.turn (.cons hp .nil) rfl hw (OpT.mdelR (h := h) hkw hx hi (.cons hp .nil)) k
/-- The range is over: the map as it was held. -/
theorem Good.rgOut {m r : Nat} {l td : List (K × V)} {c : Option (K × V)} {Γf : List Asn} {w : World} (h : Good W S (rg M m r l td c :: Γf) w) : Good W S (mp M m l :: Γf) w := by
  have h1 := h.apart
  rw [List.pairwise_cons] at h1
  refine h.conv (fun hh A hA => ?_) (fun _ => List.pairwise_cons.2 ⟨fun B hB hor g' hg' hB' => h1.1 B hB (.inl rfl) g' (.inl hg') hB', h1.2⟩) (fun A hA ho g' hg' => ?_)
  · rcases List.mem_cons.1 hA with rfl | hA
    · exact rg_mp (hh _ (List.mem_cons_self ..))
    · exact hh A (List.mem_cons_of_mem _ hA)
  · rcases List.mem_cons.1 hA with rfl | hA
    · exact ⟨_, List.mem_cons_self .., rfl, .inl hg'⟩
    · exact ⟨A, List.mem_cons_of_mem _ hA, ho, hg'⟩
theorem WPq.rgOut {e : Exit} {m r : Nat} {l td : List (K × V)} {c : Option (K × V)} {Γf : List Asn} (hp : Take Γ (rg M m r l td c) Γf) (k : WPq n W S (mp M m l :: Γf) F Q e) : WPq n W S Γ F Q e := fun a w hf hg => k a w hf (hg.perm hp).rgOut
theorem WPc.mkeys {cd : Code} {m : Nat} {l : List (K × V)} (hm : mp M m l ∈ Γ) (h : (l.map (·.1)).Nodup → (∀ x ∈ l, M.wf x.1) → WPc P n W S Γ F cd Q) : WPc P n W S Γ F cd Q :=
  WPc.know (p := (l.map (·.1)).Nodup ∧ ∀ x ∈ l, M.wf x.1) (fun w hw => by obtain ⟨es, clock, _, _, _, _, h1, h2⟩ := hw _ hm; exact ⟨h1, h2⟩) (fun hp => h hp.1 hp.2)
theorem WPc.rgsub {cd : Code} {m r : Nat} {l td : List (K × V)} {c : Option (K × V)} (hm : rg M m r l td c ∈ Γ) (h : td.Sublist l → (l.map (·.1)).Nodup → (∀ x ∈ l, M.wf x.1) → WPc P n W S Γ F cd Q) : WPc P n W S Γ F cd Q :=
  WPc.know (p := td.Sublist l ∧ (l.map (·.1)).Nodup ∧ ∀ x ∈ l, M.wf x.1) (fun w hw => by
    obtain ⟨h0, es, clock, since, seen, c0, hr, hb, ⟨he, h1, h2, hn, hwf⟩, hsc, hold, hleft, hsub, hcur⟩ := hw _ hm
    exact ⟨hsub, hn, hwf⟩) (fun hp => h hp.1 hp.2.1 hp.2.2)
/-! ### Functions that are called by their value -/
theorem run_callF {d : Option Tmp} {f : FuncId} {x : Operand} {xs : List Operand} {ts : Array TypeId} {cb : Array Value} {a : Act} {w : World} (hc : isCode P f = true) (hx : a.eval x = .func (.func f) #[] cb) :
    (execOp a.eval ⟨d, .call { callee := .value x, args := xs.toArray, argTypes := ts }, ty, pos, af, gd⟩).run P w = .ok (.enter f ((xs.map a.eval).toArray ++ cb)) w := by
  unfold isCode at hc
  cases hf : P.funcs[f]? with
  | none => rw [hf] at hc; cases hc
  | some fn =>
    rw [hf] at hc
    simp only [Bool.and_eq_true, decide_eq_true_eq] at hc
    obtain ⟨h1, h2⟩ := hc
    obtain ⟨b, hb⟩ := Option.isSome_iff_exists.1 h2
    simp only [execOp, resolve]
    rw [hx]
    simp [invoke, callFunc, Deferred.ofValue, Sem.run_bind, hf, h1, hb, go_sem]
theorem ReadR.mkF {d : Option Tmp} {f : Fn} {xs : List Operand} {vs : List Value} (hx : evFs F xs vs) : ReadR P n Γ F ⟨d, .makeFunc f #[] xs.toArray, ty, pos, af, gd⟩ (.func f #[] vs.toArray) := fun ρ w hf hw => by
  have h1 : xs.toArray.map ρ.eval = vs.toArray := by rw [List.map_toArray, hx.map hf]
  simp [execOp, Instr.makeFunc, h1]
end
end Go.Proofs.YtpilenbdimhegaaGreatDoor
/- Separation: rows of structs: literals, append. -/
namespace Go.Proofs.YtpilenbdimhegaaGreatDoor
open Go.RowKit
set_option linter.unusedSimpArgs false
set_option linter.unusedVariables false
class EltN (P : Program) (e : TypeId) (sz : outParam Nat) : Prop where
  info : ((P.info? e).bind fun i => i.zero.map fun z => (Nat.beq z.cells.size sz && Nat.beq i.size sz && Nat.ble i.bytes 512 && Nat.blt 0 sz)) = some true
theorem EltN.parts {P : Program} {e : TypeId} {sz : Nat} (h : EltN P e sz) : ∃ i z, P.info? e = some i ∧ i.zero = some z ∧ i.size = sz ∧ z.cells.size = sz ∧ i.bytes ≤ 512 ∧ 0 < sz := by
  have h1 := h.info
  cases hi : P.info? e with
  | none => rw [hi] at h1; cases h1
  | some i =>
    rw [hi] at h1
    simp only [Option.bind_some] at h1
    cases hz : i.zero with
    | none => rw [hz] at h1; cases h1
    | some z =>
      rw [hz] at h1
      simp only [Option.map_some, Option.some.injEq, Bool.and_eq_true] at h1
      obtain ⟨⟨⟨h2, h3⟩, h4⟩, h5⟩ := h1
      exact ⟨i, z, rfl, hz, Nat.eq_of_beq_eq_true h3, Nat.eq_of_beq_eq_true h2, Nat.le_of_ble_eq_true h4, Nat.le_of_ble_eq_true h5⟩
section
variable {P : Program} {n : Nat} {W : World} {S : Nat → Prop} {Γ : List Asn} {F : List (Nat × Value)} {Q : Exit → Act → World → Prop} {ops : Array Oper} {os : List Oper}
variable {d : Option Tmp} {ty : TypeId} {pos : String} {af : Array Edge} {gd : Option (Nat × Bool)}
theorem OpT.appendN {T e : TypeId} {sz : Nat} [hT : SliI P T e] [he : EltN P e sz] {s x : Operand} {v v2 : Value} {m m2 : Nat} {xs ys : List Value} {Γf : List Asn} (hs : evF F s = some v) (hx : evF F x = some v2) (hp : Takes Γ [rowN e sz v m xs] Γf) (h2 : HasS Γ v2 m2 ys) (hm2 : ys.length = m2 * sz) (h1 : ∀ u, u ∈ ys → u.oneCell' = true) (h63 : m + m2 ≤ 68719476736) :
    OpT P n Γ F ⟨d, .call { callee := .builtin .append, args := #[s, x], argTypes := #[T, T] }, ty, pos, af, gd⟩ [rowN e sz v m xs] (RRow e sz (m + m2) (xs ++ ys)) := fun ρ w hf hw _ => by
  have hb : (rowN e sz v m xs).holds w := hw _ (hp.mem_iff.2 (List.mem_cons_self ..))
  obtain ⟨i0, z, hi, hz0, hz1, hzs, hby, hsz⟩ := he.parts
  obtain ⟨a, cap, hv2, g1, g2, g3, g4⟩ := (h2 w hw).at
  have hbig : (m + m2) * i0.bytes ≤ 140737488355328 := by
    have : (m + m2) * i0.bytes ≤ 68719476736 * 512 := Nat.mul_le_mul h63 hby
    omega
  have key : ∃ v' w', (Builtin.append_ #[T, T] ty #[v, v2]).run P w = .ok v' w' ∧ w'.ownsRow 0 e sz v' (m + m2) (xs ++ ys) ∧ w.grownBy w' v.ownBlock ∧ (v'.ownBlock = v.ownBlock ∨ ∀ g, v'.ownBlock = some g → w.heap.size ≤ g) := by
    cases a with
    | none =>
      have hc0 := g3 rfl
      have hm0 : m2 = 0 := by omega
      subst hm0 hc0 hv2
      have hy : ys = [] := List.length_eq_zero_iff.1 (by simpa using hm2)
      subst hy
      have := run_append_owned_none (P := P) (w := w) 0 T ty e i0 sz hT.und hi v m xs hb
      exact ⟨v, w, this, by have h := hb; unfold rowN at h; simpa using h, ⟨rfl, rfl, rfl, Nat.le_refl _, fun _ _ _ => rfl⟩, .inl rfl⟩
    | some q =>
      subst hv2
      have hq : ∀ j u, ys[j]? = some u → w.cell? (q.add j) = some u := fun j u hj => by
        obtain ⟨ad, h, hc⟩ := g4 j u hj
        cases h; exact hc
      by_cases hm0 : m2 = 0
      · subst hm0
        have hy : ys = [] := List.length_eq_zero_iff.1 (by simpa using hm2)
        subst hy
        rcases hb.2 with ⟨hv, h0⟩ | ⟨g, cap', cur, hv, hB, hg, hnc, hcm, hcs, ht⟩
        · obtain ⟨v', w', hrun, h3, h4, h5⟩ := run_append_own (P := P) w 0 T ty e i0 z sz i0.bytes hT.und hi hz0 hz1 rfl hzs hsz v m xs hb q 0 cap [] (by simp) hq (by simp) (by unfold maxLen; omega) hbig (Nat.zero_le _)
          exact ⟨v', w', hrun, h3, h4, .inl (by rw [h5.2 ⟨hv, rfl⟩, hv])⟩
        · subst hv
          have hl : xs.length = m * sz := hb.1
          have hle : m * sz ≤ cap' * sz := Nat.mul_le_mul_right _ hnc
          have hfit : m * i0.size + ([] : List Value).length ≤ cur.size := by rw [hz1, hcs]; simp; omega
          have hrun := run_append_room (P := P) w T ty e i0 hT.und hi g m cap' cur hg q 0 cap [] (by simp) hq (by simp) hnc hfit
          refine ⟨_, _, hrun, ⟨by simp; omega, .inr ⟨g, cap', _, rfl, Nat.zero_le _, setRow_heap w g cur _ e _ hg, hnc, hcm, ?_, ?_⟩⟩, ⟨rfl, rfl, rfl, by simp, fun k _ hk => setRow_other w g k _ (fun e => hk (by simp [Value.ownBlock, e]))⟩, .inl rfl⟩
          · simp only [List.size_toArray, List.length_append, List.length_take, List.length_drop, Array.length_toList, List.length_nil, hz1]
            omega
          · rw [hz1, ht]
            have : (m + 0) * sz = (xs ++ []).length := by simp; omega
            rw [this]
            exact List.take_left
      · obtain ⟨g, cap', w', hrun, h3, h4, h5, _⟩ := run_append_lies (P := P) w T ty 0 e i0 z sz i0.bytes hT.und hi hz0 hz1 rfl hzs hsz v m xs hb q m2 cap ys hm2 hq h1 (by omega) (by unfold maxLen; omega) hbig (Nat.zero_le _) w.heap.size rfl
        refine ⟨_, w', hrun, h3, h4, ?_⟩
        rcases h5 with h5 | h5
        · exact .inl h5.symm
        · exact .inr fun g' hg' => by cases hg'; exact Nat.le_of_eq h5.symm
  obtain ⟨v', w', hrun, h3, h4, h5⟩ := key
  have : (execOp ρ.eval ⟨d, .call { callee := .builtin .append, args := #[s, x], argTypes := #[T, T] }, ty, pos, af, gd⟩).run P w = .ok (.value v') w' := by
    simp only [execOp, resolve, invoke, builtin, Sem.run_bind, Sem.run_pure, Result.andThen_ok, List.map_toArray, List.map_cons, List.map_nil, hf.eval hs, hf.eval hx, hrun]
  unfold DoesW
  rw [this]
  have hone : v'.oneCell' = true := by
    rcases h3.2 with ⟨rfl, _⟩ | ⟨g, c, cu, rfl, _⟩ <;> rfl
  refine ⟨_, ⟨hone, rfl⟩, .one ⟨h4.os, h4.tape, h4.output, h4.size, run_drawn _ this, fun g hg hn => h4.block g hg fun hh => hn ⟨_, List.mem_singleton.2 rfl, rfl, hh.symm⟩⟩ h3 fun g hg => ?_⟩
  rcases h5 with h5 | h5
  · exact .inr ⟨_, List.mem_singleton.2 rfl, rfl, h5.symm.trans hg⟩
  · exact .inl (h5 g hg)
/-- A literal of one struct. -/
theorem OpT.buildS1 {T e : TypeId} {sz : Nat} [hT : SliI P T e] [he : EltN P e sz] {x : Operand} {ds : Ch} (hx : evF F x = some (ag ds)) (hk : FOk ds) (ht : total ds = sz) (hsm : Nat.ble sz 16777216 = true) :
    OpT P n Γ F ⟨d, .buildSlice T 1 #[(0, x)], ty, pos, af, gd⟩ [] (RRow e sz 1 (flat ds)) := fun ρ w hf hw _ => by
  obtain ⟨i0, z, hi, hz0, hz1, hzs, hby, hsz⟩ := he.parts
  have hsm' : sz ≤ 16777216 := by simpa using hsm
  have hl : (flat ds).length = sz := by rw [flat_length hk.len, ht]
  have hszr : (sizeOf e).run P w = .ok sz w := by simp [sizeOf, typeInfo, hi, hz1]
  have hz : (zeroValue e).run P w = .ok z w := by simp [zeroValue, typeInfo, hi, hz0]
  have hfill : ∀ c : Array Value, c.size = sz → Instr.fill (fun i => some (i * sz, sz)) c [(0, ag ds)] = some (flat ds).toArray := by
    intro c hc
    have hcell : (ag ds).cells = (flat ds).toArray := by unfold ag; rfl
    simp only [Instr.fill, hcell]
    have : ¬ ((flat ds).toArray.size ≠ sz || decide (0 * sz + (flat ds).toArray.size > c.size)) = true := by simp; omega
    rw [if_neg this]
    have h3 := fold_fill c (0 * sz) (flat ds) 0 (by omega)
    have h4 : ((flat ds).toArray.zipIdx.foldl (fun cs (c, j) => cs.setIfInBounds (0 * sz + j) c) c) = (flat ds).toArray := by
      have h5 : (((flat ds).zipIdx 0).foldl (fun cs (c, j) => cs.setIfInBounds (0 * sz + j) c) c).toList = flat ds := by
        rw [h3, Nat.zero_mul, List.take_zero, List.nil_append, List.drop_of_length_le (by simp; omega), List.append_nil]
      apply Array.toList_inj.1
      rw [List.toList_toArray]
      refine Eq.trans ?_ h5
      simp
    rw [h4]
  have hrun : (Instr.buildSlice T 1 ((#[(0, x)] : Array (Nat × Operand)).map fun (i, x) => (i, ρ.eval x))).run P w = .ok (.slice (some ⟨w.heap.size, 0, none⟩) 1 1) (w.alloc (.cells (flat ds).toArray e)) := by
    unfold Instr.buildSlice
    simp only [Sem.run_bind, run_underlying hT.und, Result.andThen_ok, hszr, Nat.one_mul, Sem.run_ite]
    rw [if_neg (by omega), if_neg (by omega)]
    simp only [hz, Sem.run_bind, Result.andThen_ok, Sem.run_pure]
    have hlist : ((#[(0, x)] : Array (Nat × Operand)).map fun (i, x) => (i, ρ.eval x)).toList = [(0, ag ds)] := by simp [hf.eval hx]
    rw [hlist, hfill _ (by simp)]
    simp [newRow, newObj, Sem.run]
  have : (execOp ρ.eval ⟨d, .buildSlice T 1 #[(0, x)], ty, pos, af, gd⟩).run P w = .ok (.value (.slice (some ⟨w.heap.size, 0, none⟩) 1 1)) (w.alloc (.cells (flat ds).toArray e)) := by
    simp only [execOp, Sem.run_bind, hrun, Result.andThen_ok, Sem.run_pure]
  unfold DoesW
  rw [this]
  refine ⟨_, ⟨rfl, rfl⟩, .one (Mod.alloc _ _ _) ⟨by simp [hl], .inr ⟨w.heap.size, 1, (flat ds).toArray, rfl, Nat.zero_le _, alloc_new _ _, Nat.le_refl _, by unfold maxLen; omega, by simp [hl], ?_⟩⟩ fun g hg => .inl ?_⟩
  · simp [List.take_of_length_le, hl]
  · cases hg; exact Nat.le_refl _
/-- A literal of none. -/
theorem OpT.buildS0 {T e : TypeId} {sz : Nat} [hT : SliI P T e] [he : EltN P e sz] :
    OpT P n Γ F ⟨d, .buildSlice T 0 #[], ty, pos, af, gd⟩ [] (RRow e sz 0 []) := fun ρ w hf hw _ => by
  obtain ⟨i0, z, hi, hz0, hz1, hzs, hby, hsz⟩ := he.parts
  have hszr : (sizeOf e).run P w = .ok sz w := by simp [sizeOf, typeInfo, hi, hz1]
  have hrun : (Instr.buildSlice T 0 ((#[] : Array (Nat × Operand)).map fun (i, x) => (i, ρ.eval x))).run P w = .ok (.slice (some ⟨w.heap.size, 0, none⟩) 0 0) (w.alloc (.cells #[] e)) := by
    unfold Instr.buildSlice
    simp only [Sem.run_bind, run_underlying hT.und, Result.andThen_ok, hszr, Nat.zero_mul, Sem.run_ite]
    rw [if_neg (by omega)]
    simp [newRow, newObj, Sem.run, Instr.fill, show Array.range 0 = #[] from rfl]
  have : (execOp ρ.eval ⟨d, .buildSlice T 0 #[], ty, pos, af, gd⟩).run P w = .ok (.value (.slice (some ⟨w.heap.size, 0, none⟩) 0 0)) (w.alloc (.cells #[] e)) := by
    simp only [execOp, Sem.run_bind, hrun, Result.andThen_ok, Sem.run_pure]
  unfold DoesW
  rw [this]
  refine ⟨_, ⟨rfl, rfl⟩, .one (Mod.alloc _ _ _) ⟨by simp, .inr ⟨w.heap.size, 0, #[], rfl, Nat.zero_le _, alloc_new _ _, Nat.le_refl _, by unfold maxLen; omega, by simp, by simp⟩⟩ fun g hg => .inl ?_⟩
  cases hg; exact Nat.le_refl _
theorem WPc.nilRowN {c : Code} (e : TypeId) (sz : Nat) (h : WPc P n W S (rowN e sz (.slice none 0 0) 0 [] :: Γ) F c Q) : WPc P n W S Γ F c Q := fun a w hf hg =>
  h a w hf ⟨hg.mod, fun A hA => by
      rcases List.mem_cons.1 hA with rfl | hA
      · exact World.ownsRow_nil w 0 e sz
      · exact hg.all A hA,
    List.pairwise_cons.2 ⟨fun B _ _ g hg' _ => (by cases (show (none : Option Nat) = some g from hg')), hg.apart⟩, fun A hA ho g hg' => by
      rcases List.mem_cons.1 hA with rfl | hA
      · exact (by cases (show (none : Option Nat) = some g from hg'))
      · exact hg.mine A hA ho g hg'⟩
/-- append, where what is appended may itself be a row of one's own. -/
theorem WPl.appN {d : Nat} {T e : TypeId} {sz : Nat} [hT : SliI P T e] [he : EltN P e sz] {s x : Operand} {v v2 : Value} {m m2 : Nat} {xs ys : List Value} {Γf : List Asn} (hm2 : ys.length = m2 * sz) (h1 : ∀ u, u ∈ ys → u.oneCell' = true) (h63 : m + m2 ≤ 68719476736) (k : ∀ v, v.oneCell' = true → WPl P n W S (rowN e sz v (m + m2) (xs ++ ys) :: Γf) ((d, v) :: F) ops os Q)
    (hlt : Nat.blt d n = true := by first | rfl | fail) (hw : wantG F ops gd = some true := by first | rfl | fail) (hs : evF F s = some v := by first | rfl | fail) (hx : evF F x = some v2 := by first | rfl | fail) (hp : Take Γ (rowN e sz v m xs) Γf := by first | exact takeA | fail) (h2 : HasS Γ v2 m2 ys := by first | exact hasA | fail) :
    WPl P n W S Γ F ops (⟨some d, .call { callee := .builtin .append, args := #[s, x], argTypes := #[T, T] }, ty, pos, af, gd⟩ :: os) Q := WPl.row (.cons hp .nil) rfl hlt hw (OpT.appendN hs hx (.cons hp .nil) h2 hm2 h1 h63) k
theorem WPl.litS0 {d : Nat} {T e : TypeId} {sz : Nat} [hT : SliI P T e] [he : EltN P e sz] (k : ∀ v, v.oneCell' = true → WPl P n W S (rowN e sz v 0 [] :: Γ) ((d, v) :: F) ops os Q)
    (hlt : Nat.blt d n = true := by first | rfl | fail) (hw : wantG F ops gd = some true := by first | rfl | fail) :
    WPl P n W S Γ F ops (⟨some d, .buildSlice T 0 #[], ty, pos, af, gd⟩ :: os) Q := WPl.row .nil rfl hlt hw OpT.buildS0 k
theorem ag_flat {cs ds : Ch} (h : flat cs = flat ds) : ag cs = ag ds := by unfold ag; rw [h]
/-- A struct out of a row, as it is built. -/
theorem ReadR.loadES {T : TypeId} {sz : Nat} [hT : TyI P T true sz] {x : Operand} {s : Value} {i m : Nat} {xs : List Value} {cs : Ch} (hxs : (xs.drop i).take sz = flat cs) (hi : i + sz ≤ xs.length) (hx : evF F x = some (.pointer (some (ela s i)))) (h : HasS Γ s m xs) :
    ReadR P n Γ F ⟨d, .load T x, ty, pos, af, gd⟩ (ag cs) := by
  have h1 := ReadR.loadEA (P := P) (n := n) (d := d) (ty := ty) (pos := pos) (af := af) (gd := gd) (T := T) hx h hi
  rwa [hxs, show ag [(sz, flat cs)] = ag cs from ag_flat (by simp [flat])] at h1
end
theorem rows_drop {α : Type} {c : α → Ch} {sz : Nat} : ∀ {l : List α} {i : Nat} {x : α}, (∀ x, (flat (c x)).length = sz) → l[i]? = some x → ((l.map fun x => flat (c x)).flatten.drop (i * sz)).take sz = flat (c x)
  | [], i, x, _, h => by simp at h
  | y :: l, 0, x, hc, h => by
    simp only [List.getElem?_cons_zero, Option.some.injEq] at h
    subst h
    rw [Nat.zero_mul, List.drop_zero, List.map_cons, List.flatten_cons, List.take_append_of_le_length (by rw [hc]; exact Nat.le_refl _), List.take_of_length_le (by rw [hc]; exact Nat.le_refl _)]
  | y :: l, i + 1, x, hc, h => by
    simp only [List.getElem?_cons_succ] at h
    rw [List.map_cons, List.flatten_cons, Nat.succ_mul, Nat.add_comm, ← List.drop_drop, show (flat (c y) ++ (l.map fun x => flat (c x)).flatten).drop sz = (l.map fun x => flat (c x)).flatten by rw [← hc y, List.drop_left]]
    exact rows_drop hc h
end Go.Proofs.YtpilenbdimhegaaGreatDoor
/- Where ways meet; parts of what is read; stores into rows of structs. -/
namespace Go.Proofs.YtpilenbdimhegaaGreatDoor
open Go.RowKit
set_option linter.unusedSimpArgs false
set_option linter.unusedVariables false
/-- A walk that waits. -/
structure Held (p : Prop) : Prop where
  it : p
section
variable {P : Program} {n : Nat} {W : World} {S : Nat → Prop} {Γ : List Asn} {F : List (Nat × Value)} {Q : Exit → Act → World → Prop} {ops : Array Oper} {os : List Oper}
variable {d : Option Tmp} {ty : TypeId} {pos : String} {af : Array Edge} {gd : Option (Nat × Bool)}
theorem wp_mono {c : Code} {Q Q' : Exit → Act → World → Prop} {a : Act} {w : World} (hq : ∀ e a w, Q e a w → Q' e a w) (h : c.wp P Q a w) : c.wp P Q' a w := fun b k cs => by
  obtain ⟨e, a', w', q, r⟩ := h b k cs
  exact ⟨e, a', w', hq _ _ _ q, r⟩
/-- Where ways meet: what is known there, over all s that are ok. -/
theorem WPc.join {σ : Type} {x y : Code} (ok : σ → Prop) (ΓI : σ → List Asn) (FI : σ → List (Nat × Value)) (h : WPc P n W S Γ F x (Exit.then (fun a w => ∃ s, ok s ∧ Fr n (FI s) a ∧ Good W S (ΓI s) w) Q)) (k : ∀ s, ok s → WPc P n W S (ΓI s) (FI s) y Q) : WPc P n W S Γ F (.seq x y) Q := fun a w hf hg =>
  wp_seq (wp_mono (fun e a w hq => by
    cases e with
    | normal => obtain ⟨s, h1, h2, h3⟩ := hq; exact k s h1 a w h2 h3
    | _ => exact hq) (h a w hf hg))
theorem WPq.join {σ : Type} {ok : σ → Prop} {ΓI : σ → List Asn} {FI : σ → List (Nat × Value)} {Γx : List Asn} (s : σ) (h0 : ok s) (hΓ : Takes Γ (ΓI s) Γx := by first | exact takesA | fail) (hF : FrSub F (FI s) := by first | exact frsA | fail) :
    WPq n W S Γ F (Exit.then (fun a w => ∃ s, ok s ∧ Fr n (FI s) a ∧ Good W S (ΓI s) w) Q) .normal :=
  fun a w hf hg => ⟨s, h0, hf.sub hF, (hg.perm hΓ).left⟩
theorem isSeqR (r : Nat) {ops : Array Oper} {b : Bool} {c y : Code} (h : WPc P n W S Γ F (.seq (.seq (.region r ops b) c) y) Q) : WPc P n W S Γ F (.seq (.seq (.region r ops b) c) y) Q := h
theorem isSeq1 (r : Nat) {ops : Array Oper} {b : Bool} {y : Code} (h : WPc P n W S Γ F (.seq (.region r ops b) y) Q) : WPc P n W S Γ F (.seq (.region r ops b) y) Q := h
/-- What follows of something that is only read, told beside it. -/
theorem Good.more {A B : Asn} {w : World} (hA : A ∈ Γ) (hAo : A.own = false) (hBo : B.own = false) (hfp : ∀ g, B.fp g → A.fp g) (hh : ∀ w, A.holds w → B.holds w) (h : Good W S Γ w) : Good W S (B :: Γ) w := by
  have h2 := h.dup hA hAo
  have ha := h2.apart
  rw [List.pairwise_cons] at ha
  refine ⟨h.mod, fun C hC => ?_, List.pairwise_cons.2 ⟨fun C hC hor g hg hg' => ?_, h.apart⟩, fun C hC => ?_⟩
  · rcases List.mem_cons.1 hC with rfl | hC
    · exact hh _ (h.all _ hA)
    · exact h.all C hC
  · refine ha.1 C hC ?_ g (hfp g hg) hg'
    rcases hor with hor | hor
    · rw [hBo] at hor; cases hor
    · exact .inr hor
  · rcases List.mem_cons.1 hC with rfl | hC
    · intro h'; rw [hBo] at h'; cases h'
    · exact h.mine C hC
theorem subv_block {sz : Nat} {v : Value} {k n : Nat} : ∀ g, (subv sz v k n).ownBlock = some g → v.ownBlock = some g := by
  intro g h
  unfold subv at h
  split at h
  · rename_i a m c
    simp only [Value.ownBlock, Option.map_some, Option.some.injEq] at h ⊢
    split at h <;> simpa [add_block] using h
  · exact h
/-! ### A store of one cell into a row of structs -/
end
end Go.Proofs.YtpilenbdimhegaaGreatDoor
/- Separation: a block that is only read. -/
namespace Go.Proofs.YtpilenbdimhegaaGreatDoor
open Go.RowKit
set_option linter.unusedSimpArgs false
set_option linter.unusedVariables false
def rbx (g : Nat) (T : TypeId) (cs : Ch) : Asn where
  own := false
  fp := fun g' => g' = g
  holds := (bx g T cs).holds
  lt := (bx g T cs).lt
  loc := (bx g T cs).loc
theorem Prov.bx {Γ : List Asn} {g : Nat} {T : TypeId} {cs : Ch} (h : Go.Proofs.YtpilenbdimhegaaGreatDoor.bx g T cs ∈ Γ) : Prov Γ (rbx g T cs) := ⟨rfl, fun w hw => hw (Go.Proofs.YtpilenbdimhegaaGreatDoor.bx g T cs) h⟩
theorem provsX {Γ Δ : List Asn} (h : Provs Γ Δ := by ((repeat' (first | exact Provs.nil | apply Provs.cons | exact Prov.bx memA | exact Prov.rbx memA | exact provA | fail)) <;> fail)) : Provs Γ Δ := h
section
variable {P : Program} {n : Nat} {Γ : List Asn} {F : List (Nat × Value)}
variable {d : Option Tmp} {ty : TypeId} {pos : String} {af : Array Edge} {gd : Option (Nat × Bool)}
theorem ReadR.loadO {T T' : TypeId} [hT : TyI P T false 1] {x : Operand} {g off : Nat} {cs : Ch} {v : Value} (hm : rbx g T' cs ∈ Γ) (hs : sel cs off 1 = some [(1, [v])]) (hx : evF F x = some (.pointer (some ⟨g, off, none⟩))) :
    ReadR P n Γ F ⟨d, .load T x, ty, pos, af, gd⟩ v := fun ρ w hf hw => by
  have hb : (bx g T' cs).holds w := hw (rbx g T' cs) hm
  have hc : w.cell? ⟨g, off, none⟩ = some v := by
    rw [bx_cell hb]
    exact sel_cells hs hb.2.len 0 v rfl
  simp [execOp, hf.eval hx, Instr.loadAt, Instr.sureAddr, run_load1 (T := T) hc]
end
end Go.Proofs.YtpilenbdimhegaaGreatDoor
/- Drawn regions with calls that are told by a relation; stores of structs into rows. -/
namespace Go.Proofs.YtpilenbdimhegaaGreatDoor
open Go.RowKit
set_option linter.unusedSimpArgs false
set_option linter.unusedVariables false
/-- What a list of what is owned is told by. -/
noncomputable def pickG {σ : Type} [Inhabited σ] (G : σ → List Asn) (ok : σ → Prop) (Γ : List Asn) : σ := Classical.epsilon (fun x => Γ = G x ∧ ok x)
section
variable {P : Program} {n : Nat} {Γ : List Asn} {F : List (Nat × Value)} {ops : Array Oper} {eats : List (Nat × Nat)} {K : Prev → Prop} {j : Nat} {os : List Oper} {o : Oper} {D bad : List Nat} {Ds : List (List Nat × List Nat)} {prev : Prev}
/-- The same, told by a state. -/
theorem RGl.relG {σ : Type} [Inhabited σ] {R : Value → List Asn → Prop} (c : Value) (G : σ → List Asn) (ok : σ → Prop) {Γ1 : Env → List Asn} (hR : ∀ v Γ', R v Γ' → v = c ∧ ∃ x, Γ' = G x ∧ ok x) (h : ∀ e, oksR D e prev → OpT P n (ensR eats D j e prev ++ Γ) (bndR D e prev ++ fcutR bad F) o (Γ1 e) R)
    (k : RGl P n Γ F ops eats K (j + 1) os Ds ((j, o.dst, ⟨fun _ _ => c, fun _ r => G (pickG G ok r.2), fun _ r => ok (pickG G ok r.2)⟩) :: prev)) (hs : ∀ e, ∀ A, A ∈ Γ1 e → A ∈ eaten1R eats j e prev := by intro e A hA; first | exact hA | simpa [eaten1R, psp, or_comm] using hA) (hw : ∀ e, wantG (bndR D e prev ++ fcutR bad F) ops o.guard = some true := by intro e; first | rfl | fail) :
    RGl P n Γ F ops eats K j (o :: os) ((D, bad) :: Ds) prev :=
  RGl.stepR (fun e he => .op (hw e) (h e he) (hs e) (by intro v Γ' hr; obtain ⟨h1, hx⟩ := hR v Γ' hr; have h2 := Classical.epsilon_spec hx; exact ⟨h1, h2.1, h2.2⟩)) (fun e _ => ⟨rfl, rfl, rfl⟩) k
variable {d : Option Tmp} {ty : TypeId} {pos : String} {af : Array Edge} {gd : Option (Nat × Bool)}
end
end Go.Proofs.YtpilenbdimhegaaGreatDoor
/- Separation: maps that are only read; clear; calls that read and own at once; function values that only read. -/
namespace Go.Proofs.YtpilenbdimhegaaGreatDoor
section
open Go.RowKit
set_option linter.unusedSimpArgs false
set_option linter.unusedVariables false
def rmp {K V : Type} (M : MK K V) (g : Nat) (l : List (K × V)) : Asn where
  own := false
  fp := (mp M g l).fp
  holds := (mp M g l).holds
  lt := (mp M g l).lt
  loc := (mp M g l).loc
/-- The same, its entries told. -/
def rme {K V : Type} (M : MK K V) (m : Nat) (l : List (K × V)) (es : Array MapEntry) (clock : Nat) : Asn where
  own := false
  fp := fun g' => g' = m
  holds := fun w => w.heap[m]? = some (.map es clock) ∧ es.toList.map (fun e => (e.key, e.val)) = l.map (fun x => (M.kc x.1, M.vc x.2)) ∧ (es.toList.map (fun e : MapEntry => e.born)).Pairwise (fun a b : Nat => a < b) ∧ (∀ e ∈ es.toList, e.born < clock) ∧ (l.map (fun x : K × V => x.1)).Nodup ∧ ∀ x ∈ l, M.wf x.1
  lt := fun w h g' hg => by
    subst hg
    exact (Array.getElem?_eq_some_iff.1 h.1).1
  loc := fun w w' h hl => ⟨by rw [hl m rfl]; exact h.1, h.2⟩
/-- An iterator of a map that is only read. -/
def rgo {K V : Type} (M : MK K V) (m r : Nat) (l : List (K × V)) (es : Array MapEntry) (clock : Nat) (td : List (K × V)) (c : Option (K × V)) : Asn where
  own := true
  fp := fun g => g = r
  holds := fun w => ∃ since seen c0, w.heap[r]? = some (.mapIter (some m) since seen c0) ∧
    (since ≤ c0 ∧ since ≤ clock) ∧ (∀ e ∈ es.toList, e.born < since) ∧ (leftOf es seen).toList.map (fun e => (e.key, e.val)) = td.map (fun x => (M.kc x.1, M.vc x.2)) ∧ td.Sublist l ∧
    (∀ x, c = some x → c0 = clock ∧ ∃ e ∈ es.toList, seen.back? = some e.born ∧ e.key = M.kc x.1 ∧ e.val = M.vc x.2)
  lt := fun w h g hg => by
    obtain ⟨since, seen, c0, h1, _⟩ := h
    subst hg
    exact (Array.getElem?_eq_some_iff.1 h1).1
  loc := fun w w' h hl => by
    obtain ⟨since, seen, c0, h1, h3⟩ := h
    exact ⟨since, seen, c0, by rw [hl r rfl]; exact h1, h3⟩
theorem Prov.mp {K V : Type} {M : MK K V} {Γ : List Asn} {g : Nat} {l : List (K × V)} (h : Go.Proofs.YtpilenbdimhegaaGreatDoor.mp M g l ∈ Γ) : Prov Γ (rmp M g l) := ⟨rfl, fun w hw => hw (Go.Proofs.YtpilenbdimhegaaGreatDoor.mp M g l) h⟩
theorem Prov.rmp {K V : Type} {M : MK K V} {Γ : List Asn} {g : Nat} {l : List (K × V)} (h : Go.Proofs.YtpilenbdimhegaaGreatDoor.rmp M g l ∈ Γ) : Prov Γ (Go.Proofs.YtpilenbdimhegaaGreatDoor.rmp M g l) := ⟨rfl, fun w hw => hw _ h⟩
section
variable {P : Program} {n : Nat} {W : World} {S : Nat → Prop} {Γ : List Asn} {F : List (Nat × Value)} {Q : Exit → Act → World → Prop} {ops : Array Oper} {os : List Oper}
variable {ty : TypeId} {pos : String} {af : Array Edge} {gd : Option (Nat × Bool)}
variable {K V : Type} {T : TypeId} {M : MK K V}
def RRgo (M : MK K V) (m : Nat) (l : List (K × V)) (es : Array MapEntry) (clock : Nat) : Value → List Asn → Prop := fun v Γ => ∃ r, v = .pointer (some ⟨r, 0, none⟩) ∧ Γ = [rgo M m r l es clock l none]
def RNxtO (M : MK K V) (m r : Nat) (l : List (K × V)) (es : Array MapEntry) (clock : Nat) (td : List (K × V)) (c : Option (K × V)) : Value → List Asn → Prop := fun v Γ =>
  (td = [] ∧ v = .tuple #[.bool false] ∧ Γ = [rgo M m r l es clock td c]) ∨ ∃ A x B, td = A ++ x :: B ∧ v = .tuple #[.bool true, M.kc x.1, M.vc x.2] ∧ Γ = [rgo M m r l es clock (A ++ B) (some x)]
end
end
section
open Go.RowKit
set_option linter.unusedSimpArgs false
set_option linter.unusedVariables false
/-- So many elements of no value. -/
def clr (P : Program) (e : TypeId) (j : Nat) : List Value := match (P.info? e).bind (·.zero) with
  | some z => (Builtin.zeroCells z.cells j).toList
  | none => []
end
section
open Go.RowKit
set_option linter.unusedSimpArgs false
set_option linter.unusedVariables false
section
variable {P : Program} {n : Nat} {W : World} {S : Nat → Prop} {Γ : List Asn} {F : List (Nat × Value)} {Q : Exit → Act → World → Prop} {ops : Array Oper} {os : List Oper}
variable {ty : TypeId} {pos : String} {af : Array Edge} {gd : Option (Nat × Bool)}
theorem OpT.callFV {d : Option Tmp} {f : FuncId} {x : Operand} {xs : List Operand} {ts : Array TypeId} {vs : List Value} {cb : List Value} {Δ : List Asn} {R : Value → List Asn → Prop}
    (h : Triple P f (vs ++ cb).toArray Δ R) (hf0 : evF F x = some (.func (.func f) #[] cb.toArray)) (hx : evFs F xs vs) (hΔ : Provs Γ Δ) (hc : isCode P f = true) : OpT P n Γ F ⟨d, .call { callee := .value x, args := xs.toArray, argTypes := ts }, ty, pos, af, gd⟩ [] R := by
  intro ρ w hf hw ha
  unfold DoesW
  rw [run_callF hc (hf.eval hf0), hx.map hf, show vs.toArray ++ cb.toArray = (vs ++ cb).toArray by simp]
  refine (Triple.frame (Δ := Δ) (Γo := []) (Γf := Γ) (by rw [List.append_nil]; exact h) hw ha hΔ (fun A _ g _ ho => by obtain ⟨C, hC, _⟩ := ho; cases hC)).mono ?_
  rintro e w' ⟨v, Γ', he, hR, hp⟩
  exact ⟨v, he, Γ', hR, hp⟩
theorem WPl.cFV {d : Nat} {f : FuncId} {x : Operand} {xs : List Operand} {ts : Array TypeId} {Δ : List Asn} {c : Value} (vs cb : List Value)
    (h : Triple P f (vs ++ cb).toArray Δ (RVal c)) (k : WPl P n W S Γ ((d, c) :: F) ops os Q) (hf0 : evF F x = some (.func (.func f) #[] cb.toArray) := by first | rfl | assumption | fail) (hx : evFs F xs vs := by first | exact evsA | fail) (hΔ : Provs Γ Δ := by first | exact provsM | fail) (hc : isCode P f = true := by first | kernel_rfl | assumption | fail) (hd : Nat.blt d n = true := by first | rfl | fail) (hw : wantG F ops gd = some true := by first | rfl | fail) :
    WPl P n W S Γ F ops (⟨some d, .call { callee := .value x, args := xs.toArray, argTypes := ts }, ty, pos, af, gd⟩ :: os) Q :=
  WPl.op .nil hd hw (OpT.callFV h hf0 hx hΔ hc) (by rintro v Γ' ⟨rfl, rfl⟩; exact k)
end
end
end Go.Proofs.YtpilenbdimhegaaGreatDoor
/- Bags: what belongs to the elements of a list, as one assertion. -/
namespace Go.Proofs.YtpilenbdimhegaaGreatDoor
open Go.RowKit
set_option linter.unusedSimpArgs false
set_option linter.unusedVariables false
/-- What belongs to the elements of a list. -/
def gbag {α : Type} (row : α → List Asn) (es : List α) : Asn := star (es.flatMap row)
theorem gbag_own {α : Type} {row : α → List Asn} {es : List α} : (gbag row es).own = true := rfl
section
variable {P : Program} {n : Nat} {W : World} {S : Nat → Prop} {Γ : List Asn} {F : List (Nat × Value)} {Q : Exit → Act → World → Prop} {ops : Array Oper} {os : List Oper}
theorem gbag_all {α : Type} {row : α → List Asn} (ho : ∀ x A, A ∈ row x → A.own = true) (es : List α) : ∀ A, A ∈ es.flatMap row → A.own = true := by
  intro A hA
  obtain ⟨x, _, h⟩ := List.mem_flatMap.1 hA
  exact ho x A h
theorem gbag_perm {α : Type} {row : α → List Asn} {es es' : List α} {x : α} (hp : es.Perm (x :: es')) (Γf : List Asn) : (es.flatMap row ++ Γf).Perm (es'.flatMap row ++ (row x ++ Γf)) := by
  have h1 : (es.flatMap row).Perm (row x ++ es'.flatMap row) := by
    have := hp.flatMap_right row
    rwa [List.flatMap_cons] at this
  refine (h1.append_right Γf).trans ?_
  rw [← List.append_assoc]
  exact (List.perm_append_comm).append_right Γf
theorem Good.gbagOut {α : Type} {row : α → List Asn} {es es' : List α} {x : α} {Γf : List Asn} {w : World} (ho : ∀ x A, A ∈ row x → A.own = true) (hp : es.Perm (x :: es')) (h : Good W S (gbag row es :: Γf) w) : Good W S (gbag row es' :: (row x ++ Γf)) w :=
  ((h.open' (gbag_all ho es)).perm (gbag_perm hp Γf)).close (gbag_all ho es')
theorem Good.gbagIn {α : Type} {row : α → List Asn} {es es' : List α} {x : α} {Γf : List Asn} {w : World} (ho : ∀ x A, A ∈ row x → A.own = true) (hp : es.Perm (x :: es')) (h : Good W S (gbag row es' :: (row x ++ Γf)) w) : Good W S (gbag row es :: Γf) w :=
  ((h.open' (gbag_all ho es')).perm (gbag_perm hp Γf).symm).close (gbag_all ho es)
theorem Good.gbag0 {α : Type} {row : α → List Asn} {w : World} (h : Good W S Γ w) : Good W S (gbag row [] :: Γ) w := Good.close (Γ1 := []) (by intro A hA; cases hA) h
theorem WPc.gbagO {α : Type} {row : α → List Asn} {es es' : List α} {x : α} {c : Code} {Γf : List Asn} (ho : ∀ x A, A ∈ row x → A.own = true) (hp : es.Perm (x :: es')) (k : WPc P n W S (gbag row es' :: (row x ++ Γf)) F c Q) (ht : Take Γ (gbag row es) Γf := by first | exact takeA | fail) : WPc P n W S Γ F c Q := fun a w hf hg => k a w hf ((hg.perm ht).gbagOut ho hp)
theorem WPq.gbagI {α : Type} {row : α → List Asn} {es es' : List α} {x : α} {e : Exit} {Γf : List Asn} (ho : ∀ x A, A ∈ row x → A.own = true) (hp : es.Perm (x :: es')) (ht : Takes Γ (gbag row es' :: row x) Γf) (k : WPq n W S (gbag row es :: Γf) F Q e) : WPq n W S Γ F Q e := fun a w hf hg => k a w hf (Good.gbagIn ho hp (hg.perm ht))
theorem WPc.gbagI {α : Type} {row : α → List Asn} {es es' : List α} {x : α} {c : Code} {Γf : List Asn} (ho : ∀ x A, A ∈ row x → A.own = true) (hp : es.Perm (x :: es')) (ht : Takes Γ (gbag row es' :: row x) Γf) (k : WPc P n W S (gbag row es :: Γf) F c Q) : WPc P n W S Γ F c Q := fun a w hf hg => k a w hf (Good.gbagIn ho hp (hg.perm ht))
theorem WPc.gbag0 {α : Type} (row : α → List Asn) {c : Code} (k : WPc P n W S (gbag row [] :: Γ) F c Q) : WPc P n W S Γ F c Q := fun a w hf hg => k a w hf hg.gbag0
theorem WPq.gbag0 {α : Type} (row : α → List Asn) {e : Exit} (k : WPq n W S (gbag row [] :: Γ) F Q e) : WPq n W S Γ F Q e := fun a w hf hg => k a w hf hg.gbag0
/-- What is only read of a bag. -/
theorem Prov.gbag {α : Type} {row : α → List Asn} {es : List α} {x : α} {A B : Asn} (h : Go.Proofs.YtpilenbdimhegaaGreatDoor.gbag row es ∈ Γ) (hx : x ∈ es) (hA : A ∈ row x) (hB : B.own = false) (hh : ∀ w, A.holds w → B.holds w) : Prov Γ B :=
  ⟨hB, fun w hw => hh w ((hw _ h).1 A (List.mem_flatMap.2 ⟨x, hx, hA⟩))⟩
end
end Go.Proofs.YtpilenbdimhegaaGreatDoor
