/- References of layers 13, 15, 16: packets of UDP of IPv4, written: contracts. -/
import Derived.Test.YteofjhjhaaafjaaRa
import Derived.Test.YteofjhjhaaafjaaRc
import Derived.Test.YteofjhjhaaafjaaSx
import Derived.Test.YteofjhjhaaafjaaPb
namespace Go.Proofs.Yteofjhjhaaafjaa
open Go.RowKit
set_option linter.unusedSimpArgs false
set_option linter.unusedVariables false
set_option maxRecDepth 20000
set_option maxHeartbeats 400000
attribute [local irreducible] WPc WPl WPq ReadR OpT BinR HasS bx rdN rowN Take Takes Prov Triple ResF BuildP Done ag Int.decLt Int.decLe Int.instDecidableEq
attribute [local irreducible] be psu swT swU
theorem rfour_t (a : Adr) (h : a.six = false) (hg : a.good = true) : Triple Try.prog 129 #[ag (adc a)] [] (RVal (.bool true)) := by
  have g1 := rgood_t a
  have l1 := a.len
  rw [hg] at g1
  refine Triple.enter Try.func129 rfl Try.ntmps129 rfl (fun W => ?_)
  dsimp only [argsF, Nat.reduceAdd]
  repeat' (first
   | refine WPl.nil ?_ | refine WPq.then ?_ | refine WPq.thenR ?_ | refine WPq.thenE ?_ | refine WPq.blockN ?_ | refine WPq.blockR ?_ | refine WPq.blockE ?_ | refine WPq.blockO rfl ?_ | refine WPc.seq ?_ | refine WPc.block ?_ | refine WPc.ret ?_ | refine WPc.exit ?_ | refine WPc.skip ?_ | refine WPc.region ?_
   | (refine isCond ?_; first | refine WPc.cT ?_ | refine WPc.cF ?_ | (refine WPc.cQ (fun hc => ?_) (fun hc => ?_) <;> try exact prA))
   | (refine isC 8 ?_; refine WPl.cV (g1) ?_)
   | (refine isOp ?_; first | refine WPl.rd ?_ | refine WPl.sk ?_ | refine WPl.rdB ?_)
   | (refine isBx ?_; refine WPl.nw fun g => ?_)
   | (refine WPl.spQ (fun hc => ?_) (fun hc => ?_) <;> try exact prA)
   | fail)
  all_goals try (first | exact WPq.dV | exact WPq.dR | exact WPq.dR2 | exact WPq.dH | exact WPq.dBH | exact WPq.dT)
theorem over_set2 {l : List UInt8} {k n : Nat} (hk : k + 2 ≤ l.length) : (l.set k (UInt8.ofNat (n / 256))).set (k + 1) (UInt8.ofNat n) = over l k (be n 2) := by rw [be2, over2 _ _ l k hk]
theorem wrap_hi {n : Nat} (h : n ≤ 65535) : IntKind.u8.wrap ((n : Int) / 256) = (((UInt8.ofNat (n / 256)).toNat : Nat) : Int) := by rw [IntKind.wrap_u8, u8_of]; omega
theorem wrap_lo {n : Nat} (h : n ≤ 65535) : IntKind.u8.wrap ((n : Int) % 256) = (((UInt8.ofNat n).toNat : Nat) : Int) := by rw [IntKind.wrap_u8, u8_of]; omega
theorem rfwrite_t (h : Hd) (vd : Value) (d : List UInt8) (hd : d.length ≤ 1000) (hb : fwBad h = false) : Triple Try.prog 119 #[ag (hdc h), vd] [rb vd d] (RW (fpkt h d) 0) := by
  have l1 := h.src.len
  have l2 := h.dst.len
  obtain ⟨b1, b2, b3, b4, b5, b6, b7⟩ := fwBad_no hb
  have g1 := rfour_t h.src b4 b6
  have g2 := rfour_t h.dst b5 b7
  have a1 := h.src.bytes_le
  have a2 := h.dst.bytes_le
  have hb2 := be_length (20 + d.length) 2
  have hpl := fpre_len (h := h) (n := d.length) b4 b5
  have hpe : nbs [69, 0] ++ be (20 + d.length) 2 ++ nbs [0, 0, 0, 0, (h.hops.toNat : Nat), (h.proto.toNat : Nat), 0, 0] ++ h.src.bytes ++ h.dst.bytes = fpre h d.length := by unfold fpre; simp
  have hcl := csum_le (fpre h d.length)
  have c1 := fun v => rsum_t v (fpre h d.length) (by omega)
  have hres : (((fpre h d.length).set 10 (UInt8.ofNat (csum (fpre h d.length) / 256))).set 11 (UInt8.ofNat (csum (fpre h d.length)))) ++ d = fpkt h d := by rw [over_set2 (by omega)]; unfold fpkt; simp
  have hsl : ((fpre h d.length).set 10 (UInt8.ofNat (csum (fpre h d.length) / 256))).length = 20 := by rw [List.length_set]; exact hpl
  rw [← hres]
  obtain ⟨s, hs⟩ : ∃ s, s = csum (fpre h d.length) := ⟨_, rfl⟩
  rw [← hs] at c1 hcl hsl ⊢
  rw [← hpe] at c1 hpl hsl ⊢
  have hw1 := wrap_hi hcl
  have hw2 := wrap_lo hcl
  clear hs hpe hres
  refine Triple.enter Try.func119 rfl Try.ntmps119 rfl (fun W => ?_)
  dsimp only [argsF, Nat.reduceAdd]
  repeat' (first
   | refine WPl.nil ?_ | refine WPq.then ?_ | refine WPq.thenR ?_ | refine WPq.thenE ?_ | refine WPq.blockN ?_ | refine WPq.blockR ?_ | refine WPq.blockE ?_ | refine WPq.blockO rfl ?_ | refine WPc.seq ?_ | refine WPc.block ?_ | refine WPc.ret ?_ | refine WPc.exit ?_ | refine WPc.skip ?_ | refine WPc.region ?_
   | (refine isReg 7 ?_; refine WPc.drA [([10], [50, 51, 52, 54, 55]), ([10], [49, 54, 55]), ([1, 10], [49, 50, 54, 55]), ([1, 2, 10], [49, 50, 51, 54, 55]), ([0, 1, 2, 3, 10], [49, 50, 51, 52, 54, 55]), ([10], [49, 50, 51, 52, 53]), ([5, 10], [49, 50, 51, 52, 53, 54]), ([0, 1, 2, 3, 4, 5, 6, 10], [49, 50, 51, 52, 53, 54, 55]), ([0, 1, 2, 3, 4, 5, 6, 7, 10], [49, 50, 51, 52, 53, 54, 55, 56]), ([0, 1, 2, 3, 4, 5, 6, 7, 8, 10], [49, 50, 51, 52, 53, 54, 55, 56, 57])] [(10, 4), (4, 8), (10, 0), (10, 1), (10, 2), (10, 3), (4, 7)] (Γx := [ob w (nbs [69, 0] ++ be (20 + d.length) 2 ++ nbs [0, 0, 0, 0, (h.hops.toNat : Nat), (h.proto.toNat : Nat), 0, 0])]) ?_; dsimp only [prev0, List.length_nil, List.length_cons])
   | (refine gAny ?_; first | (refine gC 13 ?_; refine RGl.vl (fun e hk => OpT.callN (g1)) ?_) | (refine gC 19 ?_; refine RGl.vl (fun e hk => OpT.callN (g2)) ?_) | (refine gC 41 ?_; refine RGl.row (Γ1 := fun _ => []) (fun e hk => OpT.callN (rput_t _ (nbs [69, 0]) (20 + d.length) 2 (by omega) (by omega) (by simp [nbs]))) ?_) | (refine gC 52 ?_; refine RGl.row (Γ1 := fun _ => []) (fun e hk => OpT.callN (rbytes_t h.src)) ?_) | (refine gC 56 ?_; refine RGl.row (Γ1 := fun _ => []) (fun e hk => OpT.callN (rbytes_t h.dst)) ?_) | (refine gC 59 ?_; refine RGl.vl (fun e hk => OpT.callN (c1 _)) ?_) | (refine gD 64 ?_; refine RGl.rdX (fun e hk => by (try dsimp only [bndR, ensR, oksR, fcutR, List.append_nil, List.nil_append, List.cons_append, List.append_assoc] at hk ⊢); exact ReadR.convT hw1 rfl rfl) ?_) | (refine gD 67 ?_; refine RGl.rdX (fun e hk => by (try dsimp only [bndR, ensR, oksR, fcutR, List.append_nil, List.nil_append, List.cons_append, List.append_assoc] at hk ⊢); exact ReadR.convT hw2 rfl rfl) ?_) | (refine gOp ?_; first | refine RGl.rdA ?_ | refine RGl.rdX (fun e hk => by (try dsimp only [bndR, ensR, oksR, fcutR, List.append_nil, List.nil_append, List.cons_append, List.append_assoc] at hk ⊢); exact readB) ?_) | (refine gApp ?_; refine RGl.appA ?_) | (refine RGl.fin (fun e hk => ?_); (try dsimp only [bndA, ensAR, oksA, List.append_nil, List.nil_append, List.cons_append, List.append_assoc] at hk ⊢); (repeat (obtain ⟨hk1, hk⟩ := hk))) | fail)
   | (refine isCond ?_; first | refine WPc.cT ?_ | refine WPc.cF ?_ | (refine WPc.cQ (fun hc => ?_) (fun hc => ?_) <;> try exact prA))
   | (refine isLit ?_; refine WPl.lit fun v hv => ?_)
   | (refine isD 72 ?_; refine WPl.app (h63 := by rw [List.length_set, List.length_set]; omega) fun v hv => ?_)
   | (refine isApp ?_; refine WPl.app fun w hw => ?_)
   | (refine isC 13 ?_; refine WPl.cV (g1) ?_)
   | (refine isC 19 ?_; refine WPl.cV (g2) ?_)
   | (refine isC 41 ?_; refine WPl.cR (rput_t _ (nbs [69, 0]) (20 + d.length) 2 (by omega) (by omega) (by simp [nbs])) fun v hv => ?_)
   | (refine isC 52 ?_; refine WPl.cR (rbytes_t h.src) fun v hv => ?_)
   | (refine isC 56 ?_; refine WPl.cR (rbytes_t h.dst) fun v hv => ?_)
   | (refine isC 59 ?_; refine WPl.cV (c1 _) ?_)
   | (refine isD 64 ?_; refine WPl.rdX (ReadR.convT hw1 rfl rfl) ?_)
   | (refine isD 67 ?_; refine WPl.rdX (ReadR.convT hw2 rfl rfl) ?_)
   | (refine isOp ?_; first | refine WPl.rd ?_ | refine WPl.sk ?_ | refine WPl.rdB ?_)
   | (refine isBx ?_; refine WPl.nw fun g => ?_)
   | (refine isSt ?_; first | refine WPl.st1 ?_ | refine WPl.stA ?_ | refine WPl.stEB ?_ | refine WPl.stRB ?_)
   | (refine WPl.spQ (fun hc => ?_) (fun hc => ?_) <;> try exact prA)
   | fail)
  all_goals try (first | exact WPq.dV | exact WPq.dR | exact WPq.dR2 | exact WPq.dH | exact WPq.dBH | exact WPq.dT)
theorem rswrite_t (h : Hd) (s : Sg) (vd : Value) (d : List UInt8) (hd : d.length ≤ 1000) (hs1 : s.src < 65536) (hs2 : s.dst < 65536) (h17 : h.proto.toNat = 17) (hb : swBad h s = false) (hz : s.zero = false) :
    Triple Try.prog 117 #[ag (hdc h), ag (sgc s), vd] [rb vd d] (RW (summ h (swU s d) 6) 0) := by
  have l1 := h.src.len
  have l2 := h.dst.len
  obtain ⟨b1, b2, b3, b4, b5, b6⟩ := swBad_no hb
  have g1 := rgood_t h.src
  have g2 := rgood_t h.dst
  rw [b3] at g1
  rw [b4] at g2
  have hb1 := be_length s.src 2
  have hb2 := be_length s.dst 2
  have hb3 := be_length (8 + d.length) 2
  have hul := swU_len s d
  have hue : [] ++ be s.src 2 ++ be s.dst 2 ++ be (8 + d.length) 2 ++ nbs [0, 0] ++ d = swU s d := by unfold swU; simp
  have hpl := psu_len h (swU s d).length
  have hnl := sumN_le h (swU s d)
  have c1 := rpseudo_t h ((swU s d).length : Int) (swU s d).length (wrapLen (by omega)) (by omega)
  have c2 := fun v => rsum_t v (psu h (swU s d).length ++ swU s d) (by simp; omega)
  have hcl := csum_le (psu h (swU s d).length ++ swU s d)
  have hN : sumN h (swU s d) = if csum (psu h (swU s d).length ++ swU s d) = 0 then 65535 else csum (psu h (swU s d).length ++ swU s d) := by
    unfold sumN
    by_cases hc : csum (psu h (swU s d).length ++ swU s d) = 0
    · rw [if_pos ⟨hc, h17⟩, if_pos hc]
    · rw [if_neg (fun hh => hc hh.1), if_neg hc]
  have hres : ((swU s d).set 6 (UInt8.ofNat (sumN h (swU s d) / 256))).set 7 (UInt8.ofNat (sumN h (swU s d))) = summ h (swU s d) 6 := by rw [over_set2 (by omega)]; rfl
  have hsl : ((swU s d).set 6 (UInt8.ofNat (sumN h (swU s d) / 256))).length = 8 + d.length := by rw [List.length_set]; exact hul
  rw [← hres]
  obtain ⟨m, hm⟩ : ∃ m, m = sumN h (swU s d) := ⟨_, rfl⟩
  obtain ⟨c, hc⟩ : ∃ c, c = csum (psu h (swU s d).length ++ swU s d) := ⟨_, rfl⟩
  rw [← hm] at hN hnl hsl ⊢
  rw [← hc] at c2 hcl hN
  obtain ⟨p, hp⟩ : ∃ p, p = psu h (swU s d).length := ⟨_, rfl⟩
  rw [← hp] at c1 c2 hpl
  clear hc hm hres hp
  obtain ⟨U, hU⟩ : ∃ U, U = swU s d := ⟨_, rfl⟩
  rw [← hU] at hue hul c1 c2 hsl ⊢
  clear hU
  have hw1 := wrap_hi hnl
  have hw2 := wrap_lo hnl
  subst hue
  by_cases hc0 : c = 0
  · rw [if_pos hc0] at hN
    subst hN
    subst hc0
    refine Triple.enter Try.func117 rfl Try.ntmps117 rfl (fun W => ?_)
    dsimp only [argsF, Nat.reduceAdd]
    repeat' (first
     | refine WPl.nil ?_ | refine WPq.then ?_ | refine WPq.thenR ?_ | refine WPq.thenE ?_ | refine WPq.blockN ?_ | refine WPq.blockR ?_ | refine WPq.blockE ?_ | refine WPq.blockO rfl ?_ | refine WPc.seq ?_ | refine WPc.block ?_ | refine WPc.ret ?_ | refine WPc.exit ?_ | refine WPc.skip ?_ | refine WPc.region ?_
     | (refine isReg 7 ?_; refine WPc.drA [([], [62, 63, 64, 66, 67, 68]), ([], [61, 66, 67, 68]), ([1], [61, 62, 66, 67, 68]), ([1, 2], [61, 62, 63, 66, 67, 68]), ([0, 1, 2, 3], [61, 62, 63, 64, 66, 67, 68]), ([], [61, 62, 63, 64, 65]), ([5], [61, 62, 63, 64, 65, 66]), ([5, 6], [61, 62, 63, 64, 65, 66, 67]), ([0, 1, 2, 3, 4, 5, 6, 7], [61, 62, 63, 64, 65, 66, 67, 68]), ([0, 1, 2, 3, 4, 5, 6, 7, 8], [61, 62, 63, 64, 65, 66, 67, 68, 69])] [] (Γx := []) ?_; dsimp only [prev0, List.length_nil, List.length_cons])
     | (refine gAny ?_; first | (refine gC 31 ?_; refine RGl.vl (fun e hk => OpT.callN (g1)) ?_) | (refine gC 37 ?_; refine RGl.vl (fun e hk => OpT.callN (g2)) ?_) | (refine gC 65 ?_; refine RGl.row (Γ1 := fun _ => []) (fun e hk => OpT.callN (rput_t _ [] s.src 2 (by omega) (by omega) (by simp))) ?_) | (refine gC 69 ?_; refine RGl.row (Γ1 := fun _ => []) (fun e hk => OpT.callN (rput_t _ ([] ++ be s.src 2) s.dst 2 (by omega) (by omega) (by simp; omega))) ?_) | (refine gC 83 ?_; refine RGl.row (Γ1 := fun _ => []) (fun e hk => OpT.callN (rput_t _ ([] ++ be s.src 2 ++ be s.dst 2) (8 + d.length) 2 (by omega) (by omega) (by simp; omega))) ?_) | (refine gC 105 ?_; refine RGl.row (Γ1 := fun _ => []) (fun e hk => OpT.callN (c1)) ?_) | (refine gC 108 ?_; refine RGl.vl (fun e hk => OpT.callN (c2 _)) ?_) | (refine gD 123 ?_; refine RGl.rdX (fun e hk => by (try dsimp only [bndR, ensR, oksR, fcutR, List.append_nil, List.nil_append, List.cons_append, List.append_assoc] at hk ⊢); exact ReadR.convT hw1 rfl rfl) ?_) | (refine gD 126 ?_; refine RGl.rdX (fun e hk => by (try dsimp only [bndR, ensR, oksR, fcutR, List.append_nil, List.nil_append, List.cons_append, List.append_assoc] at hk ⊢); exact ReadR.convT hw2 rfl rfl) ?_) | (refine gOp ?_; first | refine RGl.rdA ?_ | refine RGl.rdX (fun e hk => by (try dsimp only [bndR, ensR, oksR, fcutR, List.append_nil, List.nil_append, List.cons_append, List.append_assoc] at hk ⊢); exact readB) ?_) | (refine gLit ?_; refine RGl.litA ?_) | (refine RGl.fin (fun e hk => ?_); (try dsimp only [bndA, ensAR, oksA, List.append_nil, List.nil_append, List.cons_append, List.append_assoc] at hk ⊢); (repeat (obtain ⟨hk1, hk⟩ := hk))) | fail)
     | (refine isCond ?_; first | refine WPc.cT ?_ | refine WPc.cF ?_ | (refine WPc.cQ (fun hc => ?_) (fun hc => ?_) <;> try exact prA))
     | (refine isLit ?_; refine WPl.lit fun v hv => ?_)
     | (refine isApp ?_; refine WPl.app fun v hv => ?_)
     | (refine isC 31 ?_; refine WPl.cV (g1) ?_)
     | (refine isC 37 ?_; refine WPl.cV (g2) ?_)
     | (refine isC 65 ?_; refine WPl.cR (rput_t _ [] s.src 2 (by omega) (by omega) (by simp)) fun v hv => ?_)
     | (refine isC 69 ?_; refine WPl.cR (rput_t _ ([] ++ be s.src 2) s.dst 2 (by omega) (by omega) (by simp; omega)) fun v hv => ?_)
     | (refine isC 83 ?_; refine WPl.cR (rput_t _ ([] ++ be s.src 2 ++ be s.dst 2) (8 + d.length) 2 (by omega) (by omega) (by simp; omega)) fun v hv => ?_)
     | (refine isC 105 ?_; refine WPl.cR (c1) fun v hv => ?_)
     | (refine isC 108 ?_; refine WPl.cV (c2 _) ?_)
     | (refine isD 123 ?_; refine WPl.rdX (ReadR.convT hw1 rfl rfl) ?_)
     | (refine isD 126 ?_; refine WPl.rdX (ReadR.convT hw2 rfl rfl) ?_)
     | (refine isOp ?_; first | refine WPl.rd ?_ | refine WPl.sk ?_ | refine WPl.rdB ?_)
     | (refine isBx ?_; refine WPl.nw fun g => ?_)
     | (refine isSt ?_; first | refine WPl.st1 ?_ | refine WPl.stA ?_ | refine WPl.stEB ?_ | refine WPl.stRB ?_)
     | (refine WPl.spQ (fun hc => ?_) (fun hc => ?_) <;> try exact prA)
     | fail)
    all_goals try (first | exact WPq.dV | exact WPq.dR | exact WPq.dR2 | exact WPq.dH | exact WPq.dBH | exact WPq.dT)
  · rw [if_neg hc0] at hN
    subst hN
    refine Triple.enter Try.func117 rfl Try.ntmps117 rfl (fun W => ?_)
    dsimp only [argsF, Nat.reduceAdd]
    repeat' (first
     | refine WPl.nil ?_ | refine WPq.then ?_ | refine WPq.thenR ?_ | refine WPq.thenE ?_ | refine WPq.blockN ?_ | refine WPq.blockR ?_ | refine WPq.blockE ?_ | refine WPq.blockO rfl ?_ | refine WPc.seq ?_ | refine WPc.block ?_ | refine WPc.ret ?_ | refine WPc.exit ?_ | refine WPc.skip ?_ | refine WPc.region ?_
     | (refine isReg 7 ?_; refine WPc.drA [([], [62, 63, 64, 66, 67, 68]), ([], [61, 66, 67, 68]), ([1], [61, 62, 66, 67, 68]), ([1, 2], [61, 62, 63, 66, 67, 68]), ([0, 1, 2, 3], [61, 62, 63, 64, 66, 67, 68]), ([], [61, 62, 63, 64, 65]), ([5], [61, 62, 63, 64, 65, 66]), ([5, 6], [61, 62, 63, 64, 65, 66, 67]), ([0, 1, 2, 3, 4, 5, 6, 7], [61, 62, 63, 64, 65, 66, 67, 68]), ([0, 1, 2, 3, 4, 5, 6, 7, 8], [61, 62, 63, 64, 65, 66, 67, 68, 69])] [] (Γx := []) ?_; dsimp only [prev0, List.length_nil, List.length_cons])
     | (refine gAny ?_; first | (refine gC 31 ?_; refine RGl.vl (fun e hk => OpT.callN (g1)) ?_) | (refine gC 37 ?_; refine RGl.vl (fun e hk => OpT.callN (g2)) ?_) | (refine gC 65 ?_; refine RGl.row (Γ1 := fun _ => []) (fun e hk => OpT.callN (rput_t _ [] s.src 2 (by omega) (by omega) (by simp))) ?_) | (refine gC 69 ?_; refine RGl.row (Γ1 := fun _ => []) (fun e hk => OpT.callN (rput_t _ ([] ++ be s.src 2) s.dst 2 (by omega) (by omega) (by simp; omega))) ?_) | (refine gC 83 ?_; refine RGl.row (Γ1 := fun _ => []) (fun e hk => OpT.callN (rput_t _ ([] ++ be s.src 2 ++ be s.dst 2) (8 + d.length) 2 (by omega) (by omega) (by simp; omega))) ?_) | (refine gC 105 ?_; refine RGl.row (Γ1 := fun _ => []) (fun e hk => OpT.callN (c1)) ?_) | (refine gC 108 ?_; refine RGl.vl (fun e hk => OpT.callN (c2 _)) ?_) | (refine gD 123 ?_; refine RGl.rdX (fun e hk => by (try dsimp only [bndR, ensR, oksR, fcutR, List.append_nil, List.nil_append, List.cons_append, List.append_assoc] at hk ⊢); exact ReadR.convT hw1 rfl rfl) ?_) | (refine gD 126 ?_; refine RGl.rdX (fun e hk => by (try dsimp only [bndR, ensR, oksR, fcutR, List.append_nil, List.nil_append, List.cons_append, List.append_assoc] at hk ⊢); exact ReadR.convT hw2 rfl rfl) ?_) | (refine gOp ?_; first | refine RGl.rdA ?_ | refine RGl.rdX (fun e hk => by (try dsimp only [bndR, ensR, oksR, fcutR, List.append_nil, List.nil_append, List.cons_append, List.append_assoc] at hk ⊢); exact readB) ?_) | (refine gLit ?_; refine RGl.litA ?_) | (refine RGl.fin (fun e hk => ?_); (try dsimp only [bndA, ensAR, oksA, List.append_nil, List.nil_append, List.cons_append, List.append_assoc] at hk ⊢); (repeat (obtain ⟨hk1, hk⟩ := hk))) | fail)
     | (refine isCond ?_; first | refine WPc.cT ?_ | refine WPc.cF ?_ | (refine WPc.cQ (fun hc => ?_) (fun hc => ?_) <;> try exact prA))
     | (refine isLit ?_; refine WPl.lit fun v hv => ?_)
     | (refine isApp ?_; refine WPl.app fun v hv => ?_)
     | (refine isC 31 ?_; refine WPl.cV (g1) ?_)
     | (refine isC 37 ?_; refine WPl.cV (g2) ?_)
     | (refine isC 65 ?_; refine WPl.cR (rput_t _ [] s.src 2 (by omega) (by omega) (by simp)) fun v hv => ?_)
     | (refine isC 69 ?_; refine WPl.cR (rput_t _ ([] ++ be s.src 2) s.dst 2 (by omega) (by omega) (by simp; omega)) fun v hv => ?_)
     | (refine isC 83 ?_; refine WPl.cR (rput_t _ ([] ++ be s.src 2 ++ be s.dst 2) (8 + d.length) 2 (by omega) (by omega) (by simp; omega)) fun v hv => ?_)
     | (refine isC 105 ?_; refine WPl.cR (c1) fun v hv => ?_)
     | (refine isC 108 ?_; refine WPl.cV (c2 _) ?_)
     | (refine isD 123 ?_; refine WPl.rdX (ReadR.convT hw1 rfl rfl) ?_)
     | (refine isD 126 ?_; refine WPl.rdX (ReadR.convT hw2 rfl rfl) ?_)
     | (refine isOp ?_; first | refine WPl.rd ?_ | refine WPl.sk ?_ | refine WPl.rdB ?_)
     | (refine isBx ?_; refine WPl.nw fun g => ?_)
     | (refine isSt ?_; first | refine WPl.st1 ?_ | refine WPl.stA ?_ | refine WPl.stEB ?_ | refine WPl.stRB ?_)
     | (refine WPl.spQ (fun hc => ?_) (fun hc => ?_) <;> try exact prA)
     | fail)
    all_goals try (first | exact WPq.dV | exact WPq.dR | exact WPq.dR2 | exact WPq.dH | exact WPq.dBH | exact WPq.dT)
end Go.Proofs.Yteofjhjhaaafjaa
