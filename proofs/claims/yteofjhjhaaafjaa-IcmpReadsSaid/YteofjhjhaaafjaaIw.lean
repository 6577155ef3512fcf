/- Layer 13 (ipfour): writing heads: contracts. -/
import Derived.Test.YteofjhjhaaafjaaIg
namespace Go.Proofs.Yteofjhjhaaafjaa
open Go.RowKit
set_option linter.unusedSimpArgs false
set_option linter.unusedVariables false
set_option maxRecDepth 20000
set_option maxHeartbeats 4000000
attribute [local irreducible] WPc WPl WPq ReadR OpT BinR HasS bx rdN rowN Take Takes Prov Triple ResF BuildP Done ag Int.decLt Int.decLe Int.instDecidableEq

def fwBad (h : Hd) : Bool := h.six || (h.part || (decide (((h.hops.toNat : Nat) : Int) = 0) || (h.src.six || (h.dst.six || (!h.src.good || !h.dst.good)))))
def fwerr (h : Hd) (n : Nat) : Int := if fwBad h then 1 else if 2028 < n then 10 else 0
def fpre (h : Hd) (n : Nat) : List UInt8 := [nbs [69, 0] ++ be (20 + n) 2 ++ nbs [0, 0, 0, 0, (h.hops.toNat : Nat), (h.proto.toNat : Nat), 0, 0], h.src.bytes, h.dst.bytes].flatten
def fpkt (h : Hd) (d : List UInt8) : List UInt8 := [over (fpre h d.length) 10 (be (csum (fpre h d.length)) 2), d].flatten
def fwL (h : Hd) (d : List UInt8) : List UInt8 := if fwerr h d.length = 0 then fpkt h d else []
abbrev RW (l : List UInt8) (e : Int) : Value → List Asn → Prop := RRow2 5 1 l.length (u8s l) (.int .i64 e)
theorem fwBad_no {h : Hd} (hb : fwBad h = false) : h.six = false ∧ h.part = false ∧ ¬ ((h.hops.toNat : Nat) : Int) = 0 ∧ h.src.six = false ∧ h.dst.six = false ∧ h.src.good = true ∧ h.dst.good = true := by
  simpa [fwBad] using hb
theorem fpre_len {h : Hd} {n : Nat} (h1 : h.src.six = false) (h2 : h.dst.six = false) : (fpre h n).length = 20 := by
  have a1 := h.src.bytes_len
  have a2 := h.dst.bytes_len
  rw [h1, if_neg (by decide)] at a1
  rw [h2, if_neg (by decide)] at a2
  simp [fpre, nbs, be_length, a1, a2]
theorem fpre_eq (h : Hd) (n : Nat) : [nbs [69, 0] ++ be (20 + n) 2 ++ nbs [0, 0, 0, 0, (h.hops.toNat : Nat), (h.proto.toNat : Nat), 0, 0], h.src.bytes, h.dst.bytes].flatten = fpre h n := rfl
theorem fpkt_eq (h : Hd) (d : List UInt8) : [over (fpre h d.length) 10 (be (csum (fpre h d.length)) 2), d].flatten = fpkt h d := rfl
attribute [local irreducible] fpre fpkt csum over be
theorem fwrite_t (h : Hd) (v : Value) (d : List UInt8) (hd : d.length ≤ 100000) : Triple Try.prog 40 #[ag (hdc h), v] [rb v d] (RW (fwL h d) (fwerr h d.length)) := by
  have l1 := h.src.len
  have l2 := h.dst.len
  have g1 := Good_t h.src
  have g2 := Good_t h.dst
  cases hbad : fwBad h with
  | true =>
    have he : fwerr h d.length = 1 := by simp [fwerr, hbad]
    rw [show fwL h d = [] by simp [fwL, he], he]
    refine Triple.enter Try.func40 rfl Try.ntmps40 rfl (fun W => ?_)
    dsimp only [argsF, Nat.reduceAdd]
    refine WPc.nilRow 5 ?_
    repeat' (first
     | refine WPl.nil ?_ | refine WPq.then ?_ | refine WPq.thenR ?_ | refine WPq.thenE ?_ | refine WPq.blockN ?_ | refine WPq.blockR ?_ | refine WPq.blockE ?_ | refine WPq.blockO rfl ?_ | refine WPc.seq ?_ | refine WPc.block ?_ | refine WPc.ret ?_ | refine WPc.exit ?_ | refine WPc.skip ?_ | refine WPc.region ?_
     | (refine isReg 8 ?_; refine WPc.drA [([], [60, 61, 62, 63, 64, 65]), ([], [59, 63, 64]), ([1], [59, 60, 63, 64]), ([1, 2], [59, 60, 61, 63, 64]), ([], [59, 60, 61, 62]), ([4], [59, 60, 61, 62, 63]), ([1, 2, 3, 4, 5], [59, 60, 61, 62, 63, 64]), ([0, 1, 2, 3, 4, 5, 6], [59, 60, 61, 62, 63, 64, 65]), ([0, 1, 2, 3, 4, 5, 6, 7], [59, 60, 61, 62, 63, 64, 65, 66]), ([0, 1, 2, 3, 4, 5, 6, 7, 8], [59, 60, 61, 62, 63, 64, 65, 66, 67])] [] (Γx := []) ?_; dsimp only [prev0, List.length_nil, List.length_cons])
     | (refine isReg 9 ?_; refine WPc.drA [([], [70, 71, 72, 73, 74]), ([0], [68, 70, 71, 72, 73, 74]), ([], [68, 69]), ([2], [68, 69, 70]), ([2, 3], [68, 69, 70, 71]), ([2, 3, 4], [68, 69, 70, 71, 72]), ([2, 3, 4, 5], [68, 69, 70, 71, 72, 73]), ([0, 1, 2, 3, 4, 5, 6], [68, 69, 70, 71, 72, 73, 74])] [] (Γx := []) ?_; dsimp only [prev0, List.length_nil, List.length_cons])
     | (refine gAny ?_; first | (refine gC 32 ?_; refine RGl.vl (fun e hk => OpT.callN (g1)) ?_) | (refine gC 38 ?_; refine RGl.vl (fun e hk => OpT.callN (g2)) ?_) | (refine gOp ?_; first | refine RGl.rdA ?_ | refine RGl.rdX (fun e hk => by (try dsimp only [bndR, ensR, oksR, fcutR, List.append_nil, List.nil_append, List.cons_append, List.append_assoc] at hk ⊢); exact readB) ?_) | (refine gLit ?_; refine RGl.litA ?_) | (refine gCp ?_; refine RGl.cpA ?_) | (refine RGl.fin (fun e hk => ?_); (try dsimp only [bndA, ensAR, oksA, List.append_nil, List.nil_append, List.cons_append, List.append_assoc] at hk ⊢); (repeat (obtain ⟨hk1, hk⟩ := hk))) | fail)
     | (refine isCond ?_; first | refine WPc.cT ?_ | refine WPc.cF ?_ | (refine WPc.cQ (fun hc => ?_) (fun hc => ?_) <;> try first | exact prA | (exfalso; first | (simp only [fwBad, *, decide_false, Bool.or_self, Bool.false_or, Bool.not_true, Bool.false_eq_true] at hbad; done))))
     | (refine isC 32 ?_; refine WPl.cV (g1) ?_)
     | (refine isC 38 ?_; refine WPl.cV (g2) ?_)
     | (refine isCp ?_; first | refine WPl.cpA fun v => ?_ | refine WPl.cpE fun v => ?_)
     | (refine isOp ?_; first | refine WPl.rd ?_ | refine WPl.sk ?_ | refine WPl.rdB ?_)
     | (refine isBx ?_; refine WPl.nw fun g => ?_)
     | (refine WPl.spQ (fun hc => ?_) (fun hc => ?_) <;> try first | exact prA | (exfalso; first | (simp only [fwBad, *, decide_false, Bool.or_self, Bool.false_or, Bool.not_true, Bool.false_eq_true] at hbad; done)))
     | fail)
    all_goals try (first | exact WPq.dV | exact WPq.dR | exact WPq.dR2 | exact WPq.dH | exact WPq.dBH | exact WPq.dT)
  | false =>
    obtain ⟨b1, b2, b3, b4, b5, b6, b7⟩ := fwBad_no hbad
    rw [b6] at g1
    rw [b7] at g2
    by_cases hlen : 2028 < d.length
    · have he : fwerr h d.length = 10 := by simp [fwerr, hbad, hlen]
      rw [show fwL h d = [] by simp [fwL, he], he]
      refine Triple.enter Try.func40 rfl Try.ntmps40 rfl (fun W => ?_)
      dsimp only [argsF, Nat.reduceAdd]
      refine WPc.nilRow 5 ?_
      repeat' (first
       | refine WPl.nil ?_ | refine WPq.then ?_ | refine WPq.thenR ?_ | refine WPq.thenE ?_ | refine WPq.blockN ?_ | refine WPq.blockR ?_ | refine WPq.blockE ?_ | refine WPq.blockO rfl ?_ | refine WPc.seq ?_ | refine WPc.block ?_ | refine WPc.ret ?_ | refine WPc.exit ?_ | refine WPc.skip ?_ | refine WPc.region ?_
       | (refine isReg 8 ?_; refine WPc.drA [([], [60, 61, 62, 63, 64, 65]), ([], [59, 63, 64]), ([1], [59, 60, 63, 64]), ([1, 2], [59, 60, 61, 63, 64]), ([], [59, 60, 61, 62]), ([4], [59, 60, 61, 62, 63]), ([1, 2, 3, 4, 5], [59, 60, 61, 62, 63, 64]), ([0, 1, 2, 3, 4, 5, 6], [59, 60, 61, 62, 63, 64, 65]), ([0, 1, 2, 3, 4, 5, 6, 7], [59, 60, 61, 62, 63, 64, 65, 66]), ([0, 1, 2, 3, 4, 5, 6, 7, 8], [59, 60, 61, 62, 63, 64, 65, 66, 67])] [] (Γx := []) ?_; dsimp only [prev0, List.length_nil, List.length_cons])
       | (refine isReg 9 ?_; refine WPc.drA [([], [70, 71, 72, 73, 74]), ([0], [68, 70, 71, 72, 73, 74]), ([], [68, 69]), ([2], [68, 69, 70]), ([2, 3], [68, 69, 70, 71]), ([2, 3, 4], [68, 69, 70, 71, 72]), ([2, 3, 4, 5], [68, 69, 70, 71, 72, 73]), ([0, 1, 2, 3, 4, 5, 6], [68, 69, 70, 71, 72, 73, 74])] [] (Γx := []) ?_; dsimp only [prev0, List.length_nil, List.length_cons])
       | (refine gAny ?_; first | (refine gC 32 ?_; refine RGl.vl (fun e hk => OpT.callN (g1)) ?_) | (refine gC 38 ?_; refine RGl.vl (fun e hk => OpT.callN (g2)) ?_) | (refine gOp ?_; first | refine RGl.rdA ?_ | refine RGl.rdX (fun e hk => by (try dsimp only [bndR, ensR, oksR, fcutR, List.append_nil, List.nil_append, List.cons_append, List.append_assoc] at hk ⊢); exact readB) ?_) | (refine gLit ?_; refine RGl.litA ?_) | (refine gCp ?_; refine RGl.cpA ?_) | (refine RGl.fin (fun e hk => ?_); (try dsimp only [bndA, ensAR, oksA, List.append_nil, List.nil_append, List.cons_append, List.append_assoc] at hk ⊢); (repeat (obtain ⟨hk1, hk⟩ := hk))) | fail)
       | (refine isCond ?_; first | refine WPc.cT ?_ | refine WPc.cF ?_ | (refine WPc.cQ (fun hc => ?_) (fun hc => ?_) <;> try exact prA))
       | (refine isC 32 ?_; refine WPl.cV (g1) ?_)
       | (refine isC 38 ?_; refine WPl.cV (g2) ?_)
       | (refine isCp ?_; first | refine WPl.cpA fun v => ?_ | refine WPl.cpE fun v => ?_)
       | (refine isOp ?_; first | refine WPl.rd ?_ | refine WPl.sk ?_ | refine WPl.rdB ?_)
       | (refine isBx ?_; refine WPl.nw fun g => ?_)
       | (refine WPl.spQ (fun hc => ?_) (fun hc => ?_) <;> try exact prA)
       | fail)
      all_goals try (first | exact WPq.dV | exact WPq.dR | exact WPq.dR2 | exact WPq.dH | exact WPq.dBH | exact WPq.dT)
    · have he : fwerr h d.length = 0 := by simp [fwerr, hbad, hlen]
      rw [show fwL h d = fpkt h d by simp [fwL, he], he]
      have hpl := fpre_len (n := d.length) b4 b5
      have hcs := csum_le (fpre h d.length)
      have a1 := h.src.bytes_len
      have a2 := h.dst.bytes_len
      rw [b4, if_neg (by decide)] at a1
      rw [b5, if_neg (by decide)] at a2
      have hbe := be_length (20 + d.length) 2
      have hbc := be_length (csum (fpre h d.length)) 2
      have hov : (over (fpre h d.length) 10 (be (csum (fpre h d.length)) 2)).length = 20 := by rw [over_length (by omega), hpl]
      refine Triple.enter Try.func40 rfl Try.ntmps40 rfl (fun W => ?_)
      dsimp only [argsF, Nat.reduceAdd]
      repeat' (first
       | refine WPl.nil ?_ | refine WPq.then ?_ | refine WPq.thenR ?_ | refine WPq.thenE ?_ | refine WPq.blockN ?_ | refine WPq.blockR ?_ | refine WPq.blockE ?_ | refine WPq.blockO rfl ?_ | refine WPc.seq ?_ | refine WPc.block ?_ | refine WPc.ret ?_ | refine WPc.exit ?_ | refine WPc.skip ?_ | refine WPc.region ?_
       | (refine isReg 8 ?_; refine WPc.drA [([], [60, 61, 62, 63, 64, 65]), ([], [59, 63, 64]), ([1], [59, 60, 63, 64]), ([1, 2], [59, 60, 61, 63, 64]), ([], [59, 60, 61, 62]), ([4], [59, 60, 61, 62, 63]), ([1, 2, 3, 4, 5], [59, 60, 61, 62, 63, 64]), ([0, 1, 2, 3, 4, 5, 6], [59, 60, 61, 62, 63, 64, 65]), ([0, 1, 2, 3, 4, 5, 6, 7], [59, 60, 61, 62, 63, 64, 65, 66]), ([0, 1, 2, 3, 4, 5, 6, 7, 8], [59, 60, 61, 62, 63, 64, 65, 66, 67])] [] (Γx := []) ?_; dsimp only [prev0, List.length_nil, List.length_cons])
       | (refine isReg 9 ?_; refine WPc.drA [([8], [70, 71, 72, 73, 74]), ([0, 8], [68, 70, 71, 72, 73, 74]), ([8], [68, 69]), ([2, 8], [68, 69, 70]), ([2, 3, 8], [68, 69, 70, 71]), ([2, 3, 4, 8], [68, 69, 70, 71, 72]), ([2, 3, 4, 5, 8], [68, 69, 70, 71, 72, 73]), ([0, 1, 2, 3, 4, 5, 6, 8], [68, 69, 70, 71, 72, 73, 74])] [(8, 7), (8, 0), (8, 1), (8, 2), (8, 3), (8, 4), (8, 5), (8, 6)] (Γx := [ob (e 8).1 (fpre h d.length)]) ?_; dsimp only [prev0, List.length_nil, List.length_cons])
       | (refine gAny ?_; first | (refine gC 32 ?_; refine RGl.vl (fun e hk => OpT.callN (g1)) ?_) | (refine gC 38 ?_; refine RGl.vl (fun e hk => OpT.callN (g2)) ?_) | (refine gC 51 ?_; refine RGl.row (Γ1 := fun _ => []) (fun e hk => OpT.callN (put_t _ (nbs [69, 0]) (20 + d.length) 2 (by simp [nbs]) (by omega) (by omega) (by omega))) ?_) | (refine gC 74 ?_; refine RGl.row (Γ1 := fun _ => []) (fun e hk => OpT.callN (put_t (.slice none 0 0) [] (csum (fpre h d.length)) 2 (by simp) (by omega) (by omega) (by omega))) ?_) | (refine gC 62 ?_; refine RGl.row (Γ1 := fun _ => []) (fun e hk => OpT.callN (addrBytes_t h.src)) ?_) | (refine gC 65 ?_; refine RGl.row (Γ1 := fun _ => []) (fun e hk => OpT.callN (addrBytes_t h.dst)) ?_) | (refine gC 67 ?_; refine RGl.row (Γ1 := fun _ => []) (fun e hk => OpT.callN (bytesE_t _ [_, _, _] [nbs [69, 0] ++ be (20 + d.length) 2 ++ nbs [0, 0, 0, 0, (h.hops.toNat : Nat), (h.proto.toNat : Nat), 0, 0], h.src.bytes, h.dst.bytes] (fpre h d.length) (fpre_eq h d.length) rfl (by rw [fpre_eq]; omega) (by simp))) ?_) | (refine gC 79 ?_; refine RGl.row (Γ1 := fun _ => []) (fun e hk => OpT.callN (bytesE_t _ [_, _] [over (fpre h d.length) 10 (be (csum (fpre h d.length)) 2), d] (fpkt h d) (fpkt_eq h d) rfl (by simp only [List.flatten_cons, List.flatten_nil, List.length_append, List.length_nil]; omega) (by simp))) ?_) | (refine gCl ?_; refine RGl.vl (fun e hk => OpT.callN (isum_t _ [_] [fpre h d.length] (csum (fpre h d.length)) (by simp [csum]) rfl (by simp [hpl]) (by simp))) ?_) | (refine gOp ?_; first | refine RGl.rdA ?_ | refine RGl.rdX (fun e hk => by (try dsimp only [bndR, ensR, oksR, fcutR, List.append_nil, List.nil_append, List.cons_append, List.append_assoc] at hk ⊢); exact readB) ?_) | (refine gLit ?_; refine RGl.litA ?_) | (refine gCp ?_; refine RGl.cpA ?_) | (refine RGl.fin (fun e hk => ?_); (try dsimp only [bndA, ensAR, oksA, List.append_nil, List.nil_append, List.cons_append, List.append_assoc] at hk ⊢); (repeat (obtain ⟨hk1, hk⟩ := hk))) | fail)
       | (refine isCond ?_; first | refine WPc.cT ?_ | refine WPc.cF ?_ | (refine WPc.cQ (fun hc => ?_) (fun hc => ?_) <;> try exact prA))
       | (refine isC 32 ?_; refine WPl.cV (g1) ?_)
       | (refine isC 38 ?_; refine WPl.cV (g2) ?_)
       | (refine isLit ?_; refine WPl.lit fun v hv => ?_)
       | (refine isApp ?_; refine WPl.app fun v hv => ?_)
       | (refine isLit ?_; refine WPl.lits fun v hv => ?_)
       | (refine isC 51 ?_; refine WPl.cR (put_t _ (nbs [69, 0]) (20 + d.length) 2 (by simp [nbs]) (by omega) (by omega) (by omega)) fun v hv => ?_)
       | (refine isC 74 ?_; refine WPl.cR (put_t (.slice none 0 0) [] (csum (fpre h d.length)) 2 (by simp) (by omega) (by omega) (by omega)) fun v hv => ?_)
       | (refine isC 62 ?_; refine WPl.cR (addrBytes_t h.src) fun v hv => ?_)
       | (refine isC 65 ?_; refine WPl.cR (addrBytes_t h.dst) fun v hv => ?_)
       | (refine isC 67 ?_; refine WPl.cR (bytesE_t _ [_, _, _] [nbs [69, 0] ++ be (20 + d.length) 2 ++ nbs [0, 0, 0, 0, (h.hops.toNat : Nat), (h.proto.toNat : Nat), 0, 0], h.src.bytes, h.dst.bytes] (fpre h d.length) (fpre_eq h d.length) rfl (by rw [fpre_eq]; omega) (by simp)) fun v hv => ?_)
       | (refine isC 79 ?_; refine WPl.cR (bytesE_t _ [_, _] [over (fpre h d.length) 10 (be (csum (fpre h d.length)) 2), d] (fpkt h d) (fpkt_eq h d) rfl (by simp only [List.flatten_cons, List.flatten_nil, List.length_append, List.length_nil]; omega) (by simp)) fun v hv => ?_)
       | (refine isCl ?_; refine WPl.cV (isum_t _ [_] [fpre h d.length] (csum (fpre h d.length)) (by simp [csum]) rfl (by simp [hpl]) (by simp)) ?_)
       | (refine isCp ?_; first | refine WPl.cpA fun v => ?_ | refine WPl.cpE fun v => ?_)
       | (refine isOp ?_; first | refine WPl.rd ?_ | refine WPl.sk ?_ | refine WPl.rdB ?_)
       | (refine isBx ?_; refine WPl.nw fun g => ?_)
       | (refine WPl.spQ (fun hc => ?_) (fun hc => ?_) <;> try exact prA)
       | fail)
      all_goals try (first | exact WPq.dV | exact WPq.dR | exact WPq.dR2 | exact WPq.dH | exact WPq.dBH | exact WPq.dT)
end Go.Proofs.Yteofjhjhaaafjaa
