/- Layer 36 (icmp): what is said, of IPv4: contracts. -/
import Derived.Test.YteofjhjhaaafjaaId
namespace Go.Proofs.Yteofjhjhaaafjaa
open Go.RowKit
set_option linter.unusedSimpArgs false
set_option linter.unusedVariables false
set_option maxRecDepth 20000
set_option maxHeartbeats 400000
attribute [local irreducible] WPc WPl WPq ReadR OpT BinR HasS bx rdN rowN Take Takes Prov Triple ResF BuildP Done ag Int.decLt Int.decLe Int.instDecidableEq
attribute [local irreducible] be over psu fwL fwerr
def im4 (k c : UInt8) (l : List UInt8) : List UInt8 := over (nbs [(k.toNat : Nat), (c.toNat : Nat), 0, 0] ++ l) 2 (be (csum (nbs [(k.toNat : Nat), (c.toNat : Nat), 0, 0] ++ l)) 2)
theorem message4_t (h : Hd) (hs : h.six = false) (k c : UInt8) (vr v1 v2 : Value) (l1 l2 : List UInt8) (hl : l1.length + l2.length ≤ 1000) :
    Triple Try.prog 122 #[ag (hdc h), .int .u8 ((k.toNat : Nat) : Int), .int .u8 ((c.toNat : Nat) : Int), vr] [rdN vr 2 [v1, v2], rb v1 l1, rb v2 l2] (RW (fwL h (im4 k c (l1 ++ l2))) (fwerr h (im4 k c (l1 ++ l2)).length)) := by
  have a1 := h.src.len
  have a2 := h.dst.len
  obtain ⟨m, hm⟩ : ∃ m, m = nbs [(k.toNat : Nat), (c.toNat : Nat), 0, 0] ++ (l1 ++ l2) := ⟨_, rfl⟩
  have hml : m.length = 4 + (l1.length + l2.length) := by rw [hm]; simp [nbs]; omega
  have hcl := csum_le m
  have hi : im4 k c (l1 ++ l2) = over m 2 (be (csum m) 2) := by unfold im4; rw [hm]
  have hbl := be_length (csum m) 2
  have hil : (over m 2 (be (csum m) 2)).length = m.length := by rw [over_length (by omega)]
  rw [hi]
  have hs2 : csum m = 65535 - fold (wsum true ([[], m] : List (List UInt8)).flatten) := by simp [csum]
  obtain ⟨s, hss⟩ : ∃ s, s = csum m := ⟨_, rfl⟩
  rw [← hss] at hcl hbl hil hs2 ⊢
  have c2 := ahead4_t h hs (m.length : Int)
  have c3 := fun v => fwrite_t h v (over m 2 (be s 2)) (by omega)
  clear hss hi
  refine Triple.enter Try.func122 rfl Try.ntmps122 rfl (fun W => ?_)
  dsimp only [argsF, Nat.reduceAdd]
  repeat' (first
   | refine WPl.nil ?_ | refine WPq.then ?_ | refine WPq.thenR ?_ | refine WPq.thenE ?_ | refine WPq.blockN ?_ | refine WPq.blockR ?_ | refine WPq.blockE ?_ | refine WPq.blockO rfl ?_ | refine WPc.seq ?_ | refine WPc.block ?_ | refine WPc.ret ?_ | refine WPc.exit ?_ | refine WPc.skip ?_ | refine WPc.region ?_
   | (refine isReg 2 ?_; refine WPc.drA [([12], [20, 21, 22, 23, 24, 25, 26, 27, 28]), ([0, 12], [18, 20, 21, 22, 23, 24, 25, 26, 27, 28]), ([12], [18, 19, 21, 22, 24]), ([12], [18, 19, 20, 24]), ([3, 12], [18, 19, 20, 21, 24]), ([2, 3, 4, 12], [18, 19, 20, 21, 22, 24]), ([12], [18, 19, 20, 21, 22, 23]), ([2, 3, 4, 5, 6, 12], [18, 19, 20, 21, 22, 23, 24]), ([2, 3, 4, 5, 6, 7, 12], [18, 19, 20, 21, 22, 23, 24, 25]), ([2, 3, 4, 5, 6, 7, 8, 12], [18, 19, 20, 21, 22, 23, 24, 25, 26]), ([2, 3, 4, 5, 6, 7, 8, 9, 12], [18, 19, 20, 21, 22, 23, 24, 25, 26, 27]), ([0, 1, 2, 3, 4, 5, 6, 7, 8, 9, 10, 12], [18, 19, 20, 21, 22, 23, 24, 25, 26, 27, 28])] [(12, 11), (12, 0), (12, 1), (12, 2), (12, 3), (12, 4), (12, 5), (12, 6), (12, 7), (12, 8), (12, 9), (12, 10)] (Γx := [ob w m]) ?_; dsimp only [prev0, List.length_nil, List.length_cons])
   | (refine gAny ?_; first | (refine gC 15 ?_; refine RGl.row (Γ1 := fun _ => []) (fun e hk => OpT.callN (bytesE_t vr [v1, v2] [l1, l2] (l1 ++ l2) (by simp) rfl (by simp; omega) (by simp))) ?_) | (refine gC 17 ?_; refine RGl.row (Γ1 := fun _ => []) (fun e hk => OpT.callN (bytesE_t _ [_, _] [nbs [(k.toNat : Nat), (c.toNat : Nat), 0, 0], l1 ++ l2] m (by rw [hm]; simp) rfl (by simp [nbs]; omega) (by simp))) ?_) | (refine gC 23 ?_; refine RGl.vl (fun e hk => OpT.callN (c2)) ?_) | (refine gC 26 ?_; refine RGl.vl (fun e hk => OpT.callN (isum_t _ [.slice none 0 0, w] [[], m] s hs2 rfl (by simp; omega) (by simp))) ?_) | (refine gC 28 ?_; refine RGl.row (Γ1 := fun _ => []) (fun e hk => OpT.callN (put_t (.slice none 0 0) [] s 2 (by simp) (by omega) (by omega) (by omega))) ?_) | (refine gC 39 ?_; refine RGl.row2 (fun e hk => OpT.callN (c3 _)) ?_) | (refine gOp ?_; first | refine RGl.rdA ?_ | refine RGl.rdX (fun e hk => by (try dsimp only [bndR, ensR, oksR, fcutR, List.append_nil, List.nil_append, List.cons_append, List.append_assoc] at hk ⊢); exact readB) ?_) | (refine gLit ?_; refine RGl.litA ?_) | (refine gCp ?_; refine RGl.cpA ?_) | (refine RGl.fin (fun e hk => ?_); (try dsimp only [bndA, ensAR, oksA, List.append_nil, List.nil_append, List.cons_append, List.append_assoc] at hk ⊢); (repeat (obtain ⟨hk1, hk⟩ := hk))) | fail)
   | (refine isCond ?_; first | refine WPc.cT ?_ | refine WPc.cF ?_ | (refine WPc.cQ (fun hc => ?_) (fun hc => ?_) <;> try exact prA))
   | (refine isLit ?_; refine WPl.lit fun v hv => ?_)
   | (refine isLit ?_; refine WPl.lits fun v hv => ?_)
   | (refine isC 15 ?_; refine WPl.cR (bytesE_t vr [v1, v2] [l1, l2] (l1 ++ l2) (by simp) rfl (by simp; omega) (by simp)) fun v hv => ?_)
   | (refine isC 17 ?_; refine WPl.cR (bytesE_t _ [_, _] [nbs [(k.toNat : Nat), (c.toNat : Nat), 0, 0], l1 ++ l2] m (by rw [hm]; simp) rfl (by simp [nbs]; omega) (by simp)) fun w hw => ?_)
   | (refine isC 23 ?_; refine WPl.cV (c2) ?_)
   | (refine isC 26 ?_; refine WPl.cV (isum_t _ [.slice none 0 0, w] [[], m] s hs2 rfl (by simp; omega) (by simp)) ?_)
   | (refine isC 28 ?_; refine WPl.cR (put_t (.slice none 0 0) [] s 2 (by simp) (by omega) (by omega) (by omega)) fun v hv => ?_)
   | (refine isC 39 ?_; refine WPl.cR2 (c3 _) fun v hv => ?_)
   | (refine isCp ?_; first | refine WPl.cpA fun v => ?_ | refine WPl.cpE fun v => ?_)
   | (refine isOp ?_; first | refine WPl.rd ?_ | refine WPl.sk ?_ | refine WPl.rdB ?_)
   | (refine isBx ?_; refine WPl.nw fun g => ?_)
   | (refine WPl.spQ (fun hc => ?_) (fun hc => ?_) <;> try exact prA)
   | fail)
  all_goals try (first | exact WPq.dV | exact WPq.dR | exact WPq.dR2 | exact WPq.dH | exact WPq.dBH | exact WPq.dT)
end Go.Proofs.Yteofjhjhaaafjaa
