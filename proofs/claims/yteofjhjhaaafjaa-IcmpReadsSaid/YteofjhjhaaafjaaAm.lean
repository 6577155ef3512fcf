/- Layer 12 (addr): masks. -/
import Derived.Test.YteofjhjhaaafjaaAr
namespace Go.Proofs.Yteofjhjhaaafjaa
open Go.RowKit
set_option linter.unusedSimpArgs false
set_option linter.unusedVariables false
set_option maxRecDepth 20000
set_option maxHeartbeats 4000000
attribute [local irreducible] WPc WPl WPq ReadR OpT BinR HasS bx rdN rowN Take Takes Prov Triple ResF BuildP Done ag Int.decLt Int.decLe Int.instDecidableEq

theorem maskYes_t (a : Adr) (n : Nat) (hg : a.good = true) (hn : n ≤ a.bits) : Triple Try.prog 98 #[ag (adc a), .int .i64 n] [] (RVal (.tuple #[ag (pfc (a.masked n) n), .bool true])) := by
  have hl := a.bits_len
  have hl2 := a.bytes_le
  have hlen := a.len
  have hnb : n ≤ 128 := by unfold Adr.bits at hn; split at hn <;> omega
  have hgt := good_t a
  rw [hg] at hgt
  refine Triple.enter Try.func98 rfl Try.ntmps98 rfl (fun W => ?_)
  dsimp only [argsF, Nat.reduceAdd]
  repeat' (first
   | refine WPl.nil ?_ | refine WPq.then ?_ | refine WPq.thenR ?_ | refine WPq.thenE ?_ | refine WPq.blockN ?_ | refine WPq.blockR ?_ | refine WPq.blockE ?_ | refine WPq.blockO rfl ?_ | refine WPc.seq ?_ | refine WPc.block ?_ | refine WPc.ret ?_ | refine WPc.exit ?_ | refine WPc.skip ?_ | refine WPc.region ?_
   | (refine isReg 8 ?_; refine WPc.drA [([], [40, 43, 44, 45]), ([], [39, 43, 44, 45]), ([0, 1], [39, 40, 43, 44, 45]), ([0, 1, 2], [39, 40, 41, 43, 44, 45]), ([], [39, 40, 41, 42]), ([4], [39, 40, 41, 42, 43]), ([4, 5], [39, 40, 41, 42, 43, 44]), ([0, 1, 2, 3, 4, 5, 6], [39, 40, 41, 42, 43, 44, 45]), ([0, 1, 2, 3, 4, 5, 6, 7], [39, 40, 41, 42, 43, 44, 45, 46]), ([0, 1, 2, 3, 4, 5, 6, 7, 8], [39, 40, 41, 42, 43, 44, 45, 46, 47])] [] (Γx := []) ?_; dsimp only [prev0, List.length_nil, List.length_cons])
   | (refine gAny ?_; first | (refine gCl ?_; refine RGl.row (Γ1 := fun _ => []) (fun e hk => OpT.callN (addrBytes_t a)) ?_) | (refine gCl ?_; refine RGl.vl (fun e hk => OpT.callN (hgt)) ?_) | (refine gOp ?_; first | refine RGl.rdA ?_ | refine RGl.rdX (fun e hk => by (try dsimp only [bndR, ensR, oksR, fcutR, List.append_nil, List.nil_append, List.cons_append, List.append_assoc] at hk ⊢); exact readB) ?_) | (refine gSt ?_; refine RGl.stA ?_) | (refine RGl.fin (fun e hk => ?_); (try dsimp only [bndA, ensAR, oksA, List.append_nil, List.nil_append, List.cons_append, List.append_assoc] at hk ⊢); (repeat (obtain ⟨hk1, hk⟩ := hk))) | fail)
   | (refine isCond ?_; first | refine WPc.cT ?_ | refine WPc.cF ?_ | (refine WPc.cQ (fun hc => ?_) (fun hc => ?_) <;> try exact prA))
   | (refine isCl ?_; refine WPl.cR (addrBytes_t a) fun v hv => ?_)
   | (refine isCl ?_; refine WPl.cV (hgt) ?_)
   | (first | (show WPl _ _ _ _ _ _ _ (⟨_, .alloc 26, _, _, _, _⟩ :: _) _; refine WPl.nw fun gp => ?_) | (show WPl _ _ _ _ _ _ _ (⟨_, .box 26 _, _, _, _, _⟩ :: _) _; refine WPl.nw fun gp => ?_))
   | (refine isOp ?_; first | refine WPl.rd ?_ | refine WPl.sk ?_ | refine WPl.rdB ?_)
   | (refine isAl ?_; refine WPl.nw fun g => ?_)
   | (refine isBx ?_; refine WPl.nw fun g => ?_)
   | (refine isSt ?_; first | refine WPl.st1 ?_ | refine WPl.stA ?_ | refine WPl.stEB ?_ | refine WPl.stRB ?_)
   | (refine WPl.spQ (fun hc => ?_) (fun hc => ?_) <;> try exact prA)
   | fail)
  first | refine WPc.loop (σ := Nat × List UInt8) (fun p => p.1 ≤ a.bytes.length ∧ p.2 = maskTo a.bytes n p.1) (fun p => [ob v p.2, bx g 24 (adc a), bx gp 26 [(1, [.bool false]), (16, u8s (List.replicate 16 0)), (1, [.int .i64 0])]]) (fun p => [(1, .int .i64 n), (4, .pointer (some ⟨gp, 0, none⟩)), (6, v), (29, .int .i64 a.bytes.length), (30, .int .i64 p.1)]) (fun p => a.bytes.length - p.1) ((0, a.bytes)) ?_ takesA frsA (fun st km hx hk => ?_)
  · exact ⟨Nat.zero_le _, (maskTo_zero _ _).symm⟩
  obtain ⟨i, c⟩ := st
  dsimp only at hx hk ⊢
  obtain ⟨hi, hc0⟩ := hx
  have hcl : c.length = a.bytes.length := by rw [hc0, maskTo_length]
  by_cases hlt : i < a.bytes.length
  · have hk8 : nbit n i ≤ 8 := Nat.min_le_right _ _
    repeat' (first
     | refine WPl.nil ?_ | refine WPq.then ?_ | refine WPq.thenR ?_ | refine WPq.thenE ?_ | refine WPq.blockN ?_ | refine WPq.blockR ?_ | refine WPq.blockE ?_ | refine WPq.blockO rfl ?_ | refine WPc.seq ?_ | refine WPc.block ?_ | refine WPc.ret ?_ | refine WPc.exit ?_ | refine WPc.skip ?_ | refine WPc.region ?_
     | (refine isReg 8 ?_; refine WPc.drA [([10], [40, 43, 44, 45]), ([10], [39, 43, 44, 45]), ([0, 1, 10], [39, 40, 43, 44, 45]), ([0, 1, 2, 10], [39, 40, 41, 43, 44, 45]), ([10], [39, 40, 41, 42]), ([4, 10], [39, 40, 41, 42, 43]), ([4, 5, 10], [39, 40, 41, 42, 43, 44]), ([0, 1, 2, 3, 4, 5, 6, 10], [39, 40, 41, 42, 43, 44, 45]), ([0, 1, 2, 3, 4, 5, 6, 7, 10], [39, 40, 41, 42, 43, 44, 45, 46]), ([0, 1, 2, 3, 4, 5, 6, 7, 8, 10], [39, 40, 41, 42, 43, 44, 45, 46, 47])] [(10, 9), (10, 0), (10, 1), (10, 2), (10, 3), (10, 4), (10, 5), (10, 6), (10, 7), (10, 8)] (Γx := [ob v c]) ?_; dsimp only [prev0, List.length_nil, List.length_cons])
     | (refine gAny ?_; first | (show RGl _ _ _ _ _ _ _ _ (⟨_, .call ⟨.builtin .min, _, _⟩, _, _, _, _⟩ :: _) _ _; refine RGl.rdX (fun e hk => by (try dsimp only [bndR, ensR, oksR, fcutR, List.append_nil, List.nil_append, List.cons_append, List.append_assoc] at hk ⊢); exact (ReadR.minE ((nbit n i : Nat) : Int) rfl rfl (by unfold nbit; split <;> split <;> omega))) ?_) | (show RGl _ _ _ _ _ _ _ _ (⟨_, .binOp .shl _ _ _ _, _, _, _, _⟩ :: _) _ _; refine RGl.rdX (fun e hk => by (try dsimp only [bndR, ensR, oksR, fcutR, List.append_nil, List.nil_append, List.cons_append, List.append_assoc] at hk ⊢); exact ReadR.bin rfl rfl (BinR.shlMask (k := nbit n i) hk8)) ?_) | (show RGl _ _ _ _ _ _ _ _ (⟨_, .binOp .and _ _ _ _, _, _, _, _⟩ :: _) _ _; refine RGl.rdX (fun e hk => by (try dsimp only [bndR, ensR, oksR, fcutR, List.append_nil, List.nil_append, List.cons_append, List.append_assoc] at hk ⊢); exact ReadR.bin rfl rfl (BinR.andMask (k := nbit n i) hk8)) ?_) | (refine gOp ?_; first | refine RGl.rdA ?_ | refine RGl.rdX (fun e hk => by (try dsimp only [bndR, ensR, oksR, fcutR, List.append_nil, List.nil_append, List.cons_append, List.append_assoc] at hk ⊢); exact readB) ?_) | (refine gSt ?_; refine RGl.stA ?_) | (refine RGl.fin (fun e hk => ?_); (try dsimp only [bndA, ensAR, oksA, List.append_nil, List.nil_append, List.cons_append, List.append_assoc] at hk ⊢); (repeat (obtain ⟨hk1, hk⟩ := hk))) | fail)
     | (refine isCond ?_; first | refine WPc.cT ?_ | refine WPc.cF ?_ | (refine WPc.cQ (fun hc => ?_) (fun hc => ?_) <;> try exact prA))
     | (show WPl _ _ _ _ _ _ _ (⟨_, .call ⟨.builtin .min, _, _⟩, _, _, _, _⟩ :: _) _; refine WPl.rdX ((ReadR.minE ((nbit n i : Nat) : Int) rfl rfl (by unfold nbit; split <;> split <;> omega))) ?_)
     | (refine isOp ?_; first | refine WPl.rd ?_ | refine WPl.sk ?_ | refine WPl.rdB ?_)
     | (refine isAl ?_; refine WPl.nw fun g => ?_)
     | (refine isBx ?_; refine WPl.nw fun g => ?_)
     | (refine isSt ?_; first | refine WPl.st1 ?_ | refine WPl.stA ?_ | refine WPl.stEB ?_ | refine WPl.stRB ?_)
     | (refine WPl.spQ (fun hc => ?_) (fun hc => ?_) <;> try exact prA)
     | fail)
    exact WPq.rnd (i + 1, c.set i (mskb (nbit n i) (c.getD i 0))) ⟨by show i + 1 ≤ _; omega, by show c.set _ _ = _; rw [maskTo_succ hlt, ← hc0, hc0, maskTo_get hlt]⟩ (by show _ - (i + 1) < _; omega)
  · have hci : c = maskB a.bytes n := by rw [hc0, maskTo_all (by omega)]
    have hcl2 := hcl
    rw [a.bytes_len] at hcl2
    cases h6 : a.six with
    | true =>
      rw [h6, if_pos rfl] at hcl2
      rw [show pfc (a.masked n) n = pfc (Adr.of6 c hcl2) n by rw [Adr.masked6 h6]; simp only [hci]]
      repeat' (first
       | refine WPl.nil ?_ | refine WPq.then ?_ | refine WPq.thenR ?_ | refine WPq.thenE ?_ | refine WPq.blockN ?_ | refine WPq.blockR ?_ | refine WPq.blockE ?_ | refine WPq.blockO rfl ?_ | refine WPc.seq ?_ | refine WPc.block ?_ | refine WPc.ret ?_ | refine WPc.exit ?_ | refine WPc.skip ?_ | refine WPc.region ?_
       | (refine isReg 8 ?_; refine WPc.drA [([], [40, 43, 44, 45]), ([], [39, 43, 44, 45]), ([0, 1], [39, 40, 43, 44, 45]), ([0, 1, 2], [39, 40, 41, 43, 44, 45]), ([], [39, 40, 41, 42]), ([4], [39, 40, 41, 42, 43]), ([4, 5], [39, 40, 41, 42, 43, 44]), ([0, 1, 2, 3, 4, 5, 6], [39, 40, 41, 42, 43, 44, 45]), ([0, 1, 2, 3, 4, 5, 6, 7], [39, 40, 41, 42, 43, 44, 45, 46]), ([0, 1, 2, 3, 4, 5, 6, 7, 8], [39, 40, 41, 42, 43, 44, 45, 46, 47])] [] (Γx := []) ?_; dsimp only [prev0, List.length_nil, List.length_cons])
       | (refine gAny ?_; first | (refine gCl ?_; refine RGl.vl (fun e hk => OpT.callN (of6_t _ c hcl2)) ?_) | (refine gOp ?_; first | refine RGl.rdA ?_ | refine RGl.rdX (fun e hk => by (try dsimp only [bndR, ensR, oksR, fcutR, List.append_nil, List.nil_append, List.cons_append, List.append_assoc] at hk ⊢); exact readB) ?_) | (refine gSt ?_; refine RGl.stA ?_) | (refine RGl.fin (fun e hk => ?_); (try dsimp only [bndA, ensAR, oksA, List.append_nil, List.nil_append, List.cons_append, List.append_assoc] at hk ⊢); (repeat (obtain ⟨hk1, hk⟩ := hk))) | fail)
       | (refine isCond ?_; first | refine WPc.cT ?_ | refine WPc.cF ?_ | (refine WPc.cQ (fun hc => ?_) (fun hc => ?_) <;> try exact prA))
       | (refine isCl ?_; refine WPl.cV (of6_t _ c hcl2) ?_)
       | (refine isOp ?_; first | refine WPl.rd ?_ | refine WPl.sk ?_ | refine WPl.rdB ?_)
       | (refine isAl ?_; refine WPl.nw fun g => ?_)
       | (refine isBx ?_; refine WPl.nw fun g => ?_)
       | (refine isSt ?_; first | refine WPl.st1 ?_ | refine WPl.stA ?_ | refine WPl.stEB ?_ | refine WPl.stRB ?_)
       | (refine WPl.spQ (fun hc => ?_) (fun hc => ?_) <;> try exact prA)
       | fail)
      all_goals try (first | exact WPq.dV | exact WPq.dR | exact WPq.dR2 | exact WPq.dH | exact WPq.dBH | exact WPq.dT)
    | false =>
      rw [h6, if_neg (by simp)] at hcl2
      rw [show pfc (a.masked n) n = pfc (Adr.of4 c hcl2) n by rw [Adr.masked4 h6]; simp only [hci]]
      repeat' (first
       | refine WPl.nil ?_ | refine WPq.then ?_ | refine WPq.thenR ?_ | refine WPq.thenE ?_ | refine WPq.blockN ?_ | refine WPq.blockR ?_ | refine WPq.blockE ?_ | refine WPq.blockO rfl ?_ | refine WPc.seq ?_ | refine WPc.block ?_ | refine WPc.ret ?_ | refine WPc.exit ?_ | refine WPc.skip ?_ | refine WPc.region ?_
       | (refine isReg 8 ?_; refine WPc.drA [([], [40, 43, 44, 45]), ([], [39, 43, 44, 45]), ([0, 1], [39, 40, 43, 44, 45]), ([0, 1, 2], [39, 40, 41, 43, 44, 45]), ([], [39, 40, 41, 42]), ([4], [39, 40, 41, 42, 43]), ([4, 5], [39, 40, 41, 42, 43, 44]), ([0, 1, 2, 3, 4, 5, 6], [39, 40, 41, 42, 43, 44, 45]), ([0, 1, 2, 3, 4, 5, 6, 7], [39, 40, 41, 42, 43, 44, 45, 46]), ([0, 1, 2, 3, 4, 5, 6, 7, 8], [39, 40, 41, 42, 43, 44, 45, 46, 47])] [] (Γx := []) ?_; dsimp only [prev0, List.length_nil, List.length_cons])
       | (refine gAny ?_; first | (refine gCl ?_; refine RGl.vl (fun e hk => OpT.callN (of4_t _ c hcl2)) ?_) | (refine gOp ?_; first | refine RGl.rdA ?_ | refine RGl.rdX (fun e hk => by (try dsimp only [bndR, ensR, oksR, fcutR, List.append_nil, List.nil_append, List.cons_append, List.append_assoc] at hk ⊢); exact readB) ?_) | (refine gSt ?_; refine RGl.stA ?_) | (refine RGl.fin (fun e hk => ?_); (try dsimp only [bndA, ensAR, oksA, List.append_nil, List.nil_append, List.cons_append, List.append_assoc] at hk ⊢); (repeat (obtain ⟨hk1, hk⟩ := hk))) | fail)
       | (refine isCond ?_; first | refine WPc.cT ?_ | refine WPc.cF ?_ | (refine WPc.cQ (fun hc => ?_) (fun hc => ?_) <;> try exact prA))
       | (refine isCl ?_; refine WPl.cV (of4_t _ c hcl2) ?_)
       | (refine isOp ?_; first | refine WPl.rd ?_ | refine WPl.sk ?_ | refine WPl.rdB ?_)
       | (refine isAl ?_; refine WPl.nw fun g => ?_)
       | (refine isBx ?_; refine WPl.nw fun g => ?_)
       | (refine isSt ?_; first | refine WPl.st1 ?_ | refine WPl.stA ?_ | refine WPl.stEB ?_ | refine WPl.stRB ?_)
       | (refine WPl.spQ (fun hc => ?_) (fun hc => ?_) <;> try exact prA)
       | fail)
      all_goals try (first | exact WPq.dV | exact WPq.dR | exact WPq.dR2 | exact WPq.dH | exact WPq.dBH | exact WPq.dT)
theorem maskNo_t (a : Adr) (n : Int) (h : a.maskOk n = false) (h1 : -9223372036854775808 ≤ n) (h2 : n ≤ 9223372036854775807) : Triple Try.prog 98 #[ag (adc a), .int .i64 n] [] (RVal (.tuple #[ag (pfc Adr.zero 0), .bool false])) := by
  have hl := a.bits_len
  have hl2 := a.bytes_le
  cases hg : a.good with
  | true =>
    have hgt := good_t a
    rw [hg] at hgt
    simp [Adr.maskOk, hg] at h
    by_cases hn : n < 0
    · skip
      refine Triple.enter Try.func98 rfl Try.ntmps98 rfl (fun W => ?_)
      dsimp only [argsF, Nat.reduceAdd]
      repeat' (first
       | refine WPl.nil ?_ | refine WPq.then ?_ | refine WPq.thenR ?_ | refine WPq.thenE ?_ | refine WPq.blockN ?_ | refine WPq.blockR ?_ | refine WPq.blockE ?_ | refine WPq.blockO rfl ?_ | refine WPc.seq ?_ | refine WPc.block ?_ | refine WPc.ret ?_ | refine WPc.exit ?_ | refine WPc.skip ?_ | refine WPc.region ?_
       | (refine isReg 8 ?_; refine WPc.drA [([], [40, 43, 44, 45]), ([], [39, 43, 44, 45]), ([0, 1], [39, 40, 43, 44, 45]), ([0, 1, 2], [39, 40, 41, 43, 44, 45]), ([], [39, 40, 41, 42]), ([4], [39, 40, 41, 42, 43]), ([4, 5], [39, 40, 41, 42, 43, 44]), ([0, 1, 2, 3, 4, 5, 6], [39, 40, 41, 42, 43, 44, 45]), ([0, 1, 2, 3, 4, 5, 6, 7], [39, 40, 41, 42, 43, 44, 45, 46]), ([0, 1, 2, 3, 4, 5, 6, 7, 8], [39, 40, 41, 42, 43, 44, 45, 46, 47])] [] (Γx := []) ?_; dsimp only [prev0, List.length_nil, List.length_cons])
       | (refine gAny ?_; first | (refine gCl ?_; refine RGl.row (Γ1 := fun _ => []) (fun e hk => OpT.callN (addrBytes_t a)) ?_) | (refine gCl ?_; refine RGl.vl (fun e hk => OpT.callN (hgt)) ?_) | (refine gOp ?_; first | refine RGl.rdA ?_ | refine RGl.rdX (fun e hk => by (try dsimp only [bndR, ensR, oksR, fcutR, List.append_nil, List.nil_append, List.cons_append, List.append_assoc] at hk ⊢); exact readB) ?_) | (refine gSt ?_; refine RGl.stA ?_) | (refine RGl.fin (fun e hk => ?_); (try dsimp only [bndA, ensAR, oksA, List.append_nil, List.nil_append, List.cons_append, List.append_assoc] at hk ⊢); (repeat (obtain ⟨hk1, hk⟩ := hk))) | fail)
       | (refine isCond ?_; first | refine WPc.cT ?_ | refine WPc.cF ?_ | (refine WPc.cQ (fun hc => ?_) (fun hc => ?_) <;> try exact prA))
       | (refine isCl ?_; refine WPl.cR (addrBytes_t a) fun v hv => ?_)
       | (refine isCl ?_; refine WPl.cV (hgt) ?_)
       | (refine isOp ?_; first | refine WPl.rd ?_ | refine WPl.sk ?_ | refine WPl.rdB ?_)
       | (refine isAl ?_; refine WPl.nw fun g => ?_)
       | (refine isBx ?_; refine WPl.nw fun g => ?_)
       | (refine isSt ?_; first | refine WPl.st1 ?_ | refine WPl.stA ?_ | refine WPl.stEB ?_ | refine WPl.stRB ?_)
       | (refine WPl.spQ (fun hc => ?_) (fun hc => ?_) <;> try exact prA)
       | fail)
      all_goals try (first | exact WPq.dV | exact WPq.dR | exact WPq.dR2 | exact WPq.dH | exact WPq.dBH | exact WPq.dT)
    · have := h (by omega)
      refine Triple.enter Try.func98 rfl Try.ntmps98 rfl (fun W => ?_)
      dsimp only [argsF, Nat.reduceAdd]
      repeat' (first
       | refine WPl.nil ?_ | refine WPq.then ?_ | refine WPq.thenR ?_ | refine WPq.thenE ?_ | refine WPq.blockN ?_ | refine WPq.blockR ?_ | refine WPq.blockE ?_ | refine WPq.blockO rfl ?_ | refine WPc.seq ?_ | refine WPc.block ?_ | refine WPc.ret ?_ | refine WPc.exit ?_ | refine WPc.skip ?_ | refine WPc.region ?_
       | (refine isReg 8 ?_; refine WPc.drA [([], [40, 43, 44, 45]), ([], [39, 43, 44, 45]), ([0, 1], [39, 40, 43, 44, 45]), ([0, 1, 2], [39, 40, 41, 43, 44, 45]), ([], [39, 40, 41, 42]), ([4], [39, 40, 41, 42, 43]), ([4, 5], [39, 40, 41, 42, 43, 44]), ([0, 1, 2, 3, 4, 5, 6], [39, 40, 41, 42, 43, 44, 45]), ([0, 1, 2, 3, 4, 5, 6, 7], [39, 40, 41, 42, 43, 44, 45, 46]), ([0, 1, 2, 3, 4, 5, 6, 7, 8], [39, 40, 41, 42, 43, 44, 45, 46, 47])] [] (Γx := []) ?_; dsimp only [prev0, List.length_nil, List.length_cons])
       | (refine gAny ?_; first | (refine gCl ?_; refine RGl.row (Γ1 := fun _ => []) (fun e hk => OpT.callN (addrBytes_t a)) ?_) | (refine gCl ?_; refine RGl.vl (fun e hk => OpT.callN (hgt)) ?_) | (refine gOp ?_; first | refine RGl.rdA ?_ | refine RGl.rdX (fun e hk => by (try dsimp only [bndR, ensR, oksR, fcutR, List.append_nil, List.nil_append, List.cons_append, List.append_assoc] at hk ⊢); exact readB) ?_) | (refine gSt ?_; refine RGl.stA ?_) | (refine RGl.fin (fun e hk => ?_); (try dsimp only [bndA, ensAR, oksA, List.append_nil, List.nil_append, List.cons_append, List.append_assoc] at hk ⊢); (repeat (obtain ⟨hk1, hk⟩ := hk))) | fail)
       | (refine isCond ?_; first | refine WPc.cT ?_ | refine WPc.cF ?_ | (refine WPc.cQ (fun hc => ?_) (fun hc => ?_) <;> try exact prA))
       | (refine isCl ?_; refine WPl.cR (addrBytes_t a) fun v hv => ?_)
       | (refine isCl ?_; refine WPl.cV (hgt) ?_)
       | (refine isOp ?_; first | refine WPl.rd ?_ | refine WPl.sk ?_ | refine WPl.rdB ?_)
       | (refine isAl ?_; refine WPl.nw fun g => ?_)
       | (refine isBx ?_; refine WPl.nw fun g => ?_)
       | (refine isSt ?_; first | refine WPl.st1 ?_ | refine WPl.stA ?_ | refine WPl.stEB ?_ | refine WPl.stRB ?_)
       | (refine WPl.spQ (fun hc => ?_) (fun hc => ?_) <;> try exact prA)
       | fail)
      all_goals try (first | exact WPq.dV | exact WPq.dR | exact WPq.dR2 | exact WPq.dH | exact WPq.dBH | exact WPq.dT)
  | false =>
    have hgt := good_t a
    rw [hg] at hgt
    refine Triple.enter Try.func98 rfl Try.ntmps98 rfl (fun W => ?_)
    dsimp only [argsF, Nat.reduceAdd]
    repeat' (first
     | refine WPl.nil ?_ | refine WPq.then ?_ | refine WPq.thenR ?_ | refine WPq.thenE ?_ | refine WPq.blockN ?_ | refine WPq.blockR ?_ | refine WPq.blockE ?_ | refine WPq.blockO rfl ?_ | refine WPc.seq ?_ | refine WPc.block ?_ | refine WPc.ret ?_ | refine WPc.exit ?_ | refine WPc.skip ?_ | refine WPc.region ?_
     | (refine isReg 8 ?_; refine WPc.drA [([], [40, 43, 44, 45]), ([], [39, 43, 44, 45]), ([0, 1], [39, 40, 43, 44, 45]), ([0, 1, 2], [39, 40, 41, 43, 44, 45]), ([], [39, 40, 41, 42]), ([4], [39, 40, 41, 42, 43]), ([4, 5], [39, 40, 41, 42, 43, 44]), ([0, 1, 2, 3, 4, 5, 6], [39, 40, 41, 42, 43, 44, 45]), ([0, 1, 2, 3, 4, 5, 6, 7], [39, 40, 41, 42, 43, 44, 45, 46]), ([0, 1, 2, 3, 4, 5, 6, 7, 8], [39, 40, 41, 42, 43, 44, 45, 46, 47])] [] (Γx := []) ?_; dsimp only [prev0, List.length_nil, List.length_cons])
     | (refine gAny ?_; first | (refine gCl ?_; refine RGl.row (Γ1 := fun _ => []) (fun e hk => OpT.callN (addrBytes_t a)) ?_) | (refine gCl ?_; refine RGl.vl (fun e hk => OpT.callN (hgt)) ?_) | (refine gOp ?_; first | refine RGl.rdA ?_ | refine RGl.rdX (fun e hk => by (try dsimp only [bndR, ensR, oksR, fcutR, List.append_nil, List.nil_append, List.cons_append, List.append_assoc] at hk ⊢); exact readB) ?_) | (refine gSt ?_; refine RGl.stA ?_) | (refine RGl.fin (fun e hk => ?_); (try dsimp only [bndA, ensAR, oksA, List.append_nil, List.nil_append, List.cons_append, List.append_assoc] at hk ⊢); (repeat (obtain ⟨hk1, hk⟩ := hk))) | fail)
     | (refine isCond ?_; first | refine WPc.cT ?_ | refine WPc.cF ?_ | (refine WPc.cQ (fun hc => ?_) (fun hc => ?_) <;> try exact prA))
     | (refine isCl ?_; refine WPl.cR (addrBytes_t a) fun v hv => ?_)
     | (refine isCl ?_; refine WPl.cV (hgt) ?_)
     | (refine isOp ?_; first | refine WPl.rd ?_ | refine WPl.sk ?_ | refine WPl.rdB ?_)
     | (refine isAl ?_; refine WPl.nw fun g => ?_)
     | (refine isBx ?_; refine WPl.nw fun g => ?_)
     | (refine isSt ?_; first | refine WPl.st1 ?_ | refine WPl.stA ?_ | refine WPl.stEB ?_ | refine WPl.stRB ?_)
     | (refine WPl.spQ (fun hc => ?_) (fun hc => ?_) <;> try exact prA)
     | fail)
    all_goals try (first | exact WPq.dV | exact WPq.dR | exact WPq.dR2 | exact WPq.dH | exact WPq.dBH | exact WPq.dT)
abbrev maskV (a : Adr) (n : Int) : Value := .tuple #[ag (pfc (maskA a n) (maskN a n)), .bool (a.maskOk n)]
theorem mask_t (a : Adr) (n : Int) (h1 : -9223372036854775808 ≤ n) (h2 : n ≤ 9223372036854775807) : Triple Try.prog 98 #[ag (adc a), .int .i64 n] [] (RVal (maskV a n)) := by
  cases h : a.maskOk n with
  | true =>
    simp only [maskV, maskA, maskN, h, if_true]
    simp only [Adr.maskOk, Bool.and_eq_true, decide_eq_true_eq] at h
    obtain ⟨m, rfl⟩ := Int.eq_ofNat_of_zero_le h.2.1
    exact maskYes_t a m h.1 (by omega)
  | false =>
    simp only [maskV, maskA, maskN, h, Bool.false_eq_true, if_false]
    exact maskNo_t a n h h1 h2
theorem Mask_t (a : Adr) (n : Int) (h1 : -9223372036854775808 ≤ n) (h2 : n ≤ 9223372036854775807) : Triple Try.prog 59 #[ag (adc a), .int .i64 n] [] (RVal (maskV a n)) := by
  refine Triple.enter Try.func59 rfl Try.ntmps59 rfl (fun W => ?_)
  dsimp only [argsF, Nat.reduceAdd]
  repeat' (first
   | refine WPl.nil ?_ | refine WPq.then ?_ | refine WPq.thenR ?_ | refine WPq.thenE ?_ | refine WPq.blockN ?_ | refine WPq.blockR ?_ | refine WPq.blockE ?_ | refine WPq.blockO rfl ?_ | refine WPc.seq ?_ | refine WPc.block ?_ | refine WPc.ret ?_ | refine WPc.exit ?_ | refine WPc.skip ?_ | refine WPc.region ?_
   | (refine isCond ?_; first | refine WPc.cT ?_ | refine WPc.cF ?_ | (refine WPc.cQ (fun hc => ?_) (fun hc => ?_) <;> try exact prA))
   | (refine isCl ?_; refine WPl.cV (mask_t a n h1 h2) ?_)
   | (refine isOp ?_; first | refine WPl.rd ?_ | refine WPl.sk ?_ | refine WPl.rdB ?_)
   | (refine isAl ?_; refine WPl.nw fun g => ?_)
   | (refine isBx ?_; refine WPl.nw fun g => ?_)
   | (refine isSt ?_; first | refine WPl.st1 ?_ | refine WPl.stA ?_ | refine WPl.stEB ?_ | refine WPl.stRB ?_)
   | (refine WPl.spQ (fun hc => ?_) (fun hc => ?_) <;> try exact prA)
   | fail)
  all_goals try (first | exact WPq.dV | exact WPq.dR | exact WPq.dR2 | exact WPq.dH | exact WPq.dBH | exact WPq.dT)
theorem Good_t (a : Adr) : Triple Try.prog 79 #[ag (adc a)] [] (RVal (.bool a.good)) := by
  refine Triple.enter Try.func79 rfl Try.ntmps79 rfl (fun W => ?_)
  dsimp only [argsF, Nat.reduceAdd]
  repeat' (first
   | refine WPl.nil ?_ | refine WPq.then ?_ | refine WPq.thenR ?_ | refine WPq.thenE ?_ | refine WPq.blockN ?_ | refine WPq.blockR ?_ | refine WPq.blockE ?_ | refine WPq.blockO rfl ?_ | refine WPc.seq ?_ | refine WPc.block ?_ | refine WPc.ret ?_ | refine WPc.exit ?_ | refine WPc.skip ?_ | refine WPc.region ?_
   | (refine isCond ?_; first | refine WPc.cT ?_ | refine WPc.cF ?_ | (refine WPc.cQ (fun hc => ?_) (fun hc => ?_) <;> try exact prA))
   | (refine isCl ?_; refine WPl.cV (good_t a) ?_)
   | (refine isOp ?_; first | refine WPl.rd ?_ | refine WPl.sk ?_ | refine WPl.rdB ?_)
   | (refine isBx ?_; refine WPl.nw fun g => ?_)
   | (refine WPl.spQ (fun hc => ?_) (fun hc => ?_) <;> try exact prA)
   | fail)
  all_goals try (first | exact WPq.dV | exact WPq.dR | exact WPq.dR2 | exact WPq.dH | exact WPq.dBH | exact WPq.dT)
theorem Of4_t (v : Value) (l : List UInt8) (h : l.length = 4) : Triple Try.prog 65 #[v] [rb v l] (RVal (.tuple #[ag (adc (Adr.of4 l h)), .bool true])) := by
  refine Triple.enter Try.func65 rfl Try.ntmps65 rfl (fun W => ?_)
  dsimp only [argsF, Nat.reduceAdd]
  repeat' (first
   | refine WPl.nil ?_ | refine WPq.then ?_ | refine WPq.thenR ?_ | refine WPq.thenE ?_ | refine WPq.blockN ?_ | refine WPq.blockR ?_ | refine WPq.blockE ?_ | refine WPq.blockO rfl ?_ | refine WPc.seq ?_ | refine WPc.block ?_ | refine WPc.ret ?_ | refine WPc.exit ?_ | refine WPc.skip ?_ | refine WPc.region ?_
   | (refine isCond ?_; first | refine WPc.cT ?_ | refine WPc.cF ?_ | (refine WPc.cQ (fun hc => ?_) (fun hc => ?_) <;> try exact prA))
   | (refine isCl ?_; refine WPl.cV (of4_t _ l h) ?_)
   | (refine isOp ?_; first | refine WPl.rd ?_ | refine WPl.sk ?_ | refine WPl.rdB ?_)
   | (refine isAl ?_; refine WPl.nw fun g => ?_)
   | (refine isSt ?_; first | refine WPl.st1 ?_ | refine WPl.stA ?_ | refine WPl.stEB ?_ | refine WPl.stRB ?_)
   | (refine WPl.spQ (fun hc => ?_) (fun hc => ?_) <;> try exact prA)
   | fail)
  all_goals try (first | exact WPq.dV | exact WPq.dR | exact WPq.dR2 | exact WPq.dH | exact WPq.dBH | exact WPq.dT)
theorem Of6_t (v : Value) (l : List UInt8) (h : l.length = 16) : Triple Try.prog 65 #[v] [rb v l] (RVal (.tuple #[ag (adc (Adr.of6 l h)), .bool true])) := by
  refine Triple.enter Try.func65 rfl Try.ntmps65 rfl (fun W => ?_)
  dsimp only [argsF, Nat.reduceAdd]
  repeat' (first
   | refine WPl.nil ?_ | refine WPq.then ?_ | refine WPq.thenR ?_ | refine WPq.thenE ?_ | refine WPq.blockN ?_ | refine WPq.blockR ?_ | refine WPq.blockE ?_ | refine WPq.blockO rfl ?_ | refine WPc.seq ?_ | refine WPc.block ?_ | refine WPc.ret ?_ | refine WPc.exit ?_ | refine WPc.skip ?_ | refine WPc.region ?_
   | (refine isCond ?_; first | refine WPc.cT ?_ | refine WPc.cF ?_ | (refine WPc.cQ (fun hc => ?_) (fun hc => ?_) <;> try exact prA))
   | (refine isCl ?_; refine WPl.cV (of6_t _ l h) ?_)
   | (refine isOp ?_; first | refine WPl.rd ?_ | refine WPl.sk ?_ | refine WPl.rdB ?_)
   | (refine isAl ?_; refine WPl.nw fun g => ?_)
   | (refine isSt ?_; first | refine WPl.st1 ?_ | refine WPl.stA ?_ | refine WPl.stEB ?_ | refine WPl.stRB ?_)
   | (refine WPl.spQ (fun hc => ?_) (fun hc => ?_) <;> try exact prA)
   | fail)
  all_goals try (first | exact WPq.dV | exact WPq.dR | exact WPq.dR2 | exact WPq.dH | exact WPq.dBH | exact WPq.dT)
theorem OfNo_t (v : Value) (l : List UInt8) (h : l.length ≠ 4) (h' : l.length ≠ 16) : Triple Try.prog 65 #[v] [rb v l] (RVal (.tuple #[ag (adc Adr.zero), .bool false])) := by
  refine Triple.enter Try.func65 rfl Try.ntmps65 rfl (fun W => ?_)
  dsimp only [argsF, Nat.reduceAdd]
  repeat' (first
   | refine WPl.nil ?_ | refine WPq.then ?_ | refine WPq.thenR ?_ | refine WPq.thenE ?_ | refine WPq.blockN ?_ | refine WPq.blockR ?_ | refine WPq.blockE ?_ | refine WPq.blockO rfl ?_ | refine WPc.seq ?_ | refine WPc.block ?_ | refine WPc.ret ?_ | refine WPc.exit ?_ | refine WPc.skip ?_ | refine WPc.region ?_
   | (refine isCond ?_; first | refine WPc.cT ?_ | refine WPc.cF ?_ | (refine WPc.cQ (fun hc => ?_) (fun hc => ?_) <;> try exact prA))
   | (refine isCl ?_; refine WPl.cV (ofNo_t _ l h h') ?_)
   | (refine isOp ?_; first | refine WPl.rd ?_ | refine WPl.sk ?_ | refine WPl.rdB ?_)
   | (refine isAl ?_; refine WPl.nw fun g => ?_)
   | (refine isSt ?_; first | refine WPl.st1 ?_ | refine WPl.stA ?_ | refine WPl.stEB ?_ | refine WPl.stRB ?_)
   | (refine WPl.spQ (fun hc => ?_) (fun hc => ?_) <;> try exact prA)
   | fail)
  all_goals try (first | exact WPq.dV | exact WPq.dR | exact WPq.dR2 | exact WPq.dH | exact WPq.dBH | exact WPq.dT)
end Go.Proofs.Yteofjhjhaaafjaa
