/- Layer 36 (icmp): a message read, whole: contract. -/
import Derived.Test.YteofjhjhaaafjaaIc
namespace Go.Proofs.Yteofjhjhaaafjaa
open Go.RowKit
set_option linter.unusedSimpArgs false
set_option linter.unusedVariables false
set_option maxRecDepth 20000
set_option maxHeartbeats 400000
attribute [local irreducible] WPc WPl WPq ReadR OpT BinR HasS bx rdN rowN Take Takes Prov Triple ResF BuildP Done ag Int.decLt Int.decLe Int.instDecidableEq

/-- Two values, a slice of one's own, and a value. -/
def RRow4 (a b : Value) (xs : List UInt8) (c : Value) : Value → List Asn → Prop := fun v Γ => ∃ s, v = .tuple #[a, b, s, c] ∧ s.oneCell' = true ∧ Γ = [ob s xs]
def RRow3 (a : Value) (xs : List UInt8) (c : Value) : Value → List Asn → Prop := fun v Γ => ∃ s, v = .tuple #[a, s, c] ∧ s.oneCell' = true ∧ Γ = [ob s xs]
section
variable {P : Program} {n : Nat} {W : World} {S : Nat → Prop} {Γ : List Asn} {F : List (Nat × Value)} {Q : Exit → Act → World → Prop} {ops : Array Oper} {os : List Oper} {d : Nat} {f : FuncId} {xs : List Operand} {ts : Array TypeId} {ty : TypeId} {pos : String} {af : Array Edge} {gd : Option (Nat × Bool)} {vs : List Value} {Δ : List Asn}
theorem WPl.cR4 {a b c : Value} {l : List UInt8} (h : Triple P f vs.toArray Δ (RRow4 a b l c)) (k : ∀ v, v.oneCell' = true → WPl P n W S (ob v l :: Γ) ((d, .tuple #[a, b, v, c]) :: F) ops os Q) (hx : evFs F xs vs := by first | exact evsA | fail) (hΔ : Provs Γ Δ := by first | exact provsA | fail) (hc : isCode P f = true := by first | kernel_rfl | fail) (hd : Nat.blt d n = true := by first | rfl | fail) (hw : wantG F ops gd = some true := by first | rfl | fail) :
    WPl P n W S Γ F ops (⟨some d, .call { callee := .value (.func f), args := xs.toArray, argTypes := ts }, ty, pos, af, gd⟩ :: os) Q :=
  WPl.call h hx hΔ hc hd hw fun v Γ' ⟨s, h1, h2, h3⟩ => by subst h1; subst h3; exact k s h2
theorem WPl.cR3 {a c : Value} {l : List UInt8} (h : Triple P f vs.toArray Δ (RRow3 a l c)) (k : ∀ v, v.oneCell' = true → WPl P n W S (ob v l :: Γ) ((d, .tuple #[a, v, c]) :: F) ops os Q) (hx : evFs F xs vs := by first | exact evsA | fail) (hΔ : Provs Γ Δ := by first | exact provsA | fail) (hc : isCode P f = true := by first | kernel_rfl | fail) (hd : Nat.blt d n = true := by first | rfl | fail) (hw : wantG F ops gd = some true := by first | rfl | fail) :
    WPl P n W S Γ F ops (⟨some d, .call { callee := .value (.func f), args := xs.toArray, argTypes := ts }, ty, pos, af, gd⟩ :: os) Q :=
  WPl.call h hx hΔ hc hd hw fun v Γ' ⟨s, h1, h2, h3⟩ => by subst h1; subst h3; exact k s h2
theorem WPq.dR4 {fn : Func} {rs : List ResultVar} {v a b c : Value} {l : List UInt8} {Γx : List Asn} {ex : Exit} (he : ex = .ret ∨ ex = .normal := by first | exact .inl rfl | exact .inr rfl | fail) (hr : fn.results = rs.toArray := by first | rfl | fail) (h : ResF P Γ F rs [a, b, v, c] := by first | exact resA | fail) (hp : Take Γ (ob v l) Γx := by first | exact takeA | fail) (h1 : v.oneCell' = true := by first | rfl | assumption | fail) :
    WPq n W S Γ F (Done P fn W S (RRow4 a b l c)) ex :=
  WPq.done he hr h (.cons hp .nil) (fun A hA => by rw [List.mem_singleton.1 hA]; exact rowN_own) ⟨v, rfl, h1, rfl⟩
theorem WPq.dR3 {fn : Func} {rs : List ResultVar} {v a c : Value} {l : List UInt8} {Γx : List Asn} {ex : Exit} (he : ex = .ret ∨ ex = .normal := by first | exact .inl rfl | exact .inr rfl | fail) (hr : fn.results = rs.toArray := by first | rfl | fail) (h : ResF P Γ F rs [a, v, c] := by first | exact resA | fail) (hp : Take Γ (ob v l) Γx := by first | exact takeA | fail) (h1 : v.oneCell' = true := by first | rfl | assumption | fail) :
    WPq n W S Γ F (Done P fn W S (RRow3 a l c)) ex :=
  WPq.done he hr h (.cons hp .nil) (fun A hA => by rw [List.mem_singleton.1 hA]; exact rowN_own) ⟨v, rfl, h1, rfl⟩
end
def imK (b : List UInt8) (i : Nat) : Nat := if irE b = 0 then byteN (imM b) i else 0
def imR (b : List UInt8) : List UInt8 := if irE b = 0 then (imM b).drop 4 else []
theorem irE_len {b : List UInt8} (h : irE b = 0) : ihE b = 0 ∧ 4 ≤ (imM b).length := by
  have h0 : ihE b = 0 := by
    apply Classical.byContradiction
    intro hh
    unfold irE at h
    rw [if_neg hh] at h
    exact hh h
  refine ⟨h0, ?_⟩
  unfold irE at h
  rw [if_pos h0] at h
  unfold imE at h
  by_cases q1 : (phH b).proto.toNat ≠ (if (phH b).six then 58 else 1)
  · rw [if_pos q1] at h; omega
  · rw [if_neg q1] at h
    by_cases q2 : (imM b).length < 4
    · rw [if_pos q2] at h; omega
    · omega
attribute [local irreducible] phH phE ihE irE RRow4 RRow3
theorem Read36_t (vb : Value) (b : List UInt8) (hl : b.length ≤ 100000) : Triple Try.prog 87 #[vb] [rb vb b] (RRow4 (.int .u8 (imK b 0 : Nat)) (.int .u8 (imK b 1 : Nat)) (imR b) (.int .i64 (irE b))) := by
  have c1 := iread_t vb b hl
  by_cases he : irE b = 0
  · obtain ⟨i1, i2⟩ := irE_len he
    obtain ⟨p1, p2⟩ := ihE_pos i1
    obtain ⟨k, hk⟩ : ∃ k : Nat, (phH b).pos = (k : Int) := ⟨(phH b).pos.toNat, by omega⟩
    have hM : imM b = seg b k (b.length - k) := by unfold imM; rw [hk]; rfl
    have hkn : (phH b).pos.toNat = k := by rw [hk]; rfl
    have hkb : k ≤ b.length := by omega
    have hml : (seg b k (b.length - k)).length = b.length - k := by rw [seg_len]; omega
    rw [hM, hml] at i2
    have hR : imR b = seg (seg b k (b.length - k)) 4 ((seg b k (b.length - k)).length - 4) := by
      unfold imR; rw [if_pos he, hM]; unfold seg; rw [List.take_of_length_le (by simp)]
      rw [List.take_of_length_le (by simp; omega)]
    have hK : ∀ i, imK b i = ((seg b k (b.length - k)).getD i 0).toNat := fun i => by unfold imK; rw [if_pos he, hM]; rfl
    rw [hK, hK, hR, he]
    rw [he, if_pos rfl, hkn] at c1
    obtain ⟨X, hX⟩ : ∃ X, X = phH b := ⟨_, rfl⟩
    rw [← hX] at c1
    clear hX hK hR hM he i1 hk hkn
    have k1 := X.src.len
    have k2 := X.dst.len
    refine Triple.enter Try.func87 rfl Try.ntmps87 rfl (fun W => ?_)
    dsimp only [argsF, Nat.reduceAdd]
    refine WPc.nilRow 5 ?_
    repeat' (first
     | refine WPl.nil ?_ | refine WPq.then ?_ | refine WPq.thenR ?_ | refine WPq.thenE ?_ | refine WPq.blockN ?_ | refine WPq.blockR ?_ | refine WPq.blockE ?_ | refine WPq.blockO rfl ?_ | refine WPc.seq ?_ | refine WPc.block ?_ | refine WPc.ret ?_ | refine WPc.exit ?_ | refine WPc.skip ?_ | refine WPc.region ?_
     | (refine isReg 4 ?_; refine WPc.drA [([], [20, 21, 22, 23, 24, 25]), ([0], [17, 20, 21, 22, 23, 24, 25]), ([0, 1], [17, 18, 20, 21, 22, 23, 24, 25]), ([], [2, 17, 18, 19, 23, 24, 25]), ([3], [2, 17, 18, 19, 20, 23, 24, 25]), ([3, 4], [2, 17, 18, 19, 20, 21, 23, 24, 25]), ([], [17, 18, 19, 20, 21, 22]), ([6], [17, 18, 19, 20, 21, 22, 23]), ([6, 7], [17, 18, 19, 20, 21, 22, 23, 24]), ([0, 1, 2, 6, 7, 8], [17, 18, 19, 20, 21, 22, 23, 24, 25]), ([0, 1, 2, 3, 4, 5, 6, 7, 8, 9], [2, 17, 18, 19, 20, 21, 22, 23, 24, 25]), ([0, 1, 2, 3, 4, 5, 6, 7, 8, 9, 10], [2, 3, 17, 18, 19, 20, 21, 22, 23, 24, 25]), ([0, 1, 2, 3, 4, 5, 6, 7, 8, 9, 10, 11], [2, 3, 4, 17, 18, 19, 20, 21, 22, 23, 24, 25])] [] (Γx := []) ?_; dsimp only [prev0, List.length_nil, List.length_cons])
     | (refine gAny ?_; first | (refine gC 10 ?_; refine RGl.vl (fun e hk => OpT.callN (c1)) ?_) | (refine gOp ?_; refine gC 25 ?_; refine RGl.row (Γ1 := fun _ => []) (fun e hk => OpT.callN (clone_t (subv 1 (subv 1 vb k (b.length - k)) 4 ((seg b k (b.length - k)).length - 4)) (seg (seg b k (b.length - k)) 4 ((seg b k (b.length - k)).length - 4)) (by simp [seg_len]; omega)) (hΔ := by (try dsimp only [bndR, ensR, oksR, fcutR, List.append_nil, List.nil_append, List.cons_append, List.append_assoc]); exact Provs.cons (Prov.rd (HasS.subB (HasS.subB has0A (by omega)) (by omega))) Provs.nil)) ?_) | (refine gOp ?_; first | refine RGl.rdA ?_ | refine RGl.rdX (fun e hk => by (try dsimp only [bndR, ensR, oksR, fcutR, List.append_nil, List.nil_append, List.cons_append, List.append_assoc] at hk ⊢); exact readB) ?_) | (refine RGl.fin (fun e hk => ?_); (try dsimp only [bndA, ensAR, oksA, List.append_nil, List.nil_append, List.cons_append, List.append_assoc] at hk ⊢); (repeat (obtain ⟨hk1, hk⟩ := hk))) | fail)
     | (refine isCond ?_; first | refine WPc.cT ?_ | refine WPc.cF ?_ | (refine WPc.cQ (fun hc => ?_) (fun hc => ?_) <;> try exact prA))
     | (refine isC 10 ?_; refine WPl.cV (c1) ?_)
     | (refine isOp ?_; first | refine WPl.rd ?_ | refine WPl.sk ?_ | refine WPl.rdB ?_)
     | (refine isAl ?_; refine WPl.nw fun g => ?_)
     | (refine isSt ?_; first | refine WPl.st1 ?_ | refine WPl.stA ?_ | refine WPl.stEB ?_ | refine WPl.stRB ?_)
     | (refine WPl.spQ (fun hc => ?_) (fun hc => ?_) <;> try exact prA)
     | fail)
    all_goals try exact WPq.dR4
  · rw [show imK b 0 = 0 by unfold imK; rw [if_neg he], show imK b 1 = 0 by unfold imK; rw [if_neg he], show imR b = [] by unfold imR; rw [if_neg he]]
    rw [if_neg he] at c1
    obtain ⟨X, hX⟩ : ∃ X, X = phH b := ⟨_, rfl⟩
    obtain ⟨c, hc⟩ : ∃ c, c = irE b := ⟨_, rfl⟩
    rw [← hX, ← hc] at c1
    rw [← hc] at he ⊢
    clear hX hc
    have k1 := X.src.len
    have k2 := X.dst.len
    refine Triple.enter Try.func87 rfl Try.ntmps87 rfl (fun W => ?_)
    dsimp only [argsF, Nat.reduceAdd]
    refine WPc.nilRow 5 ?_
    repeat' (first
     | refine WPl.nil ?_ | refine WPq.then ?_ | refine WPq.thenR ?_ | refine WPq.thenE ?_ | refine WPq.blockN ?_ | refine WPq.blockR ?_ | refine WPq.blockE ?_ | refine WPq.blockO rfl ?_ | refine WPc.seq ?_ | refine WPc.block ?_ | refine WPc.ret ?_ | refine WPc.exit ?_ | refine WPc.skip ?_ | refine WPc.region ?_
     | (refine isReg 4 ?_; refine WPc.drA [([], [20, 21, 22, 23, 24, 25]), ([0], [17, 20, 21, 22, 23, 24, 25]), ([0, 1], [17, 18, 20, 21, 22, 23, 24, 25]), ([], [2, 17, 18, 19, 23, 24, 25]), ([3], [2, 17, 18, 19, 20, 23, 24, 25]), ([3, 4], [2, 17, 18, 19, 20, 21, 23, 24, 25]), ([], [17, 18, 19, 20, 21, 22]), ([6], [17, 18, 19, 20, 21, 22, 23]), ([6, 7], [17, 18, 19, 20, 21, 22, 23, 24]), ([0, 1, 2, 6, 7, 8], [17, 18, 19, 20, 21, 22, 23, 24, 25]), ([0, 1, 2, 3, 4, 5, 6, 7, 8, 9], [2, 17, 18, 19, 20, 21, 22, 23, 24, 25]), ([0, 1, 2, 3, 4, 5, 6, 7, 8, 9, 10], [2, 3, 17, 18, 19, 20, 21, 22, 23, 24, 25]), ([0, 1, 2, 3, 4, 5, 6, 7, 8, 9, 10, 11], [2, 3, 4, 17, 18, 19, 20, 21, 22, 23, 24, 25])] [] (Γx := []) ?_; dsimp only [prev0, List.length_nil, List.length_cons])
     | (refine gAny ?_; first | (refine gC 10 ?_; refine RGl.vl (fun e hk => OpT.callN (c1)) ?_) | (refine gOp ?_; first | refine RGl.rdA ?_ | refine RGl.rdX (fun e hk => by (try dsimp only [bndR, ensR, oksR, fcutR, List.append_nil, List.nil_append, List.cons_append, List.append_assoc] at hk ⊢); exact readB) ?_) | (refine RGl.fin (fun e hk => ?_); (try dsimp only [bndA, ensAR, oksA, List.append_nil, List.nil_append, List.cons_append, List.append_assoc] at hk ⊢); (repeat (obtain ⟨hk1, hk⟩ := hk))) | fail)
     | (refine isCond ?_; first | refine WPc.cT ?_ | refine WPc.cF ?_ | (refine WPc.cQ (fun hc => ?_) (fun hc => ?_) <;> try exact prA))
     | (refine isC 10 ?_; refine WPl.cV (c1) ?_)
     | (refine isOp ?_; first | refine WPl.rd ?_ | refine WPl.sk ?_ | refine WPl.rdB ?_)
     | (refine isAl ?_; refine WPl.nw fun g => ?_)
     | (refine isSt ?_; first | refine WPl.st1 ?_ | refine WPl.stA ?_ | refine WPl.stEB ?_ | refine WPl.stRB ?_)
     | (refine WPl.spQ (fun hc => ?_) (fun hc => ?_) <;> try exact prA)
     | fail)
    all_goals try exact WPq.dR4
end Go.Proofs.Yteofjhjhaaafjaa
