/- Layer 24 (tmpl): what its statements use beside: contracts and plain facts. -/
import Derived.Test.YteofjhjhaaafjaaTp
namespace Go.Proofs.Yteofjhjhaaafjaa
open Go.RowKit
set_option linter.unusedSimpArgs false
set_option linter.unusedVariables false
set_option maxRecDepth 20000
set_option maxHeartbeats 4000000
attribute [local irreducible] WPc WPl WPq ReadR OpT BinR HasS bx rdN rowN Take Takes Prov Triple ResF BuildP Done ag Int.decLt Int.decLe Int.instDecidableEq

theorem few_t (v : Value) (l : List UInt8) (m : Nat) (hm : m ≤ 1000000) : Triple Try.prog 25 #[v, .int .i64 m] [rb v l] (ROb (l.take m)) := by
  by_cases h : m < l.length
  · rw [show l.take m = nbs [] ++ seg l 0 m by simp [seg, nbs_nil]]
    refine Triple.enter Try.func25 rfl Try.ntmps25 rfl (fun W => ?_)
    dsimp only [argsF, Nat.reduceAdd]
    repeat' (first
     | refine WPl.nil ?_ | refine WPq.then ?_ | refine WPq.thenR ?_ | refine WPq.thenE ?_ | refine WPq.blockN ?_ | refine WPq.blockR ?_ | refine WPq.blockE ?_ | refine WPq.blockO rfl ?_ | refine WPc.seq ?_ | refine WPc.block ?_ | refine WPc.ret ?_ | refine WPc.exit ?_ | refine WPc.skip ?_ | refine WPc.region ?_
     | (refine isCond ?_; first | refine WPc.cT ?_ | refine WPc.cF ?_ | (refine WPc.cQ (fun hc => ?_) (fun hc => ?_) <;> try exact prA))
     | (refine isLit ?_; refine WPl.lit fun v hv => ?_)
     | (refine isApp ?_; refine WPl.app fun v hv => ?_)
     | (refine isOp ?_; first | refine WPl.rd ?_ | refine WPl.sk ?_ | refine WPl.rdB ?_)
     | (refine WPl.spQ (fun hc => ?_) (fun hc => ?_) <;> try exact prA)
     | fail)
    all_goals try (first | exact WPq.dV | exact WPq.dR | exact WPq.dR2 | exact WPq.dH | exact WPq.dBH | exact WPq.dT)
  · rw [show l.take m = nbs [] ++ l by rw [List.take_of_length_le (by omega), nbs_nil, List.nil_append]]
    refine Triple.enter Try.func25 rfl Try.ntmps25 rfl (fun W => ?_)
    dsimp only [argsF, Nat.reduceAdd]
    repeat' (first
     | refine WPl.nil ?_ | refine WPq.then ?_ | refine WPq.thenR ?_ | refine WPq.thenE ?_ | refine WPq.blockN ?_ | refine WPq.blockR ?_ | refine WPq.blockE ?_ | refine WPq.blockO rfl ?_ | refine WPc.seq ?_ | refine WPc.block ?_ | refine WPc.ret ?_ | refine WPc.exit ?_ | refine WPc.skip ?_ | refine WPc.region ?_
     | (refine isCond ?_; first | refine WPc.cT ?_ | refine WPc.cF ?_ | (refine WPc.cQ (fun hc => ?_) (fun hc => ?_) <;> try exact prA))
     | (refine isLit ?_; refine WPl.lit fun v hv => ?_)
     | (refine isApp ?_; refine WPl.app fun v hv => ?_)
     | (refine isOp ?_; first | refine WPl.rd ?_ | refine WPl.sk ?_ | refine WPl.rdB ?_)
     | (refine WPl.spQ (fun hc => ?_) (fun hc => ?_) <;> try exact prA)
     | fail)
    all_goals try (first | exact WPq.dV | exact WPq.dR | exact WPq.dR2 | exact WPq.dH | exact WPq.dBH | exact WPq.dT)
def cmpL : List UInt8 → List UInt8 → Int
  | a :: l, b :: k => if a = b then cmpL l k else ((a.toNat : Nat) : Int) - (b.toNat : Nat)
  | l, k => (l.length : Int) - k.length
theorem cmpL_step {l k : List UInt8} {i : Nat} (h1 : i < l.length) (h2 : i < k.length) : cmpL (l.drop i) (k.drop i) = if l.getD i 0 = k.getD i 0 then cmpL (l.drop (i + 1)) (k.drop (i + 1)) else (((l.getD i 0).toNat : Nat) : Int) - ((k.getD i 0).toNat : Nat) := by
  rw [List.drop_eq_getElem_cons h1, List.drop_eq_getElem_cons h2]
  simp [cmpL, List.getD_eq_getElem?_getD, List.getElem?_eq_getElem h1, List.getElem?_eq_getElem h2]
theorem cmpL_end {l k : List UInt8} {i : Nat} (h : l.length ≤ i ∨ k.length ≤ i) (h1 : i ≤ l.length) (h2 : i ≤ k.length) : cmpL (l.drop i) (k.drop i) = (l.length : Int) - k.length := by
  rcases h with h | h
  · rw [List.drop_of_length_le h]; simp only [cmpL, List.length_nil, List.length_drop]; omega
  · rw [List.drop_of_length_le (l := k) h]
    cases hl : l.drop i with
    | nil => have := congrArg List.length hl; simp at this; simp [cmpL]; omega
    | cons a t => have := congrArg List.length hl; simp at this; simp [cmpL]; omega
theorem cmp_t (v u : Value) (l k : List UInt8) (hl : l.length ≤ 1000000) (hk : k.length ≤ 1000000) : Triple Try.prog 24 #[v, u] [rb v l, rb u k] (RVal (.int .i64 (cmpL l k))) := by
  refine Triple.enter Try.func24 rfl Try.ntmps24 rfl (fun W => ?_)
  dsimp only [argsF, Nat.reduceAdd]
  repeat' (first
   | refine WPl.nil ?_ | refine WPq.then ?_ | refine WPq.thenR ?_ | refine WPq.thenE ?_ | refine WPq.blockN ?_ | refine WPq.blockR ?_ | refine WPq.blockE ?_ | refine WPq.blockO rfl ?_ | refine WPc.seq ?_ | refine WPc.block ?_ | refine WPc.ret ?_ | refine WPc.exit ?_ | refine WPc.skip ?_ | refine WPc.region ?_
   | (refine isReg 4 ?_; refine WPc.drA [([], [19, 22, 23, 24, 25]), ([], [18, 22, 23, 24, 25]), ([0, 1], [18, 19, 22, 23, 24, 25]), ([0, 1, 2], [18, 19, 20, 22, 23, 24, 25]), ([], [18, 19, 20, 21, 23]), ([], [18, 19, 20, 21, 22]), ([4, 5], [18, 19, 20, 21, 22, 23]), ([4, 5, 6], [18, 19, 20, 21, 22, 23, 24]), ([0, 1, 2, 3, 4, 5, 6, 7], [18, 19, 20, 21, 22, 23, 24, 25])] [] (Γx := []) ?_; dsimp only [prev0, List.length_nil, List.length_cons])
   | (refine isReg 5 ?_; refine WPc.drA [([], [28, 32, 33, 34, 35, 36]), ([], [27, 32, 33, 34, 35, 36]), ([0, 1], [27, 28, 32, 33, 34, 35, 36]), ([0, 1, 2], [27, 28, 29, 32, 33, 34, 35, 36]), ([0, 1, 2, 3], [27, 28, 29, 30, 32, 33, 34, 35, 36]), ([], [27, 28, 29, 30, 31, 33]), ([], [27, 28, 29, 30, 31, 32]), ([5, 6], [27, 28, 29, 30, 31, 32, 33]), ([5, 6, 7], [27, 28, 29, 30, 31, 32, 33, 34]), ([5, 6, 7, 8], [27, 28, 29, 30, 31, 32, 33, 34, 35]), ([0, 1, 2, 3, 4, 5, 6, 7, 8, 9], [27, 28, 29, 30, 31, 32, 33, 34, 35, 36]), ([0, 1, 2, 3, 4, 5, 6, 7, 8, 9, 10], [27, 28, 29, 30, 31, 32, 33, 34, 35, 36, 37])] [] (Γx := []) ?_; dsimp only [prev0, List.length_nil, List.length_cons])
   | (refine gAny ?_; first | (refine gOp ?_; first | refine RGl.rdA ?_ | refine RGl.rdX (fun e hk => by (try dsimp only [bndR, ensR, oksR, fcutR, List.append_nil, List.nil_append, List.cons_append, List.append_assoc] at hk ⊢); exact readB) ?_) | (refine RGl.fin (fun e hk => ?_); (try dsimp only [bndA, ensAR, oksA, List.append_nil, List.nil_append, List.cons_append, List.append_assoc] at hk ⊢); (repeat (obtain ⟨hk1, hk⟩ := hk))) | fail)
   | (refine isCond ?_; first | refine WPc.cT ?_ | refine WPc.cF ?_)
   | (refine isOp ?_; first | refine WPl.rd ?_ | refine WPl.sk ?_ | refine WPl.rdB ?_)
   | fail)
  first | refine WPc.loop (σ := Nat) (fun i => i ≤ l.length ∧ i ≤ k.length ∧ cmpL l k = cmpL (l.drop i) (k.drop i)) (fun i => [rb v l, rb u k]) (fun i => [(0, v), (1, u), (5, .int .i64 i)]) (fun i => l.length - i) (0) ?_ takesA frsA (fun st km hx hk => ?_)
  · exact ⟨Nat.zero_le _, Nat.zero_le _, rfl⟩
  obtain ⟨i, rfl⟩ : ∃ i, i = st := ⟨_, rfl⟩
  obtain ⟨h1, h2, he⟩ := hx
  by_cases hlt : i < l.length ∧ i < k.length
  · obtain ⟨g1, g2⟩ := hlt
    have hs := cmpL_step g1 g2
    have b1 := (l.getD i 0).toNat_lt
    have b2 := (k.getD i 0).toNat_lt
    by_cases e : (l.getD i 0).toNat = (k.getD i 0).toNat
    · rw [if_pos (UInt8.toNat_inj.1 e)] at hs
      repeat' (first
       | refine WPl.nil ?_ | refine WPq.then ?_ | refine WPq.thenR ?_ | refine WPq.thenE ?_ | refine WPq.blockN ?_ | refine WPq.blockR ?_ | refine WPq.blockE ?_ | refine WPq.blockO rfl ?_ | refine WPc.seq ?_ | refine WPc.block ?_ | refine WPc.ret ?_ | refine WPc.exit ?_ | refine WPc.skip ?_ | refine WPc.region ?_
       | (refine isReg 4 ?_; refine WPc.drA [([], [19, 22, 23, 24, 25]), ([], [18, 22, 23, 24, 25]), ([0, 1], [18, 19, 22, 23, 24, 25]), ([0, 1, 2], [18, 19, 20, 22, 23, 24, 25]), ([], [18, 19, 20, 21, 23]), ([], [18, 19, 20, 21, 22]), ([4, 5], [18, 19, 20, 21, 22, 23]), ([4, 5, 6], [18, 19, 20, 21, 22, 23, 24]), ([0, 1, 2, 3, 4, 5, 6, 7], [18, 19, 20, 21, 22, 23, 24, 25])] [] (Γx := []) ?_; dsimp only [prev0, List.length_nil, List.length_cons])
       | (refine isReg 5 ?_; refine WPc.drA [([], [28, 32, 33, 34, 35, 36]), ([], [27, 32, 33, 34, 35, 36]), ([0, 1], [27, 28, 32, 33, 34, 35, 36]), ([0, 1, 2], [27, 28, 29, 32, 33, 34, 35, 36]), ([0, 1, 2, 3], [27, 28, 29, 30, 32, 33, 34, 35, 36]), ([], [27, 28, 29, 30, 31, 33]), ([], [27, 28, 29, 30, 31, 32]), ([5, 6], [27, 28, 29, 30, 31, 32, 33]), ([5, 6, 7], [27, 28, 29, 30, 31, 32, 33, 34]), ([5, 6, 7, 8], [27, 28, 29, 30, 31, 32, 33, 34, 35]), ([0, 1, 2, 3, 4, 5, 6, 7, 8, 9], [27, 28, 29, 30, 31, 32, 33, 34, 35, 36]), ([0, 1, 2, 3, 4, 5, 6, 7, 8, 9, 10], [27, 28, 29, 30, 31, 32, 33, 34, 35, 36, 37])] [] (Γx := []) ?_; dsimp only [prev0, List.length_nil, List.length_cons])
       | (refine gAny ?_; first | (refine gOp ?_; first | refine RGl.rdA ?_ | refine RGl.rdX (fun e hk => by (try dsimp only [bndR, ensR, oksR, fcutR, List.append_nil, List.nil_append, List.cons_append, List.append_assoc] at hk ⊢); exact readB) ?_) | (refine RGl.fin (fun e hk => ?_); (try dsimp only [bndA, ensAR, oksA, List.append_nil, List.nil_append, List.cons_append, List.append_assoc] at hk ⊢); (repeat (obtain ⟨hk1, hk⟩ := hk))) | fail)
       | (refine isCond ?_; first | refine WPc.cT ?_ | refine WPc.cF ?_ | (refine WPc.cQ (fun hc => ?_) (fun hc => ?_) <;> try exact prA))
       | (refine isOp ?_; first | refine WPl.rd ?_ | refine WPl.sk ?_ | refine WPl.rdB ?_)
       | (refine WPl.spQ (fun hc => ?_) (fun hc => ?_) <;> try exact prA)
       | fail)
      exact WPq.rnd (i + 1) ⟨by omega, by omega, he.trans hs⟩ (by omega)
    · rw [if_neg (fun h => e (by rw [h]))] at hs
      repeat' (first
       | refine WPl.nil ?_ | refine WPq.then ?_ | refine WPq.thenR ?_ | refine WPq.thenE ?_ | refine WPq.blockN ?_ | refine WPq.blockR ?_ | refine WPq.blockE ?_ | refine WPq.blockO rfl ?_ | refine WPc.seq ?_ | refine WPc.block ?_ | refine WPc.ret ?_ | refine WPc.exit ?_ | refine WPc.skip ?_ | refine WPc.region ?_
       | (refine isReg 4 ?_; refine WPc.drA [([], [19, 22, 23, 24, 25]), ([], [18, 22, 23, 24, 25]), ([0, 1], [18, 19, 22, 23, 24, 25]), ([0, 1, 2], [18, 19, 20, 22, 23, 24, 25]), ([], [18, 19, 20, 21, 23]), ([], [18, 19, 20, 21, 22]), ([4, 5], [18, 19, 20, 21, 22, 23]), ([4, 5, 6], [18, 19, 20, 21, 22, 23, 24]), ([0, 1, 2, 3, 4, 5, 6, 7], [18, 19, 20, 21, 22, 23, 24, 25])] [] (Γx := []) ?_; dsimp only [prev0, List.length_nil, List.length_cons])
       | (refine isReg 5 ?_; refine WPc.drA [([], [28, 32, 33, 34, 35, 36]), ([], [27, 32, 33, 34, 35, 36]), ([0, 1], [27, 28, 32, 33, 34, 35, 36]), ([0, 1, 2], [27, 28, 29, 32, 33, 34, 35, 36]), ([0, 1, 2, 3], [27, 28, 29, 30, 32, 33, 34, 35, 36]), ([], [27, 28, 29, 30, 31, 33]), ([], [27, 28, 29, 30, 31, 32]), ([5, 6], [27, 28, 29, 30, 31, 32, 33]), ([5, 6, 7], [27, 28, 29, 30, 31, 32, 33, 34]), ([5, 6, 7, 8], [27, 28, 29, 30, 31, 32, 33, 34, 35]), ([0, 1, 2, 3, 4, 5, 6, 7, 8, 9], [27, 28, 29, 30, 31, 32, 33, 34, 35, 36]), ([0, 1, 2, 3, 4, 5, 6, 7, 8, 9, 10], [27, 28, 29, 30, 31, 32, 33, 34, 35, 36, 37])] [] (Γx := []) ?_; dsimp only [prev0, List.length_nil, List.length_cons])
       | (refine gAny ?_; first | (refine gOp ?_; first | refine RGl.rdA ?_ | refine RGl.rdX (fun e hk => by (try dsimp only [bndR, ensR, oksR, fcutR, List.append_nil, List.nil_append, List.cons_append, List.append_assoc] at hk ⊢); exact readB) ?_) | (refine RGl.fin (fun e hk => ?_); (try dsimp only [bndA, ensAR, oksA, List.append_nil, List.nil_append, List.cons_append, List.append_assoc] at hk ⊢); (repeat (obtain ⟨hk1, hk⟩ := hk))) | fail)
       | (refine isCond ?_; first | refine WPc.cT ?_ | refine WPc.cF ?_ | (refine WPc.cQ (fun hc => ?_) (fun hc => ?_) <;> try exact prA))
       | (refine isOp ?_; first | refine WPl.rd ?_ | refine WPl.sk ?_ | refine WPl.rdB ?_)
       | (refine WPl.spQ (fun hc => ?_) (fun hc => ?_) <;> try exact prA)
       | fail)
      exact WPq.dV (hc := by rw [he, hs]; rfl)
  · have hs := cmpL_end (l := l) (k := k) (i := i) (by omega) h1 h2
    repeat' (first
     | refine WPl.nil ?_ | refine WPq.then ?_ | refine WPq.thenR ?_ | refine WPq.thenE ?_ | refine WPq.blockN ?_ | refine WPq.blockR ?_ | refine WPq.blockE ?_ | refine WPq.blockO rfl ?_ | refine WPc.seq ?_ | refine WPc.block ?_ | refine WPc.ret ?_ | refine WPc.exit ?_ | refine WPc.skip ?_ | refine WPc.region ?_
     | (refine isReg 4 ?_; refine WPc.drA [([], [19, 22, 23, 24, 25]), ([], [18, 22, 23, 24, 25]), ([0, 1], [18, 19, 22, 23, 24, 25]), ([0, 1, 2], [18, 19, 20, 22, 23, 24, 25]), ([], [18, 19, 20, 21, 23]), ([], [18, 19, 20, 21, 22]), ([4, 5], [18, 19, 20, 21, 22, 23]), ([4, 5, 6], [18, 19, 20, 21, 22, 23, 24]), ([0, 1, 2, 3, 4, 5, 6, 7], [18, 19, 20, 21, 22, 23, 24, 25])] [] (Γx := []) ?_; dsimp only [prev0, List.length_nil, List.length_cons])
     | (refine isReg 5 ?_; refine WPc.drA [([], [28, 32, 33, 34, 35, 36]), ([], [27, 32, 33, 34, 35, 36]), ([0, 1], [27, 28, 32, 33, 34, 35, 36]), ([0, 1, 2], [27, 28, 29, 32, 33, 34, 35, 36]), ([0, 1, 2, 3], [27, 28, 29, 30, 32, 33, 34, 35, 36]), ([], [27, 28, 29, 30, 31, 33]), ([], [27, 28, 29, 30, 31, 32]), ([5, 6], [27, 28, 29, 30, 31, 32, 33]), ([5, 6, 7], [27, 28, 29, 30, 31, 32, 33, 34]), ([5, 6, 7, 8], [27, 28, 29, 30, 31, 32, 33, 34, 35]), ([0, 1, 2, 3, 4, 5, 6, 7, 8, 9], [27, 28, 29, 30, 31, 32, 33, 34, 35, 36]), ([0, 1, 2, 3, 4, 5, 6, 7, 8, 9, 10], [27, 28, 29, 30, 31, 32, 33, 34, 35, 36, 37])] [] (Γx := []) ?_; dsimp only [prev0, List.length_nil, List.length_cons])
     | (refine gAny ?_; first | (refine gOp ?_; first | refine RGl.rdA ?_ | refine RGl.rdX (fun e hk => by (try dsimp only [bndR, ensR, oksR, fcutR, List.append_nil, List.nil_append, List.cons_append, List.append_assoc] at hk ⊢); exact readB) ?_) | (refine RGl.fin (fun e hk => ?_); (try dsimp only [bndA, ensAR, oksA, List.append_nil, List.nil_append, List.cons_append, List.append_assoc] at hk ⊢); (repeat (obtain ⟨hk1, hk⟩ := hk))) | fail)
     | (refine isCond ?_; first | refine WPc.cT ?_ | refine WPc.cF ?_ | (refine WPc.cQ (fun hc => ?_) (fun hc => ?_) <;> try exact prA))
     | (refine isOp ?_; first | refine WPl.rd ?_ | refine WPl.sk ?_ | refine WPl.rdB ?_)
     | (refine WPl.spQ (fun hc => ?_) (fun hc => ?_) <;> try exact prA)
     | fail)
    all_goals exact WPq.dV (hc := by rw [he, hs]; rfl)
theorem be2 (x : Nat) : be x 2 = [UInt8.ofNat (x / 256), UInt8.ofNat x] := by simp [be]
theorem Adr.ext_bytes {a c : Adr} (h6 : a.six = c.six) (hb : a.bytes = c.bytes) (ha : a.good = true) (hc : c.good = true) : a = c := by
  refine Adr.ext h6 ?_
  cases h : a.six with
  | true =>
    have h' : c.six = true := h6 ▸ h
    simpa [Adr.bytes, h, h'] using hb
  | false =>
    have h' : c.six = false := h6 ▸ h
    have key : ∀ d : Adr, d.six = false → d.good = true → d.b = List.replicate 12 0 ++ seg d.b 12 4 := by
      intro d hd hg
      simp only [Adr.good, hd, Bool.false_or, decide_eq_true_eq] at hg
      rw [← hg]
      have hl := d.len
      simp only [seg, List.drop_zero]
      rw [List.take_of_length_le (l := List.drop 12 d.b) (by simp [hl]), List.take_append_drop]
    rw [key a h ha, key c h' hc]
    simp only [Adr.bytes, h, h', Bool.false_eq_true, if_false] at hb
    rw [hb]
theorem keyOk_nat {s : Int} {a : Adr} {n : Int} (h : keyOk s a n = true) : ∃ m k : Nat, s = m ∧ n = k ∧ m ≤ 65535 ∧ k ≤ 128 ∧ a.good = true := by
  simp only [keyOk, Bool.and_eq_true] at h
  obtain ⟨m, rfl, hm⟩ := idB_nat h.2
  have hok := h.1.1
  simp only [Adr.maskOk, Bool.and_eq_true, decide_eq_true_eq] at hok
  obtain ⟨k, rfl⟩ := Int.eq_ofNat_of_zero_le hok.2.1
  exact ⟨m, k, rfl, rfl, hm, by have := hok.2.2; unfold Adr.bits at this; split at this <;> omega, hok.1⟩
theorem keyL_inj {s s' : Int} {a a' : Adr} {n n' : Int} (h : keyOk s a n = true) (h' : keyOk s' a' n' = true) : keyL s a n = keyL s' a' n' ↔ s = s' ∧ a = a' ∧ n = n' := by
  rw [keyL_yes h, keyL_yes h']
  obtain ⟨m, k, rfl, rfl, hm, hk, hg⟩ := keyOk_nat h
  obtain ⟨m', k', rfl, rfl, hm', hk', hg'⟩ := keyOk_nat h'
  constructor
  · intro e
    simp only [Int.toNat_natCast, keyB] at e
    obtain ⟨e1, e2⟩ := List.append_inj e (by rw [be_length, be_length])
    have v1 := congrArg val e1
    rw [val_be, val_be] at v1
    have e6 : a.six = a'.six := by
      have := (List.cons.inj e2).1
      revert this
      cases a.six <;> cases a'.six <;> decide
    have ek := (List.cons.inj (List.cons.inj e2).2).1
    have eb := (List.cons.inj (List.cons.inj e2).2).2
    have ek' := congrArg UInt8.toNat ek
    rw [u8_of, u8_of] at ek'
    exact ⟨by omega, Adr.ext_bytes e6 eb hg hg', by omega⟩
  · rintro ⟨h1, rfl, h3⟩
    rw [Int.ofNat_inj.1 h1, Int.ofNat_inj.1 h3]
theorem cmpL_be (x y : Nat) (l : List UInt8) (hx : x ≤ 65535) (hy : y ≤ 65535) : (0 ≤ cmpL (be x 2 ++ l) (be y 2) ↔ y ≤ x) := by
  have t1 : (UInt8.ofNat (x / 256)).toNat = x / 256 := by rw [u8_of]; omega
  have t2 : (UInt8.ofNat (y / 256)).toNat = y / 256 := by rw [u8_of]; omega
  have t3 := u8_of x
  have t4 := u8_of y
  rw [be2, be2]
  simp only [List.cons_append, List.nil_append, cmpL]
  by_cases h1 : UInt8.ofNat (x / 256) = UInt8.ofNat (y / 256)
  · rw [if_pos h1]
    have h1' := congrArg UInt8.toNat h1
    by_cases h2 : UInt8.ofNat x = UInt8.ofNat y
    · rw [if_pos h2]
      have h2' := congrArg UInt8.toNat h2
      cases l <;> simp only [cmpL, List.length_nil, List.length_cons] <;> omega
    · rw [if_neg h2]
      have h2' : ¬ (UInt8.ofNat x).toNat = (UInt8.ofNat y).toNat := fun h => h2 (UInt8.toNat_inj.1 h)
      omega
  · rw [if_neg h1]
    have h1' : ¬ (UInt8.ofNat (x / 256)).toNat = (UInt8.ofNat (y / 256)).toNat := fun h => h1 (UInt8.toNat_inj.1 h)
    omega
theorem tlives_t : Triple Try.prog 22 #[] [] (RVal (.bool true)) := by
  have hk : keyOk 1 ⟨false, [0, 0, 0, 0, 0, 0, 0, 0, 0, 0, 0, 0, 10, 0, 0, 0], rfl⟩ 8 = true := by decide +kernel
  have hl : keyL 1 ⟨false, [0, 0, 0, 0, 0, 0, 0, 0, 0, 0, 0, 0, 10, 0, 0, 0], rfl⟩ 8 = [0, 1, 4, 8, 10, 0, 0, 0] := by decide +kernel
  have hkt := key_t 1 ⟨false, [0, 0, 0, 0, 0, 0, 0, 0, 0, 0, 0, 0, 10, 0, 0, 0], rfl⟩ 8 (by omega) (by omega)
  rw [hk, hl] at hkt
  have hs : ((strU [0, 1, 4, 8, 10, 0, 0, 0]).toList == (ByteArray.mk #[0, 1, 4, 8, 10, 0, 0, 0]).toList) = true := by rw [strU_toList, ba_toList]; rfl
  refine Triple.enter Try.func22 rfl Try.ntmps22 rfl (fun W => ?_)
  dsimp only [argsF, Nat.reduceAdd]
  repeat' (first
   | refine WPl.nil ?_ | refine WPq.then ?_ | refine WPq.thenR ?_ | refine WPq.thenE ?_ | refine WPq.blockN ?_ | refine WPq.blockR ?_ | refine WPq.blockE ?_ | refine WPq.blockO rfl ?_ | refine WPc.seq ?_ | refine WPc.block ?_ | refine WPc.ret ?_ | refine WPc.exit ?_ | refine WPc.skip ?_ | refine WPc.region ?_
   | (refine isCond ?_; first | refine WPc.cT ?_ | refine WPc.cF ?_ | (refine WPc.cQ (fun hc => ?_) (fun hc => ?_) <;> try exact prA))
   | (refine isCl ?_; refine WPl.cR2 (hkt) fun v hv => ?_)
   | (show WPl _ _ _ _ _ _ _ (⟨_, .binOp .eql _ _ _ _, _, _, _, _⟩ :: _) _; refine WPl.rdX (ReadR.binE rfl rfl BinR.strE (congrArg Value.bool hs)) ?_)
   | (refine isOp ?_; first | refine WPl.rd ?_ | refine WPl.sk ?_ | refine WPl.rdB ?_)
   | (refine WPl.spQ (fun hc => ?_) (fun hc => ?_) <;> try exact prA)
   | fail)
  all_goals try (first | exact WPq.dV | exact WPq.dR | exact WPq.dR2 | exact WPq.dH | exact WPq.dBH | exact WPq.dT)
end Go.Proofs.Yteofjhjhaaafjaa
