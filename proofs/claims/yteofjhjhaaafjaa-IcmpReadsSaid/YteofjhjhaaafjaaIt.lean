/- Layer 14 (ipsix): all heads between: contracts. -/
import Derived.Test.YteofjhjhaaafjaaIs
namespace Go.Proofs.Yteofjhjhaaafjaa
open Go.RowKit
set_option linter.unusedSimpArgs false
set_option linter.unusedVariables false
set_option maxRecDepth 20000
set_option maxHeartbeats 4000000
attribute [local irreducible] WPc WPl WPq ReadR OpT BinR HasS bx rdN rowN Take Takes Prov Triple ResF BuildP Done ag Int.decLt Int.decLe Int.instDecidableEq

def xall (b : List UInt8) : Nat → XS → Int × XS
  | 0, s => if btw s.proto then (10, s) else (0, s)
  | m + 1, s => if btw s.proto then (if s.proto.toNat = 0 ∧ m + 1 < 8 then (4, s) else if xbad b s then (9, s) else xall b m (xnext b s)) else (0, s)
theorem xall_no {b : List UInt8} {m : Nat} {s : XS} (h : btw s.proto = false) : xall b m s = (0, s) := by cases m <;> simp [xall, h]
theorem xall_end {b : List UInt8} {s : XS} (h : btw s.proto = true) : xall b 0 s = (10, s) := by simp [xall, h]
theorem xall_form {b : List UInt8} {m : Nat} {s : XS} (h : btw s.proto = true) (h0 : s.proto.toNat = 0) (hm : m + 1 < 8) : xall b (m + 1) s = (4, s) := by
  simp only [xall]; rw [if_pos h, if_pos ⟨h0, hm⟩]
theorem xall_bad {b : List UInt8} {m : Nat} {s : XS} (h : btw s.proto = true) (h0 : ¬ (s.proto.toNat = 0 ∧ m + 1 < 8)) (hb : xbad b s = true) : xall b (m + 1) s = (9, s) := by
  simp only [xall]; rw [if_pos h, if_neg h0, if_pos hb]
theorem xall_next {b : List UInt8} {m : Nat} {s : XS} (h : btw s.proto = true) (h0 : ¬ (s.proto.toNat = 0 ∧ m + 1 < 8)) (hb : xbad b s = false) : xall b (m + 1) s = xall b m (xnext b s) := by
  simp only [xall]; rw [if_pos h, if_neg h0, if_neg (by rw [hb]; decide)]
theorem xnext_pos {b : List UInt8} {s : XS} (hs : s.pos ≤ b.length) (hb : xbad b s = false) : (xnext b s).pos ≤ b.length := by
  simp only [xbad, Bool.or_eq_false_iff, decide_eq_false_iff_not] at hb
  have hl := rest_len b s.pos
  simp only [xnext]
  omega
theorem all_t (g : Nat) (h : Hd) (s0 : XS) (v : Value) (b : List UInt8) (hs0 : s0.pos ≤ b.length) (hl : b.length ≤ 100000) :
    Triple Try.prog 75 #[.pointer (some ⟨g, 0, none⟩)] ([rb v b] ++ [bx g 104 (wkc h s0 v)]) (RTurn (.int .i64 (xall b 8 s0).1) (bx g 104 (wkc h (xall b 8 s0).2 v))) := by
  have l1 := h.src.len
  have l2 := h.dst.len
  refine Triple.enter Try.func75 rfl Try.ntmps75 rfl (fun W => ?_)
  dsimp only [argsF, Nat.reduceAdd]
  repeat' (first
   | refine WPl.nil ?_ | refine WPq.then ?_ | refine WPq.thenR ?_ | refine WPq.thenE ?_ | refine WPq.blockN ?_ | refine WPq.blockR ?_ | refine WPq.blockE ?_ | refine WPq.blockO rfl ?_ | refine WPc.seq ?_ | refine WPc.block ?_ | refine WPc.ret ?_ | refine WPc.exit ?_ | refine WPc.skip ?_ | refine WPc.region ?_
   | (refine isCond ?_; first | refine WPc.cT ?_ | refine WPc.cF ?_)
   | (refine isOp ?_; first | refine WPl.rd ?_ | refine WPl.sk ?_ | refine WPl.rdB ?_)
   | fail)
  first | refine WPc.loop (σ := Nat × XS) (fun p => p.1 ≤ 8 ∧ p.2.pos ≤ b.length ∧ xall b 8 s0 = xall b (8 - p.1) p.2) (fun p => [bx g 104 (wkc h p.2 v), rb v b]) (fun p => [(0, .pointer (some ⟨g, 0, none⟩)), (3, .int .i64 p.1)]) (fun p => 8 - p.1) ((0, s0)) ?_ takesA frsA (fun st km hx hk => ?_)
  · exact ⟨by omega, hs0, rfl⟩
  obtain ⟨i, s⟩ := st
  dsimp only at hx hk ⊢
  obtain ⟨hi, hs, he⟩ := hx
  have hpt := pass_t g h s v b hs hl
  have hbt := btw_t s.proto
  rw [he]
  cases hb : btw s.proto with
  | false =>
    rw [hb] at hbt
    rw [xall_no hb]
    repeat' (first
     | refine WPl.nil ?_ | refine WPq.then ?_ | refine WPq.thenR ?_ | refine WPq.thenE ?_ | refine WPq.blockN ?_ | refine WPq.blockR ?_ | refine WPq.blockE ?_ | refine WPq.blockO rfl ?_ | refine WPc.seq ?_ | refine WPc.block ?_ | refine WPc.ret ?_ | refine WPc.exit ?_ | refine WPc.skip ?_ | refine WPc.region ?_
     | (refine isCond ?_; first | refine WPc.cT ?_ | refine WPc.cF ?_ | (refine WPc.cQ (fun hc => ?_) (fun hc => ?_) <;> try exact prA))
     | (refine isC 10 ?_; refine WPl.cV (hbt) ?_)
     | (refine isOp ?_; first | refine WPl.rd ?_ | refine WPl.sk ?_ | refine WPl.rdB ?_)
     | (refine WPl.spQ (fun hc => ?_) (fun hc => ?_) <;> try exact prA)
     | fail)
    all_goals try (first | exact WPq.dV | exact WPq.dR | exact WPq.dR2 | exact WPq.dH | exact WPq.dBH | exact WPq.dT)
  | true =>
    rw [hb] at hbt
    by_cases h8 : i = 8
    · subst h8
      rw [Nat.sub_self, xall_end hb]
      repeat' (first
       | refine WPl.nil ?_ | refine WPq.then ?_ | refine WPq.thenR ?_ | refine WPq.thenE ?_ | refine WPq.blockN ?_ | refine WPq.blockR ?_ | refine WPq.blockE ?_ | refine WPq.blockO rfl ?_ | refine WPc.seq ?_ | refine WPc.block ?_ | refine WPc.ret ?_ | refine WPc.exit ?_ | refine WPc.skip ?_ | refine WPc.region ?_
       | (refine isCond ?_; first | refine WPc.cT ?_ | refine WPc.cF ?_ | (refine WPc.cQ (fun hc => ?_) (fun hc => ?_) <;> try exact prA))
       | (refine isC 10 ?_; refine WPl.cV (hbt) ?_)
       | (refine isOp ?_; first | refine WPl.rd ?_ | refine WPl.sk ?_ | refine WPl.rdB ?_)
       | (refine WPl.spQ (fun hc => ?_) (fun hc => ?_) <;> try exact prA)
       | fail)
      all_goals try (first | exact WPq.dV | exact WPq.dR | exact WPq.dR2 | exact WPq.dH | exact WPq.dBH | exact WPq.dT)
    · obtain ⟨m, hm⟩ : ∃ m, 8 - i = m + 1 := ⟨7 - i, by omega⟩
      rw [hm]
      by_cases h0 : s.proto.toNat = 0 ∧ m + 1 < 8
      · obtain ⟨h0, h1⟩ := h0
        rw [xall_form hb h0 h1]
        repeat' (first
         | refine WPl.nil ?_ | refine WPq.then ?_ | refine WPq.thenR ?_ | refine WPq.thenE ?_ | refine WPq.blockN ?_ | refine WPq.blockR ?_ | refine WPq.blockE ?_ | refine WPq.blockO rfl ?_ | refine WPc.seq ?_ | refine WPc.block ?_ | refine WPc.ret ?_ | refine WPc.exit ?_ | refine WPc.skip ?_ | refine WPc.region ?_
         | (refine isCond ?_; first | refine WPc.cT ?_ | refine WPc.cF ?_ | (refine WPc.cQ (fun hc => ?_) (fun hc => ?_) <;> try exact prA))
         | (refine isC 10 ?_; refine WPl.cV (hbt) ?_)
         | (refine isOp ?_; first | refine WPl.rd ?_ | refine WPl.sk ?_ | refine WPl.rdB ?_)
         | (refine WPl.spQ (fun hc => ?_) (fun hc => ?_) <;> try exact prA)
         | fail)
        all_goals try (first | exact WPq.dV | exact WPq.dR | exact WPq.dR2 | exact WPq.dH | exact WPq.dBH | exact WPq.dT)
      · cases hbad : xbad b s with
        | true =>
          rw [hbad, if_pos rfl, xstep, if_pos hbad] at hpt
          rw [xall_bad hb h0 hbad]
          repeat' (first
           | refine WPl.nil ?_ | refine WPq.then ?_ | refine WPq.thenR ?_ | refine WPq.thenE ?_ | refine WPq.blockN ?_ | refine WPq.blockR ?_ | refine WPq.blockE ?_ | refine WPq.blockO rfl ?_ | refine WPc.seq ?_ | refine WPc.block ?_ | refine WPc.ret ?_ | refine WPc.exit ?_ | refine WPc.skip ?_ | refine WPc.region ?_
           | (refine isCond ?_; first | refine WPc.cT ?_ | refine WPc.cF ?_ | (refine WPc.cQ (fun hc => ?_) (fun hc => ?_) <;> try exact prA))
           | (refine isC 10 ?_; refine WPl.cV (hbt) ?_)
           | (refine isC 28 ?_; refine WPl.cT (hpt) ?_)
           | (refine isOp ?_; first | refine WPl.rd ?_ | refine WPl.sk ?_ | refine WPl.rdB ?_)
           | (refine WPl.spQ (fun hc => ?_) (fun hc => ?_) <;> try exact prA)
           | fail)
          all_goals try (first | exact WPq.dV | exact WPq.dR | exact WPq.dR2 | exact WPq.dH | exact WPq.dBH | exact WPq.dT)
        | false =>
          rw [hbad, if_neg (by decide), xstep, if_neg (by rw [hbad]; decide)] at hpt
          have hn := xall_next hb h0 hbad
          have hnp := xnext_pos hs hbad
          repeat' (first
           | refine WPl.nil ?_ | refine WPq.then ?_ | refine WPq.thenR ?_ | refine WPq.thenE ?_ | refine WPq.blockN ?_ | refine WPq.blockR ?_ | refine WPq.blockE ?_ | refine WPq.blockO rfl ?_ | refine WPc.seq ?_ | refine WPc.block ?_ | refine WPc.ret ?_ | refine WPc.exit ?_ | refine WPc.skip ?_ | refine WPc.region ?_
           | (refine isCond ?_; first | refine WPc.cT ?_ | refine WPc.cF ?_ | (refine WPc.cQ (fun hc => ?_) (fun hc => ?_) <;> try exact prA))
           | (refine isC 10 ?_; refine WPl.cV (hbt) ?_)
           | (refine isC 28 ?_; refine WPl.cT (hpt) ?_)
           | (refine isOp ?_; first | refine WPl.rd ?_ | refine WPl.sk ?_ | refine WPl.rdB ?_)
           | (refine WPl.spQ (fun hc => ?_) (fun hc => ?_) <;> try exact prA)
           | fail)
          all_goals exact WPq.rnd (i + 1, xnext b s) ⟨by show i + 1 ≤ 8; omega, hnp, by show _ = xall b (8 - (i + 1)) _; rw [hn, show 8 - (i + 1) = m by omega]⟩ (by show 8 - (i + 1) < _; omega)
end Go.Proofs.Yteofjhjhaaafjaa
