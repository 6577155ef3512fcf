/- Layer 14 (ipsix): heads between, passed: contracts. -/
import Derived.Test.YteofjhjhaaafjaaIx
namespace Go.Proofs.Yteofjhjhaaafjaa
open Go.RowKit
set_option linter.unusedSimpArgs false
set_option linter.unusedVariables false
set_option maxRecDepth 20000
set_option maxHeartbeats 4000000
attribute [local irreducible] WPc WPl WPq ReadR OpT BinR HasS bx rdN rowN Take Takes Prov Triple ResF BuildP Done ag Int.decLt Int.decLe Int.instDecidableEq

theorem and_div8 (n m : Nat) : (n &&& m) / 256 = n / 256 &&& m / 256 := by
  have := Nat.shiftRight_and_distrib (a := n) (b := m) (i := 8)
  simpa [Nat.shiftRight_eq_div_pow] using this
theorem and_249 : ∀ c : Fin 256, (c.val &&& 249 = 0) ↔ (c.val / 8 = 0 ∧ c.val % 2 = 0) := by decide +kernel
theorem and_255 : ∀ c : Fin 256, (c.val &&& 255) = c.val := by decide +kernel
theorem and_fff9 {n : Nat} (h : n < 65536) : (n &&& 65529 = 0) ↔ (n / 8 = 0 ∧ n % 2 = 0) := by
  have h1 := and_div8 n 65529
  have h2 : (n &&& 65529) % 256 = n % 256 &&& 65529 % 256 := Nat.and_mod_two_pow (n := 8)
  have h3 := and_255 ⟨n / 256, by omega⟩
  have h4 := and_249 ⟨n % 256, by omega⟩
  simp only [show (65529 : Nat) / 256 = 255 from rfl, show (65529 : Nat) % 256 = 249 from rfl] at h1 h2 h3 h4
  rw [h3] at h1
  constructor
  · intro e
    rw [e] at h1 h2
    have := h4.1 (by omega)
    omega
  · intro e
    have := h4.2 (by omega)
    omega
/-- What stands between. -/
def btw (p : UInt8) : Bool := decide (((p.toNat : Nat) : Int) = 0) || (decide (((p.toNat : Nat) : Int) = 43) || (decide (((p.toNat : Nat) : Int) = 44) || decide (((p.toNat : Nat) : Int) = 60)))
theorem btw_t (p : UInt8) : Triple Try.prog 74 #[.int .u8 ((p.toNat : Nat) : Int)] [] (RVal (.bool (btw p))) := by
  refine Triple.enter Try.func74 rfl Try.ntmps74 rfl (fun W => ?_)
  dsimp only [argsF, Nat.reduceAdd]
  repeat' (first
   | refine WPl.nil ?_ | refine WPq.then ?_ | refine WPq.thenR ?_ | refine WPq.thenE ?_ | refine WPq.blockN ?_ | refine WPq.blockR ?_ | refine WPq.blockE ?_ | refine WPq.blockO rfl ?_ | refine WPc.seq ?_ | refine WPc.block ?_ | refine WPc.ret ?_ | refine WPc.exit ?_ | refine WPc.skip ?_ | refine WPc.region ?_
   | (refine isCond ?_; first | refine WPc.cT ?_ | refine WPc.cF ?_ | (refine WPc.cQ (fun hc => ?_) (fun hc => ?_) <;> try exact prA))
   | (refine isOp ?_; first | refine WPl.rd ?_ | refine WPl.sk ?_ | refine WPl.rdB ?_)
   | (refine WPl.spQ (fun hc => ?_) (fun hc => ?_) <;> try exact prA)
   | fail)
  all_goals
    refine WPq.dV (hc := ?_)
    show Value.bool _ = Value.bool _
    congr 1
    rw [Bool.eq_iff_iff]
    simp only [btw, Bool.or_eq_true, decide_eq_true_eq, true_iff, Bool.false_eq_true, false_iff, Bool.or_false]
    omega
theorem rbtw_t (p : UInt8) : Triple Try.prog 33 #[.int .u8 ((p.toNat : Nat) : Int)] [] (RVal (.bool (btw p))) := by
  refine Triple.enter Try.func33 rfl Try.ntmps33 rfl (fun W => ?_)
  dsimp only [argsF, Nat.reduceAdd]
  repeat' (first
   | refine WPl.nil ?_ | refine WPq.then ?_ | refine WPq.thenR ?_ | refine WPq.thenE ?_ | refine WPq.blockN ?_ | refine WPq.blockR ?_ | refine WPq.blockE ?_ | refine WPq.blockO rfl ?_ | refine WPc.seq ?_ | refine WPc.block ?_ | refine WPc.ret ?_ | refine WPc.exit ?_ | refine WPc.skip ?_ | refine WPc.region ?_
   | (refine isCond ?_; first | refine WPc.cT ?_ | refine WPc.cF ?_ | (refine WPc.cQ (fun hc => ?_) (fun hc => ?_) <;> try exact prA))
   | (refine isOp ?_; first | refine WPl.rd ?_ | refine WPl.sk ?_ | refine WPl.rdB ?_)
   | (refine WPl.spQ (fun hc => ?_) (fun hc => ?_) <;> try exact prA)
   | fail)
  all_goals
    refine WPq.dV (hc := ?_)
    show Value.bool _ = Value.bool _
    congr 1
    rw [Bool.eq_iff_iff]
    simp only [btw, Bool.or_eq_true, decide_eq_true_eq, true_iff, Bool.false_eq_true, false_iff, Bool.or_false]
    omega
/-- Where a walk stands. -/
structure XS where
  proto : UInt8
  pos : Nat
  part : Bool
theorem rest_len (b : List UInt8) (k : Nat) : (seg b k (b.length - k)).length = b.length - k := by simp [seg]
def xsize (b : List UInt8) (s : XS) : Nat := if s.proto.toNat = 44 then 8 else 8 + 8 * byteN (seg b s.pos (b.length - s.pos)) 1
def xpart (b : List UInt8) (s : XS) : Bool := if s.proto.toNat = 44 then s.part || !decide (((val (seg (seg b s.pos (b.length - s.pos)) 2 2) &&& 65529 : Nat) : Int) = 0) else s.part
def xbad (b : List UInt8) (s : XS) : Bool := decide ((seg b s.pos (b.length - s.pos)).length < 8) || decide ((seg b s.pos (b.length - s.pos)).length < xsize b s)
def xnext (b : List UInt8) (s : XS) : XS := ⟨(seg b s.pos (b.length - s.pos)).getD 0 0, s.pos + xsize b s, xpart b s⟩
def xstep (b : List UInt8) (s : XS) : XS := if xbad b s then s else xnext b s
abbrev wkc (h : Hd) (s : XS) (v : Value) : Ch := [(1, [.bool h.six]), (1, [.int .u8 ((s.proto.toNat : Nat) : Int)]), (1, [.int .i64 ((s.pos : Nat) : Int)]), (1, [.bool h.src.six]), (16, u8s h.src.b), (1, [.bool h.dst.six]), (16, u8s h.dst.b), (1, [.bool s.part]), (1, [.int .u8 ((h.hops.toNat : Nat) : Int)]), (1, [v])]
theorem wkc_next {h : Hd} {s : XS} {v : Value} {b : List UInt8} {k : Int} {p : Bool} (hk : ((xsize b s : Nat) : Int) = k) (hp : xpart b s = p) : wkc h (xnext b s) v = [(1, [.bool h.six]), (1, [.int .u8 (((seg b s.pos (b.length - s.pos)).getD 0 0).toNat : Nat)]), (1, [.int .i64 ((s.pos : Int) + k)]), (1, [.bool h.src.six]), (16, u8s h.src.b), (1, [.bool h.dst.six]), (16, u8s h.dst.b), (1, [.bool p]), (1, [.int .u8 ((h.hops.toNat : Nat) : Int)]), (1, [v])] := by
  subst hk hp
  simp only [wkc, xnext, Int.natCast_add]
theorem pass_t (g : Nat) (h : Hd) (s : XS) (v : Value) (b : List UInt8) (hs : s.pos ≤ b.length) (hl : b.length ≤ 100000) :
    Triple Try.prog 105 #[.pointer (some ⟨g, 0, none⟩)] ([rb v b] ++ [bx g 104 (wkc h s v)]) (RTurn (.int .i64 (if xbad b s then 9 else 0)) (bx g 104 (wkc h (xstep b s) v))) := by
  have l1 := h.src.len
  have l2 := h.dst.len
  have hrl := rest_len b s.pos
  have hv2 := val2_lt (l := seg b s.pos (b.length - s.pos)) (k := 2)
  have hb1 := ((seg b s.pos (b.length - s.pos)).getD 1 0).toNat_lt
  by_cases h8 : (seg b s.pos (b.length - s.pos)).length < 8
  · have hx : xbad b s = true := by simp only [xbad, h8, decide_true, Bool.true_or]
    rw [xstep, if_pos hx, if_pos hx]
    refine Triple.enter Try.func105 rfl Try.ntmps105 rfl (fun W => ?_)
    dsimp only [argsF, Nat.reduceAdd]
    repeat' (first
     | refine WPl.nil ?_ | refine WPq.then ?_ | refine WPq.thenR ?_ | refine WPq.thenE ?_ | refine WPq.blockN ?_ | refine WPq.blockR ?_ | refine WPq.blockE ?_ | refine WPq.blockO rfl ?_ | refine WPc.seq ?_ | refine WPc.block ?_ | refine WPc.ret ?_ | refine WPc.exit ?_ | refine WPc.skip ?_ | refine WPc.region ?_
     | (refine isReg 1 ?_; refine WPc.drA [([], [11, 12, 13, 14, 15]), ([0], [7, 11, 12, 13, 14, 15]), ([0, 1], [7, 8, 11, 12, 13, 14, 15]), ([0, 1, 2], [7, 8, 9, 11, 12, 13, 14, 15]), ([], [7, 8, 9, 10]), ([4], [7, 8, 9, 10, 11]), ([4, 5], [7, 8, 9, 10, 11, 12]), ([4, 5, 6], [7, 8, 9, 10, 11, 12, 13]), ([4, 5, 6, 7], [7, 8, 9, 10, 11, 12, 13, 14]), ([0, 1, 2, 3, 4, 5, 6, 7, 8], [7, 8, 9, 10, 11, 12, 13, 14, 15]), ([0, 1, 2, 3, 4, 5, 6, 7, 8, 9], [7, 8, 9, 10, 11, 12, 13, 14, 15, 16])] [] (Γx := []) ?_; dsimp only [prev0, List.length_nil, List.length_cons])
     | (refine gAny ?_; first | (refine gOp ?_; first | refine RGl.rdA ?_ | refine RGl.rdX (fun e hk => by (try dsimp only [bndR, ensR, oksR, fcutR, List.append_nil, List.nil_append, List.cons_append, List.append_assoc] at hk ⊢); exact readB) ?_) | (refine RGl.fin (fun e hk => ?_); (try dsimp only [bndA, ensAR, oksA, List.append_nil, List.nil_append, List.cons_append, List.append_assoc] at hk ⊢); (repeat (obtain ⟨hk1, hk⟩ := hk))) | fail)
     | (refine isCond ?_; first | refine WPc.cT ?_ | refine WPc.cF ?_ | (refine WPc.cQ (fun hc => ?_) (fun hc => ?_) <;> try exact prA))
     | (refine isOp ?_; first | refine WPl.rd ?_ | refine WPl.sk ?_ | refine WPl.rdB ?_)
     | (refine isSt ?_; first | refine WPl.st1 ?_ | refine WPl.stA ?_ | refine WPl.stEB ?_ | refine WPl.stRB ?_)
     | (refine WPl.spQ (fun hc => ?_) (fun hc => ?_) <;> try exact prA)
     | fail)
    all_goals try (first | exact WPq.dV | exact WPq.dR | exact WPq.dR2 | exact WPq.dH | exact WPq.dBH | exact WPq.dT)
  · by_cases h44 : ((s.proto.toNat : Nat) : Int) = 44
    · have h44' : s.proto.toNat = 44 := by omega
      have hx : xbad b s = false := by simp only [xbad, xsize, h44', if_true, h8, decide_false, Bool.or_self]
      rw [xstep, if_neg (by rw [hx]; decide), if_neg (by rw [hx]; decide)]
      have hsz : ((xsize b s : Nat) : Int) = 8 := by simp only [xsize, h44', if_true]; rfl
      cases hp : s.part with
      | true =>
        have hxp : xpart b s = true := by simp only [xpart, h44', if_true, hp, Bool.true_or]
        rw [wkc_next hsz hxp]
        refine Triple.enter Try.func105 rfl Try.ntmps105 rfl (fun W => ?_)
        dsimp only [argsF, Nat.reduceAdd]
        repeat' (first
         | refine WPl.nil ?_ | refine WPq.then ?_ | refine WPq.thenR ?_ | refine WPq.thenE ?_ | refine WPq.blockN ?_ | refine WPq.blockR ?_ | refine WPq.blockE ?_ | refine WPq.blockO rfl ?_ | refine WPc.seq ?_ | refine WPc.block ?_ | refine WPc.ret ?_ | refine WPc.exit ?_ | refine WPc.skip ?_ | refine WPc.region ?_
         | (refine isReg 1 ?_; refine WPc.drA [([], [11, 12, 13, 14, 15]), ([0], [7, 11, 12, 13, 14, 15]), ([0, 1], [7, 8, 11, 12, 13, 14, 15]), ([0, 1, 2], [7, 8, 9, 11, 12, 13, 14, 15]), ([], [7, 8, 9, 10]), ([4], [7, 8, 9, 10, 11]), ([4, 5], [7, 8, 9, 10, 11, 12]), ([4, 5, 6], [7, 8, 9, 10, 11, 12, 13]), ([4, 5, 6, 7], [7, 8, 9, 10, 11, 12, 13, 14]), ([0, 1, 2, 3, 4, 5, 6, 7, 8], [7, 8, 9, 10, 11, 12, 13, 14, 15]), ([0, 1, 2, 3, 4, 5, 6, 7, 8, 9], [7, 8, 9, 10, 11, 12, 13, 14, 15, 16])] [] (Γx := []) ?_; dsimp only [prev0, List.length_nil, List.length_cons])
         | (refine gAny ?_; first | (refine gC 28 ?_; refine RGl.vl (fun e hk => OpT.callN (get_t (subv 1 v s.pos (b.length - s.pos)) (seg b s.pos (b.length - s.pos)) 2 2 (by omega) (by omega) (by omega) (by omega))) ?_) | (refine gOp ?_; first | refine RGl.rdA ?_ | refine RGl.rdX (fun e hk => by (try dsimp only [bndR, ensR, oksR, fcutR, List.append_nil, List.nil_append, List.cons_append, List.append_assoc] at hk ⊢); exact readB) ?_) | (refine RGl.fin (fun e hk => ?_); (try dsimp only [bndA, ensAR, oksA, List.append_nil, List.nil_append, List.cons_append, List.append_assoc] at hk ⊢); (repeat (obtain ⟨hk1, hk⟩ := hk))) | fail)
         | (refine isCond ?_; first | refine WPc.cT ?_ | refine WPc.cF ?_ | (refine WPc.cQ (fun hc => ?_) (fun hc => ?_) <;> try exact prA))
         | (refine isC 28 ?_; refine WPl.cV (get_t (subv 1 v s.pos (b.length - s.pos)) (seg b s.pos (b.length - s.pos)) 2 2 (by omega) (by omega) (by omega) (by omega)) ?_)
         | (refine isOp ?_; first | refine WPl.rd ?_ | refine WPl.sk ?_ | refine WPl.rdB ?_)
         | (refine isSt ?_; first | refine WPl.st1 ?_ | refine WPl.stA ?_ | refine WPl.stEB ?_ | refine WPl.stRB ?_)
         | (refine WPl.spQ (fun hc => ?_) (fun hc => ?_) <;> try exact prA)
         | fail)
        all_goals try (first | exact WPq.dV | exact WPq.dR | exact WPq.dR2 | exact WPq.dH | exact WPq.dBH | exact WPq.dT)
      | false =>
        have hxp : xpart b s = !decide (((val (seg (seg b s.pos (b.length - s.pos)) 2 2) &&& 65529 : Nat) : Int) = 0) := by simp only [xpart, h44', if_true, hp, Bool.false_or]
        rw [wkc_next hsz hxp]
        refine Triple.enter Try.func105 rfl Try.ntmps105 rfl (fun W => ?_)
        dsimp only [argsF, Nat.reduceAdd]
        repeat' (first
         | refine WPl.nil ?_ | refine WPq.then ?_ | refine WPq.thenR ?_ | refine WPq.thenE ?_ | refine WPq.blockN ?_ | refine WPq.blockR ?_ | refine WPq.blockE ?_ | refine WPq.blockO rfl ?_ | refine WPc.seq ?_ | refine WPc.block ?_ | refine WPc.ret ?_ | refine WPc.exit ?_ | refine WPc.skip ?_ | refine WPc.region ?_
         | (refine isReg 1 ?_; refine WPc.drA [([], [11, 12, 13, 14, 15]), ([0], [7, 11, 12, 13, 14, 15]), ([0, 1], [7, 8, 11, 12, 13, 14, 15]), ([0, 1, 2], [7, 8, 9, 11, 12, 13, 14, 15]), ([], [7, 8, 9, 10]), ([4], [7, 8, 9, 10, 11]), ([4, 5], [7, 8, 9, 10, 11, 12]), ([4, 5, 6], [7, 8, 9, 10, 11, 12, 13]), ([4, 5, 6, 7], [7, 8, 9, 10, 11, 12, 13, 14]), ([0, 1, 2, 3, 4, 5, 6, 7, 8], [7, 8, 9, 10, 11, 12, 13, 14, 15]), ([0, 1, 2, 3, 4, 5, 6, 7, 8, 9], [7, 8, 9, 10, 11, 12, 13, 14, 15, 16])] [] (Γx := []) ?_; dsimp only [prev0, List.length_nil, List.length_cons])
         | (refine gAny ?_; first | (refine gC 28 ?_; refine RGl.vl (fun e hk => OpT.callN (get_t (subv 1 v s.pos (b.length - s.pos)) (seg b s.pos (b.length - s.pos)) 2 2 (by omega) (by omega) (by omega) (by omega))) ?_) | (show RGl _ _ _ _ _ _ _ _ (⟨_, .binOp .and _ _ _ _, _, _, _, _⟩ :: _) _ _; refine RGl.rdX (fun e hk => by (try dsimp only [bndR, ensR, oksR, fcutR, List.append_nil, List.nil_append, List.cons_append, List.append_assoc] at hk ⊢); exact ReadR.bin rfl rfl (BinR.andN (a := val (seg (seg b s.pos (b.length - s.pos)) 2 2)) (b := 65529) rfl (by show _ < 2 ^ 64; omega) (by show _ < 2 ^ 64; omega))) ?_) | (refine gOp ?_; first | refine RGl.rdA ?_ | refine RGl.rdX (fun e hk => by (try dsimp only [bndR, ensR, oksR, fcutR, List.append_nil, List.nil_append, List.cons_append, List.append_assoc] at hk ⊢); exact readB) ?_) | (refine RGl.fin (fun e hk => ?_); (try dsimp only [bndA, ensAR, oksA, List.append_nil, List.nil_append, List.cons_append, List.append_assoc] at hk ⊢); (repeat (obtain ⟨hk1, hk⟩ := hk))) | fail)
         | (refine isCond ?_; first | refine WPc.cT ?_ | refine WPc.cF ?_ | (refine WPc.cQ (fun hc => ?_) (fun hc => ?_) <;> try exact prA))
         | (refine isC 28 ?_; refine WPl.cV (get_t (subv 1 v s.pos (b.length - s.pos)) (seg b s.pos (b.length - s.pos)) 2 2 (by omega) (by omega) (by omega) (by omega)) ?_)
         | (show WPl _ _ _ _ _ _ _ (⟨_, .binOp .and _ _ _ _, _, _, _, _⟩ :: _) _; refine WPl.rdX (ReadR.bin rfl rfl (BinR.andN (a := val (seg (seg b s.pos (b.length - s.pos)) 2 2)) (b := 65529) rfl (by show _ < 2 ^ 64; omega) (by show _ < 2 ^ 64; omega))) ?_)
         | (refine isOp ?_; first | refine WPl.rd ?_ | refine WPl.sk ?_ | refine WPl.rdB ?_)
         | (refine isSt ?_; first | refine WPl.st1 ?_ | refine WPl.stA ?_ | refine WPl.stEB ?_ | refine WPl.stRB ?_)
         | (refine WPl.spQ (fun hc => ?_) (fun hc => ?_) <;> try exact prA)
         | fail)
        all_goals try (first | exact WPq.dV | exact WPq.dR | exact WPq.dR2 | exact WPq.dH | exact WPq.dBH | exact WPq.dT)
    · have h44' : ¬ s.proto.toNat = 44 := by omega
      have hsz : ((xsize b s : Nat) : Int) = 8 + 8 * ((((seg b s.pos (b.length - s.pos)).getD 1 0).toNat : Nat) : Int) := by simp only [xsize, if_neg h44', byteN]; omega
      have hxp : xpart b s = s.part := by simp only [xpart, if_neg h44']
      by_cases hl2 : (seg b s.pos (b.length - s.pos)).length < xsize b s
      · have hx : xbad b s = true := by simp only [xbad, hl2, decide_true, Bool.or_true]
        rw [xstep, if_pos hx, if_pos hx]
        refine Triple.enter Try.func105 rfl Try.ntmps105 rfl (fun W => ?_)
        dsimp only [argsF, Nat.reduceAdd]
        repeat' (first
         | refine WPl.nil ?_ | refine WPq.then ?_ | refine WPq.thenR ?_ | refine WPq.thenE ?_ | refine WPq.blockN ?_ | refine WPq.blockR ?_ | refine WPq.blockE ?_ | refine WPq.blockO rfl ?_ | refine WPc.seq ?_ | refine WPc.block ?_ | refine WPc.ret ?_ | refine WPc.exit ?_ | refine WPc.skip ?_ | refine WPc.region ?_
         | (refine isReg 1 ?_; refine WPc.drA [([], [11, 12, 13, 14, 15]), ([0], [7, 11, 12, 13, 14, 15]), ([0, 1], [7, 8, 11, 12, 13, 14, 15]), ([0, 1, 2], [7, 8, 9, 11, 12, 13, 14, 15]), ([], [7, 8, 9, 10]), ([4], [7, 8, 9, 10, 11]), ([4, 5], [7, 8, 9, 10, 11, 12]), ([4, 5, 6], [7, 8, 9, 10, 11, 12, 13]), ([4, 5, 6, 7], [7, 8, 9, 10, 11, 12, 13, 14]), ([0, 1, 2, 3, 4, 5, 6, 7, 8], [7, 8, 9, 10, 11, 12, 13, 14, 15]), ([0, 1, 2, 3, 4, 5, 6, 7, 8, 9], [7, 8, 9, 10, 11, 12, 13, 14, 15, 16])] [] (Γx := []) ?_; dsimp only [prev0, List.length_nil, List.length_cons])
         | (refine gAny ?_; first | (refine gOp ?_; first | refine RGl.rdA ?_ | refine RGl.rdX (fun e hk => by (try dsimp only [bndR, ensR, oksR, fcutR, List.append_nil, List.nil_append, List.cons_append, List.append_assoc] at hk ⊢); exact readB) ?_) | (refine RGl.fin (fun e hk => ?_); (try dsimp only [bndA, ensAR, oksA, List.append_nil, List.nil_append, List.cons_append, List.append_assoc] at hk ⊢); (repeat (obtain ⟨hk1, hk⟩ := hk))) | fail)
         | (refine isCond ?_; first | refine WPc.cT ?_ | refine WPc.cF ?_ | (refine WPc.cQ (fun hc => ?_) (fun hc => ?_) <;> try exact prA))
         | (refine isOp ?_; first | refine WPl.rd ?_ | refine WPl.sk ?_ | refine WPl.rdB ?_)
         | (refine isSt ?_; first | refine WPl.st1 ?_ | refine WPl.stA ?_ | refine WPl.stEB ?_ | refine WPl.stRB ?_)
         | (refine WPl.spQ (fun hc => ?_) (fun hc => ?_) <;> try exact prA)
         | fail)
        all_goals try (first | exact WPq.dV | exact WPq.dR | exact WPq.dR2 | exact WPq.dH | exact WPq.dBH | exact WPq.dT)
      · have hx : xbad b s = false := by simp only [xbad, h8, hl2, decide_false, Bool.or_self]
        rw [xstep, if_neg (by rw [hx]; decide), if_neg (by rw [hx]; decide), wkc_next hsz hxp]
        refine Triple.enter Try.func105 rfl Try.ntmps105 rfl (fun W => ?_)
        dsimp only [argsF, Nat.reduceAdd]
        repeat' (first
         | refine WPl.nil ?_ | refine WPq.then ?_ | refine WPq.thenR ?_ | refine WPq.thenE ?_ | refine WPq.blockN ?_ | refine WPq.blockR ?_ | refine WPq.blockE ?_ | refine WPq.blockO rfl ?_ | refine WPc.seq ?_ | refine WPc.block ?_ | refine WPc.ret ?_ | refine WPc.exit ?_ | refine WPc.skip ?_ | refine WPc.region ?_
         | (refine isReg 1 ?_; refine WPc.drA [([], [11, 12, 13, 14, 15]), ([0], [7, 11, 12, 13, 14, 15]), ([0, 1], [7, 8, 11, 12, 13, 14, 15]), ([0, 1, 2], [7, 8, 9, 11, 12, 13, 14, 15]), ([], [7, 8, 9, 10]), ([4], [7, 8, 9, 10, 11]), ([4, 5], [7, 8, 9, 10, 11, 12]), ([4, 5, 6], [7, 8, 9, 10, 11, 12, 13]), ([4, 5, 6, 7], [7, 8, 9, 10, 11, 12, 13, 14]), ([0, 1, 2, 3, 4, 5, 6, 7, 8], [7, 8, 9, 10, 11, 12, 13, 14, 15]), ([0, 1, 2, 3, 4, 5, 6, 7, 8, 9], [7, 8, 9, 10, 11, 12, 13, 14, 15, 16])] [] (Γx := []) ?_; dsimp only [prev0, List.length_nil, List.length_cons])
         | (refine gAny ?_; first | (refine gOp ?_; first | refine RGl.rdA ?_ | refine RGl.rdX (fun e hk => by (try dsimp only [bndR, ensR, oksR, fcutR, List.append_nil, List.nil_append, List.cons_append, List.append_assoc] at hk ⊢); exact readB) ?_) | (refine RGl.fin (fun e hk => ?_); (try dsimp only [bndA, ensAR, oksA, List.append_nil, List.nil_append, List.cons_append, List.append_assoc] at hk ⊢); (repeat (obtain ⟨hk1, hk⟩ := hk))) | fail)
         | (refine isCond ?_; first | refine WPc.cT ?_ | refine WPc.cF ?_ | (refine WPc.cQ (fun hc => ?_) (fun hc => ?_) <;> try exact prA))
         | (refine isOp ?_; first | refine WPl.rd ?_ | refine WPl.sk ?_ | refine WPl.rdB ?_)
         | (refine isSt ?_; first | refine WPl.st1 ?_ | refine WPl.stA ?_ | refine WPl.stEB ?_ | refine WPl.stRB ?_)
         | (refine WPl.spQ (fun hc => ?_) (fun hc => ?_) <;> try exact prA)
         | fail)
        all_goals try (first | exact WPq.dV | exact WPq.dR | exact WPq.dR2 | exact WPq.dH | exact WPq.dBH | exact WPq.dT)
end Go.Proofs.Yteofjhjhaaafjaa
