/- What the row of gateNone_card_holds needs: part 7. -/
import Derived.Test.YtpilenbdimhegaaGreatDoorGNo6
import Derived.Test.YtpilenbdimhegaaGreatDoorGNo5
/- Layer 14 (ipsix): heads between, passed: contracts. -/
namespace Go.Proofs.YtpilenbdimhegaaGreatDoor
open Go.RowKit
set_option linter.unusedSimpArgs false
set_option linter.unusedVariables false
set_option maxRecDepth 20000
set_option maxHeartbeats 4000000
attribute [local irreducible] WPc WPl WPq ReadR OpT BinR HasS bx rdN rowN Take Takes Prov Triple ResF BuildP Done ag Int.decLt Int.decLe Int.instDecidableEq

/-- What stands between. -/
def btw (p : UInt8) : Bool := decide (((p.toNat : Nat) : Int) = 0) || (decide (((p.toNat : Nat) : Int) = 43) || (decide (((p.toNat : Nat) : Int) = 44) || decide (((p.toNat : Nat) : Int) = 60)))
theorem btw_t (p : UInt8) : Triple Tryz.prog 163 #[.int .u8 ((p.toNat : Nat) : Int)] [] (RVal (.bool (btw p))) := by
  refine Triple.enter Tryz.func163 rfl Tryz.ntmps163 rfl (fun W => ?_)
  dsimp only [argsF, Nat.reduceAdd]
  repeat' (first
   | refine WPl.nil ?_ | refine WPq.then ?_ | refine WPq.thenR ?_ | refine WPq.thenE ?_ | refine WPq.blockN ?_ | refine WPq.blockR ?_ | refine WPq.blockE ?_ | refine WPq.blockO rfl ?_ | refine WPc.seq ?_ | refine WPc.block ?_ | refine WPc.ret ?_ | refine WPc.exit ?_ | refine WPc.skip ?_ | refine WPc.region ?_
   | (refine isCond ?_; first | refine WPc.cT ?_ | refine WPc.cF ?_ | (refine WPc.cQ (fun hc => ?_) (fun hc => ?_) <;> try exact prA))
   | (refine isOp ?_; first | refine WPl.rd ?_ | refine WPl.sk ?_ | refine WPl.rdB ?_)
   | (show WPl _ _ _ _ _ _ _ (⟨_, .indexAddr _ _ _, _, _, _, _⟩ :: _) _; refine WPl.rdX (ReadR.indexE rfl rfl hasA (by first | assumption | omega)) ?_)
   | (show WPl _ _ _ _ _ _ _ (⟨_, .fieldAddr _ _ _, _, _, _, _⟩ :: _) _; refine WPl.rdX (ReadR.fieldE rfl hasA (by first | assumption | omega)) ?_)
   | (show WPl _ _ _ _ _ _ _ (⟨_, .load _ _, _, _, _, _⟩ :: _) _; first | refine WPl.rdX (ReadR.loadE rfl hasA (by assumption)) ?_ | refine WPl.rdX (ReadR.loadES (by assumption) (by first | assumption | omega) rfl hasA) ?_)
   | (show WPl _ _ _ _ _ _ _ (⟨_, .slice _ _ _ _ _, _, _, _, _⟩ :: _) _; first | refine WPl.rdX (ReadR.sliceH rfl rfl hasA (by omega)) ?_ | refine WPl.rdX (ReadR.sliceL rfl rfl hasA (by omega)) ?_ | refine WPl.rdX (ReadR.sliceLH rfl rfl rfl hasA (by omega) (by omega)) ?_)
   | (refine WPl.spQ (fun hc => ?_) (fun hc => ?_) <;> try exact prA)
   | fail)
  all_goals
    refine WPq.dV (hc := ?_)
    show Value.bool _ = Value.bool _
    congr 1
    rw [Bool.eq_iff_iff]
    simp only [btw, Bool.or_eq_true, decide_eq_true_eq, true_iff, Bool.false_eq_true, false_iff, Bool.or_false]
    omega
theorem rbtw_t (p : UInt8) : Triple Tryz.prog 75 #[.int .u8 ((p.toNat : Nat) : Int)] [] (RVal (.bool (btw p))) := by
  refine Triple.enter Tryz.func75 rfl Tryz.ntmps75 rfl (fun W => ?_)
  dsimp only [argsF, Nat.reduceAdd]
  repeat' (first
   | refine WPl.nil ?_ | refine WPq.then ?_ | refine WPq.thenR ?_ | refine WPq.thenE ?_ | refine WPq.blockN ?_ | refine WPq.blockR ?_ | refine WPq.blockE ?_ | refine WPq.blockO rfl ?_ | refine WPc.seq ?_ | refine WPc.block ?_ | refine WPc.ret ?_ | refine WPc.exit ?_ | refine WPc.skip ?_ | refine WPc.region ?_
   | (refine isCond ?_; first | refine WPc.cT ?_ | refine WPc.cF ?_ | (refine WPc.cQ (fun hc => ?_) (fun hc => ?_) <;> try exact prA))
   | (refine isOp ?_; first | refine WPl.rd ?_ | refine WPl.sk ?_ | refine WPl.rdB ?_)
   | (show WPl _ _ _ _ _ _ _ (⟨_, .indexAddr _ _ _, _, _, _, _⟩ :: _) _; refine WPl.rdX (ReadR.indexE rfl rfl hasA (by first | assumption | omega)) ?_)
   | (show WPl _ _ _ _ _ _ _ (⟨_, .fieldAddr _ _ _, _, _, _, _⟩ :: _) _; refine WPl.rdX (ReadR.fieldE rfl hasA (by first | assumption | omega)) ?_)
   | (show WPl _ _ _ _ _ _ _ (⟨_, .load _ _, _, _, _, _⟩ :: _) _; first | refine WPl.rdX (ReadR.loadE rfl hasA (by assumption)) ?_ | refine WPl.rdX (ReadR.loadES (by assumption) (by first | assumption | omega) rfl hasA) ?_)
   | (show WPl _ _ _ _ _ _ _ (⟨_, .slice _ _ _ _ _, _, _, _, _⟩ :: _) _; first | refine WPl.rdX (ReadR.sliceH rfl rfl hasA (by omega)) ?_ | refine WPl.rdX (ReadR.sliceL rfl rfl hasA (by omega)) ?_ | refine WPl.rdX (ReadR.sliceLH rfl rfl rfl hasA (by omega) (by omega)) ?_)
   | (refine WPl.spQ (fun hc => ?_) (fun hc => ?_) <;> try exact prA)
   | fail)
  all_goals
    refine WPq.dV (hc := ?_)
    show Value.bool _ = Value.bool _
    congr 1
    rw [Bool.eq_iff_iff]
    simp only [btw, Bool.or_eq_true, decide_eq_true_eq, true_iff, Bool.false_eq_true, false_iff, Bool.or_false]
    omega
/-- Where a walk stands. -/
structure XS where
  proto : UInt8
  pos : Nat
  part : Bool
theorem rest_len (b : List UInt8) (k : Nat) : (seg b k (b.length - k)).length = b.length - k := by simp [seg]
def xsize (b : List UInt8) (s : XS) : Nat := if s.proto.toNat = 44 then 8 else 8 + 8 * byteN (seg b s.pos (b.length - s.pos)) 1
def xpart (b : List UInt8) (s : XS) : Bool := if s.proto.toNat = 44 then s.part || !decide (((val (seg (seg b s.pos (b.length - s.pos)) 2 2) &&& 65529 : Nat) : Int) = 0) else s.part
def xbad (b : List UInt8) (s : XS) : Bool := decide ((seg b s.pos (b.length - s.pos)).length < 8) || decide ((seg b s.pos (b.length - s.pos)).length < xsize b s)
def xnext (b : List UInt8) (s : XS) : XS := ⟨(seg b s.pos (b.length - s.pos)).getD 0 0, s.pos + xsize b s, xpart b s⟩
def xstep (b : List UInt8) (s : XS) : XS := if xbad b s then s else xnext b s
abbrev wkc (h : Hd) (s : XS) (v : Value) : Ch := [(1, [.bool h.six]), (1, [.int .u8 ((s.proto.toNat : Nat) : Int)]), (1, [.int .i64 ((s.pos : Nat) : Int)]), (1, [.bool h.src.six]), (16, u8s h.src.b), (1, [.bool h.dst.six]), (16, u8s h.dst.b), (1, [.bool s.part]), (1, [.int .u8 ((h.hops.toNat : Nat) : Int)]), (1, [v])]
theorem wkc_next {h : Hd} {s : XS} {v : Value} {b : List UInt8} {k : Int} {p : Bool} (hk : ((xsize b s : Nat) : Int) = k) (hp : xpart b s = p) : wkc h (xnext b s) v = [(1, [.bool h.six]), (1, [.int .u8 (((seg b s.pos (b.length - s.pos)).getD 0 0).toNat : Nat)]), (1, [.int .i64 ((s.pos : Int) + k)]), (1, [.bool h.src.six]), (16, u8s h.src.b), (1, [.bool h.dst.six]), (16, u8s h.dst.b), (1, [.bool p]), (1, [.int .u8 ((h.hops.toNat : Nat) : Int)]), (1, [v])] := by
  subst hk hp
  simp only [wkc, xnext, Int.natCast_add]
theorem pass_t (g : Nat) (h : Hd) (s : XS) (v : Value) (b : List UInt8) (hs : s.pos ≤ b.length) (hl : b.length ≤ 100000) :
    Triple Tryz.prog 164 #[.pointer (some ⟨g, 0, none⟩)] ([rb v b] ++ [bx g 224 (wkc h s v)]) (RTurn (.int .i64 (if xbad b s then 9 else 0)) (bx g 224 (wkc h (xstep b s) v))) := by
  have l1 := h.src.len
  have l2 := h.dst.len
  have hrl := rest_len b s.pos
  have hv2 := val2_lt (l := seg b s.pos (b.length - s.pos)) (k := 2)
  have hb1 := ((seg b s.pos (b.length - s.pos)).getD 1 0).toNat_lt
  by_cases h8 : (seg b s.pos (b.length - s.pos)).length < 8
  · have hx : xbad b s = true := by simp only [xbad, h8, decide_true, Bool.true_or]
    rw [xstep, if_pos hx, if_pos hx]
    refine Triple.enter Tryz.func164 rfl Tryz.ntmps164 rfl (fun W => ?_)
    dsimp only [argsF, Nat.reduceAdd]
    repeat' (first
     | refine WPl.nil ?_ | refine WPq.then ?_ | refine WPq.thenR ?_ | refine WPq.thenE ?_ | refine WPq.blockN ?_ | refine WPq.blockR ?_ | refine WPq.blockE ?_ | refine WPq.blockO rfl ?_ | refine WPc.seq ?_ | refine WPc.block ?_ | refine WPc.ret ?_ | refine WPc.exit ?_ | refine WPc.skip ?_ | refine WPc.region ?_
     | (refine isReg 1 ?_; refine WPc.drA [([], [11, 12, 13, 14, 15]), ([0], [7, 11, 12, 13, 14, 15]), ([0, 1], [7, 8, 11, 12, 13, 14, 15]), ([0, 1, 2], [7, 8, 9, 11, 12, 13, 14, 15]), ([], [7, 8, 9, 10]), ([4], [7, 8, 9, 10, 11]), ([4, 5], [7, 8, 9, 10, 11, 12]), ([4, 5, 6], [7, 8, 9, 10, 11, 12, 13]), ([4, 5, 6, 7], [7, 8, 9, 10, 11, 12, 13, 14]), ([0, 1, 2, 3, 4, 5, 6, 7, 8], [7, 8, 9, 10, 11, 12, 13, 14, 15]), ([0, 1, 2, 3, 4, 5, 6, 7, 8, 9], [7, 8, 9, 10, 11, 12, 13, 14, 15, 16])] [] (Γx := []) ?_; dsimp only [prev0, List.length_nil, List.length_cons])
     | (refine gAny ?_; first | (refine gOp ?_; first | refine RGl.rdA ?_ | refine RGl.rdX (fun e hk => by (try dsimp only [bndR, ensR, oksR, fcutR, List.append_nil, List.nil_append, List.cons_append, List.append_assoc] at hk ⊢); exact readB) ?_) | (refine RGl.fin (fun e hk => ?_); (try dsimp only [bndA, ensAR, oksA, List.append_nil, List.nil_append, List.cons_append, List.append_assoc] at hk ⊢); (repeat (obtain ⟨hk1, hk⟩ := hk))) | fail)
     | (refine isCond ?_; first | refine WPc.cT ?_ | refine WPc.cF ?_ | (refine WPc.cQ (fun hc => ?_) (fun hc => ?_) <;> try exact prA))
     | (refine isOp ?_; first | refine WPl.rd ?_ | refine WPl.sk ?_ | refine WPl.rdB ?_)
     | (refine isSt ?_; first | refine WPl.st1 ?_ | refine WPl.stA ?_ | refine WPl.stEB ?_ | refine WPl.stRB ?_)
     | (show WPl _ _ _ _ _ _ _ (⟨_, .indexAddr _ _ _, _, _, _, _⟩ :: _) _; refine WPl.rdX (ReadR.indexE rfl rfl hasA (by first | assumption | omega)) ?_)
     | (show WPl _ _ _ _ _ _ _ (⟨_, .fieldAddr _ _ _, _, _, _, _⟩ :: _) _; refine WPl.rdX (ReadR.fieldE rfl hasA (by first | assumption | omega)) ?_)
     | (show WPl _ _ _ _ _ _ _ (⟨_, .load _ _, _, _, _, _⟩ :: _) _; first | refine WPl.rdX (ReadR.loadE rfl hasA (by assumption)) ?_ | refine WPl.rdX (ReadR.loadES (by assumption) (by first | assumption | omega) rfl hasA) ?_)
     | (show WPl _ _ _ _ _ _ _ (⟨_, .slice _ _ _ _ _, _, _, _, _⟩ :: _) _; first | refine WPl.rdX (ReadR.sliceH rfl rfl hasA (by omega)) ?_ | refine WPl.rdX (ReadR.sliceL rfl rfl hasA (by omega)) ?_ | refine WPl.rdX (ReadR.sliceLH rfl rfl rfl hasA (by omega) (by omega)) ?_)
     | (refine WPl.spQ (fun hc => ?_) (fun hc => ?_) <;> try exact prA)
     | fail)
    all_goals try (first | exact WPq.dTp | exact WPq.dTs | exact WPq.dV | exact WPq.dR | exact WPq.dR2 | exact WPq.dH | exact WPq.dBH | exact WPq.dT)
  · by_cases h44 : ((s.proto.toNat : Nat) : Int) = 44
    · have h44' : s.proto.toNat = 44 := by omega
      have hx : xbad b s = false := by simp only [xbad, xsize, h44', if_true, h8, decide_false, Bool.or_self]
      rw [xstep, if_neg (by rw [hx]; decide), if_neg (by rw [hx]; decide)]
      have hsz : ((xsize b s : Nat) : Int) = 8 := by simp only [xsize, h44', if_true]; rfl
      cases hp : s.part with
      | true =>
        have hxp : xpart b s = true := by simp only [xpart, h44', if_true, hp, Bool.true_or]
        rw [wkc_next hsz hxp]
        refine Triple.enter Tryz.func164 rfl Tryz.ntmps164 rfl (fun W => ?_)
        dsimp only [argsF, Nat.reduceAdd]
        repeat' (first
         | refine WPl.nil ?_ | refine WPq.then ?_ | refine WPq.thenR ?_ | refine WPq.thenE ?_ | refine WPq.blockN ?_ | refine WPq.blockR ?_ | refine WPq.blockE ?_ | refine WPq.blockO rfl ?_ | refine WPc.seq ?_ | refine WPc.block ?_ | refine WPc.ret ?_ | refine WPc.exit ?_ | refine WPc.skip ?_ | refine WPc.region ?_
         | (refine isReg 1 ?_; refine WPc.drA [([], [11, 12, 13, 14, 15]), ([0], [7, 11, 12, 13, 14, 15]), ([0, 1], [7, 8, 11, 12, 13, 14, 15]), ([0, 1, 2], [7, 8, 9, 11, 12, 13, 14, 15]), ([], [7, 8, 9, 10]), ([4], [7, 8, 9, 10, 11]), ([4, 5], [7, 8, 9, 10, 11, 12]), ([4, 5, 6], [7, 8, 9, 10, 11, 12, 13]), ([4, 5, 6, 7], [7, 8, 9, 10, 11, 12, 13, 14]), ([0, 1, 2, 3, 4, 5, 6, 7, 8], [7, 8, 9, 10, 11, 12, 13, 14, 15]), ([0, 1, 2, 3, 4, 5, 6, 7, 8, 9], [7, 8, 9, 10, 11, 12, 13, 14, 15, 16])] [] (Γx := []) ?_; dsimp only [prev0, List.length_nil, List.length_cons])
         | (refine gAny ?_; first | (refine gC 28 ?_; refine RGl.vl (fun e hk => OpT.callN (get_t (subv 1 v s.pos (b.length - s.pos)) (seg b s.pos (b.length - s.pos)) 2 2 (by omega) (by omega) (by omega) (by omega))) ?_) | (refine gOp ?_; first | refine RGl.rdA ?_ | refine RGl.rdX (fun e hk => by (try dsimp only [bndR, ensR, oksR, fcutR, List.append_nil, List.nil_append, List.cons_append, List.append_assoc] at hk ⊢); exact readB) ?_) | (refine RGl.fin (fun e hk => ?_); (try dsimp only [bndA, ensAR, oksA, List.append_nil, List.nil_append, List.cons_append, List.append_assoc] at hk ⊢); (repeat (obtain ⟨hk1, hk⟩ := hk))) | fail)
         | (refine isCond ?_; first | refine WPc.cT ?_ | refine WPc.cF ?_ | (refine WPc.cQ (fun hc => ?_) (fun hc => ?_) <;> try exact prA))
         | (refine isC 28 ?_; refine WPl.cV (get_t (subv 1 v s.pos (b.length - s.pos)) (seg b s.pos (b.length - s.pos)) 2 2 (by omega) (by omega) (by omega) (by omega)) ?_)
         | (refine isOp ?_; first | refine WPl.rd ?_ | refine WPl.sk ?_ | refine WPl.rdB ?_)
         | (refine isSt ?_; first | refine WPl.st1 ?_ | refine WPl.stA ?_ | refine WPl.stEB ?_ | refine WPl.stRB ?_)
         | (show WPl _ _ _ _ _ _ _ (⟨_, .indexAddr _ _ _, _, _, _, _⟩ :: _) _; refine WPl.rdX (ReadR.indexE rfl rfl hasA (by first | assumption | omega)) ?_)
         | (show WPl _ _ _ _ _ _ _ (⟨_, .fieldAddr _ _ _, _, _, _, _⟩ :: _) _; refine WPl.rdX (ReadR.fieldE rfl hasA (by first | assumption | omega)) ?_)
         | (show WPl _ _ _ _ _ _ _ (⟨_, .load _ _, _, _, _, _⟩ :: _) _; first | refine WPl.rdX (ReadR.loadE rfl hasA (by assumption)) ?_ | refine WPl.rdX (ReadR.loadES (by assumption) (by first | assumption | omega) rfl hasA) ?_)
         | (show WPl _ _ _ _ _ _ _ (⟨_, .slice _ _ _ _ _, _, _, _, _⟩ :: _) _; first | refine WPl.rdX (ReadR.sliceH rfl rfl hasA (by omega)) ?_ | refine WPl.rdX (ReadR.sliceL rfl rfl hasA (by omega)) ?_ | refine WPl.rdX (ReadR.sliceLH rfl rfl rfl hasA (by omega) (by omega)) ?_)
         | (refine WPl.spQ (fun hc => ?_) (fun hc => ?_) <;> try exact prA)
         | fail)
        all_goals try (first | exact WPq.dTp | exact WPq.dTs | exact WPq.dV | exact WPq.dR | exact WPq.dR2 | exact WPq.dH | exact WPq.dBH | exact WPq.dT)
      | false =>
        have hxp : xpart b s = !decide (((val (seg (seg b s.pos (b.length - s.pos)) 2 2) &&& 65529 : Nat) : Int) = 0) := by simp only [xpart, h44', if_true, hp, Bool.false_or]
        rw [wkc_next hsz hxp]
        refine Triple.enter Tryz.func164 rfl Tryz.ntmps164 rfl (fun W => ?_)
        dsimp only [argsF, Nat.reduceAdd]
        repeat' (first
         | refine WPl.nil ?_ | refine WPq.then ?_ | refine WPq.thenR ?_ | refine WPq.thenE ?_ | refine WPq.blockN ?_ | refine WPq.blockR ?_ | refine WPq.blockE ?_ | refine WPq.blockO rfl ?_ | refine WPc.seq ?_ | refine WPc.block ?_ | refine WPc.ret ?_ | refine WPc.exit ?_ | refine WPc.skip ?_ | refine WPc.region ?_
         | (refine isReg 1 ?_; refine WPc.drA [([], [11, 12, 13, 14, 15]), ([0], [7, 11, 12, 13, 14, 15]), ([0, 1], [7, 8, 11, 12, 13, 14, 15]), ([0, 1, 2], [7, 8, 9, 11, 12, 13, 14, 15]), ([], [7, 8, 9, 10]), ([4], [7, 8, 9, 10, 11]), ([4, 5], [7, 8, 9, 10, 11, 12]), ([4, 5, 6], [7, 8, 9, 10, 11, 12, 13]), ([4, 5, 6, 7], [7, 8, 9, 10, 11, 12, 13, 14]), ([0, 1, 2, 3, 4, 5, 6, 7, 8], [7, 8, 9, 10, 11, 12, 13, 14, 15]), ([0, 1, 2, 3, 4, 5, 6, 7, 8, 9], [7, 8, 9, 10, 11, 12, 13, 14, 15, 16])] [] (Γx := []) ?_; dsimp only [prev0, List.length_nil, List.length_cons])
         | (refine gAny ?_; first | (refine gC 28 ?_; refine RGl.vl (fun e hk => OpT.callN (get_t (subv 1 v s.pos (b.length - s.pos)) (seg b s.pos (b.length - s.pos)) 2 2 (by omega) (by omega) (by omega) (by omega))) ?_) | (show RGl _ _ _ _ _ _ _ _ (⟨_, .binOp .and _ _ _ _, _, _, _, _⟩ :: _) _ _; refine RGl.rdX (fun e hk => by (try dsimp only [bndR, ensR, oksR, fcutR, List.append_nil, List.nil_append, List.cons_append, List.append_assoc] at hk ⊢); exact ReadR.bin rfl rfl (BinR.andN (a := val (seg (seg b s.pos (b.length - s.pos)) 2 2)) (b := 65529) rfl (by show _ < 2 ^ 64; omega) (by show _ < 2 ^ 64; omega))) ?_) | (refine gOp ?_; first | refine RGl.rdA ?_ | refine RGl.rdX (fun e hk => by (try dsimp only [bndR, ensR, oksR, fcutR, List.append_nil, List.nil_append, List.cons_append, List.append_assoc] at hk ⊢); exact readB) ?_) | (refine RGl.fin (fun e hk => ?_); (try dsimp only [bndA, ensAR, oksA, List.append_nil, List.nil_append, List.cons_append, List.append_assoc] at hk ⊢); (repeat (obtain ⟨hk1, hk⟩ := hk))) | fail)
         | (refine isCond ?_; first | refine WPc.cT ?_ | refine WPc.cF ?_ | (refine WPc.cQ (fun hc => ?_) (fun hc => ?_) <;> try exact prA))
         | (refine isC 28 ?_; refine WPl.cV (get_t (subv 1 v s.pos (b.length - s.pos)) (seg b s.pos (b.length - s.pos)) 2 2 (by omega) (by omega) (by omega) (by omega)) ?_)
         | (show WPl _ _ _ _ _ _ _ (⟨_, .binOp .and _ _ _ _, _, _, _, _⟩ :: _) _; refine WPl.rdX (ReadR.bin rfl rfl (BinR.andN (a := val (seg (seg b s.pos (b.length - s.pos)) 2 2)) (b := 65529) rfl (by show _ < 2 ^ 64; omega) (by show _ < 2 ^ 64; omega))) ?_)
         | (refine isOp ?_; first | refine WPl.rd ?_ | refine WPl.sk ?_ | refine WPl.rdB ?_)
         | (refine isSt ?_; first | refine WPl.st1 ?_ | refine WPl.stA ?_ | refine WPl.stEB ?_ | refine WPl.stRB ?_)
         | (show WPl _ _ _ _ _ _ _ (⟨_, .indexAddr _ _ _, _, _, _, _⟩ :: _) _; refine WPl.rdX (ReadR.indexE rfl rfl hasA (by first | assumption | omega)) ?_)
         | (show WPl _ _ _ _ _ _ _ (⟨_, .fieldAddr _ _ _, _, _, _, _⟩ :: _) _; refine WPl.rdX (ReadR.fieldE rfl hasA (by first | assumption | omega)) ?_)
         | (show WPl _ _ _ _ _ _ _ (⟨_, .load _ _, _, _, _, _⟩ :: _) _; first | refine WPl.rdX (ReadR.loadE rfl hasA (by assumption)) ?_ | refine WPl.rdX (ReadR.loadES (by assumption) (by first | assumption | omega) rfl hasA) ?_)
         | (show WPl _ _ _ _ _ _ _ (⟨_, .slice _ _ _ _ _, _, _, _, _⟩ :: _) _; first | refine WPl.rdX (ReadR.sliceH rfl rfl hasA (by omega)) ?_ | refine WPl.rdX (ReadR.sliceL rfl rfl hasA (by omega)) ?_ | refine WPl.rdX (ReadR.sliceLH rfl rfl rfl hasA (by omega) (by omega)) ?_)
         | (refine WPl.spQ (fun hc => ?_) (fun hc => ?_) <;> try exact prA)
         | fail)
        all_goals try (first | exact WPq.dTp | exact WPq.dTs | exact WPq.dV | exact WPq.dR | exact WPq.dR2 | exact WPq.dH | exact WPq.dBH | exact WPq.dT)
    · have h44' : ¬ s.proto.toNat = 44 := by omega
      have hsz : ((xsize b s : Nat) : Int) = 8 + 8 * ((((seg b s.pos (b.length - s.pos)).getD 1 0).toNat : Nat) : Int) := by simp only [xsize, if_neg h44', byteN]; omega
      have hxp : xpart b s = s.part := by simp only [xpart, if_neg h44']
      by_cases hl2 : (seg b s.pos (b.length - s.pos)).length < xsize b s
      · have hx : xbad b s = true := by simp only [xbad, hl2, decide_true, Bool.or_true]
        rw [xstep, if_pos hx, if_pos hx]
        refine Triple.enter Tryz.func164 rfl Tryz.ntmps164 rfl (fun W => ?_)
        dsimp only [argsF, Nat.reduceAdd]
        repeat' (first
         | refine WPl.nil ?_ | refine WPq.then ?_ | refine WPq.thenR ?_ | refine WPq.thenE ?_ | refine WPq.blockN ?_ | refine WPq.blockR ?_ | refine WPq.blockE ?_ | refine WPq.blockO rfl ?_ | refine WPc.seq ?_ | refine WPc.block ?_ | refine WPc.ret ?_ | refine WPc.exit ?_ | refine WPc.skip ?_ | refine WPc.region ?_
         | (refine isReg 1 ?_; refine WPc.drA [([], [11, 12, 13, 14, 15]), ([0], [7, 11, 12, 13, 14, 15]), ([0, 1], [7, 8, 11, 12, 13, 14, 15]), ([0, 1, 2], [7, 8, 9, 11, 12, 13, 14, 15]), ([], [7, 8, 9, 10]), ([4], [7, 8, 9, 10, 11]), ([4, 5], [7, 8, 9, 10, 11, 12]), ([4, 5, 6], [7, 8, 9, 10, 11, 12, 13]), ([4, 5, 6, 7], [7, 8, 9, 10, 11, 12, 13, 14]), ([0, 1, 2, 3, 4, 5, 6, 7, 8], [7, 8, 9, 10, 11, 12, 13, 14, 15]), ([0, 1, 2, 3, 4, 5, 6, 7, 8, 9], [7, 8, 9, 10, 11, 12, 13, 14, 15, 16])] [] (Γx := []) ?_; dsimp only [prev0, List.length_nil, List.length_cons])
         | (refine gAny ?_; first | (refine gOp ?_; first | refine RGl.rdA ?_ | refine RGl.rdX (fun e hk => by (try dsimp only [bndR, ensR, oksR, fcutR, List.append_nil, List.nil_append, List.cons_append, List.append_assoc] at hk ⊢); exact readB) ?_) | (refine RGl.fin (fun e hk => ?_); (try dsimp only [bndA, ensAR, oksA, List.append_nil, List.nil_append, List.cons_append, List.append_assoc] at hk ⊢); (repeat (obtain ⟨hk1, hk⟩ := hk))) | fail)
         | (refine isCond ?_; first | refine WPc.cT ?_ | refine WPc.cF ?_ | (refine WPc.cQ (fun hc => ?_) (fun hc => ?_) <;> try exact prA))
         | (refine isOp ?_; first | refine WPl.rd ?_ | refine WPl.sk ?_ | refine WPl.rdB ?_)
         | (refine isSt ?_; first | refine WPl.st1 ?_ | refine WPl.stA ?_ | refine WPl.stEB ?_ | refine WPl.stRB ?_)
         | (show WPl _ _ _ _ _ _ _ (⟨_, .indexAddr _ _ _, _, _, _, _⟩ :: _) _; refine WPl.rdX (ReadR.indexE rfl rfl hasA (by first | assumption | omega)) ?_)
         | (show WPl _ _ _ _ _ _ _ (⟨_, .fieldAddr _ _ _, _, _, _, _⟩ :: _) _; refine WPl.rdX (ReadR.fieldE rfl hasA (by first | assumption | omega)) ?_)
         | (show WPl _ _ _ _ _ _ _ (⟨_, .load _ _, _, _, _, _⟩ :: _) _; first | refine WPl.rdX (ReadR.loadE rfl hasA (by assumption)) ?_ | refine WPl.rdX (ReadR.loadES (by assumption) (by first | assumption | omega) rfl hasA) ?_)
         | (show WPl _ _ _ _ _ _ _ (⟨_, .slice _ _ _ _ _, _, _, _, _⟩ :: _) _; first | refine WPl.rdX (ReadR.sliceH rfl rfl hasA (by omega)) ?_ | refine WPl.rdX (ReadR.sliceL rfl rfl hasA (by omega)) ?_ | refine WPl.rdX (ReadR.sliceLH rfl rfl rfl hasA (by omega) (by omega)) ?_)
         | (refine WPl.spQ (fun hc => ?_) (fun hc => ?_) <;> try exact prA)
         | fail)
        all_goals try (first | exact WPq.dTp | exact WPq.dTs | exact WPq.dV | exact WPq.dR | exact WPq.dR2 | exact WPq.dH | exact WPq.dBH | exact WPq.dT)
      · have hx : xbad b s = false := by simp only [xbad, h8, hl2, decide_false, Bool.or_self]
        rw [xstep, if_neg (by rw [hx]; decide), if_neg (by rw [hx]; decide), wkc_next hsz hxp]
        refine Triple.enter Tryz.func164 rfl Tryz.ntmps164 rfl (fun W => ?_)
        dsimp only [argsF, Nat.reduceAdd]
        repeat' (first
         | refine WPl.nil ?_ | refine WPq.then ?_ | refine WPq.thenR ?_ | refine WPq.thenE ?_ | refine WPq.blockN ?_ | refine WPq.blockR ?_ | refine WPq.blockE ?_ | refine WPq.blockO rfl ?_ | refine WPc.seq ?_ | refine WPc.block ?_ | refine WPc.ret ?_ | refine WPc.exit ?_ | refine WPc.skip ?_ | refine WPc.region ?_
         | (refine isReg 1 ?_; refine WPc.drA [([], [11, 12, 13, 14, 15]), ([0], [7, 11, 12, 13, 14, 15]), ([0, 1], [7, 8, 11, 12, 13, 14, 15]), ([0, 1, 2], [7, 8, 9, 11, 12, 13, 14, 15]), ([], [7, 8, 9, 10]), ([4], [7, 8, 9, 10, 11]), ([4, 5], [7, 8, 9, 10, 11, 12]), ([4, 5, 6], [7, 8, 9, 10, 11, 12, 13]), ([4, 5, 6, 7], [7, 8, 9, 10, 11, 12, 13, 14]), ([0, 1, 2, 3, 4, 5, 6, 7, 8], [7, 8, 9, 10, 11, 12, 13, 14, 15]), ([0, 1, 2, 3, 4, 5, 6, 7, 8, 9], [7, 8, 9, 10, 11, 12, 13, 14, 15, 16])] [] (Γx := []) ?_; dsimp only [prev0, List.length_nil, List.length_cons])
         | (refine gAny ?_; first | (refine gOp ?_; first | refine RGl.rdA ?_ | refine RGl.rdX (fun e hk => by (try dsimp only [bndR, ensR, oksR, fcutR, List.append_nil, List.nil_append, List.cons_append, List.append_assoc] at hk ⊢); exact readB) ?_) | (refine RGl.fin (fun e hk => ?_); (try dsimp only [bndA, ensAR, oksA, List.append_nil, List.nil_append, List.cons_append, List.append_assoc] at hk ⊢); (repeat (obtain ⟨hk1, hk⟩ := hk))) | fail)
         | (refine isCond ?_; first | refine WPc.cT ?_ | refine WPc.cF ?_ | (refine WPc.cQ (fun hc => ?_) (fun hc => ?_) <;> try exact prA))
         | (refine isOp ?_; first | refine WPl.rd ?_ | refine WPl.sk ?_ | refine WPl.rdB ?_)
         | (refine isSt ?_; first | refine WPl.st1 ?_ | refine WPl.stA ?_ | refine WPl.stEB ?_ | refine WPl.stRB ?_)
         | (show WPl _ _ _ _ _ _ _ (⟨_, .indexAddr _ _ _, _, _, _, _⟩ :: _) _; refine WPl.rdX (ReadR.indexE rfl rfl hasA (by first | assumption | omega)) ?_)
         | (show WPl _ _ _ _ _ _ _ (⟨_, .fieldAddr _ _ _, _, _, _, _⟩ :: _) _; refine WPl.rdX (ReadR.fieldE rfl hasA (by first | assumption | omega)) ?_)
         | (show WPl _ _ _ _ _ _ _ (⟨_, .load _ _, _, _, _, _⟩ :: _) _; first | refine WPl.rdX (ReadR.loadE rfl hasA (by assumption)) ?_ | refine WPl.rdX (ReadR.loadES (by assumption) (by first | assumption | omega) rfl hasA) ?_)
         | (show WPl _ _ _ _ _ _ _ (⟨_, .slice _ _ _ _ _, _, _, _, _⟩ :: _) _; first | refine WPl.rdX (ReadR.sliceH rfl rfl hasA (by omega)) ?_ | refine WPl.rdX (ReadR.sliceL rfl rfl hasA (by omega)) ?_ | refine WPl.rdX (ReadR.sliceLH rfl rfl rfl hasA (by omega) (by omega)) ?_)
         | (refine WPl.spQ (fun hc => ?_) (fun hc => ?_) <;> try exact prA)
         | fail)
        all_goals try (first | exact WPq.dTp | exact WPq.dTs | exact WPq.dV | exact WPq.dR | exact WPq.dR2 | exact WPq.dH | exact WPq.dBH | exact WPq.dT)
end Go.Proofs.YtpilenbdimhegaaGreatDoor
/- Layer 14 (ipsix): all heads between: contracts. -/
namespace Go.Proofs.YtpilenbdimhegaaGreatDoor
open Go.RowKit
set_option linter.unusedSimpArgs false
set_option linter.unusedVariables false
set_option maxRecDepth 20000
set_option maxHeartbeats 4000000
attribute [local irreducible] WPc WPl WPq ReadR OpT BinR HasS bx rdN rowN Take Takes Prov Triple ResF BuildP Done ag Int.decLt Int.decLe Int.instDecidableEq

def xall (b : List UInt8) : Nat → XS → Int × XS
  | 0, s => if btw s.proto then (10, s) else (0, s)
  | m + 1, s => if btw s.proto then (if s.proto.toNat = 0 ∧ m + 1 < 8 then (4, s) else if xbad b s then (9, s) else xall b m (xnext b s)) else (0, s)
theorem xall_no {b : List UInt8} {m : Nat} {s : XS} (h : btw s.proto = false) : xall b m s = (0, s) := by cases m <;> simp [xall, h]
theorem xall_end {b : List UInt8} {s : XS} (h : btw s.proto = true) : xall b 0 s = (10, s) := by simp [xall, h]
theorem xall_form {b : List UInt8} {m : Nat} {s : XS} (h : btw s.proto = true) (h0 : s.proto.toNat = 0) (hm : m + 1 < 8) : xall b (m + 1) s = (4, s) := by
  simp only [xall]; rw [if_pos h, if_pos ⟨h0, hm⟩]
theorem xall_bad {b : List UInt8} {m : Nat} {s : XS} (h : btw s.proto = true) (h0 : ¬ (s.proto.toNat = 0 ∧ m + 1 < 8)) (hb : xbad b s = true) : xall b (m + 1) s = (9, s) := by
  simp only [xall]; rw [if_pos h, if_neg h0, if_pos hb]
theorem xall_next {b : List UInt8} {m : Nat} {s : XS} (h : btw s.proto = true) (h0 : ¬ (s.proto.toNat = 0 ∧ m + 1 < 8)) (hb : xbad b s = false) : xall b (m + 1) s = xall b m (xnext b s) := by
  simp only [xall]; rw [if_pos h, if_neg h0, if_neg (by rw [hb]; decide)]
theorem xnext_pos {b : List UInt8} {s : XS} (hs : s.pos ≤ b.length) (hb : xbad b s = false) : (xnext b s).pos ≤ b.length := by
  simp only [xbad, Bool.or_eq_false_iff, decide_eq_false_iff_not] at hb
  have hl := rest_len b s.pos
  simp only [xnext]
  omega
theorem all_t (g : Nat) (h : Hd) (s0 : XS) (v : Value) (b : List UInt8) (hs0 : s0.pos ≤ b.length) (hl : b.length ≤ 100000) :
    Triple Tryz.prog 140 #[.pointer (some ⟨g, 0, none⟩)] ([rb v b] ++ [bx g 224 (wkc h s0 v)]) (RTurn (.int .i64 (xall b 8 s0).1) (bx g 224 (wkc h (xall b 8 s0).2 v))) := by
  have l1 := h.src.len
  have l2 := h.dst.len
  refine Triple.enter Tryz.func140 rfl Tryz.ntmps140 rfl (fun W => ?_)
  dsimp only [argsF, Nat.reduceAdd]
  repeat' (first
   | refine WPl.nil ?_ | refine WPq.then ?_ | refine WPq.thenR ?_ | refine WPq.thenE ?_ | refine WPq.blockN ?_ | refine WPq.blockR ?_ | refine WPq.blockE ?_ | refine WPq.blockO rfl ?_ | refine WPc.seq ?_ | refine WPc.block ?_ | refine WPc.ret ?_ | refine WPc.exit ?_ | refine WPc.skip ?_ | refine WPc.region ?_
   | (refine isCond ?_; first | refine WPc.cT ?_ | refine WPc.cF ?_)
   | (refine isOp ?_; first | refine WPl.rd ?_ | refine WPl.sk ?_ | refine WPl.rdB ?_)
   | (show WPl _ _ _ _ _ _ _ (⟨_, .indexAddr _ _ _, _, _, _, _⟩ :: _) _; refine WPl.rdX (ReadR.indexE rfl rfl hasA (by first | assumption | omega)) ?_)
   | (show WPl _ _ _ _ _ _ _ (⟨_, .fieldAddr _ _ _, _, _, _, _⟩ :: _) _; refine WPl.rdX (ReadR.fieldE rfl hasA (by first | assumption | omega)) ?_)
   | (show WPl _ _ _ _ _ _ _ (⟨_, .load _ _, _, _, _, _⟩ :: _) _; first | refine WPl.rdX (ReadR.loadE rfl hasA (by assumption)) ?_ | refine WPl.rdX (ReadR.loadES (by assumption) (by first | assumption | omega) rfl hasA) ?_)
   | (show WPl _ _ _ _ _ _ _ (⟨_, .slice _ _ _ _ _, _, _, _, _⟩ :: _) _; first | refine WPl.rdX (ReadR.sliceH rfl rfl hasA (by omega)) ?_ | refine WPl.rdX (ReadR.sliceL rfl rfl hasA (by omega)) ?_ | refine WPl.rdX (ReadR.sliceLH rfl rfl rfl hasA (by omega) (by omega)) ?_)
   | fail)
  first | refine WPc.loop (σ := Nat × XS) (fun p => p.1 ≤ 8 ∧ p.2.pos ≤ b.length ∧ xall b 8 s0 = xall b (8 - p.1) p.2) (fun p => [bx g 224 (wkc h p.2 v), rb v b]) (fun p => [(0, .pointer (some ⟨g, 0, none⟩)), (3, .int .i64 p.1)]) (fun p => 8 - p.1) ((0, s0)) ?_ takesA frsA (fun st km hx hk => ?_)
  · exact ⟨by omega, hs0, rfl⟩
  obtain ⟨i, s⟩ := st
  dsimp only at hx hk ⊢
  obtain ⟨hi, hs, he⟩ := hx
  have hpt := pass_t g h s v b hs hl
  have hbt := btw_t s.proto
  rw [he]
  cases hb : btw s.proto with
  | false =>
    rw [hb] at hbt
    rw [xall_no hb]
    repeat' (first
     | refine WPl.nil ?_ | refine WPq.then ?_ | refine WPq.thenR ?_ | refine WPq.thenE ?_ | refine WPq.blockN ?_ | refine WPq.blockR ?_ | refine WPq.blockE ?_ | refine WPq.blockO rfl ?_ | refine WPc.seq ?_ | refine WPc.block ?_ | refine WPc.ret ?_ | refine WPc.exit ?_ | refine WPc.skip ?_ | refine WPc.region ?_
     | (refine isCond ?_; first | refine WPc.cT ?_ | refine WPc.cF ?_ | (refine WPc.cQ (fun hc => ?_) (fun hc => ?_) <;> try exact prA))
     | (refine isC 10 ?_; refine WPl.cV (hbt) ?_)
     | (refine isOp ?_; first | refine WPl.rd ?_ | refine WPl.sk ?_ | refine WPl.rdB ?_)
     | (show WPl _ _ _ _ _ _ _ (⟨_, .indexAddr _ _ _, _, _, _, _⟩ :: _) _; refine WPl.rdX (ReadR.indexE rfl rfl hasA (by first | assumption | omega)) ?_)
     | (show WPl _ _ _ _ _ _ _ (⟨_, .fieldAddr _ _ _, _, _, _, _⟩ :: _) _; refine WPl.rdX (ReadR.fieldE rfl hasA (by first | assumption | omega)) ?_)
     | (show WPl _ _ _ _ _ _ _ (⟨_, .load _ _, _, _, _, _⟩ :: _) _; first | refine WPl.rdX (ReadR.loadE rfl hasA (by assumption)) ?_ | refine WPl.rdX (ReadR.loadES (by assumption) (by first | assumption | omega) rfl hasA) ?_)
     | (show WPl _ _ _ _ _ _ _ (⟨_, .slice _ _ _ _ _, _, _, _, _⟩ :: _) _; first | refine WPl.rdX (ReadR.sliceH rfl rfl hasA (by omega)) ?_ | refine WPl.rdX (ReadR.sliceL rfl rfl hasA (by omega)) ?_ | refine WPl.rdX (ReadR.sliceLH rfl rfl rfl hasA (by omega) (by omega)) ?_)
     | (refine WPl.spQ (fun hc => ?_) (fun hc => ?_) <;> try exact prA)
     | fail)
    all_goals try (first | exact WPq.dTp | exact WPq.dTs | exact WPq.dV | exact WPq.dR | exact WPq.dR2 | exact WPq.dH | exact WPq.dBH | exact WPq.dT)
  | true =>
    rw [hb] at hbt
    by_cases h8 : i = 8
    · subst h8
      rw [Nat.sub_self, xall_end hb]
      repeat' (first
       | refine WPl.nil ?_ | refine WPq.then ?_ | refine WPq.thenR ?_ | refine WPq.thenE ?_ | refine WPq.blockN ?_ | refine WPq.blockR ?_ | refine WPq.blockE ?_ | refine WPq.blockO rfl ?_ | refine WPc.seq ?_ | refine WPc.block ?_ | refine WPc.ret ?_ | refine WPc.exit ?_ | refine WPc.skip ?_ | refine WPc.region ?_
       | (refine isCond ?_; first | refine WPc.cT ?_ | refine WPc.cF ?_ | (refine WPc.cQ (fun hc => ?_) (fun hc => ?_) <;> try exact prA))
       | (refine isC 10 ?_; refine WPl.cV (hbt) ?_)
       | (refine isOp ?_; first | refine WPl.rd ?_ | refine WPl.sk ?_ | refine WPl.rdB ?_)
       | (show WPl _ _ _ _ _ _ _ (⟨_, .indexAddr _ _ _, _, _, _, _⟩ :: _) _; refine WPl.rdX (ReadR.indexE rfl rfl hasA (by first | assumption | omega)) ?_)
       | (show WPl _ _ _ _ _ _ _ (⟨_, .fieldAddr _ _ _, _, _, _, _⟩ :: _) _; refine WPl.rdX (ReadR.fieldE rfl hasA (by first | assumption | omega)) ?_)
       | (show WPl _ _ _ _ _ _ _ (⟨_, .load _ _, _, _, _, _⟩ :: _) _; first | refine WPl.rdX (ReadR.loadE rfl hasA (by assumption)) ?_ | refine WPl.rdX (ReadR.loadES (by assumption) (by first | assumption | omega) rfl hasA) ?_)
       | (show WPl _ _ _ _ _ _ _ (⟨_, .slice _ _ _ _ _, _, _, _, _⟩ :: _) _; first | refine WPl.rdX (ReadR.sliceH rfl rfl hasA (by omega)) ?_ | refine WPl.rdX (ReadR.sliceL rfl rfl hasA (by omega)) ?_ | refine WPl.rdX (ReadR.sliceLH rfl rfl rfl hasA (by omega) (by omega)) ?_)
       | (refine WPl.spQ (fun hc => ?_) (fun hc => ?_) <;> try exact prA)
       | fail)
      all_goals try (first | exact WPq.dTp | exact WPq.dTs | exact WPq.dV | exact WPq.dR | exact WPq.dR2 | exact WPq.dH | exact WPq.dBH | exact WPq.dT)
    · obtain ⟨m, hm⟩ : ∃ m, 8 - i = m + 1 := ⟨7 - i, by omega⟩
      rw [hm]
      by_cases h0 : s.proto.toNat = 0 ∧ m + 1 < 8
      · obtain ⟨h0, h1⟩ := h0
        rw [xall_form hb h0 h1]
        repeat' (first
         | refine WPl.nil ?_ | refine WPq.then ?_ | refine WPq.thenR ?_ | refine WPq.thenE ?_ | refine WPq.blockN ?_ | refine WPq.blockR ?_ | refine WPq.blockE ?_ | refine WPq.blockO rfl ?_ | refine WPc.seq ?_ | refine WPc.block ?_ | refine WPc.ret ?_ | refine WPc.exit ?_ | refine WPc.skip ?_ | refine WPc.region ?_
         | (refine isCond ?_; first | refine WPc.cT ?_ | refine WPc.cF ?_ | (refine WPc.cQ (fun hc => ?_) (fun hc => ?_) <;> try exact prA))
         | (refine isC 10 ?_; refine WPl.cV (hbt) ?_)
         | (refine isOp ?_; first | refine WPl.rd ?_ | refine WPl.sk ?_ | refine WPl.rdB ?_)
         | (show WPl _ _ _ _ _ _ _ (⟨_, .indexAddr _ _ _, _, _, _, _⟩ :: _) _; refine WPl.rdX (ReadR.indexE rfl rfl hasA (by first | assumption | omega)) ?_)
         | (show WPl _ _ _ _ _ _ _ (⟨_, .fieldAddr _ _ _, _, _, _, _⟩ :: _) _; refine WPl.rdX (ReadR.fieldE rfl hasA (by first | assumption | omega)) ?_)
         | (show WPl _ _ _ _ _ _ _ (⟨_, .load _ _, _, _, _, _⟩ :: _) _; first | refine WPl.rdX (ReadR.loadE rfl hasA (by assumption)) ?_ | refine WPl.rdX (ReadR.loadES (by assumption) (by first | assumption | omega) rfl hasA) ?_)
         | (show WPl _ _ _ _ _ _ _ (⟨_, .slice _ _ _ _ _, _, _, _, _⟩ :: _) _; first | refine WPl.rdX (ReadR.sliceH rfl rfl hasA (by omega)) ?_ | refine WPl.rdX (ReadR.sliceL rfl rfl hasA (by omega)) ?_ | refine WPl.rdX (ReadR.sliceLH rfl rfl rfl hasA (by omega) (by omega)) ?_)
         | (refine WPl.spQ (fun hc => ?_) (fun hc => ?_) <;> try exact prA)
         | fail)
        all_goals try (first | exact WPq.dTp | exact WPq.dTs | exact WPq.dV | exact WPq.dR | exact WPq.dR2 | exact WPq.dH | exact WPq.dBH | exact WPq.dT)
      · cases hbad : xbad b s with
        | true =>
          rw [hbad, if_pos rfl, xstep, if_pos hbad] at hpt
          rw [xall_bad hb h0 hbad]
          repeat' (first
           | refine WPl.nil ?_ | refine WPq.then ?_ | refine WPq.thenR ?_ | refine WPq.thenE ?_ | refine WPq.blockN ?_ | refine WPq.blockR ?_ | refine WPq.blockE ?_ | refine WPq.blockO rfl ?_ | refine WPc.seq ?_ | refine WPc.block ?_ | refine WPc.ret ?_ | refine WPc.exit ?_ | refine WPc.skip ?_ | refine WPc.region ?_
           | (refine isCond ?_; first | refine WPc.cT ?_ | refine WPc.cF ?_ | (refine WPc.cQ (fun hc => ?_) (fun hc => ?_) <;> try exact prA))
           | (refine isC 10 ?_; refine WPl.cV (hbt) ?_)
           | (refine isC 28 ?_; refine WPl.cT (hpt) ?_)
           | (refine isOp ?_; first | refine WPl.rd ?_ | refine WPl.sk ?_ | refine WPl.rdB ?_)
           | (show WPl _ _ _ _ _ _ _ (⟨_, .indexAddr _ _ _, _, _, _, _⟩ :: _) _; refine WPl.rdX (ReadR.indexE rfl rfl hasA (by first | assumption | omega)) ?_)
           | (show WPl _ _ _ _ _ _ _ (⟨_, .fieldAddr _ _ _, _, _, _, _⟩ :: _) _; refine WPl.rdX (ReadR.fieldE rfl hasA (by first | assumption | omega)) ?_)
           | (show WPl _ _ _ _ _ _ _ (⟨_, .load _ _, _, _, _, _⟩ :: _) _; first | refine WPl.rdX (ReadR.loadE rfl hasA (by assumption)) ?_ | refine WPl.rdX (ReadR.loadES (by assumption) (by first | assumption | omega) rfl hasA) ?_)
           | (show WPl _ _ _ _ _ _ _ (⟨_, .slice _ _ _ _ _, _, _, _, _⟩ :: _) _; first | refine WPl.rdX (ReadR.sliceH rfl rfl hasA (by omega)) ?_ | refine WPl.rdX (ReadR.sliceL rfl rfl hasA (by omega)) ?_ | refine WPl.rdX (ReadR.sliceLH rfl rfl rfl hasA (by omega) (by omega)) ?_)
           | (refine WPl.spQ (fun hc => ?_) (fun hc => ?_) <;> try exact prA)
           | fail)
          all_goals try (first | exact WPq.dTp | exact WPq.dTs | exact WPq.dV | exact WPq.dR | exact WPq.dR2 | exact WPq.dH | exact WPq.dBH | exact WPq.dT)
        | false =>
          rw [hbad, if_neg (by decide), xstep, if_neg (by rw [hbad]; decide)] at hpt
          have hn := xall_next hb h0 hbad
          have hnp := xnext_pos hs hbad
          repeat' (first
           | refine WPl.nil ?_ | refine WPq.then ?_ | refine WPq.thenR ?_ | refine WPq.thenE ?_ | refine WPq.blockN ?_ | refine WPq.blockR ?_ | refine WPq.blockE ?_ | refine WPq.blockO rfl ?_ | refine WPc.seq ?_ | refine WPc.block ?_ | refine WPc.ret ?_ | refine WPc.exit ?_ | refine WPc.skip ?_ | refine WPc.region ?_
           | (refine isCond ?_; first | refine WPc.cT ?_ | refine WPc.cF ?_ | (refine WPc.cQ (fun hc => ?_) (fun hc => ?_) <;> try exact prA))
           | (refine isC 10 ?_; refine WPl.cV (hbt) ?_)
           | (refine isC 28 ?_; refine WPl.cT (hpt) ?_)
           | (refine isOp ?_; first | refine WPl.rd ?_ | refine WPl.sk ?_ | refine WPl.rdB ?_)
           | (show WPl _ _ _ _ _ _ _ (⟨_, .indexAddr _ _ _, _, _, _, _⟩ :: _) _; refine WPl.rdX (ReadR.indexE rfl rfl hasA (by first | assumption | omega)) ?_)
           | (show WPl _ _ _ _ _ _ _ (⟨_, .fieldAddr _ _ _, _, _, _, _⟩ :: _) _; refine WPl.rdX (ReadR.fieldE rfl hasA (by first | assumption | omega)) ?_)
           | (show WPl _ _ _ _ _ _ _ (⟨_, .load _ _, _, _, _, _⟩ :: _) _; first | refine WPl.rdX (ReadR.loadE rfl hasA (by assumption)) ?_ | refine WPl.rdX (ReadR.loadES (by assumption) (by first | assumption | omega) rfl hasA) ?_)
           | (show WPl _ _ _ _ _ _ _ (⟨_, .slice _ _ _ _ _, _, _, _, _⟩ :: _) _; first | refine WPl.rdX (ReadR.sliceH rfl rfl hasA (by omega)) ?_ | refine WPl.rdX (ReadR.sliceL rfl rfl hasA (by omega)) ?_ | refine WPl.rdX (ReadR.sliceLH rfl rfl rfl hasA (by omega) (by omega)) ?_)
           | (refine WPl.spQ (fun hc => ?_) (fun hc => ?_) <;> try exact prA)
           | fail)
          all_goals exact WPq.rnd (i + 1, xnext b s) ⟨by show i + 1 ≤ 8; omega, hnp, by show _ = xall b (8 - (i + 1)) _; rw [hn, show 8 - (i + 1) = m by omega]⟩ (by show 8 - (i + 1) < _; omega)
end Go.Proofs.YtpilenbdimhegaaGreatDoor
/- Layer 14 (ipsix): reading: contracts. -/
namespace Go.Proofs.YtpilenbdimhegaaGreatDoor
open Go.RowKit
set_option linter.unusedSimpArgs false
set_option linter.unusedVariables false
set_option maxRecDepth 20000
set_option maxHeartbeats 4000000
attribute [local irreducible] WPc WPl WPq ReadR OpT BinR HasS bx rdN rowN Take Takes Prov Triple ResF BuildP Done ag Int.decLt Int.decLe Int.instDecidableEq

def xerr0 (b : List UInt8) : Int :=
  if 2048 < b.length then 10 else if b.length < 40 then 9 else if byteN b 0 / 16 ≠ 6 then 12 else if b.length < 40 + val (seg b 4 2) then 9 else if 40 + val (seg b 4 2) < b.length then 10
  else if byteN b 7 = 0 then 4 else 0
def xs0 (b : List UInt8) : XS := ⟨b.getD 6 0, 40, false⟩
def xerr (b : List UInt8) : Int := if xerr0 b = 0 then (xall b 8 (xs0 b)).1 else xerr0 b
def xhead (b : List UInt8) (s : XS) : Hd := ⟨true, s.proto, (s.pos : Int), ofA (seg b 8 16), ofA (seg b 24 16), s.part, b.getD 7 0⟩
def xread (b : List UInt8) : Hd := if xerr b = 0 then xhead b (xall b 8 (xs0 b)).2 else Hd.none
abbrev sVal (b : List UInt8) : Value := .tuple #[ag (hdc (xread b)), .int .i64 (xerr b)]
theorem xerr0_zero {b : List UInt8} (h : xerr0 b = 0) : b.length ≤ 2048 ∧ 40 ≤ b.length ∧ byteN b 0 / 16 = 6 ∧ 40 + val (seg b 4 2) = b.length ∧ byteN b 7 ≠ 0 := by
  unfold xerr0 at h
  repeat' (split at h)
  all_goals first | omega | (cases h; done) | skip
theorem xerr0_ne {b : List UInt8} (h : ¬ xerr0 b = 0) : 2048 < b.length ∨ b.length < 40 ∨ byteN b 0 / 16 ≠ 6 ∨ 40 + val (seg b 4 2) ≠ b.length ∨ byteN b 7 = 0 := by
  apply Classical.byContradiction
  intro hn
  apply h
  unfold xerr0
  repeat' (first | omega | split)
attribute [local irreducible] xall ofA
theorem xread_t (v : Value) (b : List UInt8) (hl : b.length ≤ 100000) : Triple Tryz.prog 105 #[v] [rb v b] (RVal (sVal b)) := by
  have hb0 := byteN_lt b 0
  have hb7 := byteN_lt b 7
  have hv1 := val2_lt (l := b) (k := 4)
  have u0 : byteN b 0 = (b.getD 0 0).toNat := rfl
  have u7 : byteN b 7 = (b.getD 7 0).toNat := rfl
  by_cases he : xerr0 b = 0
  · obtain ⟨h1, h2, h3, h4, h5⟩ := xerr0_zero he
    have ha1 := (ofA (seg b 8 16)).len
    have ha2 := (ofA (seg b 24 16)).len
    obtain ⟨c, hc⟩ : ∃ c, c = (xall b 8 (xs0 b)).1 := ⟨_, rfl⟩
    obtain ⟨s, hs⟩ : ∃ s, s = (xall b 8 (xs0 b)).2 := ⟨_, rfl⟩
    have hat := fun g => all_t g ⟨true, 0, 0, ofA (seg b 8 16), ofA (seg b 24 16), false, b.getD 7 0⟩ (xs0 b) v b (by show 40 ≤ _; omega) hl
    have hx : xerr b = c := by unfold xerr; rw [if_pos he, hc]
    have hr : xread b = if c = 0 then xhead b s else Hd.none := by unfold xread; rw [hx, hs]
    rw [← hc, ← hs] at hat
    rw [sVal, hx, hr]
    clear hx hr hc hs
    by_cases hc0 : c = 0
    · rw [if_pos hc0]
      subst hc0
      refine Triple.enter Tryz.func105 rfl Tryz.ntmps105 rfl (fun W => ?_)
      dsimp only [argsF, Nat.reduceAdd]
      refine WPc.know (p := v.oneCell' = true) (HasS.one (n := b.length) (xs := u8s b) hasA) fun hone => ?_
      repeat' (first
       | refine WPl.nil ?_ | refine WPq.then ?_ | refine WPq.thenR ?_ | refine WPq.thenE ?_ | refine WPq.blockN ?_ | refine WPq.blockR ?_ | refine WPq.blockE ?_ | refine WPq.blockO rfl ?_ | refine WPc.seq ?_ | refine WPc.block ?_ | refine WPc.ret ?_ | refine WPc.exit ?_ | refine WPc.skip ?_ | refine WPc.region ?_
       | (refine isReg 17 ?_; refine WPc.drA [([], [71, 72, 73, 74, 75, 77]), ([0], [68, 71, 72, 73, 74, 75, 77]), ([0, 1], [68, 69, 71, 72, 73, 74, 75, 77]), ([], [68, 69, 70, 72, 73, 74, 75, 77]), ([], [68, 69, 70, 71, 73, 74, 75, 77]), ([], [68, 69, 70, 71, 72, 77]), ([5], [68, 69, 70, 71, 72, 73, 77]), ([5, 6], [68, 69, 70, 71, 72, 73, 74, 77]), ([0, 1, 2, 3, 4, 5, 6, 7], [68, 69, 70, 71, 72, 73, 74, 75, 77]), ([], [68, 69, 70, 71, 72, 73, 74, 75, 76]), ([0, 1, 2, 3, 4, 5, 6, 7, 8, 9], [68, 69, 70, 71, 72, 73, 74, 75, 76, 77]), ([0, 1, 2, 3, 4, 5, 6, 7, 8, 9, 10], [68, 69, 70, 71, 72, 73, 74, 75, 76, 77, 78]), ([0, 1, 2, 3, 4, 5, 6, 7, 8, 9, 10, 11], [68, 69, 70, 71, 72, 73, 74, 75, 76, 77, 78, 79])] [] (Γx := []) ?_; dsimp only [prev0, List.length_nil, List.length_cons])
       | (refine gAny ?_; first | (refine gC 32 ?_; refine RGl.vl (fun e hk => OpT.callN (get_t v b 4 2 (by omega) (by omega) (by omega) (by omega))) ?_) | (refine gC 59 ?_; refine RGl.vl (fun e hk => OpT.callN (Of_t (subv 1 v 8 16) (seg b 8 16))) ?_) | (refine gC 65 ?_; refine RGl.vl (fun e hk => OpT.callN (Of_t (subv 1 v 24 16) (seg b 24 16))) ?_) | (refine gOp ?_; first | refine RGl.rdA ?_ | refine RGl.rdX (fun e hk => by (try dsimp only [bndR, ensR, oksR, fcutR, List.append_nil, List.nil_append, List.cons_append, List.append_assoc] at hk ⊢); exact readB) ?_) | (refine gBx ?_; refine RGl.nwA ?_) | (refine RGl.fin (fun e hk => ?_); (try dsimp only [bndA, ensAR, oksA, List.append_nil, List.nil_append, List.cons_append, List.append_assoc] at hk ⊢); (repeat (obtain ⟨hk1, hk⟩ := hk))) | fail)
       | (refine isCond ?_; first | refine WPc.cT ?_ | refine WPc.cF ?_ | (refine WPc.cQ (fun hc => ?_) (fun hc => ?_) <;> try exact prA))
       | (refine isD 2 ?_; first | (refine isAl ?_; refine WPl.nw fun gr => ?_) | (refine isBx ?_; refine WPl.nw fun gr => ?_))
       | (refine isC 32 ?_; refine WPl.cV (get_t v b 4 2 (by omega) (by omega) (by omega) (by omega)) ?_)
       | (refine isC 59 ?_; refine WPl.cV (Of_t (subv 1 v 8 16) (seg b 8 16)) ?_)
       | (refine isC 65 ?_; refine WPl.cV (Of_t (subv 1 v 24 16) (seg b 24 16)) ?_)
       | (refine isC 81 ?_; refine WPl.cT (hat (blk (e 11).1)) ?_)
       | (refine isOp ?_; first | refine WPl.rd ?_ | refine WPl.sk ?_ | refine WPl.rdB ?_)
       | (refine isAl ?_; refine WPl.nw fun g => ?_)
       | (refine isBx ?_; refine WPl.nw fun g => ?_)
       | (refine isSt ?_; first | refine WPl.st1 ?_ | refine WPl.stA ?_ | refine WPl.stEB ?_ | refine WPl.stRB ?_)
       | (show WPl _ _ _ _ _ _ _ (⟨_, .indexAddr _ _ _, _, _, _, _⟩ :: _) _; refine WPl.rdX (ReadR.indexE rfl rfl hasA (by first | assumption | omega)) ?_)
       | (show WPl _ _ _ _ _ _ _ (⟨_, .fieldAddr _ _ _, _, _, _, _⟩ :: _) _; refine WPl.rdX (ReadR.fieldE rfl hasA (by first | assumption | omega)) ?_)
       | (show WPl _ _ _ _ _ _ _ (⟨_, .load _ _, _, _, _, _⟩ :: _) _; first | refine WPl.rdX (ReadR.loadE rfl hasA (by assumption)) ?_ | refine WPl.rdX (ReadR.loadES (by assumption) (by first | assumption | omega) rfl hasA) ?_)
       | (show WPl _ _ _ _ _ _ _ (⟨_, .slice _ _ _ _ _, _, _, _, _⟩ :: _) _; first | refine WPl.rdX (ReadR.sliceH rfl rfl hasA (by omega)) ?_ | refine WPl.rdX (ReadR.sliceL rfl rfl hasA (by omega)) ?_ | refine WPl.rdX (ReadR.sliceLH rfl rfl rfl hasA (by omega) (by omega)) ?_)
       | (refine WPl.spQ (fun hc => ?_) (fun hc => ?_) <;> try exact prA)
       | fail)
      all_goals try (first | exact WPq.dTp | exact WPq.dTs | exact WPq.dV | exact WPq.dR | exact WPq.dR2 | exact WPq.dH | exact WPq.dBH | exact WPq.dT)
    · rw [if_neg hc0]
      refine Triple.enter Tryz.func105 rfl Tryz.ntmps105 rfl (fun W => ?_)
      dsimp only [argsF, Nat.reduceAdd]
      refine WPc.know (p := v.oneCell' = true) (HasS.one (n := b.length) (xs := u8s b) hasA) fun hone => ?_
      repeat' (first
       | refine WPl.nil ?_ | refine WPq.then ?_ | refine WPq.thenR ?_ | refine WPq.thenE ?_ | refine WPq.blockN ?_ | refine WPq.blockR ?_ | refine WPq.blockE ?_ | refine WPq.blockO rfl ?_ | refine WPc.seq ?_ | refine WPc.block ?_ | refine WPc.ret ?_ | refine WPc.exit ?_ | refine WPc.skip ?_ | refine WPc.region ?_
       | (refine isReg 17 ?_; refine WPc.drA [([], [71, 72, 73, 74, 75, 77]), ([0], [68, 71, 72, 73, 74, 75, 77]), ([0, 1], [68, 69, 71, 72, 73, 74, 75, 77]), ([], [68, 69, 70, 72, 73, 74, 75, 77]), ([], [68, 69, 70, 71, 73, 74, 75, 77]), ([], [68, 69, 70, 71, 72, 77]), ([5], [68, 69, 70, 71, 72, 73, 77]), ([5, 6], [68, 69, 70, 71, 72, 73, 74, 77]), ([0, 1, 2, 3, 4, 5, 6, 7], [68, 69, 70, 71, 72, 73, 74, 75, 77]), ([], [68, 69, 70, 71, 72, 73, 74, 75, 76]), ([0, 1, 2, 3, 4, 5, 6, 7, 8, 9], [68, 69, 70, 71, 72, 73, 74, 75, 76, 77]), ([0, 1, 2, 3, 4, 5, 6, 7, 8, 9, 10], [68, 69, 70, 71, 72, 73, 74, 75, 76, 77, 78]), ([0, 1, 2, 3, 4, 5, 6, 7, 8, 9, 10, 11], [68, 69, 70, 71, 72, 73, 74, 75, 76, 77, 78, 79])] [] (Γx := []) ?_; dsimp only [prev0, List.length_nil, List.length_cons])
       | (refine gAny ?_; first | (refine gC 32 ?_; refine RGl.vl (fun e hk => OpT.callN (get_t v b 4 2 (by omega) (by omega) (by omega) (by omega))) ?_) | (refine gC 59 ?_; refine RGl.vl (fun e hk => OpT.callN (Of_t (subv 1 v 8 16) (seg b 8 16))) ?_) | (refine gC 65 ?_; refine RGl.vl (fun e hk => OpT.callN (Of_t (subv 1 v 24 16) (seg b 24 16))) ?_) | (refine gOp ?_; first | refine RGl.rdA ?_ | refine RGl.rdX (fun e hk => by (try dsimp only [bndR, ensR, oksR, fcutR, List.append_nil, List.nil_append, List.cons_append, List.append_assoc] at hk ⊢); exact readB) ?_) | (refine gBx ?_; refine RGl.nwA ?_) | (refine RGl.fin (fun e hk => ?_); (try dsimp only [bndA, ensAR, oksA, List.append_nil, List.nil_append, List.cons_append, List.append_assoc] at hk ⊢); (repeat (obtain ⟨hk1, hk⟩ := hk))) | fail)
       | (refine isCond ?_; first | refine WPc.cT ?_ | refine WPc.cF ?_ | (refine WPc.cQ (fun hc => ?_) (fun hc => ?_) <;> try exact prA))
       | (refine isD 2 ?_; first | (refine isAl ?_; refine WPl.nw fun gr => ?_) | (refine isBx ?_; refine WPl.nw fun gr => ?_))
       | (refine isC 32 ?_; refine WPl.cV (get_t v b 4 2 (by omega) (by omega) (by omega) (by omega)) ?_)
       | (refine isC 59 ?_; refine WPl.cV (Of_t (subv 1 v 8 16) (seg b 8 16)) ?_)
       | (refine isC 65 ?_; refine WPl.cV (Of_t (subv 1 v 24 16) (seg b 24 16)) ?_)
       | (refine isC 81 ?_; refine WPl.cT (hat (blk (e 11).1)) ?_)
       | (refine isOp ?_; first | refine WPl.rd ?_ | refine WPl.sk ?_ | refine WPl.rdB ?_)
       | (refine isAl ?_; refine WPl.nw fun g => ?_)
       | (refine isBx ?_; refine WPl.nw fun g => ?_)
       | (refine isSt ?_; first | refine WPl.st1 ?_ | refine WPl.stA ?_ | refine WPl.stEB ?_ | refine WPl.stRB ?_)
       | (show WPl _ _ _ _ _ _ _ (⟨_, .indexAddr _ _ _, _, _, _, _⟩ :: _) _; refine WPl.rdX (ReadR.indexE rfl rfl hasA (by first | assumption | omega)) ?_)
       | (show WPl _ _ _ _ _ _ _ (⟨_, .fieldAddr _ _ _, _, _, _, _⟩ :: _) _; refine WPl.rdX (ReadR.fieldE rfl hasA (by first | assumption | omega)) ?_)
       | (show WPl _ _ _ _ _ _ _ (⟨_, .load _ _, _, _, _, _⟩ :: _) _; first | refine WPl.rdX (ReadR.loadE rfl hasA (by assumption)) ?_ | refine WPl.rdX (ReadR.loadES (by assumption) (by first | assumption | omega) rfl hasA) ?_)
       | (show WPl _ _ _ _ _ _ _ (⟨_, .slice _ _ _ _ _, _, _, _, _⟩ :: _) _; first | refine WPl.rdX (ReadR.sliceH rfl rfl hasA (by omega)) ?_ | refine WPl.rdX (ReadR.sliceL rfl rfl hasA (by omega)) ?_ | refine WPl.rdX (ReadR.sliceLH rfl rfl rfl hasA (by omega) (by omega)) ?_)
       | (refine WPl.spQ (fun hc => ?_) (fun hc => ?_) <;> try exact prA)
       | fail)
      all_goals try (first | exact WPq.dTp | exact WPq.dTs | exact WPq.dV | exact WPq.dR | exact WPq.dR2 | exact WPq.dH | exact WPq.dBH | exact WPq.dT)
  · rw [show sVal b = .tuple #[ag (hdc Hd.none), .int .i64 (xerr0 b)] by unfold sVal xread xerr; rw [if_neg he, if_neg he]]
    have hne := xerr0_ne he
    refine Triple.enter Tryz.func105 rfl Tryz.ntmps105 rfl (fun W => ?_)
    dsimp only [argsF, Nat.reduceAdd]
    repeat' (first
     | refine WPl.nil ?_ | refine WPq.then ?_ | refine WPq.thenR ?_ | refine WPq.thenE ?_ | refine WPq.blockN ?_ | refine WPq.blockR ?_ | refine WPq.blockE ?_ | refine WPq.blockO rfl ?_ | refine WPc.seq ?_ | refine WPc.block ?_ | refine WPc.ret ?_ | refine WPc.exit ?_ | refine WPc.skip ?_ | refine WPc.region ?_
     | (refine isReg 17 ?_; refine WPc.drA [([], [71, 72, 73, 74, 75, 77]), ([0], [68, 71, 72, 73, 74, 75, 77]), ([0, 1], [68, 69, 71, 72, 73, 74, 75, 77]), ([], [68, 69, 70, 72, 73, 74, 75, 77]), ([], [68, 69, 70, 71, 73, 74, 75, 77]), ([], [68, 69, 70, 71, 72, 77]), ([5], [68, 69, 70, 71, 72, 73, 77]), ([5, 6], [68, 69, 70, 71, 72, 73, 74, 77]), ([0, 1, 2, 3, 4, 5, 6, 7], [68, 69, 70, 71, 72, 73, 74, 75, 77]), ([], [68, 69, 70, 71, 72, 73, 74, 75, 76]), ([0, 1, 2, 3, 4, 5, 6, 7, 8, 9], [68, 69, 70, 71, 72, 73, 74, 75, 76, 77]), ([0, 1, 2, 3, 4, 5, 6, 7, 8, 9, 10], [68, 69, 70, 71, 72, 73, 74, 75, 76, 77, 78]), ([0, 1, 2, 3, 4, 5, 6, 7, 8, 9, 10, 11], [68, 69, 70, 71, 72, 73, 74, 75, 76, 77, 78, 79])] [] (Γx := []) ?_; dsimp only [prev0, List.length_nil, List.length_cons])
     | (refine gAny ?_; first | (refine gC 32 ?_; refine RGl.vl (fun e hk => OpT.callN (get_t v b 4 2 (by omega) (by omega) (by omega) (by omega))) ?_) | (refine gOp ?_; first | refine RGl.rdA ?_ | refine RGl.rdX (fun e hk => by (try dsimp only [bndR, ensR, oksR, fcutR, List.append_nil, List.nil_append, List.cons_append, List.append_assoc] at hk ⊢); exact readB) ?_) | (refine gBx ?_; refine RGl.nwA ?_) | (refine RGl.fin (fun e hk => ?_); (try dsimp only [bndA, ensAR, oksA, List.append_nil, List.nil_append, List.cons_append, List.append_assoc] at hk ⊢); (repeat (obtain ⟨hk1, hk⟩ := hk))) | fail)
     | (refine isCond ?_; first | refine WPc.cT ?_ | refine WPc.cF ?_ | (refine WPc.cQ (fun hc => ?_) (fun hc => ?_) <;> try exact prA))
     | (refine isD 2 ?_; first | (refine isAl ?_; refine WPl.nw fun gr => ?_) | (refine isBx ?_; refine WPl.nw fun gr => ?_))
     | (refine isC 32 ?_; refine WPl.cV (get_t v b 4 2 (by omega) (by omega) (by omega) (by omega)) ?_)
     | (refine isOp ?_; first | refine WPl.rd ?_ | refine WPl.sk ?_ | refine WPl.rdB ?_)
     | (refine isAl ?_; refine WPl.nw fun g => ?_)
     | (refine isBx ?_; refine WPl.nw fun g => ?_)
     | (refine isSt ?_; first | refine WPl.st1 ?_ | refine WPl.stA ?_ | refine WPl.stEB ?_ | refine WPl.stRB ?_)
     | (show WPl _ _ _ _ _ _ _ (⟨_, .indexAddr _ _ _, _, _, _, _⟩ :: _) _; refine WPl.rdX (ReadR.indexE rfl rfl hasA (by first | assumption | omega)) ?_)
     | (show WPl _ _ _ _ _ _ _ (⟨_, .fieldAddr _ _ _, _, _, _, _⟩ :: _) _; refine WPl.rdX (ReadR.fieldE rfl hasA (by first | assumption | omega)) ?_)
     | (show WPl _ _ _ _ _ _ _ (⟨_, .load _ _, _, _, _, _⟩ :: _) _; first | refine WPl.rdX (ReadR.loadE rfl hasA (by assumption)) ?_ | refine WPl.rdX (ReadR.loadES (by assumption) (by first | assumption | omega) rfl hasA) ?_)
     | (show WPl _ _ _ _ _ _ _ (⟨_, .slice _ _ _ _ _, _, _, _, _⟩ :: _) _; first | refine WPl.rdX (ReadR.sliceH rfl rfl hasA (by omega)) ?_ | refine WPl.rdX (ReadR.sliceL rfl rfl hasA (by omega)) ?_ | refine WPl.rdX (ReadR.sliceLH rfl rfl rfl hasA (by omega) (by omega)) ?_)
     | (refine WPl.spQ (fun hc => ?_) (fun hc => ?_) <;> try exact prA)
     | fail)
    all_goals
      refine WPq.dV (hc := ?_)
      show Value.tuple #[_, Value.int .i64 _] = Value.tuple #[_, Value.int .i64 _]
      congr 5
      unfold xerr0
      repeat' (first | omega | split)
end Go.Proofs.YtpilenbdimhegaaGreatDoor
/- Layer 14 (ipsix): writing: contracts and plain facts. -/
namespace Go.Proofs.YtpilenbdimhegaaGreatDoor
open Go.RowKit
set_option linter.unusedSimpArgs false
set_option linter.unusedVariables false
set_option maxRecDepth 20000
set_option maxHeartbeats 4000000
attribute [local irreducible] WPc WPl WPq ReadR OpT BinR HasS bx rdN rowN Take Takes Prov Triple ResF BuildP Done ag Int.decLt Int.decLe Int.instDecidableEq

def xwBad (h : Hd) : Bool := !h.six || (h.part || (decide (((h.hops.toNat : Nat) : Int) = 0) || (!h.src.six || (!h.dst.six || btw h.proto))))
def xwerr (h : Hd) (n : Nat) : Int := if xwBad h then 1 else if 2008 < n then 10 else 0
def xpkt (h : Hd) (d : List UInt8) : List UInt8 := [nbs [96, 0, 0, 0] ++ be d.length 2, nbs [(h.proto.toNat : Nat), (h.hops.toNat : Nat)], h.src.bytes, h.dst.bytes, d].flatten
def xwL (h : Hd) (d : List UInt8) : List UInt8 := if xwerr h d.length = 0 then xpkt h d else []
attribute [local irreducible] xpkt be btw
end Go.Proofs.YtpilenbdimhegaaGreatDoor
/- Layer 16 (pkt): packets, read and built: contracts. -/
namespace Go.Proofs.YtpilenbdimhegaaGreatDoor
open Go.RowKit
set_option linter.unusedSimpArgs false
set_option linter.unusedVariables false
set_option maxRecDepth 20000
set_option maxHeartbeats 4000000
attribute [local irreducible] WPc WPl WPq ReadR OpT BinR HasS bx rdN rowN Take Takes Prov Triple ResF BuildP Done ag Int.decLt Int.decLe Int.instDecidableEq

/-- A flow. -/
structure Fl where
  src : Adr
  dst : Adr
  sp : Nat
  dp : Nat
  proto : UInt8
abbrev flc (f : Fl) : Ch := [(1, [.bool f.src.six]), (16, u8s f.src.b), (1, [.bool f.dst.six]), (16, u8s f.dst.b), (1, [.int .u16 (f.sp : Int)]), (1, [.int .u16 (f.dp : Int)]), (1, [.int .u8 ((f.proto.toNat : Nat) : Int)])]
def Fl.none : Fl := ⟨Adr.zero, Adr.zero, 0, 0, 0⟩
/-- A packet that was read. -/
structure Pk where
  hd : Hd
  sg : Sg
  fl : Fl
abbrev pkc (p : Pk) : Ch := [(1, [.bool p.hd.six]), (1, [.int .u8 ((p.hd.proto.toNat : Nat) : Int)]), (1, [.int .i64 p.hd.pos]), (1, [.bool p.hd.src.six]), (16, u8s p.hd.src.b), (1, [.bool p.hd.dst.six]), (16, u8s p.hd.dst.b), (1, [.bool p.hd.part]), (1, [.int .u8 ((p.hd.hops.toNat : Nat) : Int)]), (1, [.int .u16 (p.sg.src : Int)]), (1, [.int .u16 (p.sg.dst : Int)]), (1, [.int .u8 ((p.sg.flags.toNat : Nat) : Int)]), (1, [.int .i64 p.sg.sumAt]), (1, [.bool p.sg.zero]), (1, [.int .i64 p.sg.data]), (1, [.bool p.fl.src.six]), (16, u8s p.fl.src.b), (1, [.bool p.fl.dst.six]), (16, u8s p.fl.dst.b), (1, [.int .u16 (p.fl.sp : Int)]), (1, [.int .u16 (p.fl.dp : Int)]), (1, [.int .u8 ((p.fl.proto.toNat : Nat) : Int)])]
def Pk.none : Pk := ⟨Hd.none, Sg.none, Fl.none⟩
def phE (b : List UInt8) : Int := if b.length = 0 then 9 else if byteN b 0 / 16 = 4 then ferr b else if byteN b 0 / 16 = 6 then xerr b else 12
def phH (b : List UInt8) : Hd := if b.length = 0 then Hd.none else if byteN b 0 / 16 = 4 then fread b else if byteN b 0 / 16 = 6 then xread b else Hd.none
abbrev phVal (b : List UInt8) : Value := .tuple #[ag (hdc (phH b)), .int .i64 (phE b)]
attribute [local irreducible] xread xerr fread ferr
theorem phead_t (v : Value) (b : List UInt8) (hl : b.length ≤ 100000) : Triple Tryz.prog 62 #[v] [rb v b] (RVal (phVal b)) := by
  have hb0 := byteN_lt b 0
  have u0 : byteN b 0 = (b.getD 0 0).toNat := rfl
  have c4 := fread_t v b (by omega)
  have c6 := xread_t v b hl
  by_cases h0 : b.length = 0
  · rw [show phVal b = .tuple #[ag (hdc Hd.none), .int .i64 9] by unfold phVal phH phE; rw [if_pos h0, if_pos h0]]
    refine Triple.enter Tryz.func62 rfl Tryz.ntmps62 rfl (fun W => ?_)
    dsimp only [argsF, Nat.reduceAdd]
    repeat' (first
     | refine WPl.nil ?_ | refine WPq.then ?_ | refine WPq.thenR ?_ | refine WPq.thenE ?_ | refine WPq.blockN ?_ | refine WPq.blockR ?_ | refine WPq.blockE ?_ | refine WPq.blockO rfl ?_ | refine WPc.seq ?_ | refine WPc.block ?_ | refine WPc.ret ?_ | refine WPc.exit ?_ | refine WPc.skip ?_ | refine WPc.region ?_
     | (refine isCond ?_; first | refine WPc.cT ?_ | refine WPc.cF ?_ | (refine WPc.cQ (fun hc => ?_) (fun hc => ?_) <;> try exact prA))
     | (refine isOp ?_; first | refine WPl.rd ?_ | refine WPl.sk ?_ | refine WPl.rdB ?_)
     | (refine isAl ?_; refine WPl.nw fun g => ?_)
     | (refine isSt ?_; first | refine WPl.st1 ?_ | refine WPl.stA ?_ | refine WPl.stEB ?_ | refine WPl.stRB ?_)
     | (show WPl _ _ _ _ _ _ _ (⟨_, .indexAddr _ _ _, _, _, _, _⟩ :: _) _; refine WPl.rdX (ReadR.indexE rfl rfl hasA (by first | assumption | omega)) ?_)
     | (show WPl _ _ _ _ _ _ _ (⟨_, .fieldAddr _ _ _, _, _, _, _⟩ :: _) _; refine WPl.rdX (ReadR.fieldE rfl hasA (by first | assumption | omega)) ?_)
     | (show WPl _ _ _ _ _ _ _ (⟨_, .load _ _, _, _, _, _⟩ :: _) _; first | refine WPl.rdX (ReadR.loadE rfl hasA (by assumption)) ?_ | refine WPl.rdX (ReadR.loadES (by assumption) (by first | assumption | omega) rfl hasA) ?_)
     | (show WPl _ _ _ _ _ _ _ (⟨_, .slice _ _ _ _ _, _, _, _, _⟩ :: _) _; first | refine WPl.rdX (ReadR.sliceH rfl rfl hasA (by omega)) ?_ | refine WPl.rdX (ReadR.sliceL rfl rfl hasA (by omega)) ?_ | refine WPl.rdX (ReadR.sliceLH rfl rfl rfl hasA (by omega) (by omega)) ?_)
     | (refine WPl.spQ (fun hc => ?_) (fun hc => ?_) <;> try exact prA)
     | fail)
    all_goals try (first | exact WPq.dTp | exact WPq.dTs | exact WPq.dV | exact WPq.dR | exact WPq.dR2 | exact WPq.dH | exact WPq.dBH | exact WPq.dT)
  · by_cases h4 : byteN b 0 / 16 = 4
    · rw [show phVal b = fVal b by unfold phVal phH phE; rw [if_neg h0, if_neg h0, if_pos h4, if_pos h4]]
      obtain ⟨X, hX⟩ : ∃ X, X = fread b := ⟨_, rfl⟩
      obtain ⟨c, hc⟩ : ∃ c, c = ferr b := ⟨_, rfl⟩
      simp only [fVal] at c4 ⊢
      rw [← hX, ← hc] at c4 ⊢
      clear hX hc
      have k1 := X.src.len
      have k2 := X.dst.len
      refine Triple.enter Tryz.func62 rfl Tryz.ntmps62 rfl (fun W => ?_)
      dsimp only [argsF, Nat.reduceAdd]
      repeat' (first
       | refine WPl.nil ?_ | refine WPq.then ?_ | refine WPq.thenR ?_ | refine WPq.thenE ?_ | refine WPq.blockN ?_ | refine WPq.blockR ?_ | refine WPq.blockE ?_ | refine WPq.blockO rfl ?_ | refine WPc.seq ?_ | refine WPc.block ?_ | refine WPc.ret ?_ | refine WPc.exit ?_ | refine WPc.skip ?_ | refine WPc.region ?_
       | (refine isCond ?_; first | refine WPc.cT ?_ | refine WPc.cF ?_ | (refine WPc.cQ (fun hc => ?_) (fun hc => ?_) <;> try exact prA))
       | (refine isC 15 ?_; refine WPl.cV (c4) ?_)
       | (refine isOp ?_; first | refine WPl.rd ?_ | refine WPl.sk ?_ | refine WPl.rdB ?_)
       | (refine isAl ?_; refine WPl.nw fun g => ?_)
       | (refine isSt ?_; first | refine WPl.st1 ?_ | refine WPl.stA ?_ | refine WPl.stEB ?_ | refine WPl.stRB ?_)
       | (show WPl _ _ _ _ _ _ _ (⟨_, .indexAddr _ _ _, _, _, _, _⟩ :: _) _; refine WPl.rdX (ReadR.indexE rfl rfl hasA (by first | assumption | omega)) ?_)
       | (show WPl _ _ _ _ _ _ _ (⟨_, .fieldAddr _ _ _, _, _, _, _⟩ :: _) _; refine WPl.rdX (ReadR.fieldE rfl hasA (by first | assumption | omega)) ?_)
       | (show WPl _ _ _ _ _ _ _ (⟨_, .load _ _, _, _, _, _⟩ :: _) _; first | refine WPl.rdX (ReadR.loadE rfl hasA (by assumption)) ?_ | refine WPl.rdX (ReadR.loadES (by assumption) (by first | assumption | omega) rfl hasA) ?_)
       | (show WPl _ _ _ _ _ _ _ (⟨_, .slice _ _ _ _ _, _, _, _, _⟩ :: _) _; first | refine WPl.rdX (ReadR.sliceH rfl rfl hasA (by omega)) ?_ | refine WPl.rdX (ReadR.sliceL rfl rfl hasA (by omega)) ?_ | refine WPl.rdX (ReadR.sliceLH rfl rfl rfl hasA (by omega) (by omega)) ?_)
       | (refine WPl.spQ (fun hc => ?_) (fun hc => ?_) <;> try exact prA)
       | fail)
      all_goals try (first | exact WPq.dTp | exact WPq.dTs | exact WPq.dV | exact WPq.dR | exact WPq.dR2 | exact WPq.dH | exact WPq.dBH | exact WPq.dT)
    · by_cases h6 : byteN b 0 / 16 = 6
      · rw [show phVal b = sVal b by unfold phVal phH phE; rw [if_neg h0, if_neg h0, if_neg h4, if_neg h4, if_pos h6, if_pos h6]]
        obtain ⟨X, hX⟩ : ∃ X, X = xread b := ⟨_, rfl⟩
        obtain ⟨c, hc⟩ : ∃ c, c = xerr b := ⟨_, rfl⟩
        simp only [sVal] at c6 ⊢
        rw [← hX, ← hc] at c6 ⊢
        clear hX hc
        have k1 := X.src.len
        have k2 := X.dst.len
        refine Triple.enter Tryz.func62 rfl Tryz.ntmps62 rfl (fun W => ?_)
        dsimp only [argsF, Nat.reduceAdd]
        repeat' (first
         | refine WPl.nil ?_ | refine WPq.then ?_ | refine WPq.thenR ?_ | refine WPq.thenE ?_ | refine WPq.blockN ?_ | refine WPq.blockR ?_ | refine WPq.blockE ?_ | refine WPq.blockO rfl ?_ | refine WPc.seq ?_ | refine WPc.block ?_ | refine WPc.ret ?_ | refine WPc.exit ?_ | refine WPc.skip ?_ | refine WPc.region ?_
         | (refine isCond ?_; first | refine WPc.cT ?_ | refine WPc.cF ?_ | (refine WPc.cQ (fun hc => ?_) (fun hc => ?_) <;> try exact prA))
         | (refine isC 21 ?_; refine WPl.cV (c6) ?_)
         | (refine isOp ?_; first | refine WPl.rd ?_ | refine WPl.sk ?_ | refine WPl.rdB ?_)
         | (refine isAl ?_; refine WPl.nw fun g => ?_)
         | (refine isSt ?_; first | refine WPl.st1 ?_ | refine WPl.stA ?_ | refine WPl.stEB ?_ | refine WPl.stRB ?_)
         | (show WPl _ _ _ _ _ _ _ (⟨_, .indexAddr _ _ _, _, _, _, _⟩ :: _) _; refine WPl.rdX (ReadR.indexE rfl rfl hasA (by first | assumption | omega)) ?_)
         | (show WPl _ _ _ _ _ _ _ (⟨_, .fieldAddr _ _ _, _, _, _, _⟩ :: _) _; refine WPl.rdX (ReadR.fieldE rfl hasA (by first | assumption | omega)) ?_)
         | (show WPl _ _ _ _ _ _ _ (⟨_, .load _ _, _, _, _, _⟩ :: _) _; first | refine WPl.rdX (ReadR.loadE rfl hasA (by assumption)) ?_ | refine WPl.rdX (ReadR.loadES (by assumption) (by first | assumption | omega) rfl hasA) ?_)
         | (show WPl _ _ _ _ _ _ _ (⟨_, .slice _ _ _ _ _, _, _, _, _⟩ :: _) _; first | refine WPl.rdX (ReadR.sliceH rfl rfl hasA (by omega)) ?_ | refine WPl.rdX (ReadR.sliceL rfl rfl hasA (by omega)) ?_ | refine WPl.rdX (ReadR.sliceLH rfl rfl rfl hasA (by omega) (by omega)) ?_)
         | (refine WPl.spQ (fun hc => ?_) (fun hc => ?_) <;> try exact prA)
         | fail)
        all_goals try (first | exact WPq.dTp | exact WPq.dTs | exact WPq.dV | exact WPq.dR | exact WPq.dR2 | exact WPq.dH | exact WPq.dBH | exact WPq.dT)
      · rw [show phVal b = .tuple #[ag (hdc Hd.none), .int .i64 12] by unfold phVal phH phE; rw [if_neg h0, if_neg h0, if_neg h4, if_neg h4, if_neg h6, if_neg h6]]
        refine Triple.enter Tryz.func62 rfl Tryz.ntmps62 rfl (fun W => ?_)
        dsimp only [argsF, Nat.reduceAdd]
        repeat' (first
         | refine WPl.nil ?_ | refine WPq.then ?_ | refine WPq.thenR ?_ | refine WPq.thenE ?_ | refine WPq.blockN ?_ | refine WPq.blockR ?_ | refine WPq.blockE ?_ | refine WPq.blockO rfl ?_ | refine WPc.seq ?_ | refine WPc.block ?_ | refine WPc.ret ?_ | refine WPc.exit ?_ | refine WPc.skip ?_ | refine WPc.region ?_
         | (refine isCond ?_; first | refine WPc.cT ?_ | refine WPc.cF ?_ | (refine WPc.cQ (fun hc => ?_) (fun hc => ?_) <;> try exact prA))
         | (refine isOp ?_; first | refine WPl.rd ?_ | refine WPl.sk ?_ | refine WPl.rdB ?_)
         | (refine isAl ?_; refine WPl.nw fun g => ?_)
         | (refine isSt ?_; first | refine WPl.st1 ?_ | refine WPl.stA ?_ | refine WPl.stEB ?_ | refine WPl.stRB ?_)
         | (show WPl _ _ _ _ _ _ _ (⟨_, .indexAddr _ _ _, _, _, _, _⟩ :: _) _; refine WPl.rdX (ReadR.indexE rfl rfl hasA (by first | assumption | omega)) ?_)
         | (show WPl _ _ _ _ _ _ _ (⟨_, .fieldAddr _ _ _, _, _, _, _⟩ :: _) _; refine WPl.rdX (ReadR.fieldE rfl hasA (by first | assumption | omega)) ?_)
         | (show WPl _ _ _ _ _ _ _ (⟨_, .load _ _, _, _, _, _⟩ :: _) _; first | refine WPl.rdX (ReadR.loadE rfl hasA (by assumption)) ?_ | refine WPl.rdX (ReadR.loadES (by assumption) (by first | assumption | omega) rfl hasA) ?_)
         | (show WPl _ _ _ _ _ _ _ (⟨_, .slice _ _ _ _ _, _, _, _, _⟩ :: _) _; first | refine WPl.rdX (ReadR.sliceH rfl rfl hasA (by omega)) ?_ | refine WPl.rdX (ReadR.sliceL rfl rfl hasA (by omega)) ?_ | refine WPl.rdX (ReadR.sliceLH rfl rfl rfl hasA (by omega) (by omega)) ?_)
         | (refine WPl.spQ (fun hc => ?_) (fun hc => ?_) <;> try exact prA)
         | fail)
        all_goals try (first | exact WPq.dTp | exact WPq.dTs | exact WPq.dV | exact WPq.dR | exact WPq.dR2 | exact WPq.dH | exact WPq.dBH | exact WPq.dT)
def pkS (b : List UInt8) : List UInt8 := seg b (phH b).pos.toNat (b.length - (phH b).pos.toNat)
def pkE (b : List UInt8) : Int := if ¬ phE b = 0 then phE b else if (phH b).part then 13 else sgE (phH b) (pkS b)
def pkOf (h : Hd) (s : Sg) : Pk := ⟨h, s, ⟨h.src, h.dst, s.src, s.dst, h.proto⟩⟩
def pkR (b : List UInt8) : Pk := if pkE b = 0 then pkOf (phH b) (sgR (phH b) (pkS b)) else Pk.none
abbrev pkVal (b : List UInt8) : Value := .tuple #[ag (pkc (pkR b)), .int .i64 (pkE b)]
/-- Where what is carried begins. -/
theorem ferr_pos {b : List UInt8} (h : ferr b = 0) : 0 ≤ (fread b).pos ∧ (fread b).pos ≤ b.length := by
  obtain ⟨h1, h2, h3, h4, h5, h6, h7, h8, h9⟩ := ferr_zero h
  unfold fread
  rw [if_pos h]
  show (0 : Int) ≤ (ihl b : Nat) ∧ ((ihl b : Nat) : Int) ≤ b.length
  omega
theorem xall_pos {b : List UInt8} : ∀ (m : Nat) (s : XS), s.pos ≤ b.length → (xall b m s).2.pos ≤ b.length
  | 0, s, h => by unfold xall; split <;> exact h
  | m + 1, s, h => by
    unfold xall
    split
    · split
      · exact h
      · split
        · exact h
        · rename_i h3; exact xall_pos m _ (xnext_pos h (by simpa using h3))
    · exact h
theorem xerr_pos {b : List UInt8} (h : xerr b = 0) : 0 ≤ (xread b).pos ∧ (xread b).pos ≤ b.length := by
  have h0 : xerr0 b = 0 := by
    apply Classical.byContradiction
    intro hh
    unfold xerr at h
    rw [if_neg hh] at h
    exact hh h
  obtain ⟨h1, h2, h3, h4, h5⟩ := xerr0_zero h0
  have := xall_pos (b := b) 8 (xs0 b) h2
  unfold xread
  rw [if_pos h]
  show (0 : Int) ≤ ((xall b 8 (xs0 b)).2.pos : Nat) ∧ (((xall b 8 (xs0 b)).2.pos : Nat) : Int) ≤ b.length
  omega
theorem phE_pos {b : List UInt8} (h : phE b = 0) : 0 ≤ (phH b).pos ∧ (phH b).pos ≤ b.length := by
  unfold phE at h
  unfold phH
  repeat' (split at h)
  · cases h
  · rename_i h0 h4; rw [if_neg h0, if_pos h4]; exact ferr_pos h
  · rename_i h0 h4 h6; rw [if_neg h0, if_neg h4, if_pos h6]; exact xerr_pos h
  · cases h
attribute [local irreducible] phH phE sgR sgE
theorem parse_t (v : Value) (b : List UInt8) (hl : b.length ≤ 100000) : Triple Tryz.prog 31 #[v] [rb v b] (RVal (pkVal b)) := by
  have c1 := phead_t v b hl
  simp only [phVal] at c1
  by_cases he : phE b = 0
  · obtain ⟨p1, p2⟩ := phE_pos he
    have c2 := fun u => sread_t (phH b) u (pkS b) (by unfold pkS; rw [seg_len]; omega)
    simp only [gVal] at c2
    have hE : pkE b = if (phH b).part then 13 else sgE (phH b) (pkS b) := by unfold pkE; rw [if_neg (by rw [he]; simp)]
    obtain ⟨k, hk⟩ : ∃ k : Nat, (phH b).pos = (k : Int) := ⟨(phH b).pos.toNat, by omega⟩
    have hS : pkS b = seg b k (b.length - k) := by unfold pkS; rw [hk]; rfl
    have hval : pkVal b = .tuple #[ag (pkc (if pkE b = 0 then pkOf (phH b) (sgR (phH b) (pkS b)) else Pk.none)), .int .i64 (pkE b)] := rfl
    rw [hval, hE]
    rw [he] at c1
    clear hval hE he
    obtain ⟨Y, hY⟩ : ∃ Y, Y = sgR (phH b) (pkS b) := ⟨_, rfl⟩
    obtain ⟨c, hc⟩ : ∃ c, c = sgE (phH b) (pkS b) := ⟨_, rfl⟩
    rw [← hY, ← hc] at c2 ⊢
    clear hY hc
    rw [hS] at c2
    clear hS
    obtain ⟨X, hX⟩ : ∃ X, X = phH b := ⟨_, rfl⟩
    rw [← hX] at c1 c2 hk p1 p2 ⊢
    clear hX
    obtain ⟨six, pr, pos, a1, a2, pt, hp⟩ := X
    dsimp only at hk p1 p2
    subst hk
    have k1 := a1.len
    have k2 := a2.len
    have hkb : k ≤ b.length := by omega
    cases pt with
    | true =>
      simp only [if_true]
      rw [if_neg (by omega)]
      refine Triple.enter Tryz.func31 rfl Tryz.ntmps31 rfl (fun W => ?_)
      dsimp only [argsF, Nat.reduceAdd]
      repeat' (first
       | refine WPl.nil ?_ | refine WPq.then ?_ | refine WPq.thenR ?_ | refine WPq.thenE ?_ | refine WPq.blockN ?_ | refine WPq.blockR ?_ | refine WPq.blockE ?_ | refine WPq.blockO rfl ?_ | refine WPc.seq ?_ | refine WPc.block ?_ | refine WPc.ret ?_ | refine WPc.exit ?_ | refine WPc.skip ?_ | refine WPc.region ?_
       | (refine isReg 6 ?_; refine WPc.drA [([], [6, 21, 22, 23, 24]), ([], [6, 20, 22, 23]), ([], [6, 20, 21]), ([2], [6, 20, 21, 22]), ([1, 2, 3], [6, 20, 21, 22, 23]), ([0, 1, 2, 3, 4], [6, 20, 21, 22, 23, 24]), ([0, 1, 2, 3, 4, 5], [6, 20, 21, 22, 23, 24, 25]), ([0, 1, 2, 3, 4, 5, 6], [6, 19, 20, 21, 22, 23, 24, 25, 27]), ([0, 1, 2, 3, 4, 5, 6], [6, 19, 20, 21, 22, 23, 24, 25, 26]), ([], [19, 20, 21, 22, 23, 24, 25, 26, 27]), ([0, 1, 2, 3, 4, 5, 6, 7, 9], [6, 19, 20, 21, 22, 23, 24, 25, 26, 27]), ([0, 1, 2, 3, 4, 5, 6, 7, 8, 9, 10], [6, 19, 20, 21, 22, 23, 24, 25, 26, 27])] [(9, 10)] (Γx := []) ?_; dsimp only [prev0, List.length_nil, List.length_cons])
       | (refine gAny ?_; first | (refine gC 9 ?_; refine RGl.vl (fun e hk => OpT.callN (c1)) ?_) | (refine gOp ?_; first | refine RGl.rdA ?_ | refine RGl.rdX (fun e hk => by (try dsimp only [bndR, ensR, oksR, fcutR, List.append_nil, List.nil_append, List.cons_append, List.append_assoc] at hk ⊢); exact readB) ?_) | (refine gAl ?_; refine RGl.nwA ?_) | (refine gSt ?_; refine RGl.stA ?_) | (refine RGl.fin (fun e hk => ?_); (try dsimp only [bndA, ensAR, oksA, List.append_nil, List.nil_append, List.cons_append, List.append_assoc] at hk ⊢); (repeat (obtain ⟨hk1, hk⟩ := hk))) | fail)
       | (refine isCond ?_; first | refine WPc.cT ?_ | refine WPc.cF ?_ | (refine WPc.cQ (fun hc => ?_) (fun hc => ?_) <;> try exact prA))
       | (refine isC 9 ?_; refine WPl.cV (c1) ?_)
       | (refine isOp ?_; first | refine WPl.rd ?_ | refine WPl.sk ?_ | refine WPl.rdB ?_)
       | (refine isAl ?_; refine WPl.nw fun g => ?_)
       | (refine isSt ?_; first | refine WPl.st1 ?_ | refine WPl.stA ?_ | refine WPl.stEB ?_ | refine WPl.stRB ?_)
       | (show WPl _ _ _ _ _ _ _ (⟨_, .indexAddr _ _ _, _, _, _, _⟩ :: _) _; refine WPl.rdX (ReadR.indexE rfl rfl hasA (by first | assumption | omega)) ?_)
       | (show WPl _ _ _ _ _ _ _ (⟨_, .fieldAddr _ _ _, _, _, _, _⟩ :: _) _; refine WPl.rdX (ReadR.fieldE rfl hasA (by first | assumption | omega)) ?_)
       | (show WPl _ _ _ _ _ _ _ (⟨_, .load _ _, _, _, _, _⟩ :: _) _; first | refine WPl.rdX (ReadR.loadE rfl hasA (by assumption)) ?_ | refine WPl.rdX (ReadR.loadES (by assumption) (by first | assumption | omega) rfl hasA) ?_)
       | (show WPl _ _ _ _ _ _ _ (⟨_, .slice _ _ _ _ _, _, _, _, _⟩ :: _) _; first | refine WPl.rdX (ReadR.sliceH rfl rfl hasA (by omega)) ?_ | refine WPl.rdX (ReadR.sliceL rfl rfl hasA (by omega)) ?_ | refine WPl.rdX (ReadR.sliceLH rfl rfl rfl hasA (by omega) (by omega)) ?_)
       | (refine WPl.spQ (fun hc => ?_) (fun hc => ?_) <;> try exact prA)
       | fail)
      all_goals try (first | exact WPq.dTp | exact WPq.dTs | exact WPq.dV | exact WPq.dR | exact WPq.dR2 | exact WPq.dH | exact WPq.dBH | exact WPq.dT)
    | false =>
      simp only [Bool.false_eq_true, if_false]
      by_cases hc0 : c = 0
      · rw [if_pos hc0]
        subst hc0
        refine Triple.enter Tryz.func31 rfl Tryz.ntmps31 rfl (fun W => ?_)
        dsimp only [argsF, Nat.reduceAdd]
        repeat' (first
         | refine WPl.nil ?_ | refine WPq.then ?_ | refine WPq.thenR ?_ | refine WPq.thenE ?_ | refine WPq.blockN ?_ | refine WPq.blockR ?_ | refine WPq.blockE ?_ | refine WPq.blockO rfl ?_ | refine WPc.seq ?_ | refine WPc.block ?_ | refine WPc.ret ?_ | refine WPc.exit ?_ | refine WPc.skip ?_ | refine WPc.region ?_
         | (refine isReg 6 ?_; refine WPc.drA [([], [6, 21, 22, 23, 24]), ([], [6, 20, 22, 23]), ([], [6, 20, 21]), ([2], [6, 20, 21, 22]), ([1, 2, 3], [6, 20, 21, 22, 23]), ([0, 1, 2, 3, 4], [6, 20, 21, 22, 23, 24]), ([0, 1, 2, 3, 4, 5], [6, 20, 21, 22, 23, 24, 25]), ([0, 1, 2, 3, 4, 5, 6], [6, 19, 20, 21, 22, 23, 24, 25, 27]), ([0, 1, 2, 3, 4, 5, 6], [6, 19, 20, 21, 22, 23, 24, 25, 26]), ([], [19, 20, 21, 22, 23, 24, 25, 26, 27]), ([0, 1, 2, 3, 4, 5, 6, 7, 9], [6, 19, 20, 21, 22, 23, 24, 25, 26, 27]), ([0, 1, 2, 3, 4, 5, 6, 7, 8, 9, 10], [6, 19, 20, 21, 22, 23, 24, 25, 26, 27])] [(9, 10)] (Γx := []) ?_; dsimp only [prev0, List.length_nil, List.length_cons])
         | (refine gAny ?_; first | (refine gC 9 ?_; refine RGl.vl (fun e hk => OpT.callN (c1)) ?_) | (refine gC 25 ?_; refine RGl.vl (fun e hk => OpT.callN (c2 (subv 1 v k (b.length - k)))) ?_) | (refine gD 45 ?_; refine RGl.rdX (fun e hk => by (try dsimp only [bndR, ensR, oksR, fcutR, List.append_nil, List.nil_append, List.cons_append, List.append_assoc] at hk ⊢); exact ReadR.build (cs' := pkc (pkOf ⟨six, pr, (k : Int), a1, a2, false, hp⟩ Y)) buildA) ?_) | (refine gOp ?_; first | refine RGl.rdA ?_ | refine RGl.rdX (fun e hk => by (try dsimp only [bndR, ensR, oksR, fcutR, List.append_nil, List.nil_append, List.cons_append, List.append_assoc] at hk ⊢); exact readB) ?_) | (refine gAl ?_; refine RGl.nwA ?_) | (refine gSt ?_; refine RGl.stA ?_) | (refine RGl.fin (fun e hk => ?_); (try dsimp only [bndA, ensAR, oksA, List.append_nil, List.nil_append, List.cons_append, List.append_assoc] at hk ⊢); (repeat (obtain ⟨hk1, hk⟩ := hk))) | fail)
         | (refine isCond ?_; first | refine WPc.cT ?_ | refine WPc.cF ?_ | (refine WPc.cQ (fun hc => ?_) (fun hc => ?_) <;> try exact prA))
         | (refine isC 9 ?_; refine WPl.cV (c1) ?_)
         | (refine isC 25 ?_; refine WPl.cV (c2 (subv 1 v k (b.length - k))) ?_)
         | (refine isD 45 ?_; refine WPl.rdX (ReadR.build (cs' := pkc (pkOf ⟨six, pr, (k : Int), a1, a2, false, hp⟩ Y)) buildA) ?_)
         | (show WPl _ _ _ _ _ _ _ (⟨_, .store 51 (.tmp 2) _, _, _, _, _⟩ :: _) _; refine WPl.stA (new := pkc (pkOf ⟨six, pr, (k : Int), a1, a2, false, hp⟩ Y)) ?_ (ht := by kernel_rfl))
         | (refine isOp ?_; first | refine WPl.rd ?_ | refine WPl.sk ?_ | refine WPl.rdB ?_)
         | (refine isAl ?_; refine WPl.nw fun g => ?_)
         | (refine isSt ?_; first | refine WPl.st1 ?_ | refine WPl.stA ?_ | refine WPl.stEB ?_ | refine WPl.stRB ?_)
         | (show WPl _ _ _ _ _ _ _ (⟨_, .indexAddr _ _ _, _, _, _, _⟩ :: _) _; refine WPl.rdX (ReadR.indexE rfl rfl hasA (by first | assumption | omega)) ?_)
         | (show WPl _ _ _ _ _ _ _ (⟨_, .fieldAddr _ _ _, _, _, _, _⟩ :: _) _; refine WPl.rdX (ReadR.fieldE rfl hasA (by first | assumption | omega)) ?_)
         | (show WPl _ _ _ _ _ _ _ (⟨_, .load _ _, _, _, _, _⟩ :: _) _; first | refine WPl.rdX (ReadR.loadE rfl hasA (by assumption)) ?_ | refine WPl.rdX (ReadR.loadES (by assumption) (by first | assumption | omega) rfl hasA) ?_)
         | (show WPl _ _ _ _ _ _ _ (⟨_, .slice _ _ _ _ _, _, _, _, _⟩ :: _) _; first | refine WPl.rdX (ReadR.sliceH rfl rfl hasA (by omega)) ?_ | refine WPl.rdX (ReadR.sliceL rfl rfl hasA (by omega)) ?_ | refine WPl.rdX (ReadR.sliceLH rfl rfl rfl hasA (by omega) (by omega)) ?_)
         | (refine WPl.spQ (fun hc => ?_) (fun hc => ?_) <;> try exact prA)
         | fail)
        all_goals try (first | exact WPq.dTp | exact WPq.dTs | exact WPq.dV | exact WPq.dR | exact WPq.dR2 | exact WPq.dH | exact WPq.dBH | exact WPq.dT)
      · rw [if_neg hc0]
        refine Triple.enter Tryz.func31 rfl Tryz.ntmps31 rfl (fun W => ?_)
        dsimp only [argsF, Nat.reduceAdd]
        repeat' (first
         | refine WPl.nil ?_ | refine WPq.then ?_ | refine WPq.thenR ?_ | refine WPq.thenE ?_ | refine WPq.blockN ?_ | refine WPq.blockR ?_ | refine WPq.blockE ?_ | refine WPq.blockO rfl ?_ | refine WPc.seq ?_ | refine WPc.block ?_ | refine WPc.ret ?_ | refine WPc.exit ?_ | refine WPc.skip ?_ | refine WPc.region ?_
         | (refine isReg 6 ?_; refine WPc.drA [([], [6, 21, 22, 23, 24]), ([], [6, 20, 22, 23]), ([], [6, 20, 21]), ([2], [6, 20, 21, 22]), ([1, 2, 3], [6, 20, 21, 22, 23]), ([0, 1, 2, 3, 4], [6, 20, 21, 22, 23, 24]), ([0, 1, 2, 3, 4, 5], [6, 20, 21, 22, 23, 24, 25]), ([0, 1, 2, 3, 4, 5, 6], [6, 19, 20, 21, 22, 23, 24, 25, 27]), ([0, 1, 2, 3, 4, 5, 6], [6, 19, 20, 21, 22, 23, 24, 25, 26]), ([], [19, 20, 21, 22, 23, 24, 25, 26, 27]), ([0, 1, 2, 3, 4, 5, 6, 7, 9], [6, 19, 20, 21, 22, 23, 24, 25, 26, 27]), ([0, 1, 2, 3, 4, 5, 6, 7, 8, 9, 10], [6, 19, 20, 21, 22, 23, 24, 25, 26, 27])] [(9, 10)] (Γx := []) ?_; dsimp only [prev0, List.length_nil, List.length_cons])
         | (refine gAny ?_; first | (refine gC 9 ?_; refine RGl.vl (fun e hk => OpT.callN (c1)) ?_) | (refine gC 25 ?_; refine RGl.vl (fun e hk => OpT.callN (c2 (subv 1 v k (b.length - k)))) ?_) | (refine gOp ?_; first | refine RGl.rdA ?_ | refine RGl.rdX (fun e hk => by (try dsimp only [bndR, ensR, oksR, fcutR, List.append_nil, List.nil_append, List.cons_append, List.append_assoc] at hk ⊢); exact readB) ?_) | (refine gAl ?_; refine RGl.nwA ?_) | (refine gSt ?_; refine RGl.stA ?_) | (refine RGl.fin (fun e hk => ?_); (try dsimp only [bndA, ensAR, oksA, List.append_nil, List.nil_append, List.cons_append, List.append_assoc] at hk ⊢); (repeat (obtain ⟨hk1, hk⟩ := hk))) | fail)
         | (refine isCond ?_; first | refine WPc.cT ?_ | refine WPc.cF ?_ | (refine WPc.cQ (fun hc => ?_) (fun hc => ?_) <;> try exact prA))
         | (refine isC 9 ?_; refine WPl.cV (c1) ?_)
         | (refine isC 25 ?_; refine WPl.cV (c2 (subv 1 v k (b.length - k))) ?_)
         | (refine isOp ?_; first | refine WPl.rd ?_ | refine WPl.sk ?_ | refine WPl.rdB ?_)
         | (refine isAl ?_; refine WPl.nw fun g => ?_)
         | (refine isSt ?_; first | refine WPl.st1 ?_ | refine WPl.stA ?_ | refine WPl.stEB ?_ | refine WPl.stRB ?_)
         | (show WPl _ _ _ _ _ _ _ (⟨_, .indexAddr _ _ _, _, _, _, _⟩ :: _) _; refine WPl.rdX (ReadR.indexE rfl rfl hasA (by first | assumption | omega)) ?_)
         | (show WPl _ _ _ _ _ _ _ (⟨_, .fieldAddr _ _ _, _, _, _, _⟩ :: _) _; refine WPl.rdX (ReadR.fieldE rfl hasA (by first | assumption | omega)) ?_)
         | (show WPl _ _ _ _ _ _ _ (⟨_, .load _ _, _, _, _, _⟩ :: _) _; first | refine WPl.rdX (ReadR.loadE rfl hasA (by assumption)) ?_ | refine WPl.rdX (ReadR.loadES (by assumption) (by first | assumption | omega) rfl hasA) ?_)
         | (show WPl _ _ _ _ _ _ _ (⟨_, .slice _ _ _ _ _, _, _, _, _⟩ :: _) _; first | refine WPl.rdX (ReadR.sliceH rfl rfl hasA (by omega)) ?_ | refine WPl.rdX (ReadR.sliceL rfl rfl hasA (by omega)) ?_ | refine WPl.rdX (ReadR.sliceLH rfl rfl rfl hasA (by omega) (by omega)) ?_)
         | (refine WPl.spQ (fun hc => ?_) (fun hc => ?_) <;> try exact prA)
         | fail)
        all_goals try (first | exact WPq.dTp | exact WPq.dTs | exact WPq.dV | exact WPq.dR | exact WPq.dR2 | exact WPq.dH | exact WPq.dBH | exact WPq.dT)
  · have hE : pkE b = phE b := by unfold pkE; rw [if_pos he]
    rw [show pkVal b = .tuple #[ag (pkc Pk.none), .int .i64 (phE b)] by unfold pkVal pkR; rw [hE, if_neg he]]
    obtain ⟨X, hX⟩ : ∃ X, X = phH b := ⟨_, rfl⟩
    obtain ⟨c, hc⟩ : ∃ c, c = phE b := ⟨_, rfl⟩
    rw [← hc] at he
    rw [← hX, ← hc] at c1
    rw [← hc]
    clear hX hc hE
    have k1 := X.src.len
    have k2 := X.dst.len
    refine Triple.enter Tryz.func31 rfl Tryz.ntmps31 rfl (fun W => ?_)
    dsimp only [argsF, Nat.reduceAdd]
    repeat' (first
     | refine WPl.nil ?_ | refine WPq.then ?_ | refine WPq.thenR ?_ | refine WPq.thenE ?_ | refine WPq.blockN ?_ | refine WPq.blockR ?_ | refine WPq.blockE ?_ | refine WPq.blockO rfl ?_ | refine WPc.seq ?_ | refine WPc.block ?_ | refine WPc.ret ?_ | refine WPc.exit ?_ | refine WPc.skip ?_ | refine WPc.region ?_
     | (refine isReg 6 ?_; refine WPc.drA [([], [6, 21, 22, 23, 24]), ([], [6, 20, 22, 23]), ([], [6, 20, 21]), ([2], [6, 20, 21, 22]), ([1, 2, 3], [6, 20, 21, 22, 23]), ([0, 1, 2, 3, 4], [6, 20, 21, 22, 23, 24]), ([0, 1, 2, 3, 4, 5], [6, 20, 21, 22, 23, 24, 25]), ([0, 1, 2, 3, 4, 5, 6], [6, 19, 20, 21, 22, 23, 24, 25, 27]), ([0, 1, 2, 3, 4, 5, 6], [6, 19, 20, 21, 22, 23, 24, 25, 26]), ([], [19, 20, 21, 22, 23, 24, 25, 26, 27]), ([0, 1, 2, 3, 4, 5, 6, 7, 9], [6, 19, 20, 21, 22, 23, 24, 25, 26, 27]), ([0, 1, 2, 3, 4, 5, 6, 7, 8, 9, 10], [6, 19, 20, 21, 22, 23, 24, 25, 26, 27])] [(9, 10)] (Γx := []) ?_; dsimp only [prev0, List.length_nil, List.length_cons])
     | (refine gAny ?_; first | (refine gC 9 ?_; refine RGl.vl (fun e hk => OpT.callN (c1)) ?_) | (refine gOp ?_; first | refine RGl.rdA ?_ | refine RGl.rdX (fun e hk => by (try dsimp only [bndR, ensR, oksR, fcutR, List.append_nil, List.nil_append, List.cons_append, List.append_assoc] at hk ⊢); exact readB) ?_) | (refine gAl ?_; refine RGl.nwA ?_) | (refine gSt ?_; refine RGl.stA ?_) | (refine RGl.fin (fun e hk => ?_); (try dsimp only [bndA, ensAR, oksA, List.append_nil, List.nil_append, List.cons_append, List.append_assoc] at hk ⊢); (repeat (obtain ⟨hk1, hk⟩ := hk))) | fail)
     | (refine isCond ?_; first | refine WPc.cT ?_ | refine WPc.cF ?_ | (refine WPc.cQ (fun hc => ?_) (fun hc => ?_) <;> try exact prA))
     | (refine isC 9 ?_; refine WPl.cV (c1) ?_)
     | (refine isOp ?_; first | refine WPl.rd ?_ | refine WPl.sk ?_ | refine WPl.rdB ?_)
     | (refine isAl ?_; refine WPl.nw fun g => ?_)
     | (refine isSt ?_; first | refine WPl.st1 ?_ | refine WPl.stA ?_ | refine WPl.stEB ?_ | refine WPl.stRB ?_)
     | (show WPl _ _ _ _ _ _ _ (⟨_, .indexAddr _ _ _, _, _, _, _⟩ :: _) _; refine WPl.rdX (ReadR.indexE rfl rfl hasA (by first | assumption | omega)) ?_)
     | (show WPl _ _ _ _ _ _ _ (⟨_, .fieldAddr _ _ _, _, _, _, _⟩ :: _) _; refine WPl.rdX (ReadR.fieldE rfl hasA (by first | assumption | omega)) ?_)
     | (show WPl _ _ _ _ _ _ _ (⟨_, .load _ _, _, _, _, _⟩ :: _) _; first | refine WPl.rdX (ReadR.loadE rfl hasA (by assumption)) ?_ | refine WPl.rdX (ReadR.loadES (by assumption) (by first | assumption | omega) rfl hasA) ?_)
     | (show WPl _ _ _ _ _ _ _ (⟨_, .slice _ _ _ _ _, _, _, _, _⟩ :: _) _; first | refine WPl.rdX (ReadR.sliceH rfl rfl hasA (by omega)) ?_ | refine WPl.rdX (ReadR.sliceL rfl rfl hasA (by omega)) ?_ | refine WPl.rdX (ReadR.sliceLH rfl rfl rfl hasA (by omega) (by omega)) ?_)
     | (refine WPl.spQ (fun hc => ?_) (fun hc => ?_) <;> try exact prA)
     | fail)
    all_goals try (first | exact WPq.dTp | exact WPq.dTs | exact WPq.dV | exact WPq.dR | exact WPq.dR2 | exact WPq.dH | exact WPq.dBH | exact WPq.dT)
end Go.Proofs.YtpilenbdimhegaaGreatDoor
/- Layer 16 (pkt): packets built; what the statements use; PktBack returns true. -/
namespace Go.Proofs.YtpilenbdimhegaaGreatDoor
open Go.RowKit
set_option linter.unusedSimpArgs false
set_option linter.unusedVariables false
set_option maxRecDepth 20000
set_option maxHeartbeats 4000000
attribute [local irreducible] WPc WPl WPq ReadR OpT BinR HasS bx rdN rowN Take Takes Prov Triple ResF BuildP Done ag Int.decLt Int.decLe Int.instDecidableEq

def pbH (f : Fl) (hops : UInt8) : Hd := ⟨f.src.six, f.proto, 0, f.src, f.dst, false, hops⟩
def pbS (f : Fl) (flags : UInt8) : Sg := ⟨f.sp, f.dp, flags, 0, false, 0⟩
def pbB (f : Fl) (flags hops : UInt8) (d : List UInt8) : List UInt8 := swL (pbH f hops) (pbS f flags) d
def pbE (f : Fl) (flags hops : UInt8) (d : List UInt8) : Int :=
  if ¬ swE (pbH f hops) (pbS f flags) d.length = 0 then swE (pbH f hops) (pbS f flags) d.length
  else if f.src.six then xwerr (pbH f hops) (pbB f flags hops d).length else fwerr (pbH f hops) (pbB f flags hops d).length
def pbL (f : Fl) (flags hops : UInt8) (d : List UInt8) : List UInt8 :=
  if ¬ swE (pbH f hops) (pbS f flags) d.length = 0 then []
  else if f.src.six then xwL (pbH f hops) (pbB f flags hops d) else fwL (pbH f hops) (pbB f flags hops d)
theorem swL_len {h : Hd} {s : Sg} {d : List UInt8} (he : swE h s d.length = 0) : (swL h s d).length ≤ 20 + d.length := by
  have h1 := swT_len s d
  have h2 := swU_len s d
  have h3 := summ_len (h := h) (l := swT s d) (k := 16) (by omega)
  have h4 := summ_len (h := h) (l := swU s d) (k := 6) (by omega)
  unfold swL
  rw [if_pos he]
  split
  · omega
  · split <;> omega
section
attribute [local irreducible] swL swE xwL xwerr fwL fwerr
end
def Fl.back (f : Fl) : Fl := ⟨f.dst, f.src, f.dp, f.sp, f.proto⟩
def f16 : Fl := ⟨Adr.zero, Adr.zero, 5, 6, 17⟩
theorem some_t : Triple Tryz.prog 29 #[] [] (RVal (ag (flc f16))) := by
  refine Triple.enter Tryz.func29 rfl Tryz.ntmps29 rfl (fun W => ?_)
  dsimp only [argsF, Nat.reduceAdd]
  repeat' (first
   | refine WPl.nil ?_ | refine WPq.then ?_ | refine WPq.thenR ?_ | refine WPq.thenE ?_ | refine WPq.blockN ?_ | refine WPq.blockR ?_ | refine WPq.blockE ?_ | refine WPq.blockO rfl ?_ | refine WPc.seq ?_ | refine WPc.block ?_ | refine WPc.ret ?_ | refine WPc.exit ?_ | refine WPc.skip ?_ | refine WPc.region ?_
   | (refine isCond ?_; first | refine WPc.cT ?_ | refine WPc.cF ?_ | (refine WPc.cQ (fun hc => ?_) (fun hc => ?_) <;> try exact prA))
   | (refine isOp ?_; first | refine WPl.rd ?_ | refine WPl.sk ?_ | refine WPl.rdB ?_)
   | (refine isAl ?_; refine WPl.nw fun g => ?_)
   | (refine isSt ?_; first | refine WPl.st1 ?_ | refine WPl.stA ?_ | refine WPl.stEB ?_ | refine WPl.stRB ?_)
   | (show WPl _ _ _ _ _ _ _ (⟨_, .indexAddr _ _ _, _, _, _, _⟩ :: _) _; refine WPl.rdX (ReadR.indexE rfl rfl hasA (by first | assumption | omega)) ?_)
   | (show WPl _ _ _ _ _ _ _ (⟨_, .fieldAddr _ _ _, _, _, _, _⟩ :: _) _; refine WPl.rdX (ReadR.fieldE rfl hasA (by first | assumption | omega)) ?_)
   | (show WPl _ _ _ _ _ _ _ (⟨_, .load _ _, _, _, _, _⟩ :: _) _; first | refine WPl.rdX (ReadR.loadE rfl hasA (by assumption)) ?_ | refine WPl.rdX (ReadR.loadES (by assumption) (by first | assumption | omega) rfl hasA) ?_)
   | (show WPl _ _ _ _ _ _ _ (⟨_, .slice _ _ _ _ _, _, _, _, _⟩ :: _) _; first | refine WPl.rdX (ReadR.sliceH rfl rfl hasA (by omega)) ?_ | refine WPl.rdX (ReadR.sliceL rfl rfl hasA (by omega)) ?_ | refine WPl.rdX (ReadR.sliceLH rfl rfl rfl hasA (by omega) (by omega)) ?_)
   | (refine WPl.spQ (fun hc => ?_) (fun hc => ?_) <;> try exact prA)
   | fail)
  all_goals try (first | exact WPq.dTp | exact WPq.dTs | exact WPq.dV | exact WPq.dR | exact WPq.dR2 | exact WPq.dH | exact WPq.dBH | exact WPq.dT)
theorem h16_err : pbE f16 0 9 [7] = 0 := by decide +kernel
theorem h16_len : (pbL f16 0 9 [7]).length = 29 := by decide +kernel
attribute [local irreducible] pbL pbE pkR pkE
end Go.Proofs.YtpilenbdimhegaaGreatDoor
/- References of layers 13, 15, 16: packets of UDP of IPv4, written: contracts. -/
namespace Go.Proofs.YtpilenbdimhegaaGreatDoor
open Go.RowKit
set_option linter.unusedSimpArgs false
set_option linter.unusedVariables false
set_option maxRecDepth 20000
set_option maxHeartbeats 4000000
attribute [local irreducible] WPc WPl WPq ReadR OpT BinR HasS bx rdN rowN Take Takes Prov Triple ResF BuildP Done ag Int.decLt Int.decLe Int.instDecidableEq
attribute [local irreducible] be psu swT swU
theorem rswrite_t (h : Hd) (s : Sg) (vd : Value) (d : List UInt8) (hd : d.length ≤ 1000) (hs1 : s.src < 65536) (hs2 : s.dst < 65536) (h17 : h.proto.toNat = 17) (hb : swBad h s = false) (hz : s.zero = false) :
    Triple Tryz.prog 58 #[ag (hdc h), ag (sgc s), vd] [rb vd d] (RW (summ h (swU s d) 6) 0) := by
  have l1 := h.src.len
  have l2 := h.dst.len
  obtain ⟨b1, b2, b3, b4, b5, b6⟩ := swBad_no hb
  have g1 := rgood_t h.src
  have g2 := rgood_t h.dst
  rw [b3] at g1
  rw [b4] at g2
  have hb1 := be_length s.src 2
  have hb2 := be_length s.dst 2
  have hb3 := be_length (8 + d.length) 2
  have hul := swU_len s d
  have hue : [] ++ be s.src 2 ++ be s.dst 2 ++ be (8 + d.length) 2 ++ nbs [0, 0] ++ d = swU s d := by unfold swU; simp
  have hpl := psu_len h (swU s d).length
  have hnl := sumN_le h (swU s d)
  have c1 := rpseudo_t h ((swU s d).length : Int) (swU s d).length (wrapLen (by omega)) (by omega)
  have c2 := fun v => rsum_t v (psu h (swU s d).length ++ swU s d) (by simp; omega)
  have hcl := csum_le (psu h (swU s d).length ++ swU s d)
  have hN : sumN h (swU s d) = if csum (psu h (swU s d).length ++ swU s d) = 0 then 65535 else csum (psu h (swU s d).length ++ swU s d) := by
    unfold sumN
    by_cases hc : csum (psu h (swU s d).length ++ swU s d) = 0
    · rw [if_pos ⟨hc, h17⟩, if_pos hc]
    · rw [if_neg (fun hh => hc hh.1), if_neg hc]
  have hres : ((swU s d).set 6 (UInt8.ofNat (sumN h (swU s d) / 256))).set 7 (UInt8.ofNat (sumN h (swU s d))) = summ h (swU s d) 6 := by rw [over_set2 (by omega)]; rfl
  have hsl : ((swU s d).set 6 (UInt8.ofNat (sumN h (swU s d) / 256))).length = 8 + d.length := by rw [List.length_set]; exact hul
  rw [← hres]
  obtain ⟨m, hm⟩ : ∃ m, m = sumN h (swU s d) := ⟨_, rfl⟩
  obtain ⟨c, hc⟩ : ∃ c, c = csum (psu h (swU s d).length ++ swU s d) := ⟨_, rfl⟩
  rw [← hm] at hN hnl hsl ⊢
  rw [← hc] at c2 hcl hN
  obtain ⟨p, hp⟩ : ∃ p, p = psu h (swU s d).length := ⟨_, rfl⟩
  rw [← hp] at c1 c2 hpl
  clear hc hm hres hp
  obtain ⟨U, hU⟩ : ∃ U, U = swU s d := ⟨_, rfl⟩
  rw [← hU] at hue hul c1 c2 hsl ⊢
  clear hU
  have hw1 := wrap_hi hnl
  have hw2 := wrap_lo hnl
  subst hue
  by_cases hc0 : c = 0
  · rw [if_pos hc0] at hN
    subst hN
    subst hc0
    refine Triple.enter Tryz.func58 rfl Tryz.ntmps58 rfl (fun W => ?_)
    dsimp only [argsF, Nat.reduceAdd]
    repeat' (first
     | refine WPl.nil ?_ | refine WPq.then ?_ | refine WPq.thenR ?_ | refine WPq.thenE ?_ | refine WPq.blockN ?_ | refine WPq.blockR ?_ | refine WPq.blockE ?_ | refine WPq.blockO rfl ?_ | refine WPc.seq ?_ | refine WPc.block ?_ | refine WPc.ret ?_ | refine WPc.exit ?_ | refine WPc.skip ?_ | refine WPc.region ?_
     | (refine isReg 7 ?_; refine WPc.drA [([], [62, 63, 64, 66, 67, 68]), ([], [61, 66, 67, 68]), ([1], [61, 62, 66, 67, 68]), ([1, 2], [61, 62, 63, 66, 67, 68]), ([0, 1, 2, 3], [61, 62, 63, 64, 66, 67, 68]), ([], [61, 62, 63, 64, 65]), ([5], [61, 62, 63, 64, 65, 66]), ([5, 6], [61, 62, 63, 64, 65, 66, 67]), ([0, 1, 2, 3, 4, 5, 6, 7], [61, 62, 63, 64, 65, 66, 67, 68]), ([0, 1, 2, 3, 4, 5, 6, 7, 8], [61, 62, 63, 64, 65, 66, 67, 68, 69])] [] (Γx := []) ?_; dsimp only [prev0, List.length_nil, List.length_cons])
     | (refine gAny ?_; first | (refine gC 31 ?_; refine RGl.vl (fun e hk => OpT.callN (g1)) ?_) | (refine gC 37 ?_; refine RGl.vl (fun e hk => OpT.callN (g2)) ?_) | (refine gC 65 ?_; refine RGl.row (Γ1 := fun _ => []) (fun e hk => OpT.callN (rput_t _ [] s.src 2 (by omega) (by omega) (by simp))) ?_) | (refine gC 69 ?_; refine RGl.row (Γ1 := fun _ => []) (fun e hk => OpT.callN (rput_t _ ([] ++ be s.src 2) s.dst 2 (by omega) (by omega) (by simp; omega))) ?_) | (refine gC 83 ?_; refine RGl.row (Γ1 := fun _ => []) (fun e hk => OpT.callN (rput_t _ ([] ++ be s.src 2 ++ be s.dst 2) (8 + d.length) 2 (by omega) (by omega) (by simp; omega))) ?_) | (refine gC 105 ?_; refine RGl.row (Γ1 := fun _ => []) (fun e hk => OpT.callN (c1)) ?_) | (refine gC 108 ?_; refine RGl.vl (fun e hk => OpT.callN (c2 _)) ?_) | (refine gD 123 ?_; refine RGl.rdX (fun e hk => by (try dsimp only [bndR, ensR, oksR, fcutR, List.append_nil, List.nil_append, List.cons_append, List.append_assoc] at hk ⊢); exact ReadR.convT hw1 rfl rfl) ?_) | (refine gD 126 ?_; refine RGl.rdX (fun e hk => by (try dsimp only [bndR, ensR, oksR, fcutR, List.append_nil, List.nil_append, List.cons_append, List.append_assoc] at hk ⊢); exact ReadR.convT hw2 rfl rfl) ?_) | (refine gOp ?_; first | refine RGl.rdA ?_ | refine RGl.rdX (fun e hk => by (try dsimp only [bndR, ensR, oksR, fcutR, List.append_nil, List.nil_append, List.cons_append, List.append_assoc] at hk ⊢); exact readB) ?_) | (refine gLit ?_; refine RGl.litA ?_) | (refine RGl.fin (fun e hk => ?_); (try dsimp only [bndA, ensAR, oksA, List.append_nil, List.nil_append, List.cons_append, List.append_assoc] at hk ⊢); (repeat (obtain ⟨hk1, hk⟩ := hk))) | fail)
     | (refine isCond ?_; first | refine WPc.cT ?_ | refine WPc.cF ?_ | (refine WPc.cQ (fun hc => ?_) (fun hc => ?_) <;> try exact prA))
     | (refine isLit ?_; refine WPl.lit fun v hv => ?_)
     | (refine isApp ?_; refine WPl.app fun v hv => ?_)
     | (refine isC 31 ?_; refine WPl.cV (g1) ?_)
     | (refine isC 37 ?_; refine WPl.cV (g2) ?_)
     | (refine isC 65 ?_; refine WPl.cR (rput_t _ [] s.src 2 (by omega) (by omega) (by simp)) fun v hv => ?_)
     | (refine isC 69 ?_; refine WPl.cR (rput_t _ ([] ++ be s.src 2) s.dst 2 (by omega) (by omega) (by simp; omega)) fun v hv => ?_)
     | (refine isC 83 ?_; refine WPl.cR (rput_t _ ([] ++ be s.src 2 ++ be s.dst 2) (8 + d.length) 2 (by omega) (by omega) (by simp; omega)) fun v hv => ?_)
     | (refine isC 105 ?_; refine WPl.cR (c1) fun v hv => ?_)
     | (refine isC 108 ?_; refine WPl.cV (c2 _) ?_)
     | (refine isD 123 ?_; refine WPl.rdX (ReadR.convT hw1 rfl rfl) ?_)
     | (refine isD 126 ?_; refine WPl.rdX (ReadR.convT hw2 rfl rfl) ?_)
     | (refine isOp ?_; first | refine WPl.rd ?_ | refine WPl.sk ?_ | refine WPl.rdB ?_)
     | (refine isBx ?_; refine WPl.nw fun g => ?_)
     | (refine isSt ?_; first | refine WPl.st1 ?_ | refine WPl.stA ?_ | refine WPl.stEB ?_ | refine WPl.stRB ?_)
     | (show WPl _ _ _ _ _ _ _ (⟨_, .indexAddr _ _ _, _, _, _, _⟩ :: _) _; refine WPl.rdX (ReadR.indexE rfl rfl hasA (by first | assumption | omega)) ?_)
     | (show WPl _ _ _ _ _ _ _ (⟨_, .fieldAddr _ _ _, _, _, _, _⟩ :: _) _; refine WPl.rdX (ReadR.fieldE rfl hasA (by first | assumption | omega)) ?_)
     | (show WPl _ _ _ _ _ _ _ (⟨_, .load _ _, _, _, _, _⟩ :: _) _; first | refine WPl.rdX (ReadR.loadE rfl hasA (by assumption)) ?_ | refine WPl.rdX (ReadR.loadES (by assumption) (by first | assumption | omega) rfl hasA) ?_)
     | (show WPl _ _ _ _ _ _ _ (⟨_, .slice _ _ _ _ _, _, _, _, _⟩ :: _) _; first | refine WPl.rdX (ReadR.sliceH rfl rfl hasA (by omega)) ?_ | refine WPl.rdX (ReadR.sliceL rfl rfl hasA (by omega)) ?_ | refine WPl.rdX (ReadR.sliceLH rfl rfl rfl hasA (by omega) (by omega)) ?_)
     | (refine WPl.spQ (fun hc => ?_) (fun hc => ?_) <;> try exact prA)
     | fail)
    all_goals try (first | exact WPq.dTp | exact WPq.dTs | exact WPq.dV | exact WPq.dR | exact WPq.dR2 | exact WPq.dH | exact WPq.dBH | exact WPq.dT)
  · rw [if_neg hc0] at hN
    subst hN
    refine Triple.enter Tryz.func58 rfl Tryz.ntmps58 rfl (fun W => ?_)
    dsimp only [argsF, Nat.reduceAdd]
    repeat' (first
     | refine WPl.nil ?_ | refine WPq.then ?_ | refine WPq.thenR ?_ | refine WPq.thenE ?_ | refine WPq.blockN ?_ | refine WPq.blockR ?_ | refine WPq.blockE ?_ | refine WPq.blockO rfl ?_ | refine WPc.seq ?_ | refine WPc.block ?_ | refine WPc.ret ?_ | refine WPc.exit ?_ | refine WPc.skip ?_ | refine WPc.region ?_
     | (refine isReg 7 ?_; refine WPc.drA [([], [62, 63, 64, 66, 67, 68]), ([], [61, 66, 67, 68]), ([1], [61, 62, 66, 67, 68]), ([1, 2], [61, 62, 63, 66, 67, 68]), ([0, 1, 2, 3], [61, 62, 63, 64, 66, 67, 68]), ([], [61, 62, 63, 64, 65]), ([5], [61, 62, 63, 64, 65, 66]), ([5, 6], [61, 62, 63, 64, 65, 66, 67]), ([0, 1, 2, 3, 4, 5, 6, 7], [61, 62, 63, 64, 65, 66, 67, 68]), ([0, 1, 2, 3, 4, 5, 6, 7, 8], [61, 62, 63, 64, 65, 66, 67, 68, 69])] [] (Γx := []) ?_; dsimp only [prev0, List.length_nil, List.length_cons])
     | (refine gAny ?_; first | (refine gC 31 ?_; refine RGl.vl (fun e hk => OpT.callN (g1)) ?_) | (refine gC 37 ?_; refine RGl.vl (fun e hk => OpT.callN (g2)) ?_) | (refine gC 65 ?_; refine RGl.row (Γ1 := fun _ => []) (fun e hk => OpT.callN (rput_t _ [] s.src 2 (by omega) (by omega) (by simp))) ?_) | (refine gC 69 ?_; refine RGl.row (Γ1 := fun _ => []) (fun e hk => OpT.callN (rput_t _ ([] ++ be s.src 2) s.dst 2 (by omega) (by omega) (by simp; omega))) ?_) | (refine gC 83 ?_; refine RGl.row (Γ1 := fun _ => []) (fun e hk => OpT.callN (rput_t _ ([] ++ be s.src 2 ++ be s.dst 2) (8 + d.length) 2 (by omega) (by omega) (by simp; omega))) ?_) | (refine gC 105 ?_; refine RGl.row (Γ1 := fun _ => []) (fun e hk => OpT.callN (c1)) ?_) | (refine gC 108 ?_; refine RGl.vl (fun e hk => OpT.callN (c2 _)) ?_) | (refine gD 123 ?_; refine RGl.rdX (fun e hk => by (try dsimp only [bndR, ensR, oksR, fcutR, List.append_nil, List.nil_append, List.cons_append, List.append_assoc] at hk ⊢); exact ReadR.convT hw1 rfl rfl) ?_) | (refine gD 126 ?_; refine RGl.rdX (fun e hk => by (try dsimp only [bndR, ensR, oksR, fcutR, List.append_nil, List.nil_append, List.cons_append, List.append_assoc] at hk ⊢); exact ReadR.convT hw2 rfl rfl) ?_) | (refine gOp ?_; first | refine RGl.rdA ?_ | refine RGl.rdX (fun e hk => by (try dsimp only [bndR, ensR, oksR, fcutR, List.append_nil, List.nil_append, List.cons_append, List.append_assoc] at hk ⊢); exact readB) ?_) | (refine gLit ?_; refine RGl.litA ?_) | (refine RGl.fin (fun e hk => ?_); (try dsimp only [bndA, ensAR, oksA, List.append_nil, List.nil_append, List.cons_append, List.append_assoc] at hk ⊢); (repeat (obtain ⟨hk1, hk⟩ := hk))) | fail)
     | (refine isCond ?_; first | refine WPc.cT ?_ | refine WPc.cF ?_ | (refine WPc.cQ (fun hc => ?_) (fun hc => ?_) <;> try exact prA))
     | (refine isLit ?_; refine WPl.lit fun v hv => ?_)
     | (refine isApp ?_; refine WPl.app fun v hv => ?_)
     | (refine isC 31 ?_; refine WPl.cV (g1) ?_)
     | (refine isC 37 ?_; refine WPl.cV (g2) ?_)
     | (refine isC 65 ?_; refine WPl.cR (rput_t _ [] s.src 2 (by omega) (by omega) (by simp)) fun v hv => ?_)
     | (refine isC 69 ?_; refine WPl.cR (rput_t _ ([] ++ be s.src 2) s.dst 2 (by omega) (by omega) (by simp; omega)) fun v hv => ?_)
     | (refine isC 83 ?_; refine WPl.cR (rput_t _ ([] ++ be s.src 2 ++ be s.dst 2) (8 + d.length) 2 (by omega) (by omega) (by simp; omega)) fun v hv => ?_)
     | (refine isC 105 ?_; refine WPl.cR (c1) fun v hv => ?_)
     | (refine isC 108 ?_; refine WPl.cV (c2 _) ?_)
     | (refine isD 123 ?_; refine WPl.rdX (ReadR.convT hw1 rfl rfl) ?_)
     | (refine isD 126 ?_; refine WPl.rdX (ReadR.convT hw2 rfl rfl) ?_)
     | (refine isOp ?_; first | refine WPl.rd ?_ | refine WPl.sk ?_ | refine WPl.rdB ?_)
     | (refine isBx ?_; refine WPl.nw fun g => ?_)
     | (refine isSt ?_; first | refine WPl.st1 ?_ | refine WPl.stA ?_ | refine WPl.stEB ?_ | refine WPl.stRB ?_)
     | (show WPl _ _ _ _ _ _ _ (⟨_, .indexAddr _ _ _, _, _, _, _⟩ :: _) _; refine WPl.rdX (ReadR.indexE rfl rfl hasA (by first | assumption | omega)) ?_)
     | (show WPl _ _ _ _ _ _ _ (⟨_, .fieldAddr _ _ _, _, _, _, _⟩ :: _) _; refine WPl.rdX (ReadR.fieldE rfl hasA (by first | assumption | omega)) ?_)
     | (show WPl _ _ _ _ _ _ _ (⟨_, .load _ _, _, _, _, _⟩ :: _) _; first | refine WPl.rdX (ReadR.loadE rfl hasA (by assumption)) ?_ | refine WPl.rdX (ReadR.loadES (by assumption) (by first | assumption | omega) rfl hasA) ?_)
     | (show WPl _ _ _ _ _ _ _ (⟨_, .slice _ _ _ _ _, _, _, _, _⟩ :: _) _; first | refine WPl.rdX (ReadR.sliceH rfl rfl hasA (by omega)) ?_ | refine WPl.rdX (ReadR.sliceL rfl rfl hasA (by omega)) ?_ | refine WPl.rdX (ReadR.sliceLH rfl rfl rfl hasA (by omega) (by omega)) ?_)
     | (refine WPl.spQ (fun hc => ?_) (fun hc => ?_) <;> try exact prA)
     | fail)
    all_goals try (first | exact WPq.dTp | exact WPq.dTs | exact WPq.dV | exact WPq.dR | exact WPq.dR2 | exact WPq.dH | exact WPq.dBH | exact WPq.dT)
end Go.Proofs.YtpilenbdimhegaaGreatDoor
/- References of layers 13 to 16: packets written, in all cases: contracts. -/
namespace Go.Proofs.YtpilenbdimhegaaGreatDoor
open Go.RowKit
set_option linter.unusedSimpArgs false
set_option linter.unusedVariables false
set_option maxRecDepth 20000
set_option maxHeartbeats 4000000
attribute [local irreducible] WPc WPl WPq ReadR OpT BinR HasS bx rdN rowN Take Takes Prov Triple ResF BuildP Done ag Int.decLt Int.decLe Int.instDecidableEq
attribute [local irreducible] be psu swT swU
theorem rfourG_t (a : Adr) : Triple Tryz.prog 85 #[ag (adc a)] [] (RVal (.bool (!a.six && a.good))) := by
  have g1 := rgood_t a
  have l1 := a.len
  cases hs : a.six with
  | true =>
    refine Triple.enter Tryz.func85 rfl Tryz.ntmps85 rfl (fun W => ?_)
    dsimp only [argsF, Nat.reduceAdd]
    repeat' (first
     | refine WPl.nil ?_ | refine WPq.then ?_ | refine WPc.seq ?_ | refine WPc.ret ?_ | refine WPc.region ?_
     | (refine isOp ?_; first | refine WPl.rd ?_ | refine WPl.sk ?_ | refine WPl.rdB ?_)
     | (refine isBx ?_; refine WPl.nw fun g => ?_)
     | (refine WPl.spQ (fun hc => ?_) (fun hc => ?_) <;> try exact prA)
     | fail)
    all_goals try (first | exact WPq.dTp | exact WPq.dTs | exact WPq.dV | exact WPq.dR | exact WPq.dR2 | exact WPq.dH | exact WPq.dBH | exact WPq.dT)
  | false =>
    refine Triple.enter Tryz.func85 rfl Tryz.ntmps85 rfl (fun W => ?_)
    dsimp only [argsF, Nat.reduceAdd]
    repeat' (first
     | refine WPl.nil ?_ | refine WPq.then ?_ | refine WPc.seq ?_ | refine WPc.ret ?_ | refine WPc.region ?_
     | (refine isC 8 ?_; refine WPl.cV (g1) ?_)
     | (refine isOp ?_; first | refine WPl.rd ?_ | refine WPl.sk ?_ | refine WPl.rdB ?_)
     | (refine isBx ?_; refine WPl.nw fun g => ?_)
     | (refine WPl.spQ (fun hc => ?_) (fun hc => ?_) <;> try exact prA)
     | fail)
    all_goals try (first | exact WPq.dTp | exact WPq.dTs | exact WPq.dV | exact WPq.dR | exact WPq.dR2 | exact WPq.dH | exact WPq.dBH | exact WPq.dT)
theorem rfwriteNo_t (h : Hd) (vd : Value) (d : List UInt8) (hb : fwBad h = true) : Triple Tryz.prog 60 #[ag (hdc h), vd] [rb vd d] (RW [] 1) := by
  have l1 := h.src.len
  have l2 := h.dst.len
  have g1 := rfourG_t h.src
  have g2 := rfourG_t h.dst
  have hall : ¬ (h.six = false ∧ (!h.src.six && h.src.good) = true ∧ (!h.dst.six && h.dst.good) = true ∧ ¬ ((h.hops.toNat : Nat) : Int) = 0 ∧ h.part = false) := by
    rintro ⟨a1, a2, a3, a4, a5⟩
    unfold fwBad at hb
    simp at a2 a3
    rw [a1, a5, a2.1, a2.2, a3.1, a3.2] at hb
    simp at hb
    exact a4 (by omega)
  generalize (!h.src.six && h.src.good) = X1 at *
  generalize (!h.dst.six && h.dst.good) = X2 at *
  by_cases b1 : h.six = true
  · skip
    refine Triple.enter Tryz.func60 rfl Tryz.ntmps60 rfl (fun W => ?_)
    dsimp only [argsF, Nat.reduceAdd]
    repeat' (first
     | refine WPl.nil ?_ | refine WPq.then ?_ | refine WPq.thenR ?_ | refine WPc.seq ?_ | refine WPc.ret ?_ | refine WPc.region ?_
     | (refine isCond ?_; first | refine WPc.cT ?_ | refine WPc.cF ?_ | (refine WPc.cQ (fun hc => ?_) (fun hc => ?_) <;> try exact prA))
     | (refine isLit ?_; refine WPl.lit fun v hv => ?_)
     | (refine isOp ?_; first | refine WPl.rd ?_ | refine WPl.sk ?_ | refine WPl.rdB ?_)
     | (refine isBx ?_; refine WPl.nw fun g => ?_)
     | (refine WPl.spQ (fun hc => ?_) (fun hc => ?_) <;> try exact prA)
     | fail)
    all_goals try (first | exact WPq.dTp | exact WPq.dTs | exact WPq.dV | exact WPq.dR | exact WPq.dR2 | exact WPq.dH | exact WPq.dBH | exact WPq.dT)
  have b1' : h.six = false := by simpa using b1
  by_cases b2 : X1 = true
  rotate_left
  · rw [show X1 = false by simpa using b2] at g1
    refine Triple.enter Tryz.func60 rfl Tryz.ntmps60 rfl (fun W => ?_)
    dsimp only [argsF, Nat.reduceAdd]
    repeat' (first
     | refine WPl.nil ?_ | refine WPq.then ?_ | refine WPq.thenR ?_ | refine WPc.seq ?_ | refine WPc.ret ?_ | refine WPc.region ?_
     | (refine isCond ?_; first | refine WPc.cT ?_ | refine WPc.cF ?_ | (refine WPc.cQ (fun hc => ?_) (fun hc => ?_) <;> try exact prA))
     | (refine isLit ?_; refine WPl.lit fun v hv => ?_)
     | (refine isC 13 ?_; refine WPl.cV (g1) ?_)
     | (refine isOp ?_; first | refine WPl.rd ?_ | refine WPl.sk ?_ | refine WPl.rdB ?_)
     | (refine isBx ?_; refine WPl.nw fun g => ?_)
     | (refine WPl.spQ (fun hc => ?_) (fun hc => ?_) <;> try exact prA)
     | fail)
    all_goals try (first | exact WPq.dTp | exact WPq.dTs | exact WPq.dV | exact WPq.dR | exact WPq.dR2 | exact WPq.dH | exact WPq.dBH | exact WPq.dT)
  by_cases b3 : X2 = true
  rotate_left
  · rw [show X2 = false by simpa using b3] at g2
    rw [b2] at g1
    refine Triple.enter Tryz.func60 rfl Tryz.ntmps60 rfl (fun W => ?_)
    dsimp only [argsF, Nat.reduceAdd]
    repeat' (first
     | refine WPl.nil ?_ | refine WPq.then ?_ | refine WPq.thenR ?_ | refine WPc.seq ?_ | refine WPc.ret ?_ | refine WPc.region ?_
     | (refine isCond ?_; first | refine WPc.cT ?_ | refine WPc.cF ?_ | (refine WPc.cQ (fun hc => ?_) (fun hc => ?_) <;> try exact prA))
     | (refine isLit ?_; refine WPl.lit fun v hv => ?_)
     | (refine isC 13 ?_; refine WPl.cV (g1) ?_)
     | (refine isC 19 ?_; refine WPl.cV (g2) ?_)
     | (refine isOp ?_; first | refine WPl.rd ?_ | refine WPl.sk ?_ | refine WPl.rdB ?_)
     | (refine isBx ?_; refine WPl.nw fun g => ?_)
     | (refine WPl.spQ (fun hc => ?_) (fun hc => ?_) <;> try exact prA)
     | fail)
    all_goals try (first | exact WPq.dTp | exact WPq.dTs | exact WPq.dV | exact WPq.dR | exact WPq.dR2 | exact WPq.dH | exact WPq.dBH | exact WPq.dT)
  rw [b2] at g1
  rw [b3] at g2
  by_cases b4 : ((h.hops.toNat : Nat) : Int) = 0
  · skip
    refine Triple.enter Tryz.func60 rfl Tryz.ntmps60 rfl (fun W => ?_)
    dsimp only [argsF, Nat.reduceAdd]
    repeat' (first
     | refine WPl.nil ?_ | refine WPq.then ?_ | refine WPq.thenR ?_ | refine WPc.seq ?_ | refine WPc.ret ?_ | refine WPc.region ?_
     | (refine isCond ?_; first | refine WPc.cT ?_ | refine WPc.cF ?_ | (refine WPc.cQ (fun hc => ?_) (fun hc => ?_) <;> try exact prA))
     | (refine isLit ?_; refine WPl.lit fun v hv => ?_)
     | (refine isC 13 ?_; refine WPl.cV (g1) ?_)
     | (refine isC 19 ?_; refine WPl.cV (g2) ?_)
     | (refine isD 25 ?_; refine WPl.rdX (ReadR.binE rfl rfl BinR.eql (congrArg Value.bool (decide_eq_true b4))) ?_)
     | (refine isOp ?_; first | refine WPl.rd ?_ | refine WPl.sk ?_ | refine WPl.rdB ?_)
     | (refine isBx ?_; refine WPl.nw fun g => ?_)
     | (refine WPl.spQ (fun hc => ?_) (fun hc => ?_) <;> try exact prA)
     | fail)
    all_goals try (first | exact WPq.dTp | exact WPq.dTs | exact WPq.dV | exact WPq.dR | exact WPq.dR2 | exact WPq.dH | exact WPq.dBH | exact WPq.dT)
  have b5 : h.part = true := by
    cases hp : h.part with
    | true => rfl
    | false => exact absurd ⟨b1', b2, b3, b4, hp⟩ hall
  refine Triple.enter Tryz.func60 rfl Tryz.ntmps60 rfl (fun W => ?_)
  dsimp only [argsF, Nat.reduceAdd]
  repeat' (first
   | refine WPl.nil ?_ | refine WPq.then ?_ | refine WPq.thenR ?_ | refine WPc.seq ?_ | refine WPc.ret ?_ | refine WPc.region ?_
   | (refine isCond ?_; first | refine WPc.cT ?_ | refine WPc.cF ?_ | (refine WPc.cQ (fun hc => ?_) (fun hc => ?_) <;> try exact prA))
   | (refine isLit ?_; refine WPl.lit fun v hv => ?_)
   | (refine isC 13 ?_; refine WPl.cV (g1) ?_)
   | (refine isC 19 ?_; refine WPl.cV (g2) ?_)
   | (refine isD 25 ?_; refine WPl.rdX (ReadR.binE rfl rfl BinR.eql (congrArg Value.bool (decide_eq_false b4))) ?_)
   | (refine isOp ?_; first | refine WPl.rd ?_ | refine WPl.sk ?_ | refine WPl.rdB ?_)
   | (refine isBx ?_; refine WPl.nw fun g => ?_)
   | (refine WPl.spQ (fun hc => ?_) (fun hc => ?_) <;> try exact prA)
   | fail)
  all_goals try (first | exact WPq.dTp | exact WPq.dTs | exact WPq.dV | exact WPq.dR | exact WPq.dR2 | exact WPq.dH | exact WPq.dBH | exact WPq.dT)
theorem rfwG_t (h : Hd) (vd : Value) (d : List UInt8) (hd : d.length ≤ 1000) : Triple Tryz.prog 60 #[ag (hdc h), vd] [rb vd d] (RW (fwL h d) (fwerr h d.length)) := by
  cases hb : fwBad h with
  | true =>
    have e : fwerr h d.length = 1 := by unfold fwerr; rw [hb, if_pos rfl]
    rw [e, show fwL h d = [] by unfold fwL; rw [e, if_neg (by omega)]]
    exact rfwriteNo_t h vd d hb
  | false =>
    have e : fwerr h d.length = 0 := by unfold fwerr; rw [hb, if_neg (by decide), if_neg (by omega)]
    rw [e, show fwL h d = fpkt h d by unfold fwL; rw [e, if_pos rfl]]
    exact rfwrite_t h vd d hd hb
theorem rxwG_t (h : Hd) (vd : Value) (d : List UInt8) (hd : d.length ≤ 1000) : Triple Tryz.prog 59 #[ag (hdc h), vd] [rb vd d] (RW (xwL h d) (xwerr h d.length)) := by
  have l1 := h.src.len
  have l2 := h.dst.len
  have g1 := rbtw_t h.proto
  have a1 := rbytes_t h.src
  have a2 := rbytes_t h.dst
  have c45 := fun v => rput_t v (nbs [96, 0, 0, 0]) d.length 2 (by omega) (by omega) (by simp [nbs])
  have hbl := be_length d.length 2
  have y1 := h.src.bytes_le
  have y2 := h.dst.bytes_le
  have e0 : xpkt h d = nbs [96, 0, 0, 0] ++ be d.length 2 ++ nbs [((h.proto.toNat : Nat) : Int), ((h.hops.toNat : Nat) : Int)] ++ h.src.bytes ++ h.dst.bytes ++ d := by unfold xpkt; simp
  by_cases b1 : h.six = true
  rotate_left
  · have ex : xwerr h d.length = 1 := by unfold xwerr; rw [if_pos (by unfold xwBad; rw [show h.six = false by simpa using b1]; rfl)]
    rw [ex, show xwL h d = [] by unfold xwL; rw [ex, if_neg (by omega)]]
    refine Triple.enter Tryz.func59 rfl Tryz.ntmps59 rfl (fun W => ?_)
    dsimp only [argsF, Nat.reduceAdd]
    repeat' (first
     | refine WPl.nil ?_ | refine WPq.then ?_ | refine WPq.thenR ?_ | refine WPc.seq ?_ | refine WPc.ret ?_ | refine WPc.region ?_
     | (refine isCond ?_; first | refine WPc.cT ?_ | refine WPc.cF ?_ | (refine WPc.cQ (fun hc => ?_) (fun hc => ?_) <;> try exact prA))
     | (refine isLit ?_; refine WPl.lit fun v hv => ?_)
     | (refine isOp ?_; first | refine WPl.rd ?_ | refine WPl.sk ?_ | refine WPl.rdB ?_)
     | (refine isBx ?_; refine WPl.nw fun g => ?_)
     | (refine WPl.spQ (fun hc => ?_) (fun hc => ?_) <;> try exact prA)
     | fail)
    all_goals try (first | exact WPq.dTp | exact WPq.dTs | exact WPq.dV | exact WPq.dR | exact WPq.dR2 | exact WPq.dH | exact WPq.dBH | exact WPq.dT)
  by_cases b2 : h.src.six = true
  rotate_left
  · have ex : xwerr h d.length = 1 := by unfold xwerr; rw [if_pos (by unfold xwBad; rw [show h.src.six = false by simpa using b2]; simp)]
    rw [ex, show xwL h d = [] by unfold xwL; rw [ex, if_neg (by omega)]]
    refine Triple.enter Tryz.func59 rfl Tryz.ntmps59 rfl (fun W => ?_)
    dsimp only [argsF, Nat.reduceAdd]
    repeat' (first
     | refine WPl.nil ?_ | refine WPq.then ?_ | refine WPq.thenR ?_ | refine WPc.seq ?_ | refine WPc.ret ?_ | refine WPc.region ?_
     | (refine isCond ?_; first | refine WPc.cT ?_ | refine WPc.cF ?_ | (refine WPc.cQ (fun hc => ?_) (fun hc => ?_) <;> try exact prA))
     | (refine isLit ?_; refine WPl.lit fun v hv => ?_)
     | (refine isOp ?_; first | refine WPl.rd ?_ | refine WPl.sk ?_ | refine WPl.rdB ?_)
     | (refine isBx ?_; refine WPl.nw fun g => ?_)
     | (refine WPl.spQ (fun hc => ?_) (fun hc => ?_) <;> try exact prA)
     | fail)
    all_goals try (first | exact WPq.dTp | exact WPq.dTs | exact WPq.dV | exact WPq.dR | exact WPq.dR2 | exact WPq.dH | exact WPq.dBH | exact WPq.dT)
  by_cases b3 : h.dst.six = true
  rotate_left
  · have ex : xwerr h d.length = 1 := by unfold xwerr; rw [if_pos (by unfold xwBad; rw [show h.dst.six = false by simpa using b3]; simp)]
    rw [ex, show xwL h d = [] by unfold xwL; rw [ex, if_neg (by omega)]]
    refine Triple.enter Tryz.func59 rfl Tryz.ntmps59 rfl (fun W => ?_)
    dsimp only [argsF, Nat.reduceAdd]
    repeat' (first
     | refine WPl.nil ?_ | refine WPq.then ?_ | refine WPq.thenR ?_ | refine WPc.seq ?_ | refine WPc.ret ?_ | refine WPc.region ?_
     | (refine isCond ?_; first | refine WPc.cT ?_ | refine WPc.cF ?_ | (refine WPc.cQ (fun hc => ?_) (fun hc => ?_) <;> try exact prA))
     | (refine isLit ?_; refine WPl.lit fun v hv => ?_)
     | (refine isOp ?_; first | refine WPl.rd ?_ | refine WPl.sk ?_ | refine WPl.rdB ?_)
     | (refine isBx ?_; refine WPl.nw fun g => ?_)
     | (refine WPl.spQ (fun hc => ?_) (fun hc => ?_) <;> try exact prA)
     | fail)
    all_goals try (first | exact WPq.dTp | exact WPq.dTs | exact WPq.dV | exact WPq.dR | exact WPq.dR2 | exact WPq.dH | exact WPq.dBH | exact WPq.dT)
  by_cases b4 : ((h.hops.toNat : Nat) : Int) = 0
  · have ex : xwerr h d.length = 1 := by unfold xwerr; rw [if_pos (by unfold xwBad; rw [decide_eq_true b4]; simp)]
    rw [ex, show xwL h d = [] by unfold xwL; rw [ex, if_neg (by omega)]]
    refine Triple.enter Tryz.func59 rfl Tryz.ntmps59 rfl (fun W => ?_)
    dsimp only [argsF, Nat.reduceAdd]
    repeat' (first
     | refine WPl.nil ?_ | refine WPq.then ?_ | refine WPq.thenR ?_ | refine WPc.seq ?_ | refine WPc.ret ?_ | refine WPc.region ?_
     | (refine isCond ?_; first | refine WPc.cT ?_ | refine WPc.cF ?_ | (refine WPc.cQ (fun hc => ?_) (fun hc => ?_) <;> try exact prA))
     | (refine isLit ?_; refine WPl.lit fun v hv => ?_)
     | (refine isD 25 ?_; refine WPl.rdX (ReadR.binE rfl rfl BinR.eql (congrArg Value.bool (decide_eq_true b4))) ?_)
     | (refine isOp ?_; first | refine WPl.rd ?_ | refine WPl.sk ?_ | refine WPl.rdB ?_)
     | (refine isBx ?_; refine WPl.nw fun g => ?_)
     | (refine WPl.spQ (fun hc => ?_) (fun hc => ?_) <;> try exact prA)
     | fail)
    all_goals try (first | exact WPq.dTp | exact WPq.dTs | exact WPq.dV | exact WPq.dR | exact WPq.dR2 | exact WPq.dH | exact WPq.dBH | exact WPq.dT)
  by_cases b5 : h.part = true
  · have ex : xwerr h d.length = 1 := by unfold xwerr; rw [if_pos (by unfold xwBad; rw [b5]; simp)]
    rw [ex, show xwL h d = [] by unfold xwL; rw [ex, if_neg (by omega)]]
    refine Triple.enter Tryz.func59 rfl Tryz.ntmps59 rfl (fun W => ?_)
    dsimp only [argsF, Nat.reduceAdd]
    repeat' (first
     | refine WPl.nil ?_ | refine WPq.then ?_ | refine WPq.thenR ?_ | refine WPc.seq ?_ | refine WPc.ret ?_ | refine WPc.region ?_
     | (refine isCond ?_; first | refine WPc.cT ?_ | refine WPc.cF ?_ | (refine WPc.cQ (fun hc => ?_) (fun hc => ?_) <;> try exact prA))
     | (refine isLit ?_; refine WPl.lit fun v hv => ?_)
     | (refine isD 25 ?_; refine WPl.rdX (ReadR.binE rfl rfl BinR.eql (congrArg Value.bool (decide_eq_false b4))) ?_)
     | (refine isOp ?_; first | refine WPl.rd ?_ | refine WPl.sk ?_ | refine WPl.rdB ?_)
     | (refine isBx ?_; refine WPl.nw fun g => ?_)
     | (refine WPl.spQ (fun hc => ?_) (fun hc => ?_) <;> try exact prA)
     | fail)
    all_goals try (first | exact WPq.dTp | exact WPq.dTs | exact WPq.dV | exact WPq.dR | exact WPq.dR2 | exact WPq.dH | exact WPq.dBH | exact WPq.dT)
  have b5' : h.part = false := by simpa using b5
  by_cases b6 : btw h.proto = true
  · have ex : xwerr h d.length = 1 := by unfold xwerr; rw [if_pos (by unfold xwBad; rw [b6]; simp)]
    rw [ex, show xwL h d = [] by unfold xwL; rw [ex, if_neg (by omega)]]
    rw [b6] at g1
    refine Triple.enter Tryz.func59 rfl Tryz.ntmps59 rfl (fun W => ?_)
    dsimp only [argsF, Nat.reduceAdd]
    repeat' (first
     | refine WPl.nil ?_ | refine WPq.then ?_ | refine WPq.thenR ?_ | refine WPc.seq ?_ | refine WPc.ret ?_ | refine WPc.region ?_
     | (refine isCond ?_; first | refine WPc.cT ?_ | refine WPc.cF ?_ | (refine WPc.cQ (fun hc => ?_) (fun hc => ?_) <;> try exact prA))
     | (refine isLit ?_; refine WPl.lit fun v hv => ?_)
     | (refine isC 34 ?_; refine WPl.cV (g1) ?_)
     | (refine isD 25 ?_; refine WPl.rdX (ReadR.binE rfl rfl BinR.eql (congrArg Value.bool (decide_eq_false b4))) ?_)
     | (refine isOp ?_; first | refine WPl.rd ?_ | refine WPl.sk ?_ | refine WPl.rdB ?_)
     | (refine isBx ?_; refine WPl.nw fun g => ?_)
     | (refine WPl.spQ (fun hc => ?_) (fun hc => ?_) <;> try exact prA)
     | fail)
    all_goals try (first | exact WPq.dTp | exact WPq.dTs | exact WPq.dV | exact WPq.dR | exact WPq.dR2 | exact WPq.dH | exact WPq.dBH | exact WPq.dT)
  have b6' : btw h.proto = false := by simpa using b6
  have ex : xwerr h d.length = 0 := by
    unfold xwerr
    rw [if_neg (by unfold xwBad; rw [b1, b2, b3, b5', b6', decide_eq_false b4]; simp), if_neg (by omega)]
  rw [ex, show xwL h d = xpkt h d by unfold xwL; rw [ex, if_pos rfl], e0]
  rw [b6'] at g1
  generalize h.src.bytes = y1 at *
  generalize h.dst.bytes = y2 at *
  refine Triple.enter Tryz.func59 rfl Tryz.ntmps59 rfl (fun W => ?_)
  dsimp only [argsF, Nat.reduceAdd]
  repeat' (first
   | refine WPl.nil ?_ | refine WPq.then ?_ | refine WPc.seq ?_ | refine WPc.skip ?_ | refine WPc.region ?_
   | (refine isReg 5 ?_; refine WPc.drA [([], [42, 43, 44, 46, 47, 48, 49, 50]), ([], [41, 46, 47, 48, 49, 50]), ([1], [41, 42, 46, 47, 48, 49, 50]), ([1, 2], [41, 42, 43, 46, 47, 48, 49, 50]), ([0, 1, 2, 3], [41, 42, 43, 44, 46, 47, 48, 49, 50]), ([], [41, 42, 43, 44, 45, 48, 49]), ([5], [41, 42, 43, 44, 45, 46, 48, 49]), ([], [41, 42, 43, 44, 45, 46, 47]), ([7], [41, 42, 43, 44, 45, 46, 47, 48]), ([5, 6, 7, 8], [41, 42, 43, 44, 45, 46, 47, 48, 49]), ([0, 1, 2, 3, 4, 5, 6, 7, 8, 9], [41, 42, 43, 44, 45, 46, 47, 48, 49, 50]), ([0, 1, 2, 3, 4, 5, 6, 7, 8, 9, 10], [41, 42, 43, 44, 45, 46, 47, 48, 49, 50, 51])] [(4, 10)] (Γx := []) ?_; dsimp only [prev0, List.length_nil, List.length_cons])
   | (refine gAny ?_; first | (refine gC 45 ?_; refine RGl.row (Γ1 := fun _ => []) (fun e hk => OpT.callN ((c45 _))) ?_) | (refine gOp ?_; first | refine RGl.rdA ?_ | refine RGl.rdX (fun e hk => by (try dsimp only [bndR, ensR, oksR, fcutR, List.append_nil, List.nil_append, List.cons_append, List.append_assoc] at hk ⊢); exact readB) ?_) | (refine gLit ?_; refine RGl.litA ?_) | (refine gApp ?_; refine RGl.appA ?_) | (refine RGl.fin (fun e hk => ?_); (try dsimp only [bndA, ensAR, oksA, List.append_nil, List.nil_append, List.cons_append, List.append_assoc] at hk ⊢); (repeat (obtain ⟨hk1, hk⟩ := hk))) | fail)
   | (refine isCond ?_; first | refine WPc.cT ?_ | refine WPc.cF ?_ | (refine WPc.cQ (fun hc => ?_) (fun hc => ?_) <;> try exact prA))
   | (refine isC 34 ?_; refine WPl.cV (g1) ?_)
   | (refine isD 25 ?_; refine WPl.rdX (ReadR.binE rfl rfl BinR.eql (congrArg Value.bool (decide_eq_false b4))) ?_)
   | (refine isD 39 ?_; refine WPl.rdX (ReadR.binE rfl rfl BinR.gtr (congrArg Value.bool (decide_eq_false (by omega)))) ?_)
   | (refine isOp ?_; first | refine WPl.rd ?_ | refine WPl.sk ?_ | refine WPl.rdB ?_)
   | (refine isBx ?_; refine WPl.nw fun g => ?_)
   | (refine WPl.spQ (fun hc => ?_) (fun hc => ?_) <;> try exact prA)
   | fail)
  dsimp only [Nat.reduceAdd]
  have h6 : (e 10).1.oneCell' = true := by assumption
  generalize (e 10).1 = w6 at *
  repeat' (first
   | refine WPq.then ?_ | refine WPc.ret ?_
   | (refine isReg 6 ?_; refine WPc.drA [([13], [53, 54, 55, 57, 58, 61]), ([13], [52, 57, 58, 61]), ([1, 13], [52, 53, 57, 58, 61]), ([1, 2, 13], [52, 53, 54, 57, 58, 61]), ([0, 1, 2, 3, 13], [52, 53, 54, 55, 57, 58, 61]), ([13], [52, 53, 54, 55, 56, 61]), ([5, 13], [52, 53, 54, 55, 56, 57, 61]), ([0, 1, 2, 3, 4, 5, 6, 13], [52, 53, 54, 55, 56, 57, 58, 61]), ([0, 1, 2, 3, 4, 5, 6, 7, 13], [52, 53, 54, 55, 56, 57, 58, 59, 61]), ([13], [52, 53, 54, 55, 56, 57, 58, 59, 60]), ([0, 1, 2, 3, 4, 5, 6, 7, 8, 9, 13], [52, 53, 54, 55, 56, 57, 58, 59, 60, 61]), ([0, 1, 2, 3, 4, 5, 6, 7, 8, 9, 10, 13], [52, 53, 54, 55, 56, 57, 58, 59, 60, 61, 62]), ([0, 1, 2, 3, 4, 5, 6, 7, 8, 9, 10, 11, 13], [4, 52, 53, 54, 55, 56, 57, 58, 59, 60, 61, 62])] [(13, 4), (4, 8), (8, 10), (13, 0), (13, 1), (13, 2), (13, 3), (4, 7)] (Γx := [ob w6 (nbs [96, 0, 0, 0] ++ be d.length 2 ++ nbs [((h.proto.toNat : Nat) : Int), ((h.hops.toNat : Nat) : Int)])]) ?_; dsimp only [prev0, List.length_nil, List.length_cons])
   | (refine gAny ?_; first | (refine gC 55 ?_; refine RGl.row (Γ1 := fun _ => []) (fun e hk => OpT.callN (a1)) ?_) | (refine gC 59 ?_; refine RGl.row (Γ1 := fun _ => []) (fun e hk => OpT.callN (a2)) ?_) | (refine gOp ?_; first | refine RGl.rdA ?_ | refine RGl.rdX (fun e hk => by (try dsimp only [bndR, ensR, oksR, fcutR, List.append_nil, List.nil_append, List.cons_append, List.append_assoc] at hk ⊢); exact readB) ?_) | (refine gApp ?_; refine RGl.appA ?_) | (refine RGl.fin (fun e hk => ?_); (try dsimp only [bndA, ensAR, oksA, List.append_nil, List.nil_append, List.cons_append, List.append_assoc] at hk ⊢); (repeat (obtain ⟨hk1, hk⟩ := hk))) | fail)
   | fail)
  all_goals try (first | exact WPq.dTp | exact WPq.dTs | exact WPq.dV | exact WPq.dR | exact WPq.dR2 | exact WPq.dH | exact WPq.dBH | exact WPq.dT)

end Go.Proofs.YtpilenbdimhegaaGreatDoor
