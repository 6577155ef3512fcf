/- Layer 16 (pkt): packets built; what the statements use; PktBack returns true. -/
import Derived.Test.YteofjhjhaaafjaaPk
namespace Go.Proofs.Yteofjhjhaaafjaa
open Go.RowKit
set_option linter.unusedSimpArgs false
set_option linter.unusedVariables false
set_option maxRecDepth 20000
set_option maxHeartbeats 4000000
attribute [local irreducible] WPc WPl WPq ReadR OpT BinR HasS bx rdN rowN Take Takes Prov Triple ResF BuildP Done ag Int.decLt Int.decLe Int.instDecidableEq

def pbH (f : Fl) (hops : UInt8) : Hd := ⟨f.src.six, f.proto, 0, f.src, f.dst, false, hops⟩
def pbS (f : Fl) (flags : UInt8) : Sg := ⟨f.sp, f.dp, flags, 0, false, 0⟩
def pbB (f : Fl) (flags hops : UInt8) (d : List UInt8) : List UInt8 := swL (pbH f hops) (pbS f flags) d
def pbE (f : Fl) (flags hops : UInt8) (d : List UInt8) : Int :=
  if ¬ swE (pbH f hops) (pbS f flags) d.length = 0 then swE (pbH f hops) (pbS f flags) d.length
  else if f.src.six then xwerr (pbH f hops) (pbB f flags hops d).length else fwerr (pbH f hops) (pbB f flags hops d).length
def pbL (f : Fl) (flags hops : UInt8) (d : List UInt8) : List UInt8 :=
  if ¬ swE (pbH f hops) (pbS f flags) d.length = 0 then []
  else if f.src.six then xwL (pbH f hops) (pbB f flags hops d) else fwL (pbH f hops) (pbB f flags hops d)
theorem swL_len {h : Hd} {s : Sg} {d : List UInt8} (he : swE h s d.length = 0) : (swL h s d).length ≤ 20 + d.length := by
  have h1 := swT_len s d
  have h2 := swU_len s d
  have h3 := summ_len (h := h) (l := swT s d) (k := 16) (by omega)
  have h4 := summ_len (h := h) (l := swU s d) (k := 6) (by omega)
  unfold swL
  rw [if_pos he]
  split
  · omega
  · split <;> omega
section
attribute [local irreducible] swL swE xwL xwerr fwL fwerr
theorem build_t (f : Fl) (flags hops : UInt8) (vd : Value) (d : List UInt8) (hd : d.length ≤ 10000) (h1 : f.sp < 65536) (h2 : f.dp < 65536) :
    Triple Try.prog 52 #[ag (flc f), .int .u8 ((flags.toNat : Nat) : Int), .int .u8 ((hops.toNat : Nat) : Int), vd] [rb vd d] (RW (pbL f flags hops d) (pbE f flags hops d)) := by
  have l1 := f.src.len
  have l2 := f.dst.len
  have c1 := swrite_t (pbH f hops) (pbS f flags) vd d hd h1 h2
  by_cases he : swE (pbH f hops) (pbS f flags) d.length = 0
  · have hBl := swL_len he
    obtain ⟨B, hB⟩ : ∃ B, B = pbB f flags hops d := ⟨_, rfl⟩
    have hB' : swL (pbH f hops) (pbS f flags) d = B := hB.symm
    rw [hB', he] at c1
    rw [hB'] at hBl
    have hL : pbL f flags hops d = if f.src.six then xwL (pbH f hops) B else fwL (pbH f hops) B := by unfold pbL; rw [if_neg (by rw [he]; simp), hB]
    have hE : pbE f flags hops d = if f.src.six then xwerr (pbH f hops) B.length else fwerr (pbH f hops) B.length := by unfold pbE; rw [if_neg (by rw [he]; simp), hB]
    rw [hL, hE]
    clear hL hE hB hB' he
    cases hs : f.src.six with
    | true =>
      simp only [if_true]
      have c2 := fun u => xwrite_t (pbH f hops) u B (by omega)
      obtain ⟨L, hL⟩ : ∃ L, L = xwL (pbH f hops) B := ⟨_, rfl⟩
      obtain ⟨c, hc⟩ : ∃ c, c = xwerr (pbH f hops) B.length := ⟨_, rfl⟩
      rw [← hL, ← hc] at c2 ⊢
      clear hL hc
      unfold pbH pbS at *
      refine Triple.enter Try.func52 rfl Try.ntmps52 rfl (fun W => ?_)
      dsimp only [argsF, Nat.reduceAdd]
      repeat' (first
       | refine WPl.nil ?_ | refine WPq.then ?_ | refine WPq.thenR ?_ | refine WPq.thenE ?_ | refine WPq.blockN ?_ | refine WPq.blockR ?_ | refine WPq.blockE ?_ | refine WPq.blockO rfl ?_ | refine WPc.seq ?_ | refine WPc.block ?_ | refine WPc.ret ?_ | refine WPc.exit ?_ | refine WPc.skip ?_ | refine WPc.region ?_
       | (refine isCond ?_; first | refine WPc.cT ?_ | refine WPc.cF ?_ | (refine WPc.cQ (fun hc => ?_) (fun hc => ?_) <;> try exact prA))
       | (refine isC 33 ?_; refine WPl.cR2 (c1) fun v hv => ?_)
       | (refine isC 43 ?_; refine WPl.cR2 (c2 _) fun v hv => ?_)
       | (refine isOp ?_; first | refine WPl.rd ?_ | refine WPl.sk ?_ | refine WPl.rdB ?_)
       | (refine isAl ?_; refine WPl.nw fun g => ?_)
       | (refine isBx ?_; refine WPl.nw fun g => ?_)
       | (refine isSt ?_; first | refine WPl.st1 ?_ | refine WPl.stA ?_ | refine WPl.stEB ?_ | refine WPl.stRB ?_)
       | (refine WPl.spQ (fun hc => ?_) (fun hc => ?_) <;> try exact prA)
       | fail)
      all_goals try (first | exact WPq.dV | exact WPq.dR | exact WPq.dR2 | exact WPq.dH | exact WPq.dBH | exact WPq.dT)
    | false =>
      simp only [Bool.false_eq_true, if_false]
      have c2 := fun u => fwrite_t (pbH f hops) u B (by omega)
      obtain ⟨L, hL⟩ : ∃ L, L = fwL (pbH f hops) B := ⟨_, rfl⟩
      obtain ⟨c, hc⟩ : ∃ c, c = fwerr (pbH f hops) B.length := ⟨_, rfl⟩
      rw [← hL, ← hc] at c2 ⊢
      clear hL hc
      unfold pbH pbS at *
      refine Triple.enter Try.func52 rfl Try.ntmps52 rfl (fun W => ?_)
      dsimp only [argsF, Nat.reduceAdd]
      repeat' (first
       | refine WPl.nil ?_ | refine WPq.then ?_ | refine WPq.thenR ?_ | refine WPq.thenE ?_ | refine WPq.blockN ?_ | refine WPq.blockR ?_ | refine WPq.blockE ?_ | refine WPq.blockO rfl ?_ | refine WPc.seq ?_ | refine WPc.block ?_ | refine WPc.ret ?_ | refine WPc.exit ?_ | refine WPc.skip ?_ | refine WPc.region ?_
       | (refine isCond ?_; first | refine WPc.cT ?_ | refine WPc.cF ?_ | (refine WPc.cQ (fun hc => ?_) (fun hc => ?_) <;> try exact prA))
       | (refine isC 33 ?_; refine WPl.cR2 (c1) fun v hv => ?_)
       | (refine isC 48 ?_; refine WPl.cR2 (c2 _) fun v hv => ?_)
       | (refine isOp ?_; first | refine WPl.rd ?_ | refine WPl.sk ?_ | refine WPl.rdB ?_)
       | (refine isAl ?_; refine WPl.nw fun g => ?_)
       | (refine isBx ?_; refine WPl.nw fun g => ?_)
       | (refine isSt ?_; first | refine WPl.st1 ?_ | refine WPl.stA ?_ | refine WPl.stEB ?_ | refine WPl.stRB ?_)
       | (refine WPl.spQ (fun hc => ?_) (fun hc => ?_) <;> try exact prA)
       | fail)
      all_goals try (first | exact WPq.dV | exact WPq.dR | exact WPq.dR2 | exact WPq.dH | exact WPq.dBH | exact WPq.dT)
  · rw [show pbL f flags hops d = [] by unfold pbL; rw [if_pos he], show pbE f flags hops d = swE (pbH f hops) (pbS f flags) d.length by unfold pbE; rw [if_pos he]]
    obtain ⟨B, hB⟩ : ∃ B, B = swL (pbH f hops) (pbS f flags) d := ⟨_, rfl⟩
    obtain ⟨c, hc⟩ : ∃ c, c = swE (pbH f hops) (pbS f flags) d.length := ⟨_, rfl⟩
    rw [← hB, ← hc] at c1
    rw [← hc] at he ⊢
    clear hB hc
    unfold pbH pbS at *
    refine Triple.enter Try.func52 rfl Try.ntmps52 rfl (fun W => ?_)
    dsimp only [argsF, Nat.reduceAdd]
    refine WPc.nilRow 5 ?_
    repeat' (first
     | refine WPl.nil ?_ | refine WPq.then ?_ | refine WPq.thenR ?_ | refine WPq.thenE ?_ | refine WPq.blockN ?_ | refine WPq.blockR ?_ | refine WPq.blockE ?_ | refine WPq.blockO rfl ?_ | refine WPc.seq ?_ | refine WPc.block ?_ | refine WPc.ret ?_ | refine WPc.exit ?_ | refine WPc.skip ?_ | refine WPc.region ?_
     | (refine isCond ?_; first | refine WPc.cT ?_ | refine WPc.cF ?_ | (refine WPc.cQ (fun hc => ?_) (fun hc => ?_) <;> try exact prA))
     | (refine isC 33 ?_; refine WPl.cR2 (c1) fun v hv => ?_)
     | (refine isOp ?_; first | refine WPl.rd ?_ | refine WPl.sk ?_ | refine WPl.rdB ?_)
     | (refine isAl ?_; refine WPl.nw fun g => ?_)
     | (refine isBx ?_; refine WPl.nw fun g => ?_)
     | (refine isSt ?_; first | refine WPl.st1 ?_ | refine WPl.stA ?_ | refine WPl.stEB ?_ | refine WPl.stRB ?_)
     | (refine WPl.spQ (fun hc => ?_) (fun hc => ?_) <;> try exact prA)
     | fail)
    all_goals try (first | exact WPq.dV | exact WPq.dR | exact WPq.dR2 | exact WPq.dH | exact WPq.dBH | exact WPq.dT)
end
def Fl.back (f : Fl) : Fl := ⟨f.dst, f.src, f.dp, f.sp, f.proto⟩
theorem back_t (f : Fl) : Triple Try.prog 58 #[ag (flc f)] [] (RVal (ag (flc f.back))) := by
  have l1 := f.src.len
  have l2 := f.dst.len
  refine Triple.enter Try.func58 rfl Try.ntmps58 rfl (fun W => ?_)
  dsimp only [argsF, Nat.reduceAdd]
  repeat' (first
   | refine WPl.nil ?_ | refine WPq.then ?_ | refine WPq.thenR ?_ | refine WPq.thenE ?_ | refine WPq.blockN ?_ | refine WPq.blockR ?_ | refine WPq.blockE ?_ | refine WPq.blockO rfl ?_ | refine WPc.seq ?_ | refine WPc.block ?_ | refine WPc.ret ?_ | refine WPc.exit ?_ | refine WPc.skip ?_ | refine WPc.region ?_
   | (refine isCond ?_; first | refine WPc.cT ?_ | refine WPc.cF ?_ | (refine WPc.cQ (fun hc => ?_) (fun hc => ?_) <;> try exact prA))
   | (refine isOp ?_; first | refine WPl.rd ?_ | refine WPl.sk ?_ | refine WPl.rdB ?_)
   | (refine isAl ?_; refine WPl.nw fun g => ?_)
   | (refine isBx ?_; refine WPl.nw fun g => ?_)
   | (refine isSt ?_; first | refine WPl.st1 ?_ | refine WPl.stA ?_ | refine WPl.stEB ?_ | refine WPl.stRB ?_)
   | (refine WPl.spQ (fun hc => ?_) (fun hc => ?_) <;> try exact prA)
   | fail)
  all_goals try (first | exact WPq.dV | exact WPq.dR | exact WPq.dR2 | exact WPq.dH | exact WPq.dBH | exact WPq.dT)
def f16 : Fl := ⟨Adr.zero, Adr.zero, 5, 6, 17⟩
theorem some_t : Triple Try.prog 90 #[] [] (RVal (ag (flc f16))) := by
  refine Triple.enter Try.func90 rfl Try.ntmps90 rfl (fun W => ?_)
  dsimp only [argsF, Nat.reduceAdd]
  repeat' (first
   | refine WPl.nil ?_ | refine WPq.then ?_ | refine WPq.thenR ?_ | refine WPq.thenE ?_ | refine WPq.blockN ?_ | refine WPq.blockR ?_ | refine WPq.blockE ?_ | refine WPq.blockO rfl ?_ | refine WPc.seq ?_ | refine WPc.block ?_ | refine WPc.ret ?_ | refine WPc.exit ?_ | refine WPc.skip ?_ | refine WPc.region ?_
   | (refine isCond ?_; first | refine WPc.cT ?_ | refine WPc.cF ?_ | (refine WPc.cQ (fun hc => ?_) (fun hc => ?_) <;> try exact prA))
   | (refine isOp ?_; first | refine WPl.rd ?_ | refine WPl.sk ?_ | refine WPl.rdB ?_)
   | (refine isAl ?_; refine WPl.nw fun g => ?_)
   | (refine isSt ?_; first | refine WPl.st1 ?_ | refine WPl.stA ?_ | refine WPl.stEB ?_ | refine WPl.stRB ?_)
   | (refine WPl.spQ (fun hc => ?_) (fun hc => ?_) <;> try exact prA)
   | fail)
  all_goals try (first | exact WPq.dV | exact WPq.dR | exact WPq.dR2 | exact WPq.dH | exact WPq.dBH | exact WPq.dT)
theorem h16_err : pbE f16 0 9 [7] = 0 := by decide +kernel
theorem h16_len : (pbL f16 0 9 [7]).length = 29 := by decide +kernel
theorem h16_read : pkVal (pbL f16 0 9 [7]) = .tuple #[ag (pkc ⟨⟨false, 17, 20, Adr.zero, Adr.zero, false, 9⟩, ⟨5, 6, 0, 6, false, 8⟩, f16⟩), .int .i64 0] := by kernel_rfl
theorem flEq {a b : Fl} (h : a = b) : ((a.src.six == b.src.six) && (decide (a.src.b = b.src.b) && ((a.dst.six == b.dst.six) && (decide (a.dst.b = b.dst.b) && (decide ((a.sp : Int) = (b.sp : Int)) && (decide ((a.dp : Int) = (b.dp : Int)) && (decide (((a.proto.toNat : Nat) : Int) = ((b.proto.toNat : Nat) : Int)) && true))))))) = true := by
  subst h; simp
theorem pkEq {a b : Pk} (h : a = b) : ((a.hd.six == b.hd.six) && (decide (((a.hd.proto.toNat : Nat) : Int) = ((b.hd.proto.toNat : Nat) : Int)) && (decide (a.hd.pos = b.hd.pos) && ((a.hd.src.six == b.hd.src.six) && (decide (a.hd.src.b = b.hd.src.b) && ((a.hd.dst.six == b.hd.dst.six) && (decide (a.hd.dst.b = b.hd.dst.b) && ((a.hd.part == b.hd.part) && (decide (((a.hd.hops.toNat : Nat) : Int) = ((b.hd.hops.toNat : Nat) : Int)) && (decide ((a.sg.src : Int) = (b.sg.src : Int)) && (decide ((a.sg.dst : Int) = (b.sg.dst : Int)) && (decide (((a.sg.flags.toNat : Nat) : Int) = ((b.sg.flags.toNat : Nat) : Int)) && (decide (a.sg.sumAt = b.sg.sumAt) && ((a.sg.zero == b.sg.zero) && (decide (a.sg.data = b.sg.data) && ((a.fl.src.six == b.fl.src.six) && (decide (a.fl.src.b = b.fl.src.b) && ((a.fl.dst.six == b.fl.dst.six) && (decide (a.fl.dst.b = b.fl.dst.b) && (decide ((a.fl.sp : Int) = (b.fl.sp : Int)) && (decide ((a.fl.dp : Int) = (b.fl.dp : Int)) && (decide (((a.fl.proto.toNat : Nat) : Int) = ((b.fl.proto.toNat : Nat) : Int)) && true)))))))))))))))))))))) = true := by
  subst h; simp
attribute [local irreducible] pbL pbE pkR pkE
theorem lives16_t : Triple Try.prog 51 #[] [] (RVal (.bool true)) := by
  have hl := h16_len
  have h1 := fun v => build_t f16 0 9 v [7] (by decide) (by decide) (by decide)
  rw [h16_err] at h1
  have h2 := fun v => parse_t v (pbL f16 0 9 [7]) (by omega)
  rw [h16_read] at h2
  have k1 := f16.src.len
  have k2 := f16.dst.len
  have hs := some_t
  refine Triple.enter Try.func51 rfl Try.ntmps51 rfl (fun W => ?_)
  dsimp only [argsF, Nat.reduceAdd]
  repeat' (first
   | refine WPl.nil ?_ | refine WPq.then ?_ | refine WPq.thenR ?_ | refine WPq.thenE ?_ | refine WPq.blockN ?_ | refine WPq.blockR ?_ | refine WPq.blockE ?_ | refine WPq.blockO rfl ?_ | refine WPc.seq ?_ | refine WPc.block ?_ | refine WPc.ret ?_ | refine WPc.exit ?_ | refine WPc.skip ?_ | refine WPc.region ?_
   | (refine isReg 3 ?_; refine WPc.drA [([], []), ([0], [16]), ([0, 1], [16, 17]), ([0, 1, 2], [16, 17, 18]), ([0, 1, 2, 3], [16, 17, 18, 19]), ([0, 1, 2, 3, 4], [16, 17, 18, 19, 20]), ([0, 1, 2, 3, 4, 5], [16, 17, 18, 19, 20, 21]), ([0, 1, 2, 3, 4, 5, 6], [16, 17, 18, 19, 20, 21, 22]), ([0, 1, 2, 3, 4, 5, 6, 7], [16, 17, 18, 19, 20, 21, 22, 23]), ([0, 1, 2, 3, 4, 5, 6, 7, 8], [16, 17, 18, 19, 20, 21, 22, 23, 24]), ([0, 1, 2, 3, 4, 5, 6, 7, 8, 9], [16, 17, 18, 19, 20, 21, 22, 23, 24, 25]), ([0, 1, 2, 3, 4, 5, 6, 7, 8, 9, 10], [16, 17, 18, 19, 20, 21, 22, 23, 24, 25, 26]), ([0, 1, 2, 3, 4, 5, 6, 7, 8, 9, 10, 11], [16, 17, 18, 19, 20, 21, 22, 23, 24, 25, 26, 27, 30]), ([0, 1, 2, 3, 4, 5, 6, 7, 8, 9, 10, 11, 12], [16, 17, 18, 19, 20, 21, 22, 23, 24, 25, 26, 27, 28, 30]), ([0, 1, 2, 3, 4, 5, 6, 7, 8, 9, 10, 11], [16, 17, 18, 19, 20, 21, 22, 23, 24, 25, 26, 27, 28, 29]), ([0, 1, 2, 3, 4, 5, 6, 7, 8, 9, 10, 11, 12, 13, 14], [16, 17, 18, 19, 20, 21, 22, 23, 24, 25, 26, 27, 28, 29, 30]), ([0, 1, 2, 3, 4, 5, 6, 7, 8, 9, 10, 11, 12, 13, 14, 15], [16, 17, 18, 19, 20, 21, 22, 23, 24, 25, 26, 27, 28, 29, 30, 31]), ([0, 1, 2, 3, 4, 5, 6, 7, 8, 9, 10, 11, 12, 13, 14, 15, 16], [16, 17, 18, 19, 20, 21, 22, 23, 24, 25, 26, 27, 28, 29, 30, 31, 32]), ([0, 1, 2, 3, 4, 5, 6, 7, 8, 9, 10, 11, 12, 13, 14, 15, 16, 17], [16, 17, 18, 19, 20, 21, 22, 23, 24, 25, 26, 27, 28, 29, 30, 31, 32, 33]), ([0, 1, 2, 3, 4, 5, 6, 7, 8, 9, 10, 11, 12, 13, 14, 15, 16, 17, 18], [16, 17, 18, 19, 20, 21, 22, 23, 24, 25, 26, 27, 28, 29, 30, 31, 32, 33, 34]), ([0, 1, 2, 3, 4, 5, 6, 7, 8, 9, 10, 11, 12, 13, 14, 15, 16, 17, 18, 19], [16, 17, 18, 19, 20, 21, 22, 23, 24, 25, 26, 27, 28, 29, 30, 31, 32, 33, 34, 35]), ([0, 1, 2, 3, 4, 5, 6, 7, 8, 9, 10, 11, 12, 13, 14, 15, 16, 17, 18, 19, 20], [16, 17, 18, 19, 20, 21, 22, 23, 24, 25, 26, 27, 28, 29, 30, 31, 32, 33, 34, 35, 36]), ([0, 1, 2, 3, 4, 5, 6, 7, 8, 9, 10, 11, 12, 13, 14, 15, 16, 17, 18, 19, 20, 21], [16, 17, 18, 19, 20, 21, 22, 23, 24, 25, 26, 27, 28, 29, 30, 31, 32, 33, 34, 35, 36, 37]), ([0, 1, 2, 3, 4, 5, 6, 7, 8, 9, 10, 11, 12, 13, 14, 15, 16, 17, 18, 19, 20, 21, 22], [16, 17, 18, 19, 20, 21, 22, 23, 24, 25, 26, 27, 28, 29, 30, 31, 32, 33, 34, 35, 36, 37, 38])] [] (Γx := []) ?_; dsimp only [prev0, List.length_nil, List.length_cons])
   | (refine gAny ?_; first | (refine gGd ?_; refine RGl.skp ?_) | (refine gC 6 ?_; refine RGl.vl (fun e hk => OpT.callN (hs)) ?_) | (refine gC 30 ?_; refine RGl.vl (fun e hk => OpT.callN (hs)) ?_) | (refine gC 8 ?_; refine RGl.row2 (fun e hk => OpT.callN (h1 _)) ?_) | (refine gC 13 ?_; refine RGl.vl (fun e hk => OpT.callN (h2 _)) ?_) | (refine gD 18 ?_; refine RGl.rdX (fun e hk => by (try dsimp only [bndR, ensR, oksR, fcutR, List.append_nil, List.nil_append, List.cons_append, List.append_assoc] at hk ⊢); exact ReadR.binE rfl rfl BinR.eql (congrArg Value.bool (decide_eq_true (by rw [hl]; rfl)))) ?_) | (refine gD 21 ?_; refine RGl.rdX (fun e hk => by (try dsimp only [bndR, ensR, oksR, fcutR, List.append_nil, List.nil_append, List.cons_append, List.append_assoc] at hk ⊢); exact ReadR.binE rfl rfl BinR.eql (congrArg Value.bool (decide_eq_true rfl))) ?_) | (refine gD 25 ?_; refine RGl.rdX (fun e hk => by (try dsimp only [bndR, ensR, oksR, fcutR, List.append_nil, List.nil_append, List.cons_append, List.append_assoc] at hk ⊢); exact ReadR.binE rfl rfl BinR.eql (congrArg Value.bool (decide_eq_true rfl))) ?_) | (refine gD 31 ?_; refine RGl.rdX (fun e hk => by (try dsimp only [bndR, ensR, oksR, fcutR, List.append_nil, List.nil_append, List.cons_append, List.append_assoc] at hk ⊢); exact ReadR.binE rfl rfl (BinR.eqlA eqcA) (congrArg Value.bool (flEq (a := f16) (b := f16) rfl))) ?_) | (refine gD 37 ?_; refine RGl.rdX (fun e hk => by (try dsimp only [bndR, ensR, oksR, fcutR, List.append_nil, List.nil_append, List.cons_append, List.append_assoc] at hk ⊢); exact ReadR.binE rfl rfl BinR.eql (congrArg Value.bool (decide_eq_true rfl))) ?_) | (refine gOp ?_; first | refine RGl.rdA ?_ | refine RGl.rdX (fun e hk => by (try dsimp only [bndR, ensR, oksR, fcutR, List.append_nil, List.nil_append, List.cons_append, List.append_assoc] at hk ⊢); exact readB) ?_) | (refine RGl.fin (fun e hk => ?_); (try dsimp only [bndA, ensAR, oksA, List.append_nil, List.nil_append, List.cons_append, List.append_assoc] at hk ⊢); (repeat (obtain ⟨hk1, hk⟩ := hk))) | fail)
   | (refine isCond ?_; first | refine WPc.cT ?_ | refine WPc.cF ?_ | (refine WPc.cQ (fun hc => ?_) (fun hc => ?_) <;> try exact prA))
   | (refine isLit ?_; refine WPl.lit fun v hv => ?_)
   | (refine isC 6 ?_; refine WPl.cV (hs) ?_)
   | (refine isC 30 ?_; refine WPl.cV (hs) ?_)
   | (refine isC 8 ?_; refine WPl.cR2 (h1 _) fun v hv => ?_)
   | (refine isC 13 ?_; refine WPl.cV (h2 _) ?_)
   | (refine isD 18 ?_; refine WPl.rdX (ReadR.binE rfl rfl BinR.eql (congrArg Value.bool (decide_eq_true (by rw [hl]; rfl)))) ?_)
   | (refine isD 21 ?_; refine WPl.rdX (ReadR.binE rfl rfl BinR.eql (congrArg Value.bool (decide_eq_true rfl))) ?_)
   | (refine isD 25 ?_; refine WPl.rdX (ReadR.binE rfl rfl BinR.eql (congrArg Value.bool (decide_eq_true rfl))) ?_)
   | (refine isD 31 ?_; refine WPl.rdX (ReadR.binE rfl rfl (BinR.eqlA eqcA) (congrArg Value.bool (flEq (a := f16) (b := f16) rfl))) ?_)
   | (refine isD 37 ?_; refine WPl.rdX (ReadR.binE rfl rfl BinR.eql (congrArg Value.bool (decide_eq_true rfl))) ?_)
   | (refine isOp ?_; first | refine WPl.rd ?_ | refine WPl.sk ?_ | refine WPl.rdB ?_)
   | (refine isAl ?_; refine WPl.nw fun g => ?_)
   | (refine isSt ?_; first | refine WPl.st1 ?_ | refine WPl.stA ?_ | refine WPl.stEB ?_ | refine WPl.stRB ?_)
   | (refine WPl.spQ (fun hc => ?_) (fun hc => ?_) <;> try exact prA)
   | fail)
  all_goals try (first | exact WPq.dV | exact WPq.dR | exact WPq.dR2 | exact WPq.dH | exact WPq.dBH | exact WPq.dT)
theorem pktBack_t (f : Fl) : Triple Try.prog 20 #[ag (flc f)] [] (RVal (.bool true)) := by
  have l1 := f.src.len
  have l2 := f.dst.len
  have h1 := back_t f
  have h2 := back_t f.back
  have h3 := lives16_t
  refine Triple.enter Try.func20 rfl Try.ntmps20 rfl (fun W => ?_)
  dsimp only [argsF, Nat.reduceAdd]
  repeat' (first
   | refine WPl.nil ?_ | refine WPq.then ?_ | refine WPq.thenR ?_ | refine WPq.thenE ?_ | refine WPq.blockN ?_ | refine WPq.blockR ?_ | refine WPq.blockE ?_ | refine WPq.blockO rfl ?_ | refine WPc.seq ?_ | refine WPc.block ?_ | refine WPc.ret ?_ | refine WPc.exit ?_ | refine WPc.skip ?_ | refine WPc.region ?_
   | (refine isReg 2 ?_; refine WPc.drA [([], [7, 8, 9, 10, 11, 12, 13, 14, 15, 16, 17]), ([], [6, 9, 10, 11, 12, 13, 14, 15, 16]), ([1], [6, 7, 9, 10, 11, 12, 13, 14, 15, 16]), ([], [6, 7, 8, 11, 12, 13, 14, 15, 16]), ([3], [6, 7, 8, 9, 11, 12, 13, 14, 15, 16]), ([], [6, 7, 8, 9, 10, 13, 14, 15, 16]), ([5], [6, 7, 8, 9, 10, 11, 13, 14, 15, 16]), ([], [6, 7, 8, 9, 10, 11, 12, 15, 16]), ([7], [6, 7, 8, 9, 10, 11, 12, 13, 15, 16]), ([], [6, 7, 8, 9, 10, 11, 12, 13, 14]), ([9], [6, 7, 8, 9, 10, 11, 12, 13, 14, 15]), ([1, 2, 3, 4, 5, 6, 7, 8, 9, 10], [6, 7, 8, 9, 10, 11, 12, 13, 14, 15, 16]), ([0, 1, 2, 3, 4, 5, 6, 7, 8, 9, 10, 11], [6, 7, 8, 9, 10, 11, 12, 13, 14, 15, 16, 17]), ([0, 1, 2, 3, 4, 5, 6, 7, 8, 9, 10, 11, 12], [6, 7, 8, 9, 10, 11, 12, 13, 14, 15, 16, 17, 18]), ([0, 1, 2, 3, 4, 5, 6, 7, 8, 9, 10, 11, 12, 13], [6, 7, 8, 9, 10, 11, 12, 13, 14, 15, 16, 17, 18, 19, 22]), ([0, 1, 2, 3, 4, 5, 6, 7, 8, 9, 10, 11, 12, 13, 14], [6, 7, 8, 9, 10, 11, 12, 13, 14, 15, 16, 17, 18, 19, 20, 22]), ([0, 1, 2, 3, 4, 5, 6, 7, 8, 9, 10, 11, 12, 13], [6, 7, 8, 9, 10, 11, 12, 13, 14, 15, 16, 17, 18, 19, 20, 21]), ([0, 1, 2, 3, 4, 5, 6, 7, 8, 9, 10, 11, 12, 13, 14, 15, 16], [6, 7, 8, 9, 10, 11, 12, 13, 14, 15, 16, 17, 18, 19, 20, 21, 22]), ([0, 1, 2, 3, 4, 5, 6, 7, 8, 9, 10, 11, 12, 13, 14, 15, 16, 17], [6, 7, 8, 9, 10, 11, 12, 13, 14, 15, 16, 17, 18, 19, 20, 21, 22, 23]), ([0, 1, 2, 3, 4, 5, 6, 7, 8, 9, 10, 11, 12, 13, 14, 15, 16, 17, 18], [6, 7, 8, 9, 10, 11, 12, 13, 14, 15, 16, 17, 18, 19, 20, 21, 22, 23, 24]), ([0, 1, 2, 3, 4, 5, 6, 7, 8, 9, 10, 11, 12, 13, 14, 15, 16, 17, 18, 19], [6, 7, 8, 9, 10, 11, 12, 13, 14, 15, 16, 17, 18, 19, 20, 21, 22, 23, 24, 25]), ([0, 1, 2, 3, 4, 5, 6, 7, 8, 9, 10, 11, 12, 13, 14, 15, 16, 17, 18, 19, 20], [6, 7, 8, 9, 10, 11, 12, 13, 14, 15, 16, 17, 18, 19, 20, 21, 22, 23, 24, 25, 26]), ([0, 1, 2, 3, 4, 5, 6, 7, 8, 9, 10, 11, 12, 13, 14, 15, 16, 17, 18, 19, 20, 21], [6, 7, 8, 9, 10, 11, 12, 13, 14, 15, 16, 17, 18, 19, 20, 21, 22, 23, 24, 25, 26, 27])] [] (Γx := []) ?_; dsimp only [prev0, List.length_nil, List.length_cons])
   | (refine gAny ?_; first | (refine gGd ?_; refine RGl.skp ?_) | (refine gC 5 ?_; refine RGl.vl (fun e hk => OpT.callN (h1)) ?_) | (refine gC 21 ?_; refine RGl.vl (fun e hk => OpT.callN (h2)) ?_) | (refine gC 26 ?_; refine RGl.vl (fun e hk => OpT.callN (h3)) ?_) | (refine gD 18 ?_; refine RGl.rdX (fun e hk => by (try dsimp only [bndR, ensR, oksR, fcutR, List.append_nil, List.nil_append, List.cons_append, List.append_assoc] at hk ⊢); exact ReadR.binE rfl rfl (BinR.eqlA eqcA) (congrArg Value.bool (flEq (a := f.back) (b := f.back) rfl))) ?_) | (refine gD 23 ?_; refine RGl.rdX (fun e hk => by (try dsimp only [bndR, ensR, oksR, fcutR, List.append_nil, List.nil_append, List.cons_append, List.append_assoc] at hk ⊢); exact ReadR.binE rfl rfl (BinR.eqlA eqcA) (congrArg Value.bool (flEq (a := f) (b := f) rfl))) ?_) | (refine gOp ?_; first | refine RGl.rdA ?_ | refine RGl.rdX (fun e hk => by (try dsimp only [bndR, ensR, oksR, fcutR, List.append_nil, List.nil_append, List.cons_append, List.append_assoc] at hk ⊢); exact readB) ?_) | (refine RGl.fin (fun e hk => ?_); (try dsimp only [bndA, ensAR, oksA, List.append_nil, List.nil_append, List.cons_append, List.append_assoc] at hk ⊢); (repeat (obtain ⟨hk1, hk⟩ := hk))) | fail)
   | (refine isCond ?_; first | refine WPc.cT ?_ | refine WPc.cF ?_ | (refine WPc.cQ (fun hc => ?_) (fun hc => ?_) <;> try exact prA))
   | (refine isC 5 ?_; refine WPl.cV (h1) ?_)
   | (refine isC 21 ?_; refine WPl.cV (h2) ?_)
   | (refine isC 26 ?_; refine WPl.cV (h3) ?_)
   | (refine isD 18 ?_; refine WPl.rdX (ReadR.binE rfl rfl (BinR.eqlA eqcA) (congrArg Value.bool (flEq (a := f.back) (b := f.back) rfl))) ?_)
   | (refine isD 23 ?_; refine WPl.rdX (ReadR.binE rfl rfl (BinR.eqlA eqcA) (congrArg Value.bool (flEq (a := f) (b := f) rfl))) ?_)
   | (refine isOp ?_; first | refine WPl.rd ?_ | refine WPl.sk ?_ | refine WPl.rdB ?_)
   | (refine isAl ?_; refine WPl.nw fun g => ?_)
   | (refine isBx ?_; refine WPl.nw fun g => ?_)
   | (refine isSt ?_; first | refine WPl.st1 ?_ | refine WPl.stA ?_ | refine WPl.stEB ?_ | refine WPl.stRB ?_)
   | (refine WPl.spQ (fun hc => ?_) (fun hc => ?_) <;> try exact prA)
   | fail)
  all_goals try (first | exact WPq.dV | exact WPq.dR | exact WPq.dR2 | exact WPq.dH | exact WPq.dBH | exact WPq.dT)
end Go.Proofs.Yteofjhjhaaafjaa
