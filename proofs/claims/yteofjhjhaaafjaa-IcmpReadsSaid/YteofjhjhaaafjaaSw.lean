/- Layer 15 (seg): writing: contracts. -/
import Derived.Test.YteofjhjhaaafjaaSh
namespace Go.Proofs.Yteofjhjhaaafjaa
open Go.RowKit
set_option linter.unusedSimpArgs false
set_option linter.unusedVariables false
set_option maxRecDepth 20000
set_option maxHeartbeats 4000000
attribute [local irreducible] WPc WPl WPq ReadR OpT BinR HasS bx rdN rowN Take Takes Prov Triple ResF BuildP Done ag Int.decLt Int.decLe Int.instDecidableEq
attribute [local irreducible] psu sgood

theorem BinR.subT {P : Program} {T : TypeId} {k : IntKind} {a b c : Int} (h : a - b = c) (h1 : kmin k ≤ c) (h2 : c ≤ kmax k) : BinR P .sub T (.int k a) (.int k b) (.int k c) := h ▸ BinR.subK (h ▸ h1) (h ▸ h2)
def sumN (h : Hd) (l : List UInt8) : Nat := if csum (psu h l.length ++ l) = 0 ∧ h.proto.toNat = 17 then 65535 else csum (psu h l.length ++ l)
def summ (h : Hd) (l : List UInt8) (k : Nat) : List UInt8 := over l k (be (sumN h l) 2)
theorem summ_len {h : Hd} {l : List UInt8} {k : Nat} (hk : k + 2 ≤ l.length) : (summ h l k).length = l.length := by unfold summ; rw [over_length (by rw [be_length]; exact hk)]
theorem sumN_le (h : Hd) (l : List UInt8) : sumN h l ≤ 65535 := by
  have := csum_le (psu h l.length ++ l)
  unfold sumN; split <;> omega
attribute [local irreducible] be over
theorem ReadR.xor16 {P : Program} {n : Nat} {Γ : List Asn} {F : List (Nat × Value)} {d : Option Tmp} {ty : TypeId} {pos : String} {af : Array Edge} {gd : Option (Nat × Bool)} {x : Operand} {T : TypeId} (hx : evF F x = some (.int .u16 0)) : ReadR P n Γ F ⟨d, .unOp .xor T x, ty, pos, af, gd⟩ (.int .u16 65535) := by
  have := ReadR.xorU (P := P) (n := n) (Γ := Γ) (F := F) (d := d) (ty := ty) (pos := pos) (af := af) (gd := gd) (T := T) (k := .u16) (a := 0) hx rfl (by omega) (by simp only [kmax]; omega)
  simpa [kmax] using this
theorem summed_t (h : Hd) (vb : Value) (l : List UInt8) (k : Nat) (hk : k + 2 ≤ l.length) (hl : l.length ≤ 100000) : Triple Try.prog 85 #[ag (hdc h), vb, .int .i64 (k : Int)] ([] ++ [ob vb l]) (RTurn vb (ob vb (summ h l k))) := by
  have l1 := h.src.len
  have l2 := h.dst.len
  have hp := psu_len h l.length
  have hcs := csum_le (psu h l.length ++ l)
  obtain ⟨c, hc⟩ : ∃ c, c = csum (psu h l.length ++ l) := ⟨_, rfl⟩
  obtain ⟨m, hm⟩ : ∃ m, m = sumN h l := ⟨_, rfl⟩
  have hm2 : m = if c = 0 ∧ h.proto.toNat = 17 then 65535 else c := by rw [hm, hc]; rfl
  have hms : summ h l k = over l k (be m 2) := by rw [hm]; rfl
  have hb2 := be_length m 2
  rw [hms]
  rw [← hc] at hcs
  by_cases hc0 : c = 0
  · by_cases h17 : h.proto.toNat = 17
    · rw [if_pos ⟨hc0, h17⟩] at hm2
      subst hm2
      subst hc0
      refine Triple.enter Try.func85 rfl Try.ntmps85 rfl (fun W => ?_)
      dsimp only [argsF, Nat.reduceAdd]
      repeat' (first
       | refine WPl.nil ?_ | refine WPq.then ?_ | refine WPq.thenR ?_ | refine WPq.thenE ?_ | refine WPq.blockN ?_ | refine WPq.blockR ?_ | refine WPq.blockE ?_ | refine WPq.blockO rfl ?_ | refine WPc.seq ?_ | refine WPc.block ?_ | refine WPc.ret ?_ | refine WPc.exit ?_ | refine WPc.skip ?_ | refine WPc.region ?_
       | (refine isReg 4 ?_; refine WPc.drA [([7], [25, 27, 28, 29]), ([7], [24, 27, 28, 29]), ([0, 1, 7], [24, 25, 27, 28, 29]), ([7], [24, 25, 26]), ([3, 7], [24, 25, 26, 27]), ([3, 4, 7], [24, 25, 26, 27, 28]), ([0, 1, 2, 3, 4, 5, 7], [24, 25, 26, 27, 28, 29])] [(7, 6), (7, 0), (7, 1), (7, 2), (7, 3), (7, 4), (7, 5)] (Γx := [ob vb l]) ?_; dsimp only [prev0, List.length_nil, List.length_cons])
       | (refine gAny ?_; first | (refine gC 11 ?_; refine RGl.row (Γ1 := fun _ => []) (fun e hk => OpT.callN (pseudo_t h l.length l.length (wrapLen (by omega)) (by omega))) ?_) | (refine gC 14 ?_; refine RGl.vl (fun e hk => OpT.callN (isum_t _ [_, _] [psu h l.length, l] 0 (by rw [hc]; simp [csum]) rfl (by simp; omega) (by simp))) ?_) | (refine gC 29 ?_; refine RGl.row (Γ1 := fun _ => []) (fun e hk => OpT.callN (put_t (.slice none 0 0) [] 65535 2 (by simp) (by omega) (by omega) (by omega))) ?_) | (refine gD 23 ?_; refine RGl.rdX (fun e hk => by (try dsimp only [bndR, ensR, oksR, fcutR, List.append_nil, List.nil_append, List.cons_append, List.append_assoc] at hk ⊢); exact ReadR.xor16 rfl) ?_) | (refine gOp ?_; first | refine RGl.rdA ?_ | refine RGl.rdX (fun e hk => by (try dsimp only [bndR, ensR, oksR, fcutR, List.append_nil, List.nil_append, List.cons_append, List.append_assoc] at hk ⊢); exact readB) ?_) | (refine gCp ?_; refine RGl.cpA ?_) | (refine RGl.fin (fun e hk => ?_); (try dsimp only [bndA, ensAR, oksA, List.append_nil, List.nil_append, List.cons_append, List.append_assoc] at hk ⊢); (repeat (obtain ⟨hk1, hk⟩ := hk))) | fail)
       | (refine isCond ?_; first | refine WPc.cT ?_ | refine WPc.cF ?_ | (refine WPc.cQ (fun hc => ?_) (fun hc => ?_) <;> try exact prA))
       | (refine isLit ?_; refine WPl.lits fun v hv => ?_)
       | (refine isC 11 ?_; refine WPl.cR (pseudo_t h l.length l.length (wrapLen (by omega)) (by omega)) fun v hv => ?_)
       | (refine isC 14 ?_; refine WPl.cV (isum_t _ [_, _] [psu h l.length, l] 0 (by rw [hc]; simp [csum]) rfl (by simp; omega) (by simp)) ?_)
       | (refine isD 23 ?_; refine WPl.rdX (ReadR.xor16 rfl) ?_)
       | (refine isC 29 ?_; refine WPl.cR (put_t (.slice none 0 0) [] 65535 2 (by simp) (by omega) (by omega) (by omega)) fun v hv => ?_)
       | (refine isCp ?_; first | refine WPl.cpA fun v => ?_ | refine WPl.cpE fun v => ?_)
       | (refine isOp ?_; first | refine WPl.rd ?_ | refine WPl.sk ?_ | refine WPl.rdB ?_)
       | (refine isBx ?_; refine WPl.nw fun g => ?_)
       | (refine WPl.spQ (fun hc => ?_) (fun hc => ?_) <;> try exact prA)
       | fail)
      all_goals try (first | exact WPq.dV | exact WPq.dR | exact WPq.dR2 | exact WPq.dH | exact WPq.dBH | exact WPq.dT)
    · rw [if_neg (fun hh => h17 hh.2)] at hm2
      subst hm2
      subst hc0
      refine Triple.enter Try.func85 rfl Try.ntmps85 rfl (fun W => ?_)
      dsimp only [argsF, Nat.reduceAdd]
      repeat' (first
       | refine WPl.nil ?_ | refine WPq.then ?_ | refine WPq.thenR ?_ | refine WPq.thenE ?_ | refine WPq.blockN ?_ | refine WPq.blockR ?_ | refine WPq.blockE ?_ | refine WPq.blockO rfl ?_ | refine WPc.seq ?_ | refine WPc.block ?_ | refine WPc.ret ?_ | refine WPc.exit ?_ | refine WPc.skip ?_ | refine WPc.region ?_
       | (refine isReg 4 ?_; refine WPc.drA [([7], [25, 27, 28, 29]), ([7], [24, 27, 28, 29]), ([0, 1, 7], [24, 25, 27, 28, 29]), ([7], [24, 25, 26]), ([3, 7], [24, 25, 26, 27]), ([3, 4, 7], [24, 25, 26, 27, 28]), ([0, 1, 2, 3, 4, 5, 7], [24, 25, 26, 27, 28, 29])] [(7, 6), (7, 0), (7, 1), (7, 2), (7, 3), (7, 4), (7, 5)] (Γx := [ob vb l]) ?_; dsimp only [prev0, List.length_nil, List.length_cons])
       | (refine gAny ?_; first | (refine gC 11 ?_; refine RGl.row (Γ1 := fun _ => []) (fun e hk => OpT.callN (pseudo_t h l.length l.length (wrapLen (by omega)) (by omega))) ?_) | (refine gC 14 ?_; refine RGl.vl (fun e hk => OpT.callN (isum_t _ [_, _] [psu h l.length, l] 0 (by rw [hc]; simp [csum]) rfl (by simp; omega) (by simp))) ?_) | (refine gC 29 ?_; refine RGl.row (Γ1 := fun _ => []) (fun e hk => OpT.callN (put_t (.slice none 0 0) [] 0 2 (by simp) (by omega) (by omega) (by omega))) ?_) | (refine gOp ?_; first | refine RGl.rdA ?_ | refine RGl.rdX (fun e hk => by (try dsimp only [bndR, ensR, oksR, fcutR, List.append_nil, List.nil_append, List.cons_append, List.append_assoc] at hk ⊢); exact readB) ?_) | (refine gCp ?_; refine RGl.cpA ?_) | (refine RGl.fin (fun e hk => ?_); (try dsimp only [bndA, ensAR, oksA, List.append_nil, List.nil_append, List.cons_append, List.append_assoc] at hk ⊢); (repeat (obtain ⟨hk1, hk⟩ := hk))) | fail)
       | (refine isCond ?_; first | refine WPc.cT ?_ | refine WPc.cF ?_ | (refine WPc.cQ (fun hc => ?_) (fun hc => ?_) <;> try exact prA))
       | (refine isLit ?_; refine WPl.lits fun v hv => ?_)
       | (refine isC 11 ?_; refine WPl.cR (pseudo_t h l.length l.length (wrapLen (by omega)) (by omega)) fun v hv => ?_)
       | (refine isC 14 ?_; refine WPl.cV (isum_t _ [_, _] [psu h l.length, l] 0 (by rw [hc]; simp [csum]) rfl (by simp; omega) (by simp)) ?_)
       | (refine isC 29 ?_; refine WPl.cR (put_t (.slice none 0 0) [] 0 2 (by simp) (by omega) (by omega) (by omega)) fun v hv => ?_)
       | (refine isCp ?_; first | refine WPl.cpA fun v => ?_ | refine WPl.cpE fun v => ?_)
       | (refine isOp ?_; first | refine WPl.rd ?_ | refine WPl.sk ?_ | refine WPl.rdB ?_)
       | (refine isBx ?_; refine WPl.nw fun g => ?_)
       | (refine WPl.spQ (fun hc => ?_) (fun hc => ?_) <;> try exact prA)
       | fail)
      all_goals try (first | exact WPq.dV | exact WPq.dR | exact WPq.dR2 | exact WPq.dH | exact WPq.dBH | exact WPq.dT)
  · rw [if_neg (fun hh => hc0 hh.1)] at hm2
    subst hm2
    refine Triple.enter Try.func85 rfl Try.ntmps85 rfl (fun W => ?_)
    dsimp only [argsF, Nat.reduceAdd]
    repeat' (first
     | refine WPl.nil ?_ | refine WPq.then ?_ | refine WPq.thenR ?_ | refine WPq.thenE ?_ | refine WPq.blockN ?_ | refine WPq.blockR ?_ | refine WPq.blockE ?_ | refine WPq.blockO rfl ?_ | refine WPc.seq ?_ | refine WPc.block ?_ | refine WPc.ret ?_ | refine WPc.exit ?_ | refine WPc.skip ?_ | refine WPc.region ?_
     | (refine isReg 4 ?_; refine WPc.drA [([7], [25, 27, 28, 29]), ([7], [24, 27, 28, 29]), ([0, 1, 7], [24, 25, 27, 28, 29]), ([7], [24, 25, 26]), ([3, 7], [24, 25, 26, 27]), ([3, 4, 7], [24, 25, 26, 27, 28]), ([0, 1, 2, 3, 4, 5, 7], [24, 25, 26, 27, 28, 29])] [(7, 6), (7, 0), (7, 1), (7, 2), (7, 3), (7, 4), (7, 5)] (Γx := [ob vb l]) ?_; dsimp only [prev0, List.length_nil, List.length_cons])
     | (refine gAny ?_; first | (refine gC 11 ?_; refine RGl.row (Γ1 := fun _ => []) (fun e hk => OpT.callN (pseudo_t h l.length l.length (wrapLen (by omega)) (by omega))) ?_) | (refine gC 14 ?_; refine RGl.vl (fun e hk => OpT.callN (isum_t _ [_, _] [psu h l.length, l] m (by rw [hc]; simp [csum]) rfl (by simp; omega) (by simp))) ?_) | (refine gC 29 ?_; refine RGl.row (Γ1 := fun _ => []) (fun e hk => OpT.callN (put_t (.slice none 0 0) [] m 2 (by simp) (by omega) (by omega) (by omega))) ?_) | (refine gOp ?_; first | refine RGl.rdA ?_ | refine RGl.rdX (fun e hk => by (try dsimp only [bndR, ensR, oksR, fcutR, List.append_nil, List.nil_append, List.cons_append, List.append_assoc] at hk ⊢); exact readB) ?_) | (refine gCp ?_; refine RGl.cpA ?_) | (refine RGl.fin (fun e hk => ?_); (try dsimp only [bndA, ensAR, oksA, List.append_nil, List.nil_append, List.cons_append, List.append_assoc] at hk ⊢); (repeat (obtain ⟨hk1, hk⟩ := hk))) | fail)
     | (refine isCond ?_; first | refine WPc.cT ?_ | refine WPc.cF ?_ | (refine WPc.cQ (fun hc => ?_) (fun hc => ?_) <;> try exact prA))
     | (refine isLit ?_; refine WPl.lits fun v hv => ?_)
     | (refine isC 11 ?_; refine WPl.cR (pseudo_t h l.length l.length (wrapLen (by omega)) (by omega)) fun v hv => ?_)
     | (refine isC 14 ?_; refine WPl.cV (isum_t _ [_, _] [psu h l.length, l] m (by rw [hc]; simp [csum]) rfl (by simp; omega) (by simp)) ?_)
     | (refine isC 29 ?_; refine WPl.cR (put_t (.slice none 0 0) [] m 2 (by simp) (by omega) (by omega) (by omega)) fun v hv => ?_)
     | (refine isCp ?_; first | refine WPl.cpA fun v => ?_ | refine WPl.cpE fun v => ?_)
     | (refine isOp ?_; first | refine WPl.rd ?_ | refine WPl.sk ?_ | refine WPl.rdB ?_)
     | (refine isBx ?_; refine WPl.nw fun g => ?_)
     | (refine WPl.spQ (fun hc => ?_) (fun hc => ?_) <;> try exact prA)
     | fail)
    all_goals try (first | exact WPq.dV | exact WPq.dR | exact WPq.dR2 | exact WPq.dH | exact WPq.dBH | exact WPq.dT)
def swBad (h : Hd) (s : Sg) : Bool := decide ((s.src : Int) = 0) || (decide ((s.dst : Int) = 0) || (!h.src.good || (!h.dst.good || (!(h.src.six == h.six) || !(h.dst.six == h.six)))))
def swE (h : Hd) (s : Sg) (n : Nat) : Int := if ¬ h.proto.toNat = 6 ∧ ¬ h.proto.toNat = 17 then 6 else if swBad h s then 1 else if 1900 < n then 10 else 0
def swT (s : Sg) (d : List UInt8) : List UInt8 := [[] ++ be s.src 2 ++ be s.dst 2, List.replicate 8 0, nbs [80, (s.flags.toNat : Nat)], List.replicate 6 0, d].flatten
def swU (s : Sg) (d : List UInt8) : List UInt8 := [[] ++ be s.src 2 ++ be s.dst 2 ++ be (8 + d.length) 2, nbs [0, 0], d].flatten
def swL (h : Hd) (s : Sg) (d : List UInt8) : List UInt8 := if swE h s d.length = 0 then (if h.proto.toNat = 6 then summ h (swT s d) 16 else if s.zero = true ∧ h.six = false then swU s d else summ h (swU s d) 6) else []
theorem swT_eq (s : Sg) (d : List UInt8) : [[] ++ be s.src 2 ++ be s.dst 2, List.replicate 8 0, nbs [80, (s.flags.toNat : Nat)], List.replicate 6 0, d].flatten = swT s d := rfl
theorem swU_eq (s : Sg) (d : List UInt8) : [[] ++ be s.src 2 ++ be s.dst 2 ++ be (8 + d.length) 2, nbs [0, 0], d].flatten = swU s d := rfl
theorem swT_len (s : Sg) (d : List UInt8) : (swT s d).length = 20 + d.length := by simp [swT, be_length, nbs]; omega
theorem swU_len (s : Sg) (d : List UInt8) : (swU s d).length = 8 + d.length := by simp [swU, be_length, nbs]; omega
theorem swBad_no {h : Hd} {s : Sg} (hb : swBad h s = false) : ¬ (s.src : Int) = 0 ∧ ¬ (s.dst : Int) = 0 ∧ h.src.good = true ∧ h.dst.good = true ∧ (h.src.six == h.six) = true ∧ (h.dst.six == h.six) = true := by
  simpa [swBad] using hb
attribute [local irreducible] swT swU summ
theorem swrite_t (h : Hd) (s : Sg) (vd : Value) (d : List UInt8) (hd : d.length ≤ 10000) (hs1 : s.src < 65536) (hs2 : s.dst < 65536) : Triple Try.prog 44 #[ag (hdc h), ag (sgc s), vd] [rb vd d] (RW (swL h s d) (swE h s d.length)) := by
  have l1 := h.src.len
  have l2 := h.dst.len
  have g1 := Good_t h.src
  have g2 := Good_t h.dst
  by_cases hpr : ¬ h.proto.toNat = 6 ∧ ¬ h.proto.toNat = 17
  · have he : swE h s d.length = 6 := by unfold swE; rw [if_pos hpr]
    rw [show swL h s d = [] by unfold swL; rw [he, if_neg (by omega)], he]
    obtain ⟨p1, p2⟩ := hpr
    refine Triple.enter Try.func44 rfl Try.ntmps44 rfl (fun W => ?_)
    dsimp only [argsF, Nat.reduceAdd]
    refine WPc.nilRow 5 ?_
    repeat' (first
     | refine WPl.nil ?_ | refine WPq.then ?_ | refine WPq.thenR ?_ | refine WPq.thenE ?_ | refine WPq.blockN ?_ | refine WPq.blockR ?_ | refine WPq.blockE ?_ | refine WPq.blockO rfl ?_ | refine WPc.seq ?_ | refine WPc.block ?_ | refine WPc.ret ?_ | refine WPc.exit ?_ | refine WPc.skip ?_ | refine WPc.region ?_
     | (refine isReg 7 ?_; refine WPc.drA [([], [63, 64, 65]), ([0], [59, 63, 64, 65]), ([0, 1], [59, 60, 63, 64, 65]), ([0, 1, 2], [59, 60, 61, 63, 64, 65]), ([], [59, 60, 61, 62]), ([4], [59, 60, 61, 62, 63]), ([4, 5], [59, 60, 61, 62, 63, 64]), ([0, 1, 2, 3, 4, 5, 6], [59, 60, 61, 62, 63, 64, 65]), ([0, 1, 2, 3, 4, 5, 6, 7], [59, 60, 61, 62, 63, 64, 65, 66])] [] (Γx := []) ?_; dsimp only [prev0, List.length_nil, List.length_cons])
     | (refine isReg 9 ?_; refine WPc.drA [([], [71, 72, 73, 74, 75, 76, 77, 78, 79]), ([], [70, 75, 76, 77, 78, 79]), ([1], [70, 71, 75, 76, 77, 78, 79]), ([1, 2], [70, 71, 72, 75, 76, 77, 78, 79]), ([1, 2, 3], [70, 71, 72, 73, 75, 76, 77, 78, 79]), ([], [70, 71, 72, 73, 74, 78, 79]), ([5], [70, 71, 72, 73, 74, 75, 78, 79]), ([5, 6], [70, 71, 72, 73, 74, 75, 76, 78, 79]), ([], [70, 71, 72, 73, 74, 75, 76, 77, 79]), ([], [70, 71, 72, 73, 74, 75, 76, 77, 78]), ([0, 1, 2, 3, 4, 5, 6, 7, 8, 9], [70, 71, 72, 73, 74, 75, 76, 77, 78, 79]), ([0, 1, 2, 3, 4, 5, 6, 7, 8, 9, 10], [70, 71, 72, 73, 74, 75, 76, 77, 78, 79, 80]), ([0, 1, 2, 3, 4, 5, 6, 7, 8, 9, 10, 11], [70, 71, 72, 73, 74, 75, 76, 77, 78, 79, 80, 81])] [] (Γx := []) ?_; dsimp only [prev0, List.length_nil, List.length_cons])
     | (refine gAny ?_; first | (refine gOp ?_; first | refine RGl.rdA ?_ | refine RGl.rdX (fun e hk => by (try dsimp only [bndR, ensR, oksR, fcutR, List.append_nil, List.nil_append, List.cons_append, List.append_assoc] at hk ⊢); exact readB) ?_) | (refine gLit ?_; refine RGl.litA ?_) | (refine gMk ?_; refine RGl.mkA ?_) | (refine RGl.fin (fun e hk => ?_); (try dsimp only [bndA, ensAR, oksA, List.append_nil, List.nil_append, List.cons_append, List.append_assoc] at hk ⊢); (repeat (obtain ⟨hk1, hk⟩ := hk))) | fail)
     | (refine isCond ?_; first | refine WPc.cT ?_ | refine WPc.cF ?_ | (refine WPc.cQ (fun hc => ?_) (fun hc => ?_) <;> try exact prA))
     | (refine isMk ?_; refine WPl.mk fun v hv => ?_)
     | (refine isOp ?_; first | refine WPl.rd ?_ | refine WPl.sk ?_ | refine WPl.rdB ?_)
     | (refine isBx ?_; refine WPl.nw fun g => ?_)
     | (refine WPl.spQ (fun hc => ?_) (fun hc => ?_) <;> try exact prA)
     | fail)
    all_goals try (first | exact WPq.dV | exact WPq.dR | exact WPq.dR2 | exact WPq.dH | exact WPq.dBH | exact WPq.dT)
  · have hpr2 : h.proto.toNat = 6 ∨ h.proto.toNat = 17 := by omega
    cases hbad : swBad h s with
    | true =>
      have he : swE h s d.length = 1 := by unfold swE; rw [if_neg hpr, if_pos hbad]
      rw [show swL h s d = [] by unfold swL; rw [he, if_neg (by omega)], he]
      clear hpr
      refine Triple.enter Try.func44 rfl Try.ntmps44 rfl (fun W => ?_)
      dsimp only [argsF, Nat.reduceAdd]
      refine WPc.nilRow 5 ?_
      repeat' (first
       | refine WPl.nil ?_ | refine WPq.then ?_ | refine WPq.thenR ?_ | refine WPq.thenE ?_ | refine WPq.blockN ?_ | refine WPq.blockR ?_ | refine WPq.blockE ?_ | refine WPq.blockO rfl ?_ | refine WPc.seq ?_ | refine WPc.block ?_ | refine WPc.ret ?_ | refine WPc.exit ?_ | refine WPc.skip ?_ | refine WPc.region ?_
       | (refine isReg 7 ?_; refine WPc.drA [([], [63, 64, 65]), ([0], [59, 63, 64, 65]), ([0, 1], [59, 60, 63, 64, 65]), ([0, 1, 2], [59, 60, 61, 63, 64, 65]), ([], [59, 60, 61, 62]), ([4], [59, 60, 61, 62, 63]), ([4, 5], [59, 60, 61, 62, 63, 64]), ([0, 1, 2, 3, 4, 5, 6], [59, 60, 61, 62, 63, 64, 65]), ([0, 1, 2, 3, 4, 5, 6, 7], [59, 60, 61, 62, 63, 64, 65, 66])] [] (Γx := []) ?_; dsimp only [prev0, List.length_nil, List.length_cons])
       | (refine isReg 9 ?_; refine WPc.drA [([], [71, 72, 73, 74, 75, 76, 77, 78, 79]), ([], [70, 75, 76, 77, 78, 79]), ([1], [70, 71, 75, 76, 77, 78, 79]), ([1, 2], [70, 71, 72, 75, 76, 77, 78, 79]), ([1, 2, 3], [70, 71, 72, 73, 75, 76, 77, 78, 79]), ([], [70, 71, 72, 73, 74, 78, 79]), ([5], [70, 71, 72, 73, 74, 75, 78, 79]), ([5, 6], [70, 71, 72, 73, 74, 75, 76, 78, 79]), ([], [70, 71, 72, 73, 74, 75, 76, 77, 79]), ([], [70, 71, 72, 73, 74, 75, 76, 77, 78]), ([0, 1, 2, 3, 4, 5, 6, 7, 8, 9], [70, 71, 72, 73, 74, 75, 76, 77, 78, 79]), ([0, 1, 2, 3, 4, 5, 6, 7, 8, 9, 10], [70, 71, 72, 73, 74, 75, 76, 77, 78, 79, 80]), ([0, 1, 2, 3, 4, 5, 6, 7, 8, 9, 10, 11], [70, 71, 72, 73, 74, 75, 76, 77, 78, 79, 80, 81])] [] (Γx := []) ?_; dsimp only [prev0, List.length_nil, List.length_cons])
       | (refine gAny ?_; first | (refine gC 30 ?_; refine RGl.vl (fun e hk => OpT.callN (g1)) ?_) | (refine gC 36 ?_; refine RGl.vl (fun e hk => OpT.callN (g2)) ?_) | (refine gOp ?_; first | refine RGl.rdA ?_ | refine RGl.rdX (fun e hk => by (try dsimp only [bndR, ensR, oksR, fcutR, List.append_nil, List.nil_append, List.cons_append, List.append_assoc] at hk ⊢); exact readB) ?_) | (refine gLit ?_; refine RGl.litA ?_) | (refine gMk ?_; refine RGl.mkA ?_) | (refine RGl.fin (fun e hk => ?_); (try dsimp only [bndA, ensAR, oksA, List.append_nil, List.nil_append, List.cons_append, List.append_assoc] at hk ⊢); (repeat (obtain ⟨hk1, hk⟩ := hk))) | fail)
       | (refine isCond ?_; first | refine WPc.cT ?_ | refine WPc.cF ?_ | (refine WPc.cQ (fun hc => ?_) (fun hc => ?_) <;> try first | exact prA | (exfalso; first | (simp only [swBad, *, decide_false, Bool.or_self, Bool.false_or, Bool.not_true, Bool.false_eq_true] at hbad; done))))
       | (refine isC 30 ?_; refine WPl.cV (g1) ?_)
       | (refine isC 36 ?_; refine WPl.cV (g2) ?_)
       | (refine isMk ?_; refine WPl.mk fun v hv => ?_)
       | (refine isOp ?_; first | refine WPl.rd ?_ | refine WPl.sk ?_ | refine WPl.rdB ?_)
       | (refine isBx ?_; refine WPl.nw fun g => ?_)
       | (refine WPl.spQ (fun hc => ?_) (fun hc => ?_) <;> try first | exact prA | (exfalso; first | (simp only [swBad, *, decide_false, Bool.or_self, Bool.false_or, Bool.not_true, Bool.false_eq_true] at hbad; done)))
       | fail)
      all_goals try (first | exact WPq.dV | exact WPq.dR | exact WPq.dR2 | exact WPq.dH | exact WPq.dBH | exact WPq.dT)
    | false =>
      obtain ⟨b1, b2, b3, b4, b5, b6⟩ := swBad_no hbad
      rw [b3] at g1
      rw [b4] at g2
      by_cases hlen : 1900 < d.length
      · have he : swE h s d.length = 10 := by unfold swE; rw [if_neg hpr, hbad, if_neg (by decide), if_pos hlen]
        rw [show swL h s d = [] by unfold swL; rw [he, if_neg (by omega)], he]
        clear hpr
        refine Triple.enter Try.func44 rfl Try.ntmps44 rfl (fun W => ?_)
        dsimp only [argsF, Nat.reduceAdd]
        refine WPc.nilRow 5 ?_
        repeat' (first
         | refine WPl.nil ?_ | refine WPq.then ?_ | refine WPq.thenR ?_ | refine WPq.thenE ?_ | refine WPq.blockN ?_ | refine WPq.blockR ?_ | refine WPq.blockE ?_ | refine WPq.blockO rfl ?_ | refine WPc.seq ?_ | refine WPc.block ?_ | refine WPc.ret ?_ | refine WPc.exit ?_ | refine WPc.skip ?_ | refine WPc.region ?_
         | (refine isReg 7 ?_; refine WPc.drA [([], [63, 64, 65]), ([0], [59, 63, 64, 65]), ([0, 1], [59, 60, 63, 64, 65]), ([0, 1, 2], [59, 60, 61, 63, 64, 65]), ([], [59, 60, 61, 62]), ([4], [59, 60, 61, 62, 63]), ([4, 5], [59, 60, 61, 62, 63, 64]), ([0, 1, 2, 3, 4, 5, 6], [59, 60, 61, 62, 63, 64, 65]), ([0, 1, 2, 3, 4, 5, 6, 7], [59, 60, 61, 62, 63, 64, 65, 66])] [] (Γx := []) ?_; dsimp only [prev0, List.length_nil, List.length_cons])
         | (refine isReg 9 ?_; refine WPc.drA [([], [71, 72, 73, 74, 75, 76, 77, 78, 79]), ([], [70, 75, 76, 77, 78, 79]), ([1], [70, 71, 75, 76, 77, 78, 79]), ([1, 2], [70, 71, 72, 75, 76, 77, 78, 79]), ([1, 2, 3], [70, 71, 72, 73, 75, 76, 77, 78, 79]), ([], [70, 71, 72, 73, 74, 78, 79]), ([5], [70, 71, 72, 73, 74, 75, 78, 79]), ([5, 6], [70, 71, 72, 73, 74, 75, 76, 78, 79]), ([], [70, 71, 72, 73, 74, 75, 76, 77, 79]), ([], [70, 71, 72, 73, 74, 75, 76, 77, 78]), ([0, 1, 2, 3, 4, 5, 6, 7, 8, 9], [70, 71, 72, 73, 74, 75, 76, 77, 78, 79]), ([0, 1, 2, 3, 4, 5, 6, 7, 8, 9, 10], [70, 71, 72, 73, 74, 75, 76, 77, 78, 79, 80]), ([0, 1, 2, 3, 4, 5, 6, 7, 8, 9, 10, 11], [70, 71, 72, 73, 74, 75, 76, 77, 78, 79, 80, 81])] [] (Γx := []) ?_; dsimp only [prev0, List.length_nil, List.length_cons])
         | (refine gAny ?_; first | (refine gC 30 ?_; refine RGl.vl (fun e hk => OpT.callN (g1)) ?_) | (refine gC 36 ?_; refine RGl.vl (fun e hk => OpT.callN (g2)) ?_) | (refine gOp ?_; first | refine RGl.rdA ?_ | refine RGl.rdX (fun e hk => by (try dsimp only [bndR, ensR, oksR, fcutR, List.append_nil, List.nil_append, List.cons_append, List.append_assoc] at hk ⊢); exact readB) ?_) | (refine gLit ?_; refine RGl.litA ?_) | (refine gMk ?_; refine RGl.mkA ?_) | (refine RGl.fin (fun e hk => ?_); (try dsimp only [bndA, ensAR, oksA, List.append_nil, List.nil_append, List.cons_append, List.append_assoc] at hk ⊢); (repeat (obtain ⟨hk1, hk⟩ := hk))) | fail)
         | (refine isCond ?_; first | refine WPc.cT ?_ | refine WPc.cF ?_ | (refine WPc.cQ (fun hc => ?_) (fun hc => ?_) <;> try exact prA))
         | (refine isC 30 ?_; refine WPl.cV (g1) ?_)
         | (refine isC 36 ?_; refine WPl.cV (g2) ?_)
         | (refine isMk ?_; refine WPl.mk fun v hv => ?_)
         | (refine isOp ?_; first | refine WPl.rd ?_ | refine WPl.sk ?_ | refine WPl.rdB ?_)
         | (refine isBx ?_; refine WPl.nw fun g => ?_)
         | (refine WPl.spQ (fun hc => ?_) (fun hc => ?_) <;> try exact prA)
         | fail)
        all_goals try (first | exact WPq.dV | exact WPq.dR | exact WPq.dR2 | exact WPq.dH | exact WPq.dBH | exact WPq.dT)
      · have he : swE h s d.length = 0 := by unfold swE; rw [if_neg hpr, hbad, if_neg (by decide), if_neg hlen]
        have hbe := fun x => be_length x 2
        have hb1 := be_length s.src 2
        have hb2 := be_length s.dst 2
        have hb3 := be_length (8 + d.length) 2
        have h8 : (12 : Int) - (([] ++ be s.src 2 ++ be s.dst 2).length : Nat) = 8 := by simp [be_length]
        have htl := swT_len s d
        have hul := swU_len s d
        clear hpr
        by_cases h6 : h.proto.toNat = 6
        · rw [show swL h s d = summ h (swT s d) 16 by unfold swL; rw [if_pos he, if_pos h6], he]
          have hsl := summ_len (h := h) (l := swT s d) (k := 16) (by omega)
          refine Triple.enter Try.func44 rfl Try.ntmps44 rfl (fun W => ?_)
          dsimp only [argsF, Nat.reduceAdd]
          repeat' (first
           | refine WPl.nil ?_ | refine WPq.then ?_ | refine WPq.thenR ?_ | refine WPq.thenE ?_ | refine WPq.blockN ?_ | refine WPq.blockR ?_ | refine WPq.blockE ?_ | refine WPq.blockO rfl ?_ | refine WPc.seq ?_ | refine WPc.block ?_ | refine WPc.ret ?_ | refine WPc.exit ?_ | refine WPc.skip ?_ | refine WPc.region ?_
           | (refine isReg 7 ?_; refine WPc.drA [([], [63, 64, 65]), ([0], [59, 63, 64, 65]), ([0, 1], [59, 60, 63, 64, 65]), ([0, 1, 2], [59, 60, 61, 63, 64, 65]), ([], [59, 60, 61, 62]), ([4], [59, 60, 61, 62, 63]), ([4, 5], [59, 60, 61, 62, 63, 64]), ([0, 1, 2, 3, 4, 5, 6], [59, 60, 61, 62, 63, 64, 65]), ([0, 1, 2, 3, 4, 5, 6, 7], [59, 60, 61, 62, 63, 64, 65, 66])] [] (Γx := []) ?_; dsimp only [prev0, List.length_nil, List.length_cons])
           | (refine isReg 9 ?_; refine WPc.drA [([], [71, 72, 73, 74, 75, 76, 77, 78, 79]), ([], [70, 75, 76, 77, 78, 79]), ([1], [70, 71, 75, 76, 77, 78, 79]), ([1, 2], [70, 71, 72, 75, 76, 77, 78, 79]), ([1, 2, 3], [70, 71, 72, 73, 75, 76, 77, 78, 79]), ([], [70, 71, 72, 73, 74, 78, 79]), ([5], [70, 71, 72, 73, 74, 75, 78, 79]), ([5, 6], [70, 71, 72, 73, 74, 75, 76, 78, 79]), ([], [70, 71, 72, 73, 74, 75, 76, 77, 79]), ([], [70, 71, 72, 73, 74, 75, 76, 77, 78]), ([0, 1, 2, 3, 4, 5, 6, 7, 8, 9], [70, 71, 72, 73, 74, 75, 76, 77, 78, 79]), ([0, 1, 2, 3, 4, 5, 6, 7, 8, 9, 10], [70, 71, 72, 73, 74, 75, 76, 77, 78, 79, 80]), ([0, 1, 2, 3, 4, 5, 6, 7, 8, 9, 10, 11], [70, 71, 72, 73, 74, 75, 76, 77, 78, 79, 80, 81])] [] (Γx := []) ?_; dsimp only [prev0, List.length_nil, List.length_cons])
           | (refine gAny ?_; first | (refine gC 30 ?_; refine RGl.vl (fun e hk => OpT.callN (g1)) ?_) | (refine gC 36 ?_; refine RGl.vl (fun e hk => OpT.callN (g2)) ?_) | (refine gC 62 ?_; refine RGl.row (Γ1 := fun _ => []) (fun e hk => OpT.callN (put_t (.slice none 0 0) [] s.src 2 (by simp) (by omega) (by omega) (by omega))) ?_) | (refine gC 66 ?_; refine RGl.row (Γ1 := fun _ => []) (fun e hk => OpT.callN (put_t _ ([] ++ be s.src 2) s.dst 2 (by simp; omega) (by omega) (by omega) (by omega))) ?_) | (refine gC 81 ?_; refine RGl.row (Γ1 := fun _ => []) (fun e hk => OpT.callN (bytesE_t _ [_, _, _, _, _] [[] ++ be s.src 2 ++ be s.dst 2, List.replicate 8 0, nbs [80, (s.flags.toNat : Nat)], List.replicate 6 0, d] (swT s d) (swT_eq s d) rfl (by rw [swT_eq]; omega) (by simp))) ?_) | (refine gD 73 ?_; refine RGl.rdX (fun e hk => by (try dsimp only [bndR, ensR, oksR, fcutR, List.append_nil, List.nil_append, List.cons_append, List.append_assoc] at hk ⊢); exact ReadR.bin rfl rfl (BinR.subT h8 (by simp only [kmin]; omega) (by simp only [kmax]; omega))) ?_) | (refine gOp ?_; first | refine RGl.rdA ?_ | refine RGl.rdX (fun e hk => by (try dsimp only [bndR, ensR, oksR, fcutR, List.append_nil, List.nil_append, List.cons_append, List.append_assoc] at hk ⊢); exact readB) ?_) | (refine gLit ?_; refine RGl.litA ?_) | (refine gMk ?_; refine RGl.mkA ?_) | (refine RGl.fin (fun e hk => ?_); (try dsimp only [bndA, ensAR, oksA, List.append_nil, List.nil_append, List.cons_append, List.append_assoc] at hk ⊢); (repeat (obtain ⟨hk1, hk⟩ := hk))) | fail)
           | (refine isCond ?_; first | refine WPc.cT ?_ | refine WPc.cF ?_ | (refine WPc.cQ (fun hc => ?_) (fun hc => ?_) <;> try exact prA))
           | (refine isLit ?_; refine WPl.lit fun v hv => ?_)
           | (refine isLit ?_; refine WPl.lits fun v hv => ?_)
           | (refine isC 30 ?_; refine WPl.cV (g1) ?_)
           | (refine isC 36 ?_; refine WPl.cV (g2) ?_)
           | (refine isC 62 ?_; refine WPl.cR (put_t (.slice none 0 0) [] s.src 2 (by simp) (by omega) (by omega) (by omega)) fun v hv => ?_)
           | (refine isC 66 ?_; refine WPl.cR (put_t _ ([] ++ be s.src 2) s.dst 2 (by simp; omega) (by omega) (by omega) (by omega)) fun v hv => ?_)
           | (refine isD 73 ?_; refine WPl.rdX (ReadR.bin rfl rfl (BinR.subT h8 (by simp only [kmin]; omega) (by simp only [kmax]; omega))) ?_)
           | (refine isC 81 ?_; refine WPl.cR (bytesE_t _ [_, _, _, _, _] [[] ++ be s.src 2 ++ be s.dst 2, List.replicate 8 0, nbs [80, (s.flags.toNat : Nat)], List.replicate 6 0, d] (swT s d) (swT_eq s d) rfl (by rw [swT_eq]; omega) (by simp)) fun v hv => ?_)
           | (refine isC 84 ?_; refine WPl.cT (summed_t h _ (swT s d) 16 (by omega) (by omega)) ?_)
           | (refine isMk ?_; refine WPl.mk fun v hv => ?_)
           | (refine isOp ?_; first | refine WPl.rd ?_ | refine WPl.sk ?_ | refine WPl.rdB ?_)
           | (refine isBx ?_; refine WPl.nw fun g => ?_)
           | (refine WPl.spQ (fun hc => ?_) (fun hc => ?_) <;> try exact prA)
           | fail)
          all_goals try (first | exact WPq.dV | exact WPq.dR | exact WPq.dR2 | exact WPq.dH | exact WPq.dBH | exact WPq.dT)
        · have h17 : h.proto.toNat = 17 := by omega
          by_cases hz : s.zero = true ∧ h.six = false
          · rw [show swL h s d = swU s d by unfold swL; rw [if_pos he, if_neg h6, if_pos hz], he]
            obtain ⟨z1, z2⟩ := hz
            refine Triple.enter Try.func44 rfl Try.ntmps44 rfl (fun W => ?_)
            dsimp only [argsF, Nat.reduceAdd]
            repeat' (first
             | refine WPl.nil ?_ | refine WPq.then ?_ | refine WPq.thenR ?_ | refine WPq.thenE ?_ | refine WPq.blockN ?_ | refine WPq.blockR ?_ | refine WPq.blockE ?_ | refine WPq.blockO rfl ?_ | refine WPc.seq ?_ | refine WPc.block ?_ | refine WPc.ret ?_ | refine WPc.exit ?_ | refine WPc.skip ?_ | refine WPc.region ?_
             | (refine isReg 7 ?_; refine WPc.drA [([], [63, 64, 65]), ([0], [59, 63, 64, 65]), ([0, 1], [59, 60, 63, 64, 65]), ([0, 1, 2], [59, 60, 61, 63, 64, 65]), ([], [59, 60, 61, 62]), ([4], [59, 60, 61, 62, 63]), ([4, 5], [59, 60, 61, 62, 63, 64]), ([0, 1, 2, 3, 4, 5, 6], [59, 60, 61, 62, 63, 64, 65]), ([0, 1, 2, 3, 4, 5, 6, 7], [59, 60, 61, 62, 63, 64, 65, 66])] [] (Γx := []) ?_; dsimp only [prev0, List.length_nil, List.length_cons])
             | (refine isReg 9 ?_; refine WPc.drA [([], [71, 72, 73, 74, 75, 76, 77, 78, 79]), ([], [70, 75, 76, 77, 78, 79]), ([1], [70, 71, 75, 76, 77, 78, 79]), ([1, 2], [70, 71, 72, 75, 76, 77, 78, 79]), ([1, 2, 3], [70, 71, 72, 73, 75, 76, 77, 78, 79]), ([], [70, 71, 72, 73, 74, 78, 79]), ([5], [70, 71, 72, 73, 74, 75, 78, 79]), ([5, 6], [70, 71, 72, 73, 74, 75, 76, 78, 79]), ([], [70, 71, 72, 73, 74, 75, 76, 77, 79]), ([], [70, 71, 72, 73, 74, 75, 76, 77, 78]), ([0, 1, 2, 3, 4, 5, 6, 7, 8, 9], [70, 71, 72, 73, 74, 75, 76, 77, 78, 79]), ([0, 1, 2, 3, 4, 5, 6, 7, 8, 9, 10], [70, 71, 72, 73, 74, 75, 76, 77, 78, 79, 80]), ([0, 1, 2, 3, 4, 5, 6, 7, 8, 9, 10, 11], [70, 71, 72, 73, 74, 75, 76, 77, 78, 79, 80, 81])] [] (Γx := []) ?_; dsimp only [prev0, List.length_nil, List.length_cons])
             | (refine gAny ?_; first | (refine gC 30 ?_; refine RGl.vl (fun e hk => OpT.callN (g1)) ?_) | (refine gC 36 ?_; refine RGl.vl (fun e hk => OpT.callN (g2)) ?_) | (refine gC 62 ?_; refine RGl.row (Γ1 := fun _ => []) (fun e hk => OpT.callN (put_t (.slice none 0 0) [] s.src 2 (by simp) (by omega) (by omega) (by omega))) ?_) | (refine gC 66 ?_; refine RGl.row (Γ1 := fun _ => []) (fun e hk => OpT.callN (put_t _ ([] ++ be s.src 2) s.dst 2 (by simp; omega) (by omega) (by omega) (by omega))) ?_) | (refine gC 90 ?_; refine RGl.row (Γ1 := fun _ => []) (fun e hk => OpT.callN (put_t _ ([] ++ be s.src 2 ++ be s.dst 2) (8 + d.length) 2 (by simp; omega) (by omega) (by omega) (by omega))) ?_) | (refine gC 94 ?_; refine RGl.row (Γ1 := fun _ => []) (fun e hk => OpT.callN (bytesE_t _ [_, _, _] [[] ++ be s.src 2 ++ be s.dst 2 ++ be (8 + d.length) 2, nbs [0, 0], d] (swU s d) (swU_eq s d) rfl (by rw [swU_eq]; omega) (by simp))) ?_) | (refine gOp ?_; first | refine RGl.rdA ?_ | refine RGl.rdX (fun e hk => by (try dsimp only [bndR, ensR, oksR, fcutR, List.append_nil, List.nil_append, List.cons_append, List.append_assoc] at hk ⊢); exact readB) ?_) | (refine gLit ?_; refine RGl.litA ?_) | (refine gMk ?_; refine RGl.mkA ?_) | (refine RGl.fin (fun e hk => ?_); (try dsimp only [bndA, ensAR, oksA, List.append_nil, List.nil_append, List.cons_append, List.append_assoc] at hk ⊢); (repeat (obtain ⟨hk1, hk⟩ := hk))) | fail)
             | (refine isCond ?_; first | refine WPc.cT ?_ | refine WPc.cF ?_ | (refine WPc.cQ (fun hc => ?_) (fun hc => ?_) <;> try exact prA))
             | (refine isLit ?_; refine WPl.lit fun v hv => ?_)
             | (refine isLit ?_; refine WPl.lits fun v hv => ?_)
             | (refine isC 30 ?_; refine WPl.cV (g1) ?_)
             | (refine isC 36 ?_; refine WPl.cV (g2) ?_)
             | (refine isC 62 ?_; refine WPl.cR (put_t (.slice none 0 0) [] s.src 2 (by simp) (by omega) (by omega) (by omega)) fun v hv => ?_)
             | (refine isC 66 ?_; refine WPl.cR (put_t _ ([] ++ be s.src 2) s.dst 2 (by simp; omega) (by omega) (by omega) (by omega)) fun v hv => ?_)
             | (refine isC 90 ?_; refine WPl.cR (put_t _ ([] ++ be s.src 2 ++ be s.dst 2) (8 + d.length) 2 (by simp; omega) (by omega) (by omega) (by omega)) fun v hv => ?_)
             | (refine isC 94 ?_; refine WPl.cR (bytesE_t _ [_, _, _] [[] ++ be s.src 2 ++ be s.dst 2 ++ be (8 + d.length) 2, nbs [0, 0], d] (swU s d) (swU_eq s d) rfl (by rw [swU_eq]; omega) (by simp)) fun v hv => ?_)
             | (refine isMk ?_; refine WPl.mk fun v hv => ?_)
             | (refine isOp ?_; first | refine WPl.rd ?_ | refine WPl.sk ?_ | refine WPl.rdB ?_)
             | (refine isBx ?_; refine WPl.nw fun g => ?_)
             | (refine WPl.spQ (fun hc => ?_) (fun hc => ?_) <;> try exact prA)
             | fail)
            all_goals try (first | exact WPq.dV | exact WPq.dR | exact WPq.dR2 | exact WPq.dH | exact WPq.dBH | exact WPq.dT)
          · rw [show swL h s d = summ h (swU s d) 6 by unfold swL; rw [if_pos he, if_neg h6, if_neg hz], he]
            have hsl := summ_len (h := h) (l := swU s d) (k := 6) (by omega)
            have hz2 : s.zero = true → h.six = true := by intro z; cases hh : h.six with | true => rfl | false => exact absurd ⟨z, hh⟩ hz
            clear hz
            cases hz : s.zero with
            | true =>
              have hz2 := hz2 hz
              refine Triple.enter Try.func44 rfl Try.ntmps44 rfl (fun W => ?_)
              dsimp only [argsF, Nat.reduceAdd]
              repeat' (first
               | refine WPl.nil ?_ | refine WPq.then ?_ | refine WPq.thenR ?_ | refine WPq.thenE ?_ | refine WPq.blockN ?_ | refine WPq.blockR ?_ | refine WPq.blockE ?_ | refine WPq.blockO rfl ?_ | refine WPc.seq ?_ | refine WPc.block ?_ | refine WPc.ret ?_ | refine WPc.exit ?_ | refine WPc.skip ?_ | refine WPc.region ?_
               | (refine isReg 7 ?_; refine WPc.drA [([], [63, 64, 65]), ([0], [59, 63, 64, 65]), ([0, 1], [59, 60, 63, 64, 65]), ([0, 1, 2], [59, 60, 61, 63, 64, 65]), ([], [59, 60, 61, 62]), ([4], [59, 60, 61, 62, 63]), ([4, 5], [59, 60, 61, 62, 63, 64]), ([0, 1, 2, 3, 4, 5, 6], [59, 60, 61, 62, 63, 64, 65]), ([0, 1, 2, 3, 4, 5, 6, 7], [59, 60, 61, 62, 63, 64, 65, 66])] [] (Γx := []) ?_; dsimp only [prev0, List.length_nil, List.length_cons])
               | (refine isReg 9 ?_; refine WPc.drA [([], [71, 72, 73, 74, 75, 76, 77, 78, 79]), ([], [70, 75, 76, 77, 78, 79]), ([1], [70, 71, 75, 76, 77, 78, 79]), ([1, 2], [70, 71, 72, 75, 76, 77, 78, 79]), ([1, 2, 3], [70, 71, 72, 73, 75, 76, 77, 78, 79]), ([], [70, 71, 72, 73, 74, 78, 79]), ([5], [70, 71, 72, 73, 74, 75, 78, 79]), ([5, 6], [70, 71, 72, 73, 74, 75, 76, 78, 79]), ([], [70, 71, 72, 73, 74, 75, 76, 77, 79]), ([], [70, 71, 72, 73, 74, 75, 76, 77, 78]), ([0, 1, 2, 3, 4, 5, 6, 7, 8, 9], [70, 71, 72, 73, 74, 75, 76, 77, 78, 79]), ([0, 1, 2, 3, 4, 5, 6, 7, 8, 9, 10], [70, 71, 72, 73, 74, 75, 76, 77, 78, 79, 80]), ([0, 1, 2, 3, 4, 5, 6, 7, 8, 9, 10, 11], [70, 71, 72, 73, 74, 75, 76, 77, 78, 79, 80, 81])] [] (Γx := []) ?_; dsimp only [prev0, List.length_nil, List.length_cons])
               | (refine gAny ?_; first | (refine gC 30 ?_; refine RGl.vl (fun e hk => OpT.callN (g1)) ?_) | (refine gC 36 ?_; refine RGl.vl (fun e hk => OpT.callN (g2)) ?_) | (refine gC 62 ?_; refine RGl.row (Γ1 := fun _ => []) (fun e hk => OpT.callN (put_t (.slice none 0 0) [] s.src 2 (by simp) (by omega) (by omega) (by omega))) ?_) | (refine gC 66 ?_; refine RGl.row (Γ1 := fun _ => []) (fun e hk => OpT.callN (put_t _ ([] ++ be s.src 2) s.dst 2 (by simp; omega) (by omega) (by omega) (by omega))) ?_) | (refine gC 90 ?_; refine RGl.row (Γ1 := fun _ => []) (fun e hk => OpT.callN (put_t _ ([] ++ be s.src 2 ++ be s.dst 2) (8 + d.length) 2 (by simp; omega) (by omega) (by omega) (by omega))) ?_) | (refine gC 94 ?_; refine RGl.row (Γ1 := fun _ => []) (fun e hk => OpT.callN (bytesE_t _ [_, _, _] [[] ++ be s.src 2 ++ be s.dst 2 ++ be (8 + d.length) 2, nbs [0, 0], d] (swU s d) (swU_eq s d) rfl (by rw [swU_eq]; omega) (by simp))) ?_) | (refine gOp ?_; first | refine RGl.rdA ?_ | refine RGl.rdX (fun e hk => by (try dsimp only [bndR, ensR, oksR, fcutR, List.append_nil, List.nil_append, List.cons_append, List.append_assoc] at hk ⊢); exact readB) ?_) | (refine gLit ?_; refine RGl.litA ?_) | (refine gMk ?_; refine RGl.mkA ?_) | (refine RGl.fin (fun e hk => ?_); (try dsimp only [bndA, ensAR, oksA, List.append_nil, List.nil_append, List.cons_append, List.append_assoc] at hk ⊢); (repeat (obtain ⟨hk1, hk⟩ := hk))) | fail)
               | (refine isCond ?_; first | refine WPc.cT ?_ | refine WPc.cF ?_ | (refine WPc.cQ (fun hc => ?_) (fun hc => ?_) <;> try exact prA))
               | (refine isLit ?_; refine WPl.lit fun v hv => ?_)
               | (refine isLit ?_; refine WPl.lits fun v hv => ?_)
               | (refine isC 30 ?_; refine WPl.cV (g1) ?_)
               | (refine isC 36 ?_; refine WPl.cV (g2) ?_)
               | (refine isC 62 ?_; refine WPl.cR (put_t (.slice none 0 0) [] s.src 2 (by simp) (by omega) (by omega) (by omega)) fun v hv => ?_)
               | (refine isC 66 ?_; refine WPl.cR (put_t _ ([] ++ be s.src 2) s.dst 2 (by simp; omega) (by omega) (by omega) (by omega)) fun v hv => ?_)
               | (refine isC 90 ?_; refine WPl.cR (put_t _ ([] ++ be s.src 2 ++ be s.dst 2) (8 + d.length) 2 (by simp; omega) (by omega) (by omega) (by omega)) fun v hv => ?_)
               | (refine isC 94 ?_; refine WPl.cR (bytesE_t _ [_, _, _] [[] ++ be s.src 2 ++ be s.dst 2 ++ be (8 + d.length) 2, nbs [0, 0], d] (swU s d) (swU_eq s d) rfl (by rw [swU_eq]; omega) (by simp)) fun v hv => ?_)
               | (refine isC 105 ?_; refine WPl.cT (summed_t h _ (swU s d) 6 (by omega) (by omega)) ?_)
               | (refine isMk ?_; refine WPl.mk fun v hv => ?_)
               | (refine isOp ?_; first | refine WPl.rd ?_ | refine WPl.sk ?_ | refine WPl.rdB ?_)
               | (refine isBx ?_; refine WPl.nw fun g => ?_)
               | (refine WPl.spQ (fun hc => ?_) (fun hc => ?_) <;> try exact prA)
               | fail)
              all_goals try (first | exact WPq.dV | exact WPq.dR | exact WPq.dR2 | exact WPq.dH | exact WPq.dBH | exact WPq.dT)
            | false =>
              refine Triple.enter Try.func44 rfl Try.ntmps44 rfl (fun W => ?_)
              dsimp only [argsF, Nat.reduceAdd]
              repeat' (first
               | refine WPl.nil ?_ | refine WPq.then ?_ | refine WPq.thenR ?_ | refine WPq.thenE ?_ | refine WPq.blockN ?_ | refine WPq.blockR ?_ | refine WPq.blockE ?_ | refine WPq.blockO rfl ?_ | refine WPc.seq ?_ | refine WPc.block ?_ | refine WPc.ret ?_ | refine WPc.exit ?_ | refine WPc.skip ?_ | refine WPc.region ?_
               | (refine isReg 7 ?_; refine WPc.drA [([], [63, 64, 65]), ([0], [59, 63, 64, 65]), ([0, 1], [59, 60, 63, 64, 65]), ([0, 1, 2], [59, 60, 61, 63, 64, 65]), ([], [59, 60, 61, 62]), ([4], [59, 60, 61, 62, 63]), ([4, 5], [59, 60, 61, 62, 63, 64]), ([0, 1, 2, 3, 4, 5, 6], [59, 60, 61, 62, 63, 64, 65]), ([0, 1, 2, 3, 4, 5, 6, 7], [59, 60, 61, 62, 63, 64, 65, 66])] [] (Γx := []) ?_; dsimp only [prev0, List.length_nil, List.length_cons])
               | (refine isReg 9 ?_; refine WPc.drA [([], [71, 72, 73, 74, 75, 76, 77, 78, 79]), ([], [70, 75, 76, 77, 78, 79]), ([1], [70, 71, 75, 76, 77, 78, 79]), ([1, 2], [70, 71, 72, 75, 76, 77, 78, 79]), ([1, 2, 3], [70, 71, 72, 73, 75, 76, 77, 78, 79]), ([], [70, 71, 72, 73, 74, 78, 79]), ([5], [70, 71, 72, 73, 74, 75, 78, 79]), ([5, 6], [70, 71, 72, 73, 74, 75, 76, 78, 79]), ([], [70, 71, 72, 73, 74, 75, 76, 77, 79]), ([], [70, 71, 72, 73, 74, 75, 76, 77, 78]), ([0, 1, 2, 3, 4, 5, 6, 7, 8, 9], [70, 71, 72, 73, 74, 75, 76, 77, 78, 79]), ([0, 1, 2, 3, 4, 5, 6, 7, 8, 9, 10], [70, 71, 72, 73, 74, 75, 76, 77, 78, 79, 80]), ([0, 1, 2, 3, 4, 5, 6, 7, 8, 9, 10, 11], [70, 71, 72, 73, 74, 75, 76, 77, 78, 79, 80, 81])] [] (Γx := []) ?_; dsimp only [prev0, List.length_nil, List.length_cons])
               | (refine gAny ?_; first | (refine gC 30 ?_; refine RGl.vl (fun e hk => OpT.callN (g1)) ?_) | (refine gC 36 ?_; refine RGl.vl (fun e hk => OpT.callN (g2)) ?_) | (refine gC 62 ?_; refine RGl.row (Γ1 := fun _ => []) (fun e hk => OpT.callN (put_t (.slice none 0 0) [] s.src 2 (by simp) (by omega) (by omega) (by omega))) ?_) | (refine gC 66 ?_; refine RGl.row (Γ1 := fun _ => []) (fun e hk => OpT.callN (put_t _ ([] ++ be s.src 2) s.dst 2 (by simp; omega) (by omega) (by omega) (by omega))) ?_) | (refine gC 90 ?_; refine RGl.row (Γ1 := fun _ => []) (fun e hk => OpT.callN (put_t _ ([] ++ be s.src 2 ++ be s.dst 2) (8 + d.length) 2 (by simp; omega) (by omega) (by omega) (by omega))) ?_) | (refine gC 94 ?_; refine RGl.row (Γ1 := fun _ => []) (fun e hk => OpT.callN (bytesE_t _ [_, _, _] [[] ++ be s.src 2 ++ be s.dst 2 ++ be (8 + d.length) 2, nbs [0, 0], d] (swU s d) (swU_eq s d) rfl (by rw [swU_eq]; omega) (by simp))) ?_) | (refine gOp ?_; first | refine RGl.rdA ?_ | refine RGl.rdX (fun e hk => by (try dsimp only [bndR, ensR, oksR, fcutR, List.append_nil, List.nil_append, List.cons_append, List.append_assoc] at hk ⊢); exact readB) ?_) | (refine gLit ?_; refine RGl.litA ?_) | (refine gMk ?_; refine RGl.mkA ?_) | (refine RGl.fin (fun e hk => ?_); (try dsimp only [bndA, ensAR, oksA, List.append_nil, List.nil_append, List.cons_append, List.append_assoc] at hk ⊢); (repeat (obtain ⟨hk1, hk⟩ := hk))) | fail)
               | (refine isCond ?_; first | refine WPc.cT ?_ | refine WPc.cF ?_ | (refine WPc.cQ (fun hc => ?_) (fun hc => ?_) <;> try exact prA))
               | (refine isLit ?_; refine WPl.lit fun v hv => ?_)
               | (refine isLit ?_; refine WPl.lits fun v hv => ?_)
               | (refine isC 30 ?_; refine WPl.cV (g1) ?_)
               | (refine isC 36 ?_; refine WPl.cV (g2) ?_)
               | (refine isC 62 ?_; refine WPl.cR (put_t (.slice none 0 0) [] s.src 2 (by simp) (by omega) (by omega) (by omega)) fun v hv => ?_)
               | (refine isC 66 ?_; refine WPl.cR (put_t _ ([] ++ be s.src 2) s.dst 2 (by simp; omega) (by omega) (by omega) (by omega)) fun v hv => ?_)
               | (refine isC 90 ?_; refine WPl.cR (put_t _ ([] ++ be s.src 2 ++ be s.dst 2) (8 + d.length) 2 (by simp; omega) (by omega) (by omega) (by omega)) fun v hv => ?_)
               | (refine isC 94 ?_; refine WPl.cR (bytesE_t _ [_, _, _] [[] ++ be s.src 2 ++ be s.dst 2 ++ be (8 + d.length) 2, nbs [0, 0], d] (swU s d) (swU_eq s d) rfl (by rw [swU_eq]; omega) (by simp)) fun v hv => ?_)
               | (refine isC 105 ?_; refine WPl.cT (summed_t h _ (swU s d) 6 (by omega) (by omega)) ?_)
               | (refine isMk ?_; refine WPl.mk fun v hv => ?_)
               | (refine isOp ?_; first | refine WPl.rd ?_ | refine WPl.sk ?_ | refine WPl.rdB ?_)
               | (refine isBx ?_; refine WPl.nw fun g => ?_)
               | (refine WPl.spQ (fun hc => ?_) (fun hc => ?_) <;> try exact prA)
               | fail)
              all_goals try (first | exact WPq.dV | exact WPq.dR | exact WPq.dR2 | exact WPq.dH | exact WPq.dBH | exact WPq.dT)
end Go.Proofs.Yteofjhjhaaafjaa
