/- The statement PktSpoilt: it returns true. -/
import Derived.Test.YteofjhjhaaafjaaPt
namespace Go.Proofs.Yteofjhjhaaafjaa
open Go.RowKit
set_option linter.unusedSimpArgs false
set_option linter.unusedVariables false
set_option maxRecDepth 20000
set_option maxHeartbeats 400000
attribute [local irreducible] WPc WPl WPq ReadR OpT BinR HasS bx rdN rowN Take Takes Prov Triple ResF BuildP Done ag Int.decLt Int.decLe Int.instDecidableEq
theorem BinR.remE {P : Program} {T : TypeId} {k : IntKind} {a b c : Int} (h : a % b = c) (h0 : 0 ≤ a) (hb : 0 < b) (h2 : 0 ≤ c) : BinR P .rem T (.int k a) (.int k b) (.int k c) := h ▸ BinR.remK h0 hb
attribute [local irreducible] pbL pbE pkR pkE
theorem pktSpoilt_t (x : Fl) (fl hp : UInt8) (vd : Value) (d : List UInt8) (m n : Nat) (hx1 : x.sp < 65536) (hx2 : x.dp < 65536) (hm : m < 65536) (hn : n < 65536) :
    Triple Try.prog 18 #[ag (flc x ++ [(1, [.int .u8 ((fl.toNat : Nat) : Int)]), (1, [.int .u8 ((hp.toNat : Nat) : Int)])]), vd, ag [(1, [.int .u16 (m : Int)]), (1, [.int .u16 (n : Int)])]] [rb vd d] (RVal (.bool true)) := by
  have l1 := x.src.len
  have l2 := x.dst.len
  have hdl : (d.take 60).length ≤ 60 := List.length_take_le _ _
  have h1 := fun v => build_t x fl hp v (d.take 60) (by omega) hx1 hx2
  have h3 := lives16_t
  by_cases he : pbE x fl hp (d.take 60) = 0
  · obtain ⟨p1, p2, p3, p4⟩ := pk_ok hx1 hx2 (by omega) he
    rw [he] at h1
    obtain ⟨L, hL⟩ : ∃ L, L = pbL x fl hp (d.take 60) := ⟨_, rfl⟩
    rw [← hL] at h1 p1 p2 p3
    simp only [← hL] at p4
    obtain ⟨k, hk⟩ : ∃ k, k = m % L.length := ⟨_, rfl⟩
    have hkl : k < L.length := by rw [hk]; exact Nat.mod_lt _ (by omega)
    have hki : (m : Int) % (L.length : Int) = (k : Int) := by rw [hk]; exact (Int.natCast_emod _ L.length).symm
    have hcv : IntKind.u8.wrap (n : Int) = (((UInt8.ofNat n).toNat : Nat) : Int) := by rw [IntKind.wrap_u8, u8_of]; omega
    have h4 := fun v => parse_t v (L.set k (L.getD k 0 + UInt8.ofNat n)) (by rw [List.length_set]; omega)
    have h2 : ∀ v, Triple Try.prog 49 #[v] [rb v (nbs [] ++ L)] (RVal (pkVal L)) := fun v => parse_t v L (by omega)
    simp only [pkVal, p3] at h2 h4
    have p5 := p4 k (L.getD k 0 + UInt8.ofNat n) hkl
    rw [ne_eq, u8_add_eq] at p5
    have p6 : (((UInt8.ofNat n).toNat : Nat) : Int) = 0 → L.set k (L.getD k 0 + UInt8.ofNat n) = L := fun h => by rw [u8_add_eq.2 h, set_self]
    obtain ⟨X, hX⟩ : ∃ X, X = pkR L := ⟨_, rfl⟩
    obtain ⟨Y, hY⟩ : ∃ Y, Y = pkR (L.set k (L.getD k 0 + UInt8.ofNat n)) := ⟨_, rfl⟩
    obtain ⟨c, hc⟩ : ∃ c, c = pkE (L.set k (L.getD k 0 + UInt8.ofNat n)) := ⟨_, rfl⟩
    have p7 : (((UInt8.ofNat n).toNat : Nat) : Int) = 0 → c = 0 ∧ Y = X := fun h => by rw [hc, hY, hX, p6 h]; exact ⟨p3, rfl⟩
    rw [← hX] at h2
    rw [← hY, ← hc] at h4 p5
    clear p6 hX hY hc p3 p4 hL he hk
    have k1 := X.hd.src.len
    have k2 := X.hd.dst.len
    have k3 := X.fl.src.len
    have k4 := X.fl.dst.len
    have y1 := Y.hd.src.len
    have y2 := Y.hd.dst.len
    have y3 := Y.fl.src.len
    have y4 := Y.fl.dst.len
    by_cases hb : (((UInt8.ofNat n).toNat : Nat) : Int) = 0
    · obtain ⟨rfl, rfl⟩ := p7 hb
      clear p5 p7
      refine Triple.enter Try.func18 rfl Try.ntmps18 rfl (fun W => ?_)
      dsimp only [argsF, Nat.reduceAdd]
      repeat' (first
       | refine WPl.nil ?_ | refine WPq.then ?_ | refine WPq.thenR ?_ | refine WPq.thenE ?_ | refine WPq.blockN ?_ | refine WPq.blockR ?_ | refine WPq.blockE ?_ | refine WPq.blockO rfl ?_ | refine WPc.seq ?_ | refine WPc.block ?_ | refine WPc.ret ?_ | refine WPc.exit ?_ | refine WPc.skip ?_ | refine WPc.region ?_
       | (refine isReg 9 ?_; refine WPc.drA [([12], [48, 49, 50, 51, 52, 53, 54, 55, 56]), ([12], [47, 49, 50, 51, 52, 53, 54, 55, 56]), ([12], [47, 48, 50, 53, 54, 55]), ([12], [47, 48, 49, 53, 54, 55]), ([2, 3, 12], [47, 48, 49, 50, 53, 54, 55]), ([2, 3, 4, 12], [47, 48, 49, 50, 51, 53, 54, 55]), ([12], [47, 48, 49, 50, 51, 52]), ([6, 12], [47, 48, 49, 50, 51, 52, 53]), ([6, 7, 12], [47, 48, 49, 50, 51, 52, 53, 54]), ([2, 3, 4, 5, 6, 7, 8, 12], [47, 48, 49, 50, 51, 52, 53, 54, 55]), ([0, 1, 2, 3, 4, 5, 6, 7, 8, 9, 12], [47, 48, 49, 50, 51, 52, 53, 54, 55, 56]), ([0, 1, 2, 3, 4, 5, 6, 7, 8, 9, 10, 12], [47, 48, 49, 50, 51, 52, 53, 54, 55, 56, 57])] [(12, 11), (12, 0), (12, 1), (12, 2), (12, 3), (12, 4), (12, 5), (12, 6), (12, 7), (12, 8), (12, 9), (12, 10)] (Γx := [ob w L]) ?_; dsimp only [prev0, List.length_nil, List.length_cons])
       | (refine gAny ?_; first | (refine gC 16 ?_; refine RGl.row (Γ1 := fun _ => []) (fun e hk => OpT.callN (few_t vd d 60 (by omega))) ?_) | (refine gC 25 ?_; refine RGl.row2 (fun e hk => OpT.callN (h1 _)) ?_) | (refine gC 38 ?_; refine RGl.vl (fun e hk => OpT.callN (h2 _)) ?_) | (refine gC 60 ?_; refine RGl.vl (fun e hk => OpT.callN (h4 _)) ?_) | (refine gC 79 ?_; refine RGl.vl (fun e hk => OpT.callN (h3)) ?_) | (refine gD 46 ?_; refine RGl.rdX (fun e hk => by (try dsimp only [bndR, ensR, oksR, fcutR, List.append_nil, List.nil_append, List.cons_append, List.append_assoc] at hk ⊢); exact ReadR.bin rfl rfl (BinR.remE hki (by omega) (by omega) (by omega))) ?_) | (refine gD 55 ?_; refine RGl.rdX (fun e hk => by (try dsimp only [bndR, ensR, oksR, fcutR, List.append_nil, List.nil_append, List.cons_append, List.append_assoc] at hk ⊢); exact ReadR.convT hcv rfl rfl) ?_) | (refine gD 56 ?_; refine RGl.rdX (fun e hk => by (try dsimp only [bndR, ensR, oksR, fcutR, List.append_nil, List.nil_append, List.cons_append, List.append_assoc] at hk ⊢); exact ReadR.bin rfl rfl BinR.addB) ?_) | (refine gD 66 ?_; refine RGl.rdX (fun e hk => by (try dsimp only [bndR, ensR, oksR, fcutR, List.append_nil, List.nil_append, List.cons_append, List.append_assoc] at hk ⊢); exact ReadR.binE rfl rfl BinR.eql (congrArg Value.bool (decide_eq_true hb))) ?_) | (refine gD 68 ?_; refine RGl.rdX (fun e hk => by (try dsimp only [bndR, ensR, oksR, fcutR, List.append_nil, List.nil_append, List.cons_append, List.append_assoc] at hk ⊢); exact ReadR.binE rfl rfl BinR.eql (congrArg Value.bool (decide_eq_true rfl))) ?_) | (refine gD 71 ?_; refine RGl.rdX (fun e hk => by (try dsimp only [bndR, ensR, oksR, fcutR, List.append_nil, List.nil_append, List.cons_append, List.append_assoc] at hk ⊢); exact ReadR.binE rfl rfl BinR.eql (congrArg Value.bool (decide_eq_true rfl))) ?_) | (refine gD 76 ?_; refine RGl.rdX (fun e hk => by (try dsimp only [bndR, ensR, oksR, fcutR, List.append_nil, List.nil_append, List.cons_append, List.append_assoc] at hk ⊢); exact ReadR.binE rfl rfl (BinR.eqlA eqcA) (congrArg Value.bool (pkEq (a := Y) (b := Y) rfl))) ?_) | (refine gOp ?_; first | refine RGl.rdA ?_ | refine RGl.rdX (fun e hk => by (try dsimp only [bndR, ensR, oksR, fcutR, List.append_nil, List.nil_append, List.cons_append, List.append_assoc] at hk ⊢); exact readB) ?_) | (refine gSt ?_; refine RGl.stA ?_) | (refine RGl.fin (fun e hk => ?_); (try dsimp only [bndA, ensAR, oksA, List.append_nil, List.nil_append, List.cons_append, List.append_assoc] at hk ⊢); (repeat (obtain ⟨hk1, hk⟩ := hk))) | fail)
       | (refine isCond ?_; first | refine WPc.cT ?_ | refine WPc.cF ?_ | (refine WPc.cQ (fun hc => ?_) (fun hc => ?_) <;> try exact prA))
       | (refine isLit ?_; refine WPl.lit fun v hv => ?_)
       | (refine isApp ?_; refine WPl.app fun v hv => ?_)
       | (refine isC 16 ?_; refine WPl.cR (few_t vd d 60 (by omega)) fun v hv => ?_)
       | (refine isC 25 ?_; refine WPl.cR2 (h1 _) fun w hw => ?_)
       | (refine isC 38 ?_; refine WPl.cV (h2 _) ?_)
       | (refine isC 60 ?_; refine WPl.cV (h4 _) ?_)
       | (refine isC 79 ?_; refine WPl.cV (h3) ?_)
       | (refine isD 46 ?_; refine WPl.rdX (ReadR.bin rfl rfl (BinR.remE hki (by omega) (by omega) (by omega))) ?_)
       | (refine isD 55 ?_; refine WPl.rdX (ReadR.convT hcv rfl rfl) ?_)
       | (refine isD 56 ?_; refine WPl.rdX (ReadR.bin rfl rfl BinR.addB) ?_)
       | (show WPl _ _ _ _ _ _ _ (⟨_, .store 74 (.tmp 9) _, _, _, _, _⟩ :: _) _; refine WPl.stA (new := pkc Y) ?_ (ht := by kernel_rfl))
       | (show WPl _ _ _ _ _ _ _ (⟨_, .store 74 (.tmp 12) _, _, _, _, _⟩ :: _) _; refine WPl.stA (new := pkc Y) ?_ (ht := by kernel_rfl))
       | (refine isD 66 ?_; refine WPl.rdX (ReadR.binE rfl rfl BinR.eql (congrArg Value.bool (decide_eq_true hb))) ?_)
       | (refine isD 68 ?_; refine WPl.rdX (ReadR.binE rfl rfl BinR.eql (congrArg Value.bool (decide_eq_true rfl))) ?_)
       | (refine isD 71 ?_; refine WPl.rdX (ReadR.binE rfl rfl BinR.eql (congrArg Value.bool (decide_eq_true rfl))) ?_)
       | (refine isD 76 ?_; refine WPl.rdX (ReadR.binE rfl rfl (BinR.eqlA eqcA) (congrArg Value.bool (pkEq (a := Y) (b := Y) rfl))) ?_)
       | (refine isOp ?_; first | refine WPl.rd ?_ | refine WPl.sk ?_ | refine WPl.rdB ?_)
       | (refine isAl ?_; refine WPl.nw fun g => ?_)
       | (refine isBx ?_; refine WPl.nw fun g => ?_)
       | (refine isSt ?_; first | refine WPl.st1 ?_ | refine WPl.stA ?_ | refine WPl.stEB ?_ | refine WPl.stRB ?_)
       | (refine WPl.spQ (fun hc => ?_) (fun hc => ?_) <;> try exact prA)
       | fail)
      all_goals try (first | exact WPq.dV | exact WPq.dR | exact WPq.dR2 | exact WPq.dH | exact WPq.dBH | exact WPq.dT)
    · replace p5 := p5 hb
      clear p7
      by_cases hc0 : c = 0
      · replace p5 := p5 hc0
        subst hc0
        rcases p5 with ⟨s6, p5⟩ | p5
        · obtain ⟨⟨s, sb, sl⟩, xd, xsp, xdp, xpr⟩ := x
          dsimp only at s6 l1 l2 hx1 hx2
          subst s6
          refine Triple.enter Try.func18 rfl Try.ntmps18 rfl (fun W => ?_)
          dsimp only [argsF, Nat.reduceAdd]
          repeat' (first
           | refine WPl.nil ?_ | refine WPq.then ?_ | refine WPq.thenR ?_ | refine WPq.thenE ?_ | refine WPq.blockN ?_ | refine WPq.blockR ?_ | refine WPq.blockE ?_ | refine WPq.blockO rfl ?_ | refine WPc.seq ?_ | refine WPc.block ?_ | refine WPc.ret ?_ | refine WPc.exit ?_ | refine WPc.skip ?_ | refine WPc.region ?_
           | (refine isReg 9 ?_; refine WPc.drA [([12], [48, 49, 50, 51, 52, 53, 54, 55, 56]), ([12], [47, 49, 50, 51, 52, 53, 54, 55, 56]), ([12], [47, 48, 50, 53, 54, 55]), ([12], [47, 48, 49, 53, 54, 55]), ([2, 3, 12], [47, 48, 49, 50, 53, 54, 55]), ([2, 3, 4, 12], [47, 48, 49, 50, 51, 53, 54, 55]), ([12], [47, 48, 49, 50, 51, 52]), ([6, 12], [47, 48, 49, 50, 51, 52, 53]), ([6, 7, 12], [47, 48, 49, 50, 51, 52, 53, 54]), ([2, 3, 4, 5, 6, 7, 8, 12], [47, 48, 49, 50, 51, 52, 53, 54, 55]), ([0, 1, 2, 3, 4, 5, 6, 7, 8, 9, 12], [47, 48, 49, 50, 51, 52, 53, 54, 55, 56]), ([0, 1, 2, 3, 4, 5, 6, 7, 8, 9, 10, 12], [47, 48, 49, 50, 51, 52, 53, 54, 55, 56, 57])] [(12, 11), (12, 0), (12, 1), (12, 2), (12, 3), (12, 4), (12, 5), (12, 6), (12, 7), (12, 8), (12, 9), (12, 10)] (Γx := [ob w L]) ?_; dsimp only [prev0, List.length_nil, List.length_cons])
           | (refine gAny ?_; first | (refine gC 16 ?_; refine RGl.row (Γ1 := fun _ => []) (fun e hk => OpT.callN (few_t vd d 60 (by omega))) ?_) | (refine gC 25 ?_; refine RGl.row2 (fun e hk => OpT.callN (h1 _)) ?_) | (refine gC 38 ?_; refine RGl.vl (fun e hk => OpT.callN (h2 _)) ?_) | (refine gC 60 ?_; refine RGl.vl (fun e hk => OpT.callN (h4 _)) ?_) | (refine gC 108 ?_; refine RGl.vl (fun e hk => OpT.callN (h3)) ?_) | (refine gD 46 ?_; refine RGl.rdX (fun e hk => by (try dsimp only [bndR, ensR, oksR, fcutR, List.append_nil, List.nil_append, List.cons_append, List.append_assoc] at hk ⊢); exact ReadR.bin rfl rfl (BinR.remE hki (by omega) (by omega) (by omega))) ?_) | (refine gD 55 ?_; refine RGl.rdX (fun e hk => by (try dsimp only [bndR, ensR, oksR, fcutR, List.append_nil, List.nil_append, List.cons_append, List.append_assoc] at hk ⊢); exact ReadR.convT hcv rfl rfl) ?_) | (refine gD 56 ?_; refine RGl.rdX (fun e hk => by (try dsimp only [bndR, ensR, oksR, fcutR, List.append_nil, List.nil_append, List.cons_append, List.append_assoc] at hk ⊢); exact ReadR.bin rfl rfl BinR.addB) ?_) | (refine gD 66 ?_; refine RGl.rdX (fun e hk => by (try dsimp only [bndR, ensR, oksR, fcutR, List.append_nil, List.nil_append, List.cons_append, List.append_assoc] at hk ⊢); exact ReadR.binE rfl rfl BinR.eql (congrArg Value.bool (decide_eq_false hb))) ?_) | (refine gD 98 ?_; refine RGl.rdX (fun e hk => by (try dsimp only [bndR, ensR, oksR, fcutR, List.append_nil, List.nil_append, List.cons_append, List.append_assoc] at hk ⊢); exact ReadR.binE rfl rfl BinR.neq (congrArg Value.bool (a₁ := false) (by simp))) ?_) | (refine gOp ?_; first | refine RGl.rdA ?_ | refine RGl.rdX (fun e hk => by (try dsimp only [bndR, ensR, oksR, fcutR, List.append_nil, List.nil_append, List.cons_append, List.append_assoc] at hk ⊢); exact readB) ?_) | (refine gSt ?_; refine RGl.stA ?_) | (refine RGl.fin (fun e hk => ?_); (try dsimp only [bndA, ensAR, oksA, List.append_nil, List.nil_append, List.cons_append, List.append_assoc] at hk ⊢); (repeat (obtain ⟨hk1, hk⟩ := hk))) | fail)
           | (refine isCond ?_; first | refine WPc.cT ?_ | refine WPc.cF ?_ | (refine WPc.cQ (fun hc => ?_) (fun hc => ?_) <;> try exact prA))
           | (refine isLit ?_; refine WPl.lit fun v hv => ?_)
           | (refine isApp ?_; refine WPl.app fun v hv => ?_)
           | (refine isC 16 ?_; refine WPl.cR (few_t vd d 60 (by omega)) fun v hv => ?_)
           | (refine isC 25 ?_; refine WPl.cR2 (h1 _) fun w hw => ?_)
           | (refine isC 38 ?_; refine WPl.cV (h2 _) ?_)
           | (refine isC 60 ?_; refine WPl.cV (h4 _) ?_)
           | (refine isC 108 ?_; refine WPl.cV (h3) ?_)
           | (refine isD 46 ?_; refine WPl.rdX (ReadR.bin rfl rfl (BinR.remE hki (by omega) (by omega) (by omega))) ?_)
           | (refine isD 55 ?_; refine WPl.rdX (ReadR.convT hcv rfl rfl) ?_)
           | (refine isD 56 ?_; refine WPl.rdX (ReadR.bin rfl rfl BinR.addB) ?_)
           | (show WPl _ _ _ _ _ _ _ (⟨_, .store 74 (.tmp 9) _, _, _, _, _⟩ :: _) _; refine WPl.stA (new := pkc X) ?_ (ht := by kernel_rfl))
           | (show WPl _ _ _ _ _ _ _ (⟨_, .store 74 (.tmp 12) _, _, _, _, _⟩ :: _) _; refine WPl.stA (new := pkc Y) ?_ (ht := by kernel_rfl))
           | (refine isD 66 ?_; refine WPl.rdX (ReadR.binE rfl rfl BinR.eql (congrArg Value.bool (decide_eq_false hb))) ?_)
           | (refine isD 98 ?_; refine WPl.rdX (ReadR.binE rfl rfl BinR.neq (congrArg Value.bool (a₁ := false) (by simp))) ?_)
           | (refine isOp ?_; first | refine WPl.rd ?_ | refine WPl.sk ?_ | refine WPl.rdB ?_)
           | (refine isAl ?_; refine WPl.nw fun g => ?_)
           | (refine isBx ?_; refine WPl.nw fun g => ?_)
           | (refine isSt ?_; first | refine WPl.st1 ?_ | refine WPl.stA ?_ | refine WPl.stEB ?_ | refine WPl.stRB ?_)
           | (refine WPl.spQ (fun hc => ?_) (fun hc => ?_) <;> try exact prA)
           | fail)
          all_goals try (first | exact WPq.dV | exact WPq.dR | exact WPq.dR2 | exact WPq.dH | exact WPq.dBH | exact WPq.dT)
        · obtain ⟨Yh, ⟨ya, yb, yc, yd, z, ye⟩, Yf⟩ := Y
          dsimp only at p5 y1 y2 y3 y4
          subst p5
          refine Triple.enter Try.func18 rfl Try.ntmps18 rfl (fun W => ?_)
          dsimp only [argsF, Nat.reduceAdd]
          repeat' (first
           | refine WPl.nil ?_ | refine WPq.then ?_ | refine WPq.thenR ?_ | refine WPq.thenE ?_ | refine WPq.blockN ?_ | refine WPq.blockR ?_ | refine WPq.blockE ?_ | refine WPq.blockO rfl ?_ | refine WPc.seq ?_ | refine WPc.block ?_ | refine WPc.ret ?_ | refine WPc.exit ?_ | refine WPc.skip ?_ | refine WPc.region ?_
           | (refine isReg 9 ?_; refine WPc.drA [([12], [48, 49, 50, 51, 52, 53, 54, 55, 56]), ([12], [47, 49, 50, 51, 52, 53, 54, 55, 56]), ([12], [47, 48, 50, 53, 54, 55]), ([12], [47, 48, 49, 53, 54, 55]), ([2, 3, 12], [47, 48, 49, 50, 53, 54, 55]), ([2, 3, 4, 12], [47, 48, 49, 50, 51, 53, 54, 55]), ([12], [47, 48, 49, 50, 51, 52]), ([6, 12], [47, 48, 49, 50, 51, 52, 53]), ([6, 7, 12], [47, 48, 49, 50, 51, 52, 53, 54]), ([2, 3, 4, 5, 6, 7, 8, 12], [47, 48, 49, 50, 51, 52, 53, 54, 55]), ([0, 1, 2, 3, 4, 5, 6, 7, 8, 9, 12], [47, 48, 49, 50, 51, 52, 53, 54, 55, 56]), ([0, 1, 2, 3, 4, 5, 6, 7, 8, 9, 10, 12], [47, 48, 49, 50, 51, 52, 53, 54, 55, 56, 57])] [(12, 11), (12, 0), (12, 1), (12, 2), (12, 3), (12, 4), (12, 5), (12, 6), (12, 7), (12, 8), (12, 9), (12, 10)] (Γx := [ob w L]) ?_; dsimp only [prev0, List.length_nil, List.length_cons])
           | (refine gAny ?_; first | (refine gC 16 ?_; refine RGl.row (Γ1 := fun _ => []) (fun e hk => OpT.callN (few_t vd d 60 (by omega))) ?_) | (refine gC 25 ?_; refine RGl.row2 (fun e hk => OpT.callN (h1 _)) ?_) | (refine gC 38 ?_; refine RGl.vl (fun e hk => OpT.callN (h2 _)) ?_) | (refine gC 60 ?_; refine RGl.vl (fun e hk => OpT.callN (h4 _)) ?_) | (refine gC 108 ?_; refine RGl.vl (fun e hk => OpT.callN (h3)) ?_) | (refine gD 46 ?_; refine RGl.rdX (fun e hk => by (try dsimp only [bndR, ensR, oksR, fcutR, List.append_nil, List.nil_append, List.cons_append, List.append_assoc] at hk ⊢); exact ReadR.bin rfl rfl (BinR.remE hki (by omega) (by omega) (by omega))) ?_) | (refine gD 55 ?_; refine RGl.rdX (fun e hk => by (try dsimp only [bndR, ensR, oksR, fcutR, List.append_nil, List.nil_append, List.cons_append, List.append_assoc] at hk ⊢); exact ReadR.convT hcv rfl rfl) ?_) | (refine gD 56 ?_; refine RGl.rdX (fun e hk => by (try dsimp only [bndR, ensR, oksR, fcutR, List.append_nil, List.nil_append, List.cons_append, List.append_assoc] at hk ⊢); exact ReadR.bin rfl rfl BinR.addB) ?_) | (refine gD 66 ?_; refine RGl.rdX (fun e hk => by (try dsimp only [bndR, ensR, oksR, fcutR, List.append_nil, List.nil_append, List.cons_append, List.append_assoc] at hk ⊢); exact ReadR.binE rfl rfl BinR.eql (congrArg Value.bool (decide_eq_false hb))) ?_) | (refine gD 98 ?_; refine RGl.rdX (fun e hk => by (try dsimp only [bndR, ensR, oksR, fcutR, List.append_nil, List.nil_append, List.cons_append, List.append_assoc] at hk ⊢); exact ReadR.binE rfl rfl BinR.neq (congrArg Value.bool (a₁ := false) (by simp))) ?_) | (refine gOp ?_; first | refine RGl.rdA ?_ | refine RGl.rdX (fun e hk => by (try dsimp only [bndR, ensR, oksR, fcutR, List.append_nil, List.nil_append, List.cons_append, List.append_assoc] at hk ⊢); exact readB) ?_) | (refine gSt ?_; refine RGl.stA ?_) | (refine RGl.fin (fun e hk => ?_); (try dsimp only [bndA, ensAR, oksA, List.append_nil, List.nil_append, List.cons_append, List.append_assoc] at hk ⊢); (repeat (obtain ⟨hk1, hk⟩ := hk))) | fail)
           | (refine isCond ?_; first | refine WPc.cT ?_ | refine WPc.cF ?_ | (refine WPc.cQ (fun hc => ?_) (fun hc => ?_) <;> try exact prA))
           | (refine isLit ?_; refine WPl.lit fun v hv => ?_)
           | (refine isApp ?_; refine WPl.app fun v hv => ?_)
           | (refine isC 16 ?_; refine WPl.cR (few_t vd d 60 (by omega)) fun v hv => ?_)
           | (refine isC 25 ?_; refine WPl.cR2 (h1 _) fun w hw => ?_)
           | (refine isC 38 ?_; refine WPl.cV (h2 _) ?_)
           | (refine isC 60 ?_; refine WPl.cV (h4 _) ?_)
           | (refine isC 108 ?_; refine WPl.cV (h3) ?_)
           | (refine isD 46 ?_; refine WPl.rdX (ReadR.bin rfl rfl (BinR.remE hki (by omega) (by omega) (by omega))) ?_)
           | (refine isD 55 ?_; refine WPl.rdX (ReadR.convT hcv rfl rfl) ?_)
           | (refine isD 56 ?_; refine WPl.rdX (ReadR.bin rfl rfl BinR.addB) ?_)
           | (show WPl _ _ _ _ _ _ _ (⟨_, .store 74 (.tmp 9) _, _, _, _, _⟩ :: _) _; refine WPl.stA (new := pkc X) ?_ (ht := by kernel_rfl))
           | (show WPl _ _ _ _ _ _ _ (⟨_, .store 74 (.tmp 12) _, _, _, _, _⟩ :: _) _; refine WPl.stA (new := pkc ⟨Yh, ⟨ya, yb, yc, yd, true, ye⟩, Yf⟩) ?_ (ht := by kernel_rfl))
           | (refine isD 66 ?_; refine WPl.rdX (ReadR.binE rfl rfl BinR.eql (congrArg Value.bool (decide_eq_false hb))) ?_)
           | (refine isD 98 ?_; refine WPl.rdX (ReadR.binE rfl rfl BinR.neq (congrArg Value.bool (a₁ := false) (by simp))) ?_)
           | (refine isOp ?_; first | refine WPl.rd ?_ | refine WPl.sk ?_ | refine WPl.rdB ?_)
           | (refine isAl ?_; refine WPl.nw fun g => ?_)
           | (refine isBx ?_; refine WPl.nw fun g => ?_)
           | (refine isSt ?_; first | refine WPl.st1 ?_ | refine WPl.stA ?_ | refine WPl.stEB ?_ | refine WPl.stRB ?_)
           | (refine WPl.spQ (fun hc => ?_) (fun hc => ?_) <;> try exact prA)
           | fail)
          all_goals try (first | exact WPq.dV | exact WPq.dR | exact WPq.dR2 | exact WPq.dH | exact WPq.dBH | exact WPq.dT)
      · clear p5
        refine Triple.enter Try.func18 rfl Try.ntmps18 rfl (fun W => ?_)
        dsimp only [argsF, Nat.reduceAdd]
        repeat' (first
         | refine WPl.nil ?_ | refine WPq.then ?_ | refine WPq.thenR ?_ | refine WPq.thenE ?_ | refine WPq.blockN ?_ | refine WPq.blockR ?_ | refine WPq.blockE ?_ | refine WPq.blockO rfl ?_ | refine WPc.seq ?_ | refine WPc.block ?_ | refine WPc.ret ?_ | refine WPc.exit ?_ | refine WPc.skip ?_ | refine WPc.region ?_
         | (refine isReg 9 ?_; refine WPc.drA [([12], [48, 49, 50, 51, 52, 53, 54, 55, 56]), ([12], [47, 49, 50, 51, 52, 53, 54, 55, 56]), ([12], [47, 48, 50, 53, 54, 55]), ([12], [47, 48, 49, 53, 54, 55]), ([2, 3, 12], [47, 48, 49, 50, 53, 54, 55]), ([2, 3, 4, 12], [47, 48, 49, 50, 51, 53, 54, 55]), ([12], [47, 48, 49, 50, 51, 52]), ([6, 12], [47, 48, 49, 50, 51, 52, 53]), ([6, 7, 12], [47, 48, 49, 50, 51, 52, 53, 54]), ([2, 3, 4, 5, 6, 7, 8, 12], [47, 48, 49, 50, 51, 52, 53, 54, 55]), ([0, 1, 2, 3, 4, 5, 6, 7, 8, 9, 12], [47, 48, 49, 50, 51, 52, 53, 54, 55, 56]), ([0, 1, 2, 3, 4, 5, 6, 7, 8, 9, 10, 12], [47, 48, 49, 50, 51, 52, 53, 54, 55, 56, 57])] [(12, 11), (12, 0), (12, 1), (12, 2), (12, 3), (12, 4), (12, 5), (12, 6), (12, 7), (12, 8), (12, 9), (12, 10)] (Γx := [ob w L]) ?_; dsimp only [prev0, List.length_nil, List.length_cons])
         | (refine gAny ?_; first | (refine gC 16 ?_; refine RGl.row (Γ1 := fun _ => []) (fun e hk => OpT.callN (few_t vd d 60 (by omega))) ?_) | (refine gC 25 ?_; refine RGl.row2 (fun e hk => OpT.callN (h1 _)) ?_) | (refine gC 38 ?_; refine RGl.vl (fun e hk => OpT.callN (h2 _)) ?_) | (refine gC 60 ?_; refine RGl.vl (fun e hk => OpT.callN (h4 _)) ?_) | (refine gC 108 ?_; refine RGl.vl (fun e hk => OpT.callN (h3)) ?_) | (refine gD 46 ?_; refine RGl.rdX (fun e hk => by (try dsimp only [bndR, ensR, oksR, fcutR, List.append_nil, List.nil_append, List.cons_append, List.append_assoc] at hk ⊢); exact ReadR.bin rfl rfl (BinR.remE hki (by omega) (by omega) (by omega))) ?_) | (refine gD 55 ?_; refine RGl.rdX (fun e hk => by (try dsimp only [bndR, ensR, oksR, fcutR, List.append_nil, List.nil_append, List.cons_append, List.append_assoc] at hk ⊢); exact ReadR.convT hcv rfl rfl) ?_) | (refine gD 56 ?_; refine RGl.rdX (fun e hk => by (try dsimp only [bndR, ensR, oksR, fcutR, List.append_nil, List.nil_append, List.cons_append, List.append_assoc] at hk ⊢); exact ReadR.bin rfl rfl BinR.addB) ?_) | (refine gD 66 ?_; refine RGl.rdX (fun e hk => by (try dsimp only [bndR, ensR, oksR, fcutR, List.append_nil, List.nil_append, List.cons_append, List.append_assoc] at hk ⊢); exact ReadR.binE rfl rfl BinR.eql (congrArg Value.bool (decide_eq_false hb))) ?_) | (refine gD 98 ?_; refine RGl.rdX (fun e hk => by (try dsimp only [bndR, ensR, oksR, fcutR, List.append_nil, List.nil_append, List.cons_append, List.append_assoc] at hk ⊢); exact ReadR.binE rfl rfl BinR.neq (congrArg Value.bool (a₁ := true) (by simp [hc0]))) ?_) | (refine gOp ?_; first | refine RGl.rdA ?_ | refine RGl.rdX (fun e hk => by (try dsimp only [bndR, ensR, oksR, fcutR, List.append_nil, List.nil_append, List.cons_append, List.append_assoc] at hk ⊢); exact readB) ?_) | (refine gSt ?_; refine RGl.stA ?_) | (refine RGl.fin (fun e hk => ?_); (try dsimp only [bndA, ensAR, oksA, List.append_nil, List.nil_append, List.cons_append, List.append_assoc] at hk ⊢); (repeat (obtain ⟨hk1, hk⟩ := hk))) | fail)
         | (refine isCond ?_; first | refine WPc.cT ?_ | refine WPc.cF ?_ | (refine WPc.cQ (fun hc => ?_) (fun hc => ?_) <;> try exact prA))
         | (refine isLit ?_; refine WPl.lit fun v hv => ?_)
         | (refine isApp ?_; refine WPl.app fun v hv => ?_)
         | (refine isC 16 ?_; refine WPl.cR (few_t vd d 60 (by omega)) fun v hv => ?_)
         | (refine isC 25 ?_; refine WPl.cR2 (h1 _) fun w hw => ?_)
         | (refine isC 38 ?_; refine WPl.cV (h2 _) ?_)
         | (refine isC 60 ?_; refine WPl.cV (h4 _) ?_)
         | (refine isC 108 ?_; refine WPl.cV (h3) ?_)
         | (refine isD 46 ?_; refine WPl.rdX (ReadR.bin rfl rfl (BinR.remE hki (by omega) (by omega) (by omega))) ?_)
         | (refine isD 55 ?_; refine WPl.rdX (ReadR.convT hcv rfl rfl) ?_)
         | (refine isD 56 ?_; refine WPl.rdX (ReadR.bin rfl rfl BinR.addB) ?_)
         | (show WPl _ _ _ _ _ _ _ (⟨_, .store 74 (.tmp 9) _, _, _, _, _⟩ :: _) _; refine WPl.stA (new := pkc X) ?_ (ht := by kernel_rfl))
         | (show WPl _ _ _ _ _ _ _ (⟨_, .store 74 (.tmp 12) _, _, _, _, _⟩ :: _) _; refine WPl.stA (new := pkc Y) ?_ (ht := by kernel_rfl))
         | (refine isD 66 ?_; refine WPl.rdX (ReadR.binE rfl rfl BinR.eql (congrArg Value.bool (decide_eq_false hb))) ?_)
         | (refine isD 98 ?_; refine WPl.rdX (ReadR.binE rfl rfl BinR.neq (congrArg Value.bool (a₁ := true) (by simp [hc0]))) ?_)
         | (refine isOp ?_; first | refine WPl.rd ?_ | refine WPl.sk ?_ | refine WPl.rdB ?_)
         | (refine isAl ?_; refine WPl.nw fun g => ?_)
         | (refine isBx ?_; refine WPl.nw fun g => ?_)
         | (refine isSt ?_; first | refine WPl.st1 ?_ | refine WPl.stA ?_ | refine WPl.stEB ?_ | refine WPl.stRB ?_)
         | (refine WPl.spQ (fun hc => ?_) (fun hc => ?_) <;> try exact prA)
         | fail)
        all_goals try (first | exact WPq.dV | exact WPq.dR | exact WPq.dR2 | exact WPq.dH | exact WPq.dBH | exact WPq.dT)
  · obtain ⟨L, hL⟩ : ∃ L, L = pbL x fl hp (d.take 60) := ⟨_, rfl⟩
    obtain ⟨c, hc⟩ : ∃ c, c = pbE x fl hp (d.take 60) := ⟨_, rfl⟩
    rw [← hL, ← hc] at h1
    rw [← hc] at he
    clear hL hc
    refine Triple.enter Try.func18 rfl Try.ntmps18 rfl (fun W => ?_)
    dsimp only [argsF, Nat.reduceAdd]
    repeat' (first
     | refine WPl.nil ?_ | refine WPq.then ?_ | refine WPq.thenR ?_ | refine WPq.thenE ?_ | refine WPq.blockN ?_ | refine WPq.blockR ?_ | refine WPq.blockE ?_ | refine WPq.blockO rfl ?_ | refine WPc.seq ?_ | refine WPc.block ?_ | refine WPc.ret ?_ | refine WPc.exit ?_ | refine WPc.skip ?_ | refine WPc.region ?_
     | (refine isReg 9 ?_; refine WPc.drA [([], [48, 49, 50, 51, 52, 53, 54, 55, 56]), ([], [47, 49, 50, 51, 52, 53, 54, 55, 56]), ([], [47, 48, 50, 53, 54, 55]), ([], [47, 48, 49, 53, 54, 55]), ([2, 3], [47, 48, 49, 50, 53, 54, 55]), ([2, 3, 4], [47, 48, 49, 50, 51, 53, 54, 55]), ([], [47, 48, 49, 50, 51, 52]), ([6], [47, 48, 49, 50, 51, 52, 53]), ([6, 7], [47, 48, 49, 50, 51, 52, 53, 54]), ([2, 3, 4, 5, 6, 7, 8], [47, 48, 49, 50, 51, 52, 53, 54, 55]), ([0, 1, 2, 3, 4, 5, 6, 7, 8, 9], [47, 48, 49, 50, 51, 52, 53, 54, 55, 56]), ([0, 1, 2, 3, 4, 5, 6, 7, 8, 9, 10], [47, 48, 49, 50, 51, 52, 53, 54, 55, 56, 57])] [] (Γx := []) ?_; dsimp only [prev0, List.length_nil, List.length_cons])
     | (refine gAny ?_; first | (refine gC 16 ?_; refine RGl.row (Γ1 := fun _ => []) (fun e hk => OpT.callN (few_t vd d 60 (by omega))) ?_) | (refine gC 25 ?_; refine RGl.row2 (fun e hk => OpT.callN (h1 _)) ?_) | (refine gC 30 ?_; refine RGl.vl (fun e hk => OpT.callN (h3)) ?_) | (refine gOp ?_; first | refine RGl.rdA ?_ | refine RGl.rdX (fun e hk => by (try dsimp only [bndR, ensR, oksR, fcutR, List.append_nil, List.nil_append, List.cons_append, List.append_assoc] at hk ⊢); exact readB) ?_) | (refine gSt ?_; refine RGl.stA ?_) | (refine RGl.fin (fun e hk => ?_); (try dsimp only [bndA, ensAR, oksA, List.append_nil, List.nil_append, List.cons_append, List.append_assoc] at hk ⊢); (repeat (obtain ⟨hk1, hk⟩ := hk))) | fail)
     | (refine isCond ?_; first | refine WPc.cT ?_ | refine WPc.cF ?_ | (refine WPc.cQ (fun hc => ?_) (fun hc => ?_) <;> try exact prA))
     | (refine isLit ?_; refine WPl.lit fun v hv => ?_)
     | (refine isApp ?_; refine WPl.app fun v hv => ?_)
     | (refine isC 16 ?_; refine WPl.cR (few_t vd d 60 (by omega)) fun v hv => ?_)
     | (refine isC 25 ?_; refine WPl.cR2 (h1 _) fun v hv => ?_)
     | (refine isC 30 ?_; refine WPl.cV (h3) ?_)
     | (refine isOp ?_; first | refine WPl.rd ?_ | refine WPl.sk ?_ | refine WPl.rdB ?_)
     | (refine isAl ?_; refine WPl.nw fun g => ?_)
     | (refine isBx ?_; refine WPl.nw fun g => ?_)
     | (refine isSt ?_; first | refine WPl.st1 ?_ | refine WPl.stA ?_ | refine WPl.stEB ?_ | refine WPl.stRB ?_)
     | (refine WPl.spQ (fun hc => ?_) (fun hc => ?_) <;> try exact prA)
     | fail)
    all_goals try (first | exact WPq.dV | exact WPq.dR | exact WPq.dR2 | exact WPq.dH | exact WPq.dBH | exact WPq.dT)
end Go.Proofs.Yteofjhjhaaafjaa
