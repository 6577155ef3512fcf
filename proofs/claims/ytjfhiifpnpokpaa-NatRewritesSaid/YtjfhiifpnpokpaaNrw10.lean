/- What the row of natRewrites_holds needs: part 10. -/
import Derived.Test.YtjfhiifpnpokpaaNrw9
/- Reference 17 (nat): Rewrite where it is told: contracts (printed by gen_nf.py). -/
namespace Go.Proofs.Ytjfhiifpnpokpaa
open Go.RowKit
set_option linter.unusedSimpArgs false
set_option linter.unusedVariables false
set_option maxRecDepth 20000
set_option maxHeartbeats 1000000
attribute [local irreducible] WPc WPl WPq ReadR OpT BinR HasS bx rdN rowN Take Takes Prov Triple ResF BuildP Done ag Int.decLt Int.decLe Int.instDecidableEq
attribute [local irreducible] core csum psu
theorem rrw_t1z (v : Value) (b : List UInt8) (a : Adr) (p : Nat) (pr : UInt8) (k : Nat) (s1 d1 : Adr) (pt : Bool) (hp : UInt8) (sr ds : Nat) (fg : UInt8) (sa : Int) (da : Int) (fl : Fl) (hp1 : p ≤ 65535) (hp0 : p ≠ 0) (hl : b.length ≤ 100000) (he : pkVal b = .tuple #[ag (pkc ⟨⟨true, pr, (k : Int), s1, d1, pt, hp⟩, ⟨sr, ds, fg, sa, true, da⟩, fl⟩), .int .i64 0])
    (hg : a.good = true) (hs : a.six = true) (hj : sa = (sj ⟨true, pr, (k : Int), s1, d1, pt, hp⟩ : Int)) (hk2 : k + sj ⟨true, pr, (k : Int), s1, d1, pt, hp⟩ + 2 ≤ b.length) (hk20 : 20 ≤ k) (hnk : nk true 1 + a.bytes.length ≤ b.length) :
    Triple Try.prog 7 #[v, .int .i64 1, ag (adc a), .int .u16 (p : Int)] [rb v b] (RW (r5 b ⟨true, pr, (k : Int), s1, d1, pt, hp⟩ true 1 a p) 0) := by
  have c1 := rparse_t v b hl
  rw [he] at c1
  have c2 := rgood_t a
  rw [hg] at c2
  have c4 := rbytes_t a
  have la := a.len
  have ls := s1.len
  have ld := d1.len
  have lf1 := fl.src.len
  have lf2 := fl.dst.len
  have hpr := pr.toNat_lt
  obtain ⟨j, hjj⟩ : ∃ j, j = sj ⟨true, pr, (k : Int), s1, d1, pt, hp⟩ := ⟨_, rfl⟩
  have hj6 := sj_ge ⟨true, pr, (k : Int), s1, d1, pt, hp⟩
  rw [← hjj] at hj hk2 hj6
  subst hj
  have hbl := a.bytes_len
  rw [hs] at hbl
  have t : ∀ n, (twoB n).length = 2 := fun n => rfl
  have t0 : ([0, 0] : List UInt8).length = 2 := rfl
  have c5 := fun v1 => rlay_t v v1 b a.bytes (nk true 1) hnk hl
  have l1 : (lay b (nk true 1) a.bytes).length = b.length := lay_length hnk
  have c6 := rtwo_t p hp1
  have c7 := fun v1 v2 => rlay_t v1 v2 (lay b (nk true 1) a.bytes) (twoB p) (k + 2 * 1) (by rw [l1, t]; omega) (by omega)
  have eC : lay (lay b (nk true 1) a.bytes) (k + 2 * 1) (twoB p) = core b ⟨true, pr, (k : Int), s1, d1, pt, hp⟩ 1 a p := by unfold core; rfl
  have l2 : (core b ⟨true, pr, (k : Int), s1, d1, pt, hp⟩ 1 a p).length = b.length := by rw [← eC, lay_length (by rw [l1, t]; omega), l1]
  rw [eC] at c7
  unfold r5
  unfold rs1 q1
  show Triple _ _ _ _ (RW (q2 _ _ true (rs2 (lay _ (k + sj _) (twoB 0)) _)) 0)
  rw [← hjj]
  rw [show hdA ⟨true, pr, (k : Int), s1, d1, pt, hp⟩ 1 a = ⟨true, pr, (k : Int), s1, a, pt, hp⟩ from rfl]
  simp only [show (Hd.mk true pr (k : Int) s1 d1 pt hp).pos.toNat = k from rfl, show (Hd.mk true pr (k : Int) s1 d1 pt hp).six = true from rfl]
  rw [show twoB 0 = [0, 0] from rfl]
  try simp only [if_true]
  generalize core b ⟨true, pr, (k : Int), s1, d1, pt, hp⟩ 1 a p = C at *
  have lC : C.length = b.length := l2
  generalize lay b (nk true 1) a.bytes = L1 at *
  generalize hn : a.bytes.length = n at *
  generalize twoB p = T1 at *
  generalize a.bytes = ab at *
  unfold q2
  rw [if_pos rfl]
  refine Triple.enter Try.func7 rfl Try.ntmps7 rfl (fun W => ?_)
  dsimp only [argsF, Nat.reduceAdd]
  repeat' (first
   | refine WPl.nil ?_ | refine WPq.then ?_ | refine WPq.thenR ?_ | refine WPq.thenE ?_ | refine WPq.blockN ?_ | refine WPq.blockR ?_ | refine WPq.blockE ?_ | refine WPq.blockO rfl ?_ | refine WPc.seq ?_ | refine WPc.block ?_ | refine WPc.ret ?_ | refine WPc.exit ?_ | refine WPc.skip ?_ | refine WPc.region ?_
   | (refine isReg 9 ?_; refine WPc.drA [([], [46, 47, 48, 49, 50, 51, 52, 54, 55, 56, 57, 58, 59, 60]), ([], [45, 47, 48, 49, 51, 52, 54, 55, 56, 57, 58, 59, 60]), ([], [45, 46, 48, 51, 52, 54, 55, 56, 57, 58, 59, 60]), ([], [45, 46, 47, 51, 52, 54, 55, 56, 57, 58, 59, 60]), ([2, 3], [45, 46, 47, 48, 51, 52, 54, 55, 56, 57, 58, 59, 60]), ([1, 2, 3, 4], [45, 46, 47, 48, 49, 51, 52, 54, 55, 56, 57, 58, 59, 60]), ([], [45, 46, 47, 48, 49, 50, 54, 55, 56, 57, 58, 59, 60]), ([6], [45, 46, 47, 48, 49, 50, 51, 54, 55, 56, 57, 58, 59, 60]), ([0, 1, 2, 3, 4, 5, 6, 7], [45, 46, 47, 48, 49, 50, 51, 52, 54, 55, 56, 57, 58, 59, 60]), ([], [45, 46, 47, 48, 49, 50, 51, 52, 53, 57, 58, 60, 61]), ([9], [45, 46, 47, 48, 49, 50, 51, 52, 53, 54, 57, 58, 60, 61]), ([9, 10], [45, 46, 47, 48, 49, 50, 51, 52, 53, 54, 55, 57, 58, 60, 61]), ([], [45, 46, 47, 48, 49, 50, 51, 52, 53, 54, 55, 56, 60, 61]), ([12], [45, 46, 47, 48, 49, 50, 51, 52, 53, 54, 55, 56, 57, 60, 61]), ([9, 10, 11, 12, 13], [45, 46, 47, 48, 49, 50, 51, 52, 53, 54, 55, 56, 57, 58, 60, 61]), ([], [45, 46, 47, 48, 49, 50, 51, 52, 53, 54, 55, 56, 57, 58, 59]), ([0, 1, 2, 3, 4, 5, 6, 7, 8, 15], [45, 46, 47, 48, 49, 50, 51, 52, 53, 54, 55, 56, 57, 58, 59, 60]), ([0, 1, 2, 3, 4, 5, 6, 7, 8, 9, 10, 11, 12, 13, 14, 15, 16], [45, 46, 47, 48, 49, 50, 51, 52, 53, 54, 55, 56, 57, 58, 59, 60, 61]), ([0, 1, 2, 3, 4, 5, 6, 7, 8, 9, 10, 11, 12, 13, 14, 15, 16, 17], [45, 46, 47, 48, 49, 50, 51, 52, 53, 54, 55, 56, 57, 58, 59, 60, 61, 62])] [] (Γx := []) ?_; dsimp only [prev0, List.length_nil, List.length_cons])
   | (refine gAny ?_; first | (refine gC 20 ?_; refine RGl.vl (fun e hk => OpT.callN (c1)) ?_) | (refine gC 28 ?_; refine RGl.vl (fun e hk => OpT.callN (c2)) ?_) | (refine gC 52 ?_; refine RGl.row (Γ1 := fun _ => []) (fun e hk => OpT.callN (c4)) ?_) | (refine gC 53 ?_; refine RGl.row (Γ1 := fun _ => []) (fun e hk => OpT.callN ((c5 _))) ?_) | (refine gC 61 ?_; refine RGl.row (Γ1 := fun _ => []) (fun e hk => OpT.callN (c6)) ?_) | (refine gC 62 ?_; refine RGl.row (Γ1 := fun _ => []) (fun e hk => OpT.callN ((c7 _ _))) ?_) | (refine gD 36 ?_; refine RGl.rdX (fun e hk => by (try dsimp only [bndR, ensR, oksR, fcutR, List.append_nil, List.nil_append, List.cons_append, List.append_assoc] at hk ⊢); exact ReadR.binE rfl rfl (BinR.neqB (by kernel_rfl)) (congrArg Value.bool (show (!(a.six == true)) = false by rw [hs]; rfl))) ?_) | (refine gD 40 ?_; refine RGl.rdX (fun e hk => by (try dsimp only [bndR, ensR, oksR, fcutR, List.append_nil, List.nil_append, List.cons_append, List.append_assoc] at hk ⊢); exact ReadR.binE rfl rfl BinR.eql (congrArg Value.bool (decide_eq_false (show ¬ (p : Int) = 0 by omega)))) ?_) | (refine gD 50 ?_; refine RGl.rdX (fun e hk => by (try dsimp only [bndR, ensR, oksR, fcutR, List.append_nil, List.nil_append, List.cons_append, List.append_assoc] at hk ⊢); exact ReadR.binE rfl rfl (BinR.addI (by omega) (by omega)) (congrArg (Value.int .i64) (show _ = ((nk true 1 : Nat) : Int) from by first | rfl | (simp [nk]; done) | (simp [nk]; omega)))) ?_) | (refine gD 59 ?_; refine RGl.rdX (fun e hk => by (try dsimp only [bndR, ensR, oksR, fcutR, List.append_nil, List.nil_append, List.cons_append, List.append_assoc] at hk ⊢); exact ReadR.binE rfl rfl (BinR.addI (by omega) (by omega)) (congrArg (Value.int .i64) (show _ = ((k + 2 * 1 : Nat) : Int) from by first | omega | (simp; done) | (simp; omega)))) ?_) | (refine gOp ?_; first | refine RGl.rdA ?_ | refine RGl.rdX (fun e hk => by (try dsimp only [bndR, ensR, oksR, fcutR, List.append_nil, List.nil_append, List.cons_append, List.append_assoc] at hk ⊢); exact readB) ?_) | (refine RGl.fin (fun e hk => ?_); (try dsimp only [bndA, ensAR, oksA, List.append_nil, List.nil_append, List.cons_append, List.append_assoc] at hk ⊢); (repeat (obtain ⟨hk1, hk⟩ := hk))) | fail)
   | (refine isCond ?_; first | refine WPc.cT ?_ | refine WPc.cF ?_ | (refine WPc.cQ (fun hc => ?_) (fun hc => ?_) <;> try exact prA))
   | (refine isD 36 ?_; refine WPl.rdX (ReadR.binE rfl rfl (BinR.neqB (by kernel_rfl)) (congrArg Value.bool (show (!(a.six == true)) = false by rw [hs]; rfl))) ?_)
   | (refine isD 40 ?_; refine WPl.rdX (ReadR.binE rfl rfl BinR.eql (congrArg Value.bool (decide_eq_false (show ¬ (p : Int) = 0 by omega)))) ?_)
   | (refine isC 20 ?_; refine WPl.cV (c1) ?_)
   | (show WPl _ _ _ _ _ _ _ (⟨_, .store 39 (.tmp 10) _, _, _, _, _⟩ :: _) _; refine WPl.stA (new := pkc ⟨⟨true, pr, (k : Int), s1, d1, pt, hp⟩, ⟨sr, ds, fg, (j : Int), true, da⟩, fl⟩) ?_ (ht := by kernel_rfl))
   | (refine isC 28 ?_; refine WPl.cV (c2) ?_)
   | (refine isC 52 ?_; refine WPl.cR (c4) fun v hv => ?_)
   | (refine isC 53 ?_; refine WPl.cR ((c5 _)) fun v hv => ?_)
   | (refine isC 61 ?_; refine WPl.cR (c6) fun v hv => ?_)
   | (refine isC 62 ?_; refine WPl.cR ((c7 _ _)) fun v hv => ?_)
   | (refine isOp ?_; first | refine WPl.rd ?_ | refine WPl.sk ?_ | refine WPl.rdB ?_)
   | (refine isAl ?_; refine WPl.nw fun g => ?_)
   | (refine isBx ?_; refine WPl.nw fun g => ?_)
   | (refine isSt ?_; first | refine WPl.st1 ?_ | refine WPl.stA ?_ | refine WPl.stEB ?_ | refine WPl.stRB ?_)
   | (show WPl _ _ _ _ _ _ _ (⟨_, .indexAddr _ _ _, _, _, _, _⟩ :: _) _; refine WPl.rdX (ReadR.indexE rfl rfl hasA (by first | assumption | omega)) ?_)
   | (show WPl _ _ _ _ _ _ _ (⟨_, .fieldAddr _ _ _, _, _, _, _⟩ :: _) _; refine WPl.rdX (ReadR.fieldE rfl hasA (by first | assumption | omega)) ?_)
   | (show WPl _ _ _ _ _ _ _ (⟨_, .load _ _, _, _, _, _⟩ :: _) _; first | refine WPl.rdX (ReadR.loadE rfl hasA (by assumption)) ?_ | refine WPl.rdX (ReadR.loadES (by assumption) (by first | assumption | omega) rfl hasA) ?_)
   | (show WPl _ _ _ _ _ _ _ (⟨_, .slice _ _ _ _ _, _, _, _, _⟩ :: _) _; first | refine WPl.rdX (ReadR.sliceH rfl rfl hasA (by omega)) ?_ | refine WPl.rdX (ReadR.sliceL rfl rfl hasA (by omega)) ?_ | refine WPl.rdX (ReadR.sliceLH rfl rfl rfl hasA (by omega) (by omega)) ?_)
   | (refine WPl.spQ (fun hc => ?_) (fun hc => ?_) <;> try exact prA)
   | fail)
  all_goals try (first | exact WPq.dTp | exact WPq.dTs | exact WPq.dV | exact WPq.dR | exact WPq.dR2 | exact WPq.dH | exact WPq.dBH | exact WPq.dT)
theorem rrw_t1a (v : Value) (b : List UInt8) (a : Adr) (p : Nat) (pr : UInt8) (k : Nat) (s1 d1 : Adr) (pt : Bool) (hp : UInt8) (sr ds : Nat) (fg : UInt8) (sa : Int) (da : Int) (fl : Fl) (hp1 : p ≤ 65535) (hp0 : p ≠ 0) (hl : b.length ≤ 100000) (he : pkVal b = .tuple #[ag (pkc ⟨⟨true, pr, (k : Int), s1, d1, pt, hp⟩, ⟨sr, ds, fg, sa, false, da⟩, fl⟩), .int .i64 0])
    (hg : a.good = true) (hs : a.six = true) (hj : sa = (sj ⟨true, pr, (k : Int), s1, d1, pt, hp⟩ : Int)) (hk2 : k + sj ⟨true, pr, (k : Int), s1, d1, pt, hp⟩ + 2 ≤ b.length) (hk20 : 20 ≤ k) (hnk : nk true 1 + a.bytes.length ≤ b.length) (hc : rsC (lay (q1 b ⟨true, pr, (k : Int), s1, d1, pt, hp⟩ 1 a p (rs1 b ⟨true, pr, (k : Int), s1, d1, pt, hp⟩ 1 a p)) ((Hd.mk true pr (k : Int) s1 d1 pt hp).pos.toNat + sj ⟨true, pr, (k : Int), s1, d1, pt, hp⟩) (twoB 0)) (hdA ⟨true, pr, (k : Int), s1, d1, pt, hp⟩ 1 a) = 0 ∧ pr.toNat = 17) :
    Triple Try.prog 7 #[v, .int .i64 1, ag (adc a), .int .u16 (p : Int)] [rb v b] (RW (r5 b ⟨true, pr, (k : Int), s1, d1, pt, hp⟩ false 1 a p) 0) := by
  have c1 := rparse_t v b hl
  rw [he] at c1
  have c2 := rgood_t a
  rw [hg] at c2
  have c4 := rbytes_t a
  have la := a.len
  have ls := s1.len
  have ld := d1.len
  have lf1 := fl.src.len
  have lf2 := fl.dst.len
  have hpr := pr.toNat_lt
  obtain ⟨j, hjj⟩ : ∃ j, j = sj ⟨true, pr, (k : Int), s1, d1, pt, hp⟩ := ⟨_, rfl⟩
  have hj6 := sj_ge ⟨true, pr, (k : Int), s1, d1, pt, hp⟩
  rw [← hjj] at hj hk2 hj6
  subst hj
  have hbl := a.bytes_len
  rw [hs] at hbl
  have t : ∀ n, (twoB n).length = 2 := fun n => rfl
  have t0 : ([0, 0] : List UInt8).length = 2 := rfl
  have c5 := fun v1 => rlay_t v v1 b a.bytes (nk true 1) hnk hl
  have l1 : (lay b (nk true 1) a.bytes).length = b.length := lay_length hnk
  have c6 := rtwo_t p hp1
  have c7 := fun v1 v2 => rlay_t v1 v2 (lay b (nk true 1) a.bytes) (twoB p) (k + 2 * 1) (by rw [l1, t]; omega) (by omega)
  have eC : lay (lay b (nk true 1) a.bytes) (k + 2 * 1) (twoB p) = core b ⟨true, pr, (k : Int), s1, d1, pt, hp⟩ 1 a p := by unfold core; rfl
  have l2 : (core b ⟨true, pr, (k : Int), s1, d1, pt, hp⟩ 1 a p).length = b.length := by rw [← eC, lay_length (by rw [l1, t]; omega), l1]
  rw [eC] at c7
  unfold r5
  unfold rs1 q1 at hc ⊢
  show Triple _ _ _ _ (RW (q2 _ _ false (rs2 (lay _ (k + sj _) (twoB 0)) _)) 0)
  rw [← hjj] at hc ⊢
  rw [show hdA ⟨true, pr, (k : Int), s1, d1, pt, hp⟩ 1 a = ⟨true, pr, (k : Int), s1, a, pt, hp⟩ from rfl] at hc ⊢
  simp only [show (Hd.mk true pr (k : Int) s1 d1 pt hp).pos.toNat = k from rfl, show (Hd.mk true pr (k : Int) s1 d1 pt hp).six = true from rfl] at hc ⊢
  rw [show twoB 0 = [0, 0] from rfl] at hc ⊢
  try simp only [if_true] at hc ⊢
  generalize core b ⟨true, pr, (k : Int), s1, d1, pt, hp⟩ 1 a p = C at *
  have lC : C.length = b.length := l2
  generalize lay b (nk true 1) a.bytes = L1 at *
  generalize hn : a.bytes.length = n at *
  generalize twoB p = T1 at *
  generalize a.bytes = ab at *
  unfold q2
  rw [if_neg (by decide)]
  dsimp only
  rw [← hjj]
  rw [show twoB 0 = [0, 0] from rfl]
  simp only [show (k : Int).toNat = k from rfl]
  have c12 := fun v1 v2 => rlay_t v1 v2 C [0, 0] (k + j) (by rw [lC, t0]; omega) (by omega)
  have lD : (lay C (k + j) [0, 0]).length = b.length := by rw [lay_length (by rw [lC, t0]; omega), lC]
  generalize lay C (k + j) [0, 0] = D at *
  unfold rs2
  unfold rsC at hc ⊢
  dsimp only at hc ⊢
  simp only [show (k : Int).toNat = k from rfl] at hc ⊢
  have c13 := rpseudo_t ⟨true, pr, (k : Int), s1, a, pt, hp⟩ ((D.length - k : Nat) : Int) (D.length - k) (by rw [IntKind.wrap_u64]; omega) (by omega)
  have hps := psu_len ⟨true, pr, (k : Int), s1, a, pt, hp⟩ (D.length - k)
  have c14 := fun v1 => rsum_t v1 (psu ⟨true, pr, (k : Int), s1, a, pt, hp⟩ (D.length - k) ++ seg D k (D.length - k)) (by rw [List.length_append, seg_length (by omega)]; omega)
  have hS := csum_le (psu ⟨true, pr, (k : Int), s1, a, pt, hp⟩ (D.length - k) ++ seg D k (D.length - k))
  have hsl2 : (seg D k (D.length - k)).length = D.length - k := seg_length (by omega)
  generalize psu ⟨true, pr, (k : Int), s1, a, pt, hp⟩ (D.length - k) = ps at *
  generalize csum (ps ++ seg D k (D.length - k)) = S2 at *
  obtain ⟨hc1, hc2⟩ := hc
  rw [if_pos ⟨hc1, hc2⟩]
  have c15 := rtwo_t 65535 (by omega)
  have c16 := fun v1 v2 => rlay_t v1 v2 D (twoB 65535) (k + j) (by rw [lD, t]; omega) (by omega)
  generalize twoB 65535 = T2 at *
  refine Triple.enter Try.func7 rfl Try.ntmps7 rfl (fun W => ?_)
  dsimp only [argsF, Nat.reduceAdd]
  repeat' (first
   | refine WPl.nil ?_ | refine WPq.then ?_ | refine WPq.thenR ?_ | refine WPq.thenE ?_ | refine WPq.blockN ?_ | refine WPq.blockR ?_ | refine WPq.blockE ?_ | refine WPq.blockO rfl ?_ | refine WPc.seq ?_ | refine WPc.block ?_ | refine WPc.ret ?_ | refine WPc.exit ?_ | refine WPc.skip ?_ | refine WPc.region ?_
   | (refine isReg 9 ?_; refine WPc.drA [([], [46, 47, 48, 49, 50, 51, 52, 54, 55, 56, 57, 58, 59, 60]), ([], [45, 47, 48, 49, 51, 52, 54, 55, 56, 57, 58, 59, 60]), ([], [45, 46, 48, 51, 52, 54, 55, 56, 57, 58, 59, 60]), ([], [45, 46, 47, 51, 52, 54, 55, 56, 57, 58, 59, 60]), ([2, 3], [45, 46, 47, 48, 51, 52, 54, 55, 56, 57, 58, 59, 60]), ([1, 2, 3, 4], [45, 46, 47, 48, 49, 51, 52, 54, 55, 56, 57, 58, 59, 60]), ([], [45, 46, 47, 48, 49, 50, 54, 55, 56, 57, 58, 59, 60]), ([6], [45, 46, 47, 48, 49, 50, 51, 54, 55, 56, 57, 58, 59, 60]), ([0, 1, 2, 3, 4, 5, 6, 7], [45, 46, 47, 48, 49, 50, 51, 52, 54, 55, 56, 57, 58, 59, 60]), ([], [45, 46, 47, 48, 49, 50, 51, 52, 53, 57, 58, 60, 61]), ([9], [45, 46, 47, 48, 49, 50, 51, 52, 53, 54, 57, 58, 60, 61]), ([9, 10], [45, 46, 47, 48, 49, 50, 51, 52, 53, 54, 55, 57, 58, 60, 61]), ([], [45, 46, 47, 48, 49, 50, 51, 52, 53, 54, 55, 56, 60, 61]), ([12], [45, 46, 47, 48, 49, 50, 51, 52, 53, 54, 55, 56, 57, 60, 61]), ([9, 10, 11, 12, 13], [45, 46, 47, 48, 49, 50, 51, 52, 53, 54, 55, 56, 57, 58, 60, 61]), ([], [45, 46, 47, 48, 49, 50, 51, 52, 53, 54, 55, 56, 57, 58, 59]), ([0, 1, 2, 3, 4, 5, 6, 7, 8, 15], [45, 46, 47, 48, 49, 50, 51, 52, 53, 54, 55, 56, 57, 58, 59, 60]), ([0, 1, 2, 3, 4, 5, 6, 7, 8, 9, 10, 11, 12, 13, 14, 15, 16], [45, 46, 47, 48, 49, 50, 51, 52, 53, 54, 55, 56, 57, 58, 59, 60, 61]), ([0, 1, 2, 3, 4, 5, 6, 7, 8, 9, 10, 11, 12, 13, 14, 15, 16, 17], [45, 46, 47, 48, 49, 50, 51, 52, 53, 54, 55, 56, 57, 58, 59, 60, 61, 62])] [] (Γx := []) ?_; dsimp only [prev0, List.length_nil, List.length_cons])
   | (refine isReg 15 ?_; refine WPc.drA [([], [15, 84, 85, 86, 87, 88, 89, 90]), ([0], [15, 82, 84, 85, 86, 87, 88, 89, 90]), ([], [15, 82, 83, 87, 88, 89]), ([2], [15, 82, 83, 84, 87, 88, 89]), ([2, 3], [15, 82, 83, 84, 85, 87, 88, 89]), ([], [15, 82, 83, 84, 85, 86]), ([5], [15, 82, 83, 84, 85, 86, 87]), ([5, 6], [15, 82, 83, 84, 85, 86, 87, 88]), ([2, 3, 4, 5, 6, 7], [15, 82, 83, 84, 85, 86, 87, 88, 89]), ([], [82, 83, 84, 85, 86, 87, 88, 89, 90]), ([0, 1, 9], [15, 82, 83, 84, 85, 86, 87, 88, 89, 90]), ([0, 1, 2, 3, 4, 5, 6, 7, 8, 9, 10], [15, 82, 83, 84, 85, 86, 87, 88, 89, 90])] [(9, 10)] (Γx := []) ?_; dsimp only [prev0, List.length_nil, List.length_cons])
   | (refine isReg 20 ?_; refine WPc.drA [([], [102, 103, 104, 105, 106, 108, 109, 110, 111]), ([], [101, 104, 105, 108, 109, 110, 111]), ([1], [101, 102, 104, 105, 108, 109, 110, 111]), ([], [101, 102, 103, 108, 109, 110, 111]), ([3], [101, 102, 103, 104, 108, 109, 110, 111]), ([1, 2, 3, 4], [101, 102, 103, 104, 105, 108, 109, 110, 111]), ([0, 1, 2, 3, 4, 5], [101, 102, 103, 104, 105, 106, 108, 109, 110, 111]), ([], [101, 102, 103, 104, 105, 106, 107, 109, 110]), ([], [101, 102, 103, 104, 105, 106, 107, 108]), ([8], [101, 102, 103, 104, 105, 106, 107, 108, 109]), ([7, 8, 9], [101, 102, 103, 104, 105, 106, 107, 108, 109, 110]), ([0, 1, 2, 3, 4, 5, 6, 7, 8, 9, 10], [101, 102, 103, 104, 105, 106, 107, 108, 109, 110, 111]), ([0, 1, 2, 3, 4, 5, 6, 7, 8, 9, 10, 11], [101, 102, 103, 104, 105, 106, 107, 108, 109, 110, 111, 112]), ([0, 1, 2, 3, 4, 5, 6, 7, 8, 9, 10, 11, 12], [101, 102, 103, 104, 105, 106, 107, 108, 109, 110, 111, 112, 113])] [(6, 11)] (Γx := []) ?_; dsimp only [prev0, List.length_nil, List.length_cons])
   | (refine gAny ?_; first | (refine gC 20 ?_; refine RGl.vl (fun e hk => OpT.callN (c1)) ?_) | (refine gC 28 ?_; refine RGl.vl (fun e hk => OpT.callN (c2)) ?_) | (refine gC 52 ?_; refine RGl.row (Γ1 := fun _ => []) (fun e hk => OpT.callN (c4)) ?_) | (refine gC 53 ?_; refine RGl.row (Γ1 := fun _ => []) (fun e hk => OpT.callN ((c5 _))) ?_) | (refine gC 61 ?_; refine RGl.row (Γ1 := fun _ => []) (fun e hk => OpT.callN (c6)) ?_) | (refine gC 62 ?_; refine RGl.row (Γ1 := fun _ => []) (fun e hk => OpT.callN ((c7 _ _))) ?_) | (refine gC 100 ?_; refine RGl.row (Γ1 := fun _ => []) (fun e hk => OpT.callN ((c12 _ _))) ?_) | (refine gC 107 ?_; refine RGl.row (Γ1 := fun _ => []) (fun e hk => OpT.callN (c13)) ?_) | (refine gC 113 ?_; refine RGl.vl (fun e hk => OpT.callN ((c14 _))) ?_) | (refine gC 124 ?_; refine RGl.row (Γ1 := fun _ => []) (fun e hk => OpT.callN (c15)) ?_) | (refine gC 125 ?_; refine RGl.row (Γ1 := fun _ => []) (fun e hk => OpT.callN ((c16 _ _))) ?_) | (refine gD 36 ?_; refine RGl.rdX (fun e hk => by (try dsimp only [bndR, ensR, oksR, fcutR, List.append_nil, List.nil_append, List.cons_append, List.append_assoc] at hk ⊢); exact ReadR.binE rfl rfl (BinR.neqB (by kernel_rfl)) (congrArg Value.bool (show (!(a.six == true)) = false by rw [hs]; rfl))) ?_) | (refine gD 40 ?_; refine RGl.rdX (fun e hk => by (try dsimp only [bndR, ensR, oksR, fcutR, List.append_nil, List.nil_append, List.cons_append, List.append_assoc] at hk ⊢); exact ReadR.binE rfl rfl BinR.eql (congrArg Value.bool (decide_eq_false (show ¬ (p : Int) = 0 by omega)))) ?_) | (refine gD 50 ?_; refine RGl.rdX (fun e hk => by (try dsimp only [bndR, ensR, oksR, fcutR, List.append_nil, List.nil_append, List.cons_append, List.append_assoc] at hk ⊢); exact ReadR.binE rfl rfl (BinR.addI (by omega) (by omega)) (congrArg (Value.int .i64) (show _ = ((nk true 1 : Nat) : Int) from by first | rfl | (simp [nk]; done) | (simp [nk]; omega)))) ?_) | (refine gD 59 ?_; refine RGl.rdX (fun e hk => by (try dsimp only [bndR, ensR, oksR, fcutR, List.append_nil, List.nil_append, List.cons_append, List.append_assoc] at hk ⊢); exact ReadR.binE rfl rfl (BinR.addI (by omega) (by omega)) (congrArg (Value.int .i64) (show _ = ((k + 2 * 1 : Nat) : Int) from by first | omega | (simp; done) | (simp; omega)))) ?_) | (refine gD 90 ?_; refine RGl.rdX (fun e hk => by (try dsimp only [bndR, ensR, oksR, fcutR, List.append_nil, List.nil_append, List.cons_append, List.append_assoc] at hk ⊢); exact ReadR.binE rfl rfl (BinR.addI (by omega) (by omega)) (congrArg (Value.int .i64) (show _ = ((k + j : Nat) : Int) from by omega))) ?_) | (refine gD 106 ?_; refine RGl.rdX (fun e hk => by (try dsimp only [bndR, ensR, oksR, fcutR, List.append_nil, List.nil_append, List.cons_append, List.append_assoc] at hk ⊢); exact ReadR.binE rfl rfl (BinR.subI (by omega) (by omega)) (congrArg (Value.int .i64) (show _ = ((D.length - k : Nat) : Int) from by omega))) ?_) | ((show RGl _ _ _ _ _ _ _ _ (⟨_, .store _ (.tmp 15) _, _, _, _, _⟩ :: _) _ _; refine RGl.turn (fun e hk => by (try dsimp only [bndR, ensR, oksR, fcutR, List.append_nil, List.nil_append, List.cons_append, List.append_assoc] at hk ⊢); exact OpT.storeA (cs' := hdc ⟨true, pr, (k : Int), s1, d1, pt, hp⟩) rfl rfl takesA fokA (by kernel_rfl) (by kernel_rfl)) ?_)) | (refine gD 115 ?_; refine RGl.rdX (fun e hk => by (try dsimp only [bndR, ensR, oksR, fcutR, List.append_nil, List.nil_append, List.cons_append, List.append_assoc] at hk ⊢); exact ReadR.binE rfl rfl BinR.eql (congrArg Value.bool (decide_eq_true (show ((S2 : Nat) : Int) = 0 by omega)))) ?_) | (refine gD 119 ?_; refine RGl.rdX (fun e hk => by (try dsimp only [bndR, ensR, oksR, fcutR, List.append_nil, List.nil_append, List.cons_append, List.append_assoc] at hk ⊢); exact ReadR.binE rfl rfl BinR.eql (congrArg Value.bool (decide_eq_true (show ((pr.toNat : Nat) : Int) = 17 by omega)))) ?_) | (refine gOp ?_; first | refine RGl.rdA ?_ | refine RGl.rdX (fun e hk => by (try dsimp only [bndR, ensR, oksR, fcutR, List.append_nil, List.nil_append, List.cons_append, List.append_assoc] at hk ⊢); exact readB) ?_) | (refine gAl ?_; refine RGl.nwA ?_) | (refine gApp ?_; refine RGl.appA ?_) | (refine gSt ?_; refine RGl.stA ?_) | (refine RGl.fin (fun e hk => ?_); (try dsimp only [bndA, ensAR, oksA, List.append_nil, List.nil_append, List.cons_append, List.append_assoc] at hk ⊢); (repeat (obtain ⟨hk1, hk⟩ := hk))) | fail)
   | (refine isCond ?_; first | refine WPc.cT ?_ | refine WPc.cF ?_ | (refine WPc.cQ (fun hc => ?_) (fun hc => ?_) <;> try exact prA))
   | (refine isD 36 ?_; refine WPl.rdX (ReadR.binE rfl rfl (BinR.neqB (by kernel_rfl)) (congrArg Value.bool (show (!(a.six == true)) = false by rw [hs]; rfl))) ?_)
   | (refine isD 40 ?_; refine WPl.rdX (ReadR.binE rfl rfl BinR.eql (congrArg Value.bool (decide_eq_false (show ¬ (p : Int) = 0 by omega)))) ?_)
   | (refine isC 20 ?_; refine WPl.cV (c1) ?_)
   | (show WPl _ _ _ _ _ _ _ (⟨_, .store 39 (.tmp 10) _, _, _, _, _⟩ :: _) _; refine WPl.stA (new := pkc ⟨⟨true, pr, (k : Int), s1, d1, pt, hp⟩, ⟨sr, ds, fg, (j : Int), false, da⟩, fl⟩) ?_ (ht := by kernel_rfl))
   | (refine isC 28 ?_; refine WPl.cV (c2) ?_)
   | (refine isC 52 ?_; refine WPl.cR (c4) fun v hv => ?_)
   | (refine isC 53 ?_; refine WPl.cR ((c5 _)) fun v hv => ?_)
   | (refine isC 61 ?_; refine WPl.cR (c6) fun v hv => ?_)
   | (refine isC 62 ?_; refine WPl.cR ((c7 _ _)) fun v hv => ?_)
   | (refine isLit ?_; refine WPl.lit fun v hv => ?_)
   | (refine isC 100 ?_; refine WPl.cR ((c12 _ _)) fun v hv => ?_)
   | (refine isC 107 ?_; refine WPl.cR (c13) fun v hv => ?_)
   | (refine isC 113 ?_; refine WPl.cV ((c14 _)) ?_)
   | (refine isC 124 ?_; refine WPl.cR (c15) fun v hv => ?_)
   | (refine isC 125 ?_; refine WPl.cR ((c16 _ _)) fun v hv => ?_)
   | (refine isD 115 ?_; refine WPl.rdX (ReadR.binE rfl rfl BinR.eql (congrArg Value.bool (decide_eq_true (show ((S2 : Nat) : Int) = 0 by omega)))) ?_)
   | (refine isD 119 ?_; refine WPl.rdX (ReadR.binE rfl rfl BinR.eql (congrArg Value.bool (decide_eq_true (show ((pr.toNat : Nat) : Int) = 17 by omega)))) ?_)
   | (refine isOp ?_; first | refine WPl.rd ?_ | refine WPl.sk ?_ | refine WPl.rdB ?_)
   | (refine isAl ?_; refine WPl.nw fun g => ?_)
   | (refine isBx ?_; refine WPl.nw fun g => ?_)
   | (refine isSt ?_; first | refine WPl.st1 ?_ | refine WPl.stA ?_ | refine WPl.stEB ?_ | refine WPl.stRB ?_)
   | (show WPl _ _ _ _ _ _ _ (⟨_, .indexAddr _ _ _, _, _, _, _⟩ :: _) _; refine WPl.rdX (ReadR.indexE rfl rfl hasA (by first | assumption | omega)) ?_)
   | (show WPl _ _ _ _ _ _ _ (⟨_, .fieldAddr _ _ _, _, _, _, _⟩ :: _) _; refine WPl.rdX (ReadR.fieldE rfl hasA (by first | assumption | omega)) ?_)
   | (show WPl _ _ _ _ _ _ _ (⟨_, .load _ _, _, _, _, _⟩ :: _) _; first | refine WPl.rdX (ReadR.loadE rfl hasA (by assumption)) ?_ | refine WPl.rdX (ReadR.loadES (by assumption) (by first | assumption | omega) rfl hasA) ?_)
   | (show WPl _ _ _ _ _ _ _ (⟨_, .slice _ _ _ _ _, _, _, _, _⟩ :: _) _; first | refine WPl.rdX (ReadR.sliceH rfl rfl hasA (by omega)) ?_ | refine WPl.rdX (ReadR.sliceL rfl rfl hasA (by omega)) ?_ | refine WPl.rdX (ReadR.sliceLH rfl rfl rfl hasA (by omega) (by omega)) ?_)
   | (refine WPl.spQ (fun hc => ?_) (fun hc => ?_) <;> try exact prA)
   | fail)
  all_goals try (first | exact WPq.dTp | exact WPq.dTs | exact WPq.dV | exact WPq.dR | exact WPq.dR2 | exact WPq.dH | exact WPq.dBH | exact WPq.dT)
theorem rrw_t1b (v : Value) (b : List UInt8) (a : Adr) (p : Nat) (pr : UInt8) (k : Nat) (s1 d1 : Adr) (pt : Bool) (hp : UInt8) (sr ds : Nat) (fg : UInt8) (sa : Int) (da : Int) (fl : Fl) (hp1 : p ≤ 65535) (hp0 : p ≠ 0) (hl : b.length ≤ 100000) (he : pkVal b = .tuple #[ag (pkc ⟨⟨true, pr, (k : Int), s1, d1, pt, hp⟩, ⟨sr, ds, fg, sa, false, da⟩, fl⟩), .int .i64 0])
    (hg : a.good = true) (hs : a.six = true) (hj : sa = (sj ⟨true, pr, (k : Int), s1, d1, pt, hp⟩ : Int)) (hk2 : k + sj ⟨true, pr, (k : Int), s1, d1, pt, hp⟩ + 2 ≤ b.length) (hk20 : 20 ≤ k) (hnk : nk true 1 + a.bytes.length ≤ b.length) (hc : rsC (lay (q1 b ⟨true, pr, (k : Int), s1, d1, pt, hp⟩ 1 a p (rs1 b ⟨true, pr, (k : Int), s1, d1, pt, hp⟩ 1 a p)) ((Hd.mk true pr (k : Int) s1 d1 pt hp).pos.toNat + sj ⟨true, pr, (k : Int), s1, d1, pt, hp⟩) (twoB 0)) (hdA ⟨true, pr, (k : Int), s1, d1, pt, hp⟩ 1 a) = 0 ∧ ¬ pr.toNat = 17) :
    Triple Try.prog 7 #[v, .int .i64 1, ag (adc a), .int .u16 (p : Int)] [rb v b] (RW (r5 b ⟨true, pr, (k : Int), s1, d1, pt, hp⟩ false 1 a p) 0) := by
  have c1 := rparse_t v b hl
  rw [he] at c1
  have c2 := rgood_t a
  rw [hg] at c2
  have c4 := rbytes_t a
  have la := a.len
  have ls := s1.len
  have ld := d1.len
  have lf1 := fl.src.len
  have lf2 := fl.dst.len
  have hpr := pr.toNat_lt
  obtain ⟨j, hjj⟩ : ∃ j, j = sj ⟨true, pr, (k : Int), s1, d1, pt, hp⟩ := ⟨_, rfl⟩
  have hj6 := sj_ge ⟨true, pr, (k : Int), s1, d1, pt, hp⟩
  rw [← hjj] at hj hk2 hj6
  subst hj
  have hbl := a.bytes_len
  rw [hs] at hbl
  have t : ∀ n, (twoB n).length = 2 := fun n => rfl
  have t0 : ([0, 0] : List UInt8).length = 2 := rfl
  have c5 := fun v1 => rlay_t v v1 b a.bytes (nk true 1) hnk hl
  have l1 : (lay b (nk true 1) a.bytes).length = b.length := lay_length hnk
  have c6 := rtwo_t p hp1
  have c7 := fun v1 v2 => rlay_t v1 v2 (lay b (nk true 1) a.bytes) (twoB p) (k + 2 * 1) (by rw [l1, t]; omega) (by omega)
  have eC : lay (lay b (nk true 1) a.bytes) (k + 2 * 1) (twoB p) = core b ⟨true, pr, (k : Int), s1, d1, pt, hp⟩ 1 a p := by unfold core; rfl
  have l2 : (core b ⟨true, pr, (k : Int), s1, d1, pt, hp⟩ 1 a p).length = b.length := by rw [← eC, lay_length (by rw [l1, t]; omega), l1]
  rw [eC] at c7
  unfold r5
  unfold rs1 q1 at hc ⊢
  show Triple _ _ _ _ (RW (q2 _ _ false (rs2 (lay _ (k + sj _) (twoB 0)) _)) 0)
  rw [← hjj] at hc ⊢
  rw [show hdA ⟨true, pr, (k : Int), s1, d1, pt, hp⟩ 1 a = ⟨true, pr, (k : Int), s1, a, pt, hp⟩ from rfl] at hc ⊢
  simp only [show (Hd.mk true pr (k : Int) s1 d1 pt hp).pos.toNat = k from rfl, show (Hd.mk true pr (k : Int) s1 d1 pt hp).six = true from rfl] at hc ⊢
  rw [show twoB 0 = [0, 0] from rfl] at hc ⊢
  try simp only [if_true] at hc ⊢
  generalize core b ⟨true, pr, (k : Int), s1, d1, pt, hp⟩ 1 a p = C at *
  have lC : C.length = b.length := l2
  generalize lay b (nk true 1) a.bytes = L1 at *
  generalize hn : a.bytes.length = n at *
  generalize twoB p = T1 at *
  generalize a.bytes = ab at *
  unfold q2
  rw [if_neg (by decide)]
  dsimp only
  rw [← hjj]
  rw [show twoB 0 = [0, 0] from rfl]
  simp only [show (k : Int).toNat = k from rfl]
  have c12 := fun v1 v2 => rlay_t v1 v2 C [0, 0] (k + j) (by rw [lC, t0]; omega) (by omega)
  have lD : (lay C (k + j) [0, 0]).length = b.length := by rw [lay_length (by rw [lC, t0]; omega), lC]
  generalize lay C (k + j) [0, 0] = D at *
  unfold rs2
  unfold rsC at hc ⊢
  dsimp only at hc ⊢
  simp only [show (k : Int).toNat = k from rfl] at hc ⊢
  have c13 := rpseudo_t ⟨true, pr, (k : Int), s1, a, pt, hp⟩ ((D.length - k : Nat) : Int) (D.length - k) (by rw [IntKind.wrap_u64]; omega) (by omega)
  have hps := psu_len ⟨true, pr, (k : Int), s1, a, pt, hp⟩ (D.length - k)
  have c14 := fun v1 => rsum_t v1 (psu ⟨true, pr, (k : Int), s1, a, pt, hp⟩ (D.length - k) ++ seg D k (D.length - k)) (by rw [List.length_append, seg_length (by omega)]; omega)
  have hS := csum_le (psu ⟨true, pr, (k : Int), s1, a, pt, hp⟩ (D.length - k) ++ seg D k (D.length - k))
  have hsl2 : (seg D k (D.length - k)).length = D.length - k := seg_length (by omega)
  generalize psu ⟨true, pr, (k : Int), s1, a, pt, hp⟩ (D.length - k) = ps at *
  generalize csum (ps ++ seg D k (D.length - k)) = S2 at *
  obtain ⟨hc1, hc2⟩ := hc
  rw [if_neg (fun h => hc2 h.2)]
  have c15 := rtwo_t S2 (by omega)
  have c16 := fun v1 v2 => rlay_t v1 v2 D (twoB S2) (k + j) (by rw [lD, t]; omega) (by omega)
  generalize twoB S2 = T2 at *
  refine Triple.enter Try.func7 rfl Try.ntmps7 rfl (fun W => ?_)
  dsimp only [argsF, Nat.reduceAdd]
  repeat' (first
   | refine WPl.nil ?_ | refine WPq.then ?_ | refine WPq.thenR ?_ | refine WPq.thenE ?_ | refine WPq.blockN ?_ | refine WPq.blockR ?_ | refine WPq.blockE ?_ | refine WPq.blockO rfl ?_ | refine WPc.seq ?_ | refine WPc.block ?_ | refine WPc.ret ?_ | refine WPc.exit ?_ | refine WPc.skip ?_ | refine WPc.region ?_
   | (refine isReg 9 ?_; refine WPc.drA [([], [46, 47, 48, 49, 50, 51, 52, 54, 55, 56, 57, 58, 59, 60]), ([], [45, 47, 48, 49, 51, 52, 54, 55, 56, 57, 58, 59, 60]), ([], [45, 46, 48, 51, 52, 54, 55, 56, 57, 58, 59, 60]), ([], [45, 46, 47, 51, 52, 54, 55, 56, 57, 58, 59, 60]), ([2, 3], [45, 46, 47, 48, 51, 52, 54, 55, 56, 57, 58, 59, 60]), ([1, 2, 3, 4], [45, 46, 47, 48, 49, 51, 52, 54, 55, 56, 57, 58, 59, 60]), ([], [45, 46, 47, 48, 49, 50, 54, 55, 56, 57, 58, 59, 60]), ([6], [45, 46, 47, 48, 49, 50, 51, 54, 55, 56, 57, 58, 59, 60]), ([0, 1, 2, 3, 4, 5, 6, 7], [45, 46, 47, 48, 49, 50, 51, 52, 54, 55, 56, 57, 58, 59, 60]), ([], [45, 46, 47, 48, 49, 50, 51, 52, 53, 57, 58, 60, 61]), ([9], [45, 46, 47, 48, 49, 50, 51, 52, 53, 54, 57, 58, 60, 61]), ([9, 10], [45, 46, 47, 48, 49, 50, 51, 52, 53, 54, 55, 57, 58, 60, 61]), ([], [45, 46, 47, 48, 49, 50, 51, 52, 53, 54, 55, 56, 60, 61]), ([12], [45, 46, 47, 48, 49, 50, 51, 52, 53, 54, 55, 56, 57, 60, 61]), ([9, 10, 11, 12, 13], [45, 46, 47, 48, 49, 50, 51, 52, 53, 54, 55, 56, 57, 58, 60, 61]), ([], [45, 46, 47, 48, 49, 50, 51, 52, 53, 54, 55, 56, 57, 58, 59]), ([0, 1, 2, 3, 4, 5, 6, 7, 8, 15], [45, 46, 47, 48, 49, 50, 51, 52, 53, 54, 55, 56, 57, 58, 59, 60]), ([0, 1, 2, 3, 4, 5, 6, 7, 8, 9, 10, 11, 12, 13, 14, 15, 16], [45, 46, 47, 48, 49, 50, 51, 52, 53, 54, 55, 56, 57, 58, 59, 60, 61]), ([0, 1, 2, 3, 4, 5, 6, 7, 8, 9, 10, 11, 12, 13, 14, 15, 16, 17], [45, 46, 47, 48, 49, 50, 51, 52, 53, 54, 55, 56, 57, 58, 59, 60, 61, 62])] [] (Γx := []) ?_; dsimp only [prev0, List.length_nil, List.length_cons])
   | (refine isReg 15 ?_; refine WPc.drA [([], [15, 84, 85, 86, 87, 88, 89, 90]), ([0], [15, 82, 84, 85, 86, 87, 88, 89, 90]), ([], [15, 82, 83, 87, 88, 89]), ([2], [15, 82, 83, 84, 87, 88, 89]), ([2, 3], [15, 82, 83, 84, 85, 87, 88, 89]), ([], [15, 82, 83, 84, 85, 86]), ([5], [15, 82, 83, 84, 85, 86, 87]), ([5, 6], [15, 82, 83, 84, 85, 86, 87, 88]), ([2, 3, 4, 5, 6, 7], [15, 82, 83, 84, 85, 86, 87, 88, 89]), ([], [82, 83, 84, 85, 86, 87, 88, 89, 90]), ([0, 1, 9], [15, 82, 83, 84, 85, 86, 87, 88, 89, 90]), ([0, 1, 2, 3, 4, 5, 6, 7, 8, 9, 10], [15, 82, 83, 84, 85, 86, 87, 88, 89, 90])] [(9, 10)] (Γx := []) ?_; dsimp only [prev0, List.length_nil, List.length_cons])
   | (refine isReg 20 ?_; refine WPc.drA [([], [102, 103, 104, 105, 106, 108, 109, 110, 111]), ([], [101, 104, 105, 108, 109, 110, 111]), ([1], [101, 102, 104, 105, 108, 109, 110, 111]), ([], [101, 102, 103, 108, 109, 110, 111]), ([3], [101, 102, 103, 104, 108, 109, 110, 111]), ([1, 2, 3, 4], [101, 102, 103, 104, 105, 108, 109, 110, 111]), ([0, 1, 2, 3, 4, 5], [101, 102, 103, 104, 105, 106, 108, 109, 110, 111]), ([], [101, 102, 103, 104, 105, 106, 107, 109, 110]), ([], [101, 102, 103, 104, 105, 106, 107, 108]), ([8], [101, 102, 103, 104, 105, 106, 107, 108, 109]), ([7, 8, 9], [101, 102, 103, 104, 105, 106, 107, 108, 109, 110]), ([0, 1, 2, 3, 4, 5, 6, 7, 8, 9, 10], [101, 102, 103, 104, 105, 106, 107, 108, 109, 110, 111]), ([0, 1, 2, 3, 4, 5, 6, 7, 8, 9, 10, 11], [101, 102, 103, 104, 105, 106, 107, 108, 109, 110, 111, 112]), ([0, 1, 2, 3, 4, 5, 6, 7, 8, 9, 10, 11, 12], [101, 102, 103, 104, 105, 106, 107, 108, 109, 110, 111, 112, 113])] [(6, 11)] (Γx := []) ?_; dsimp only [prev0, List.length_nil, List.length_cons])
   | (refine gAny ?_; first | (refine gC 20 ?_; refine RGl.vl (fun e hk => OpT.callN (c1)) ?_) | (refine gC 28 ?_; refine RGl.vl (fun e hk => OpT.callN (c2)) ?_) | (refine gC 52 ?_; refine RGl.row (Γ1 := fun _ => []) (fun e hk => OpT.callN (c4)) ?_) | (refine gC 53 ?_; refine RGl.row (Γ1 := fun _ => []) (fun e hk => OpT.callN ((c5 _))) ?_) | (refine gC 61 ?_; refine RGl.row (Γ1 := fun _ => []) (fun e hk => OpT.callN (c6)) ?_) | (refine gC 62 ?_; refine RGl.row (Γ1 := fun _ => []) (fun e hk => OpT.callN ((c7 _ _))) ?_) | (refine gC 100 ?_; refine RGl.row (Γ1 := fun _ => []) (fun e hk => OpT.callN ((c12 _ _))) ?_) | (refine gC 107 ?_; refine RGl.row (Γ1 := fun _ => []) (fun e hk => OpT.callN (c13)) ?_) | (refine gC 113 ?_; refine RGl.vl (fun e hk => OpT.callN ((c14 _))) ?_) | (refine gC 124 ?_; refine RGl.row (Γ1 := fun _ => []) (fun e hk => OpT.callN (c15)) ?_) | (refine gC 125 ?_; refine RGl.row (Γ1 := fun _ => []) (fun e hk => OpT.callN ((c16 _ _))) ?_) | (refine gD 36 ?_; refine RGl.rdX (fun e hk => by (try dsimp only [bndR, ensR, oksR, fcutR, List.append_nil, List.nil_append, List.cons_append, List.append_assoc] at hk ⊢); exact ReadR.binE rfl rfl (BinR.neqB (by kernel_rfl)) (congrArg Value.bool (show (!(a.six == true)) = false by rw [hs]; rfl))) ?_) | (refine gD 40 ?_; refine RGl.rdX (fun e hk => by (try dsimp only [bndR, ensR, oksR, fcutR, List.append_nil, List.nil_append, List.cons_append, List.append_assoc] at hk ⊢); exact ReadR.binE rfl rfl BinR.eql (congrArg Value.bool (decide_eq_false (show ¬ (p : Int) = 0 by omega)))) ?_) | (refine gD 50 ?_; refine RGl.rdX (fun e hk => by (try dsimp only [bndR, ensR, oksR, fcutR, List.append_nil, List.nil_append, List.cons_append, List.append_assoc] at hk ⊢); exact ReadR.binE rfl rfl (BinR.addI (by omega) (by omega)) (congrArg (Value.int .i64) (show _ = ((nk true 1 : Nat) : Int) from by first | rfl | (simp [nk]; done) | (simp [nk]; omega)))) ?_) | (refine gD 59 ?_; refine RGl.rdX (fun e hk => by (try dsimp only [bndR, ensR, oksR, fcutR, List.append_nil, List.nil_append, List.cons_append, List.append_assoc] at hk ⊢); exact ReadR.binE rfl rfl (BinR.addI (by omega) (by omega)) (congrArg (Value.int .i64) (show _ = ((k + 2 * 1 : Nat) : Int) from by first | omega | (simp; done) | (simp; omega)))) ?_) | (refine gD 90 ?_; refine RGl.rdX (fun e hk => by (try dsimp only [bndR, ensR, oksR, fcutR, List.append_nil, List.nil_append, List.cons_append, List.append_assoc] at hk ⊢); exact ReadR.binE rfl rfl (BinR.addI (by omega) (by omega)) (congrArg (Value.int .i64) (show _ = ((k + j : Nat) : Int) from by omega))) ?_) | (refine gD 106 ?_; refine RGl.rdX (fun e hk => by (try dsimp only [bndR, ensR, oksR, fcutR, List.append_nil, List.nil_append, List.cons_append, List.append_assoc] at hk ⊢); exact ReadR.binE rfl rfl (BinR.subI (by omega) (by omega)) (congrArg (Value.int .i64) (show _ = ((D.length - k : Nat) : Int) from by omega))) ?_) | ((show RGl _ _ _ _ _ _ _ _ (⟨_, .store _ (.tmp 15) _, _, _, _, _⟩ :: _) _ _; refine RGl.turn (fun e hk => by (try dsimp only [bndR, ensR, oksR, fcutR, List.append_nil, List.nil_append, List.cons_append, List.append_assoc] at hk ⊢); exact OpT.storeA (cs' := hdc ⟨true, pr, (k : Int), s1, d1, pt, hp⟩) rfl rfl takesA fokA (by kernel_rfl) (by kernel_rfl)) ?_)) | (refine gD 115 ?_; refine RGl.rdX (fun e hk => by (try dsimp only [bndR, ensR, oksR, fcutR, List.append_nil, List.nil_append, List.cons_append, List.append_assoc] at hk ⊢); exact ReadR.binE rfl rfl BinR.eql (congrArg Value.bool (decide_eq_true (show ((S2 : Nat) : Int) = 0 by omega)))) ?_) | (refine gD 119 ?_; refine RGl.rdX (fun e hk => by (try dsimp only [bndR, ensR, oksR, fcutR, List.append_nil, List.nil_append, List.cons_append, List.append_assoc] at hk ⊢); exact ReadR.binE rfl rfl BinR.eql (congrArg Value.bool (decide_eq_false (show ¬ ((pr.toNat : Nat) : Int) = 17 by omega)))) ?_) | (refine gOp ?_; first | refine RGl.rdA ?_ | refine RGl.rdX (fun e hk => by (try dsimp only [bndR, ensR, oksR, fcutR, List.append_nil, List.nil_append, List.cons_append, List.append_assoc] at hk ⊢); exact readB) ?_) | (refine gAl ?_; refine RGl.nwA ?_) | (refine gApp ?_; refine RGl.appA ?_) | (refine gSt ?_; refine RGl.stA ?_) | (refine RGl.fin (fun e hk => ?_); (try dsimp only [bndA, ensAR, oksA, List.append_nil, List.nil_append, List.cons_append, List.append_assoc] at hk ⊢); (repeat (obtain ⟨hk1, hk⟩ := hk))) | fail)
   | (refine isCond ?_; first | refine WPc.cT ?_ | refine WPc.cF ?_ | (refine WPc.cQ (fun hc => ?_) (fun hc => ?_) <;> try exact prA))
   | (refine isD 36 ?_; refine WPl.rdX (ReadR.binE rfl rfl (BinR.neqB (by kernel_rfl)) (congrArg Value.bool (show (!(a.six == true)) = false by rw [hs]; rfl))) ?_)
   | (refine isD 40 ?_; refine WPl.rdX (ReadR.binE rfl rfl BinR.eql (congrArg Value.bool (decide_eq_false (show ¬ (p : Int) = 0 by omega)))) ?_)
   | (refine isC 20 ?_; refine WPl.cV (c1) ?_)
   | (show WPl _ _ _ _ _ _ _ (⟨_, .store 39 (.tmp 10) _, _, _, _, _⟩ :: _) _; refine WPl.stA (new := pkc ⟨⟨true, pr, (k : Int), s1, d1, pt, hp⟩, ⟨sr, ds, fg, (j : Int), false, da⟩, fl⟩) ?_ (ht := by kernel_rfl))
   | (refine isC 28 ?_; refine WPl.cV (c2) ?_)
   | (refine isC 52 ?_; refine WPl.cR (c4) fun v hv => ?_)
   | (refine isC 53 ?_; refine WPl.cR ((c5 _)) fun v hv => ?_)
   | (refine isC 61 ?_; refine WPl.cR (c6) fun v hv => ?_)
   | (refine isC 62 ?_; refine WPl.cR ((c7 _ _)) fun v hv => ?_)
   | (refine isLit ?_; refine WPl.lit fun v hv => ?_)
   | (refine isC 100 ?_; refine WPl.cR ((c12 _ _)) fun v hv => ?_)
   | (refine isC 107 ?_; refine WPl.cR (c13) fun v hv => ?_)
   | (refine isC 113 ?_; refine WPl.cV ((c14 _)) ?_)
   | (refine isC 124 ?_; refine WPl.cR (c15) fun v hv => ?_)
   | (refine isC 125 ?_; refine WPl.cR ((c16 _ _)) fun v hv => ?_)
   | (refine isD 115 ?_; refine WPl.rdX (ReadR.binE rfl rfl BinR.eql (congrArg Value.bool (decide_eq_true (show ((S2 : Nat) : Int) = 0 by omega)))) ?_)
   | (refine isD 119 ?_; refine WPl.rdX (ReadR.binE rfl rfl BinR.eql (congrArg Value.bool (decide_eq_false (show ¬ ((pr.toNat : Nat) : Int) = 17 by omega)))) ?_)
   | (refine isOp ?_; first | refine WPl.rd ?_ | refine WPl.sk ?_ | refine WPl.rdB ?_)
   | (refine isAl ?_; refine WPl.nw fun g => ?_)
   | (refine isBx ?_; refine WPl.nw fun g => ?_)
   | (refine isSt ?_; first | refine WPl.st1 ?_ | refine WPl.stA ?_ | refine WPl.stEB ?_ | refine WPl.stRB ?_)
   | (show WPl _ _ _ _ _ _ _ (⟨_, .indexAddr _ _ _, _, _, _, _⟩ :: _) _; refine WPl.rdX (ReadR.indexE rfl rfl hasA (by first | assumption | omega)) ?_)
   | (show WPl _ _ _ _ _ _ _ (⟨_, .fieldAddr _ _ _, _, _, _, _⟩ :: _) _; refine WPl.rdX (ReadR.fieldE rfl hasA (by first | assumption | omega)) ?_)
   | (show WPl _ _ _ _ _ _ _ (⟨_, .load _ _, _, _, _, _⟩ :: _) _; first | refine WPl.rdX (ReadR.loadE rfl hasA (by assumption)) ?_ | refine WPl.rdX (ReadR.loadES (by assumption) (by first | assumption | omega) rfl hasA) ?_)
   | (show WPl _ _ _ _ _ _ _ (⟨_, .slice _ _ _ _ _, _, _, _, _⟩ :: _) _; first | refine WPl.rdX (ReadR.sliceH rfl rfl hasA (by omega)) ?_ | refine WPl.rdX (ReadR.sliceL rfl rfl hasA (by omega)) ?_ | refine WPl.rdX (ReadR.sliceLH rfl rfl rfl hasA (by omega) (by omega)) ?_)
   | (refine WPl.spQ (fun hc => ?_) (fun hc => ?_) <;> try exact prA)
   | fail)
  all_goals try (first | exact WPq.dTp | exact WPq.dTs | exact WPq.dV | exact WPq.dR | exact WPq.dR2 | exact WPq.dH | exact WPq.dBH | exact WPq.dT)
theorem rrw_t1c (v : Value) (b : List UInt8) (a : Adr) (p : Nat) (pr : UInt8) (k : Nat) (s1 d1 : Adr) (pt : Bool) (hp : UInt8) (sr ds : Nat) (fg : UInt8) (sa : Int) (da : Int) (fl : Fl) (hp1 : p ≤ 65535) (hp0 : p ≠ 0) (hl : b.length ≤ 100000) (he : pkVal b = .tuple #[ag (pkc ⟨⟨true, pr, (k : Int), s1, d1, pt, hp⟩, ⟨sr, ds, fg, sa, false, da⟩, fl⟩), .int .i64 0])
    (hg : a.good = true) (hs : a.six = true) (hj : sa = (sj ⟨true, pr, (k : Int), s1, d1, pt, hp⟩ : Int)) (hk2 : k + sj ⟨true, pr, (k : Int), s1, d1, pt, hp⟩ + 2 ≤ b.length) (hk20 : 20 ≤ k) (hnk : nk true 1 + a.bytes.length ≤ b.length) (hc : ¬ rsC (lay (q1 b ⟨true, pr, (k : Int), s1, d1, pt, hp⟩ 1 a p (rs1 b ⟨true, pr, (k : Int), s1, d1, pt, hp⟩ 1 a p)) ((Hd.mk true pr (k : Int) s1 d1 pt hp).pos.toNat + sj ⟨true, pr, (k : Int), s1, d1, pt, hp⟩) (twoB 0)) (hdA ⟨true, pr, (k : Int), s1, d1, pt, hp⟩ 1 a) = 0 ∧ True) :
    Triple Try.prog 7 #[v, .int .i64 1, ag (adc a), .int .u16 (p : Int)] [rb v b] (RW (r5 b ⟨true, pr, (k : Int), s1, d1, pt, hp⟩ false 1 a p) 0) := by
  have c1 := rparse_t v b hl
  rw [he] at c1
  have c2 := rgood_t a
  rw [hg] at c2
  have c4 := rbytes_t a
  have la := a.len
  have ls := s1.len
  have ld := d1.len
  have lf1 := fl.src.len
  have lf2 := fl.dst.len
  have hpr := pr.toNat_lt
  obtain ⟨j, hjj⟩ : ∃ j, j = sj ⟨true, pr, (k : Int), s1, d1, pt, hp⟩ := ⟨_, rfl⟩
  have hj6 := sj_ge ⟨true, pr, (k : Int), s1, d1, pt, hp⟩
  rw [← hjj] at hj hk2 hj6
  subst hj
  have hbl := a.bytes_len
  rw [hs] at hbl
  have t : ∀ n, (twoB n).length = 2 := fun n => rfl
  have t0 : ([0, 0] : List UInt8).length = 2 := rfl
  have c5 := fun v1 => rlay_t v v1 b a.bytes (nk true 1) hnk hl
  have l1 : (lay b (nk true 1) a.bytes).length = b.length := lay_length hnk
  have c6 := rtwo_t p hp1
  have c7 := fun v1 v2 => rlay_t v1 v2 (lay b (nk true 1) a.bytes) (twoB p) (k + 2 * 1) (by rw [l1, t]; omega) (by omega)
  have eC : lay (lay b (nk true 1) a.bytes) (k + 2 * 1) (twoB p) = core b ⟨true, pr, (k : Int), s1, d1, pt, hp⟩ 1 a p := by unfold core; rfl
  have l2 : (core b ⟨true, pr, (k : Int), s1, d1, pt, hp⟩ 1 a p).length = b.length := by rw [← eC, lay_length (by rw [l1, t]; omega), l1]
  rw [eC] at c7
  unfold r5
  unfold rs1 q1 at hc ⊢
  show Triple _ _ _ _ (RW (q2 _ _ false (rs2 (lay _ (k + sj _) (twoB 0)) _)) 0)
  rw [← hjj] at hc ⊢
  rw [show hdA ⟨true, pr, (k : Int), s1, d1, pt, hp⟩ 1 a = ⟨true, pr, (k : Int), s1, a, pt, hp⟩ from rfl] at hc ⊢
  simp only [show (Hd.mk true pr (k : Int) s1 d1 pt hp).pos.toNat = k from rfl, show (Hd.mk true pr (k : Int) s1 d1 pt hp).six = true from rfl] at hc ⊢
  rw [show twoB 0 = [0, 0] from rfl] at hc ⊢
  try simp only [if_true] at hc ⊢
  generalize core b ⟨true, pr, (k : Int), s1, d1, pt, hp⟩ 1 a p = C at *
  have lC : C.length = b.length := l2
  generalize lay b (nk true 1) a.bytes = L1 at *
  generalize hn : a.bytes.length = n at *
  generalize twoB p = T1 at *
  generalize a.bytes = ab at *
  unfold q2
  rw [if_neg (by decide)]
  dsimp only
  rw [← hjj]
  rw [show twoB 0 = [0, 0] from rfl]
  simp only [show (k : Int).toNat = k from rfl]
  have c12 := fun v1 v2 => rlay_t v1 v2 C [0, 0] (k + j) (by rw [lC, t0]; omega) (by omega)
  have lD : (lay C (k + j) [0, 0]).length = b.length := by rw [lay_length (by rw [lC, t0]; omega), lC]
  generalize lay C (k + j) [0, 0] = D at *
  unfold rs2
  unfold rsC at hc ⊢
  dsimp only at hc ⊢
  simp only [show (k : Int).toNat = k from rfl] at hc ⊢
  have c13 := rpseudo_t ⟨true, pr, (k : Int), s1, a, pt, hp⟩ ((D.length - k : Nat) : Int) (D.length - k) (by rw [IntKind.wrap_u64]; omega) (by omega)
  have hps := psu_len ⟨true, pr, (k : Int), s1, a, pt, hp⟩ (D.length - k)
  have c14 := fun v1 => rsum_t v1 (psu ⟨true, pr, (k : Int), s1, a, pt, hp⟩ (D.length - k) ++ seg D k (D.length - k)) (by rw [List.length_append, seg_length (by omega)]; omega)
  have hS := csum_le (psu ⟨true, pr, (k : Int), s1, a, pt, hp⟩ (D.length - k) ++ seg D k (D.length - k))
  have hsl2 : (seg D k (D.length - k)).length = D.length - k := seg_length (by omega)
  generalize psu ⟨true, pr, (k : Int), s1, a, pt, hp⟩ (D.length - k) = ps at *
  generalize csum (ps ++ seg D k (D.length - k)) = S2 at *
  obtain ⟨hc1, hc2⟩ := hc
  rw [if_neg (fun h => hc1 h.1)]
  have c15 := rtwo_t S2 (by omega)
  have c16 := fun v1 v2 => rlay_t v1 v2 D (twoB S2) (k + j) (by rw [lD, t]; omega) (by omega)
  generalize twoB S2 = T2 at *
  refine Triple.enter Try.func7 rfl Try.ntmps7 rfl (fun W => ?_)
  dsimp only [argsF, Nat.reduceAdd]
  repeat' (first
   | refine WPl.nil ?_ | refine WPq.then ?_ | refine WPq.thenR ?_ | refine WPq.thenE ?_ | refine WPq.blockN ?_ | refine WPq.blockR ?_ | refine WPq.blockE ?_ | refine WPq.blockO rfl ?_ | refine WPc.seq ?_ | refine WPc.block ?_ | refine WPc.ret ?_ | refine WPc.exit ?_ | refine WPc.skip ?_ | refine WPc.region ?_
   | (refine isReg 9 ?_; refine WPc.drA [([], [46, 47, 48, 49, 50, 51, 52, 54, 55, 56, 57, 58, 59, 60]), ([], [45, 47, 48, 49, 51, 52, 54, 55, 56, 57, 58, 59, 60]), ([], [45, 46, 48, 51, 52, 54, 55, 56, 57, 58, 59, 60]), ([], [45, 46, 47, 51, 52, 54, 55, 56, 57, 58, 59, 60]), ([2, 3], [45, 46, 47, 48, 51, 52, 54, 55, 56, 57, 58, 59, 60]), ([1, 2, 3, 4], [45, 46, 47, 48, 49, 51, 52, 54, 55, 56, 57, 58, 59, 60]), ([], [45, 46, 47, 48, 49, 50, 54, 55, 56, 57, 58, 59, 60]), ([6], [45, 46, 47, 48, 49, 50, 51, 54, 55, 56, 57, 58, 59, 60]), ([0, 1, 2, 3, 4, 5, 6, 7], [45, 46, 47, 48, 49, 50, 51, 52, 54, 55, 56, 57, 58, 59, 60]), ([], [45, 46, 47, 48, 49, 50, 51, 52, 53, 57, 58, 60, 61]), ([9], [45, 46, 47, 48, 49, 50, 51, 52, 53, 54, 57, 58, 60, 61]), ([9, 10], [45, 46, 47, 48, 49, 50, 51, 52, 53, 54, 55, 57, 58, 60, 61]), ([], [45, 46, 47, 48, 49, 50, 51, 52, 53, 54, 55, 56, 60, 61]), ([12], [45, 46, 47, 48, 49, 50, 51, 52, 53, 54, 55, 56, 57, 60, 61]), ([9, 10, 11, 12, 13], [45, 46, 47, 48, 49, 50, 51, 52, 53, 54, 55, 56, 57, 58, 60, 61]), ([], [45, 46, 47, 48, 49, 50, 51, 52, 53, 54, 55, 56, 57, 58, 59]), ([0, 1, 2, 3, 4, 5, 6, 7, 8, 15], [45, 46, 47, 48, 49, 50, 51, 52, 53, 54, 55, 56, 57, 58, 59, 60]), ([0, 1, 2, 3, 4, 5, 6, 7, 8, 9, 10, 11, 12, 13, 14, 15, 16], [45, 46, 47, 48, 49, 50, 51, 52, 53, 54, 55, 56, 57, 58, 59, 60, 61]), ([0, 1, 2, 3, 4, 5, 6, 7, 8, 9, 10, 11, 12, 13, 14, 15, 16, 17], [45, 46, 47, 48, 49, 50, 51, 52, 53, 54, 55, 56, 57, 58, 59, 60, 61, 62])] [] (Γx := []) ?_; dsimp only [prev0, List.length_nil, List.length_cons])
   | (refine isReg 15 ?_; refine WPc.drA [([], [15, 84, 85, 86, 87, 88, 89, 90]), ([0], [15, 82, 84, 85, 86, 87, 88, 89, 90]), ([], [15, 82, 83, 87, 88, 89]), ([2], [15, 82, 83, 84, 87, 88, 89]), ([2, 3], [15, 82, 83, 84, 85, 87, 88, 89]), ([], [15, 82, 83, 84, 85, 86]), ([5], [15, 82, 83, 84, 85, 86, 87]), ([5, 6], [15, 82, 83, 84, 85, 86, 87, 88]), ([2, 3, 4, 5, 6, 7], [15, 82, 83, 84, 85, 86, 87, 88, 89]), ([], [82, 83, 84, 85, 86, 87, 88, 89, 90]), ([0, 1, 9], [15, 82, 83, 84, 85, 86, 87, 88, 89, 90]), ([0, 1, 2, 3, 4, 5, 6, 7, 8, 9, 10], [15, 82, 83, 84, 85, 86, 87, 88, 89, 90])] [(9, 10)] (Γx := []) ?_; dsimp only [prev0, List.length_nil, List.length_cons])
   | (refine isReg 20 ?_; refine WPc.drA [([], [102, 103, 104, 105, 106, 108, 109, 110, 111]), ([], [101, 104, 105, 108, 109, 110, 111]), ([1], [101, 102, 104, 105, 108, 109, 110, 111]), ([], [101, 102, 103, 108, 109, 110, 111]), ([3], [101, 102, 103, 104, 108, 109, 110, 111]), ([1, 2, 3, 4], [101, 102, 103, 104, 105, 108, 109, 110, 111]), ([0, 1, 2, 3, 4, 5], [101, 102, 103, 104, 105, 106, 108, 109, 110, 111]), ([], [101, 102, 103, 104, 105, 106, 107, 109, 110]), ([], [101, 102, 103, 104, 105, 106, 107, 108]), ([8], [101, 102, 103, 104, 105, 106, 107, 108, 109]), ([7, 8, 9], [101, 102, 103, 104, 105, 106, 107, 108, 109, 110]), ([0, 1, 2, 3, 4, 5, 6, 7, 8, 9, 10], [101, 102, 103, 104, 105, 106, 107, 108, 109, 110, 111]), ([0, 1, 2, 3, 4, 5, 6, 7, 8, 9, 10, 11], [101, 102, 103, 104, 105, 106, 107, 108, 109, 110, 111, 112]), ([0, 1, 2, 3, 4, 5, 6, 7, 8, 9, 10, 11, 12], [101, 102, 103, 104, 105, 106, 107, 108, 109, 110, 111, 112, 113])] [(6, 11)] (Γx := []) ?_; dsimp only [prev0, List.length_nil, List.length_cons])
   | (refine gAny ?_; first | (refine gC 20 ?_; refine RGl.vl (fun e hk => OpT.callN (c1)) ?_) | (refine gC 28 ?_; refine RGl.vl (fun e hk => OpT.callN (c2)) ?_) | (refine gC 52 ?_; refine RGl.row (Γ1 := fun _ => []) (fun e hk => OpT.callN (c4)) ?_) | (refine gC 53 ?_; refine RGl.row (Γ1 := fun _ => []) (fun e hk => OpT.callN ((c5 _))) ?_) | (refine gC 61 ?_; refine RGl.row (Γ1 := fun _ => []) (fun e hk => OpT.callN (c6)) ?_) | (refine gC 62 ?_; refine RGl.row (Γ1 := fun _ => []) (fun e hk => OpT.callN ((c7 _ _))) ?_) | (refine gC 100 ?_; refine RGl.row (Γ1 := fun _ => []) (fun e hk => OpT.callN ((c12 _ _))) ?_) | (refine gC 107 ?_; refine RGl.row (Γ1 := fun _ => []) (fun e hk => OpT.callN (c13)) ?_) | (refine gC 113 ?_; refine RGl.vl (fun e hk => OpT.callN ((c14 _))) ?_) | (refine gC 124 ?_; refine RGl.row (Γ1 := fun _ => []) (fun e hk => OpT.callN (c15)) ?_) | (refine gC 125 ?_; refine RGl.row (Γ1 := fun _ => []) (fun e hk => OpT.callN ((c16 _ _))) ?_) | (refine gD 36 ?_; refine RGl.rdX (fun e hk => by (try dsimp only [bndR, ensR, oksR, fcutR, List.append_nil, List.nil_append, List.cons_append, List.append_assoc] at hk ⊢); exact ReadR.binE rfl rfl (BinR.neqB (by kernel_rfl)) (congrArg Value.bool (show (!(a.six == true)) = false by rw [hs]; rfl))) ?_) | (refine gD 40 ?_; refine RGl.rdX (fun e hk => by (try dsimp only [bndR, ensR, oksR, fcutR, List.append_nil, List.nil_append, List.cons_append, List.append_assoc] at hk ⊢); exact ReadR.binE rfl rfl BinR.eql (congrArg Value.bool (decide_eq_false (show ¬ (p : Int) = 0 by omega)))) ?_) | (refine gD 50 ?_; refine RGl.rdX (fun e hk => by (try dsimp only [bndR, ensR, oksR, fcutR, List.append_nil, List.nil_append, List.cons_append, List.append_assoc] at hk ⊢); exact ReadR.binE rfl rfl (BinR.addI (by omega) (by omega)) (congrArg (Value.int .i64) (show _ = ((nk true 1 : Nat) : Int) from by first | rfl | (simp [nk]; done) | (simp [nk]; omega)))) ?_) | (refine gD 59 ?_; refine RGl.rdX (fun e hk => by (try dsimp only [bndR, ensR, oksR, fcutR, List.append_nil, List.nil_append, List.cons_append, List.append_assoc] at hk ⊢); exact ReadR.binE rfl rfl (BinR.addI (by omega) (by omega)) (congrArg (Value.int .i64) (show _ = ((k + 2 * 1 : Nat) : Int) from by first | omega | (simp; done) | (simp; omega)))) ?_) | (refine gD 90 ?_; refine RGl.rdX (fun e hk => by (try dsimp only [bndR, ensR, oksR, fcutR, List.append_nil, List.nil_append, List.cons_append, List.append_assoc] at hk ⊢); exact ReadR.binE rfl rfl (BinR.addI (by omega) (by omega)) (congrArg (Value.int .i64) (show _ = ((k + j : Nat) : Int) from by omega))) ?_) | (refine gD 106 ?_; refine RGl.rdX (fun e hk => by (try dsimp only [bndR, ensR, oksR, fcutR, List.append_nil, List.nil_append, List.cons_append, List.append_assoc] at hk ⊢); exact ReadR.binE rfl rfl (BinR.subI (by omega) (by omega)) (congrArg (Value.int .i64) (show _ = ((D.length - k : Nat) : Int) from by omega))) ?_) | ((show RGl _ _ _ _ _ _ _ _ (⟨_, .store _ (.tmp 15) _, _, _, _, _⟩ :: _) _ _; refine RGl.turn (fun e hk => by (try dsimp only [bndR, ensR, oksR, fcutR, List.append_nil, List.nil_append, List.cons_append, List.append_assoc] at hk ⊢); exact OpT.storeA (cs' := hdc ⟨true, pr, (k : Int), s1, d1, pt, hp⟩) rfl rfl takesA fokA (by kernel_rfl) (by kernel_rfl)) ?_)) | (refine gD 115 ?_; refine RGl.rdX (fun e hk => by (try dsimp only [bndR, ensR, oksR, fcutR, List.append_nil, List.nil_append, List.cons_append, List.append_assoc] at hk ⊢); exact ReadR.binE rfl rfl BinR.eql (congrArg Value.bool (decide_eq_false (show ¬ ((S2 : Nat) : Int) = 0 by omega)))) ?_) | (refine gOp ?_; first | refine RGl.rdA ?_ | refine RGl.rdX (fun e hk => by (try dsimp only [bndR, ensR, oksR, fcutR, List.append_nil, List.nil_append, List.cons_append, List.append_assoc] at hk ⊢); exact readB) ?_) | (refine gAl ?_; refine RGl.nwA ?_) | (refine gApp ?_; refine RGl.appA ?_) | (refine gSt ?_; refine RGl.stA ?_) | (refine RGl.fin (fun e hk => ?_); (try dsimp only [bndA, ensAR, oksA, List.append_nil, List.nil_append, List.cons_append, List.append_assoc] at hk ⊢); (repeat (obtain ⟨hk1, hk⟩ := hk))) | fail)
   | (refine isCond ?_; first | refine WPc.cT ?_ | refine WPc.cF ?_ | (refine WPc.cQ (fun hc => ?_) (fun hc => ?_) <;> try exact prA))
   | (refine isD 36 ?_; refine WPl.rdX (ReadR.binE rfl rfl (BinR.neqB (by kernel_rfl)) (congrArg Value.bool (show (!(a.six == true)) = false by rw [hs]; rfl))) ?_)
   | (refine isD 40 ?_; refine WPl.rdX (ReadR.binE rfl rfl BinR.eql (congrArg Value.bool (decide_eq_false (show ¬ (p : Int) = 0 by omega)))) ?_)
   | (refine isC 20 ?_; refine WPl.cV (c1) ?_)
   | (show WPl _ _ _ _ _ _ _ (⟨_, .store 39 (.tmp 10) _, _, _, _, _⟩ :: _) _; refine WPl.stA (new := pkc ⟨⟨true, pr, (k : Int), s1, d1, pt, hp⟩, ⟨sr, ds, fg, (j : Int), false, da⟩, fl⟩) ?_ (ht := by kernel_rfl))
   | (refine isC 28 ?_; refine WPl.cV (c2) ?_)
   | (refine isC 52 ?_; refine WPl.cR (c4) fun v hv => ?_)
   | (refine isC 53 ?_; refine WPl.cR ((c5 _)) fun v hv => ?_)
   | (refine isC 61 ?_; refine WPl.cR (c6) fun v hv => ?_)
   | (refine isC 62 ?_; refine WPl.cR ((c7 _ _)) fun v hv => ?_)
   | (refine isLit ?_; refine WPl.lit fun v hv => ?_)
   | (refine isC 100 ?_; refine WPl.cR ((c12 _ _)) fun v hv => ?_)
   | (refine isC 107 ?_; refine WPl.cR (c13) fun v hv => ?_)
   | (refine isC 113 ?_; refine WPl.cV ((c14 _)) ?_)
   | (refine isC 124 ?_; refine WPl.cR (c15) fun v hv => ?_)
   | (refine isC 125 ?_; refine WPl.cR ((c16 _ _)) fun v hv => ?_)
   | (refine isD 115 ?_; refine WPl.rdX (ReadR.binE rfl rfl BinR.eql (congrArg Value.bool (decide_eq_false (show ¬ ((S2 : Nat) : Int) = 0 by omega)))) ?_)
   | (refine isOp ?_; first | refine WPl.rd ?_ | refine WPl.sk ?_ | refine WPl.rdB ?_)
   | (refine isAl ?_; refine WPl.nw fun g => ?_)
   | (refine isBx ?_; refine WPl.nw fun g => ?_)
   | (refine isSt ?_; first | refine WPl.st1 ?_ | refine WPl.stA ?_ | refine WPl.stEB ?_ | refine WPl.stRB ?_)
   | (show WPl _ _ _ _ _ _ _ (⟨_, .indexAddr _ _ _, _, _, _, _⟩ :: _) _; refine WPl.rdX (ReadR.indexE rfl rfl hasA (by first | assumption | omega)) ?_)
   | (show WPl _ _ _ _ _ _ _ (⟨_, .fieldAddr _ _ _, _, _, _, _⟩ :: _) _; refine WPl.rdX (ReadR.fieldE rfl hasA (by first | assumption | omega)) ?_)
   | (show WPl _ _ _ _ _ _ _ (⟨_, .load _ _, _, _, _, _⟩ :: _) _; first | refine WPl.rdX (ReadR.loadE rfl hasA (by assumption)) ?_ | refine WPl.rdX (ReadR.loadES (by assumption) (by first | assumption | omega) rfl hasA) ?_)
   | (show WPl _ _ _ _ _ _ _ (⟨_, .slice _ _ _ _ _, _, _, _, _⟩ :: _) _; first | refine WPl.rdX (ReadR.sliceH rfl rfl hasA (by omega)) ?_ | refine WPl.rdX (ReadR.sliceL rfl rfl hasA (by omega)) ?_ | refine WPl.rdX (ReadR.sliceLH rfl rfl rfl hasA (by omega) (by omega)) ?_)
   | (refine WPl.spQ (fun hc => ?_) (fun hc => ?_) <;> try exact prA)
   | fail)
  all_goals try (first | exact WPq.dTp | exact WPq.dTs | exact WPq.dV | exact WPq.dR | exact WPq.dR2 | exact WPq.dH | exact WPq.dBH | exact WPq.dT)

end Go.Proofs.Ytjfhiifpnpokpaa
/- Reference 17 (nat): Rewrite where it is told: contracts (printed by gen_nf.py). -/
namespace Go.Proofs.Ytjfhiifpnpokpaa
open Go.RowKit
set_option linter.unusedSimpArgs false
set_option linter.unusedVariables false
set_option maxRecDepth 20000
set_option maxHeartbeats 1000000
attribute [local irreducible] WPc WPl WPq ReadR OpT BinR HasS bx rdN rowN Take Takes Prov Triple ResF BuildP Done ag Int.decLt Int.decLe Int.instDecidableEq
attribute [local irreducible] core csum psu
theorem rrw_f0z (v : Value) (b : List UInt8) (a : Adr) (p : Nat) (pr : UInt8) (k : Nat) (s1 d1 : Adr) (pt : Bool) (hp : UInt8) (sr ds : Nat) (fg : UInt8) (sa : Int) (da : Int) (fl : Fl) (hp1 : p ≤ 65535) (hp0 : p ≠ 0) (hl : b.length ≤ 100000) (he : pkVal b = .tuple #[ag (pkc ⟨⟨false, pr, (k : Int), s1, d1, pt, hp⟩, ⟨sr, ds, fg, sa, true, da⟩, fl⟩), .int .i64 0])
    (hg : a.good = true) (hs : a.six = false) (hj : sa = (sj ⟨false, pr, (k : Int), s1, d1, pt, hp⟩ : Int)) (hk2 : k + sj ⟨false, pr, (k : Int), s1, d1, pt, hp⟩ + 2 ≤ b.length) (hk20 : 20 ≤ k) (hnk : nk false 0 + a.bytes.length ≤ b.length) :
    Triple Try.prog 7 #[v, .int .i64 0, ag (adc a), .int .u16 (p : Int)] [rb v b] (RW (r5 b ⟨false, pr, (k : Int), s1, d1, pt, hp⟩ true 0 a p) 0) := by
  have c1 := rparse_t v b hl
  rw [he] at c1
  have c2 := rgood_t a
  rw [hg] at c2
  have c4 := rbytes_t a
  have la := a.len
  have ls := s1.len
  have ld := d1.len
  have lf1 := fl.src.len
  have lf2 := fl.dst.len
  have hpr := pr.toNat_lt
  obtain ⟨j, hjj⟩ : ∃ j, j = sj ⟨false, pr, (k : Int), s1, d1, pt, hp⟩ := ⟨_, rfl⟩
  have hj6 := sj_ge ⟨false, pr, (k : Int), s1, d1, pt, hp⟩
  rw [← hjj] at hj hk2 hj6
  subst hj
  have hbl := a.bytes_len
  rw [hs] at hbl
  have t : ∀ n, (twoB n).length = 2 := fun n => rfl
  have t0 : ([0, 0] : List UInt8).length = 2 := rfl
  have c5 := fun v1 => rlay_t v v1 b a.bytes (nk false 0) hnk hl
  have l1 : (lay b (nk false 0) a.bytes).length = b.length := lay_length hnk
  have c6 := rtwo_t p hp1
  have c7 := fun v1 v2 => rlay_t v1 v2 (lay b (nk false 0) a.bytes) (twoB p) (k + 2 * 0) (by rw [l1, t]; omega) (by omega)
  have eC : lay (lay b (nk false 0) a.bytes) (k + 2 * 0) (twoB p) = core b ⟨false, pr, (k : Int), s1, d1, pt, hp⟩ 0 a p := by unfold core; rfl
  have l2 : (core b ⟨false, pr, (k : Int), s1, d1, pt, hp⟩ 0 a p).length = b.length := by rw [← eC, lay_length (by rw [l1, t]; omega), l1]
  rw [eC] at c7
  unfold r5
  unfold rs1 q1
  show Triple _ _ _ _ (RW (q2 _ _ true (rs2 (lay _ (k + sj _) (twoB 0)) _)) 0)
  rw [← hjj]
  rw [show hdA ⟨false, pr, (k : Int), s1, d1, pt, hp⟩ 0 a = ⟨false, pr, (k : Int), a, d1, pt, hp⟩ from rfl]
  simp only [show (Hd.mk false pr (k : Int) s1 d1 pt hp).pos.toNat = k from rfl, show (Hd.mk false pr (k : Int) s1 d1 pt hp).six = false from rfl]
  rw [show twoB 0 = [0, 0] from rfl]
  try simp only [if_neg (show ¬ (false = true) by decide), Bool.false_eq_true, if_false]
  have c8 := fun v1 v2 => rlay_t v1 v2 (core b ⟨false, pr, (k : Int), s1, d1, pt, hp⟩ 0 a p) [0, 0] 10 (by rw [l2, t0]; omega) (by omega)
  have l3 : (lay (core b ⟨false, pr, (k : Int), s1, d1, pt, hp⟩ 0 a p) 10 [0, 0]).length = b.length := by rw [lay_length (by rw [l2, t0]; omega), l2]
  have c9 := fun v1 => rsum_t (subv 1 v1 0 k) (seg (lay (core b ⟨false, pr, (k : Int), s1, d1, pt, hp⟩ 0 a p) 10 [0, 0]) 0 k) (by rw [seg_length (by omega)]; omega)
  have hs1 := csum_le (seg (lay (core b ⟨false, pr, (k : Int), s1, d1, pt, hp⟩ 0 a p) 10 [0, 0]) 0 k)
  have c10 := rtwo_t (csum (seg (lay (core b ⟨false, pr, (k : Int), s1, d1, pt, hp⟩ 0 a p) 10 [0, 0]) 0 k)) hs1
  have c11 := fun v1 v2 => rlay_t v1 v2 (lay (core b ⟨false, pr, (k : Int), s1, d1, pt, hp⟩ 0 a p) 10 [0, 0]) (twoB (csum (seg (lay (core b ⟨false, pr, (k : Int), s1, d1, pt, hp⟩ 0 a p) 10 [0, 0]) 0 k))) 10 (by rw [l3, t]; omega) (by omega)
  have lC : (lay (lay (core b ⟨false, pr, (k : Int), s1, d1, pt, hp⟩ 0 a p) 10 [0, 0]) 10 (twoB (csum (seg (lay (core b ⟨false, pr, (k : Int), s1, d1, pt, hp⟩ 0 a p) 10 [0, 0]) 0 k)))).length = b.length := by rw [lay_length (by rw [l3, t]; omega), l3]
  generalize lay (lay (core b ⟨false, pr, (k : Int), s1, d1, pt, hp⟩ 0 a p) 10 [0, 0]) 10 (twoB (csum (seg (lay (core b ⟨false, pr, (k : Int), s1, d1, pt, hp⟩ 0 a p) 10 [0, 0]) 0 k))) = C at *
  generalize csum (seg (lay (core b ⟨false, pr, (k : Int), s1, d1, pt, hp⟩ 0 a p) 10 [0, 0]) 0 k) = S1 at *
  have hsl : (seg (lay (core b ⟨false, pr, (k : Int), s1, d1, pt, hp⟩ 0 a p) 10 [0, 0]) 0 k).length = k := seg_length (by omega)
  generalize lay (core b ⟨false, pr, (k : Int), s1, d1, pt, hp⟩ 0 a p) 10 [0, 0] = C2 at *
  generalize core b ⟨false, pr, (k : Int), s1, d1, pt, hp⟩ 0 a p = C1 at *
  generalize lay b (nk false 0) a.bytes = L1 at *
  generalize hn : a.bytes.length = n at *
  generalize twoB p = T1 at *
  generalize a.bytes = ab at *
  unfold q2
  rw [if_pos rfl]
  refine Triple.enter Try.func7 rfl Try.ntmps7 rfl (fun W => ?_)
  dsimp only [argsF, Nat.reduceAdd]
  repeat' (first
   | refine WPl.nil ?_ | refine WPq.then ?_ | refine WPq.thenR ?_ | refine WPq.thenE ?_ | refine WPq.blockN ?_ | refine WPq.blockR ?_ | refine WPq.blockE ?_ | refine WPq.blockO rfl ?_ | refine WPc.seq ?_ | refine WPc.block ?_ | refine WPc.ret ?_ | refine WPc.exit ?_ | refine WPc.skip ?_ | refine WPc.region ?_
   | (refine isReg 9 ?_; refine WPc.drA [([], [46, 47, 48, 49, 50, 51, 52, 54, 55, 56, 57, 58, 59, 60]), ([], [45, 47, 48, 49, 51, 52, 54, 55, 56, 57, 58, 59, 60]), ([], [45, 46, 48, 51, 52, 54, 55, 56, 57, 58, 59, 60]), ([], [45, 46, 47, 51, 52, 54, 55, 56, 57, 58, 59, 60]), ([2, 3], [45, 46, 47, 48, 51, 52, 54, 55, 56, 57, 58, 59, 60]), ([1, 2, 3, 4], [45, 46, 47, 48, 49, 51, 52, 54, 55, 56, 57, 58, 59, 60]), ([], [45, 46, 47, 48, 49, 50, 54, 55, 56, 57, 58, 59, 60]), ([6], [45, 46, 47, 48, 49, 50, 51, 54, 55, 56, 57, 58, 59, 60]), ([0, 1, 2, 3, 4, 5, 6, 7], [45, 46, 47, 48, 49, 50, 51, 52, 54, 55, 56, 57, 58, 59, 60]), ([], [45, 46, 47, 48, 49, 50, 51, 52, 53, 57, 58, 60, 61]), ([9], [45, 46, 47, 48, 49, 50, 51, 52, 53, 54, 57, 58, 60, 61]), ([9, 10], [45, 46, 47, 48, 49, 50, 51, 52, 53, 54, 55, 57, 58, 60, 61]), ([], [45, 46, 47, 48, 49, 50, 51, 52, 53, 54, 55, 56, 60, 61]), ([12], [45, 46, 47, 48, 49, 50, 51, 52, 53, 54, 55, 56, 57, 60, 61]), ([9, 10, 11, 12, 13], [45, 46, 47, 48, 49, 50, 51, 52, 53, 54, 55, 56, 57, 58, 60, 61]), ([], [45, 46, 47, 48, 49, 50, 51, 52, 53, 54, 55, 56, 57, 58, 59]), ([0, 1, 2, 3, 4, 5, 6, 7, 8, 15], [45, 46, 47, 48, 49, 50, 51, 52, 53, 54, 55, 56, 57, 58, 59, 60]), ([0, 1, 2, 3, 4, 5, 6, 7, 8, 9, 10, 11, 12, 13, 14, 15, 16], [45, 46, 47, 48, 49, 50, 51, 52, 53, 54, 55, 56, 57, 58, 59, 60, 61]), ([0, 1, 2, 3, 4, 5, 6, 7, 8, 9, 10, 11, 12, 13, 14, 15, 16, 17], [45, 46, 47, 48, 49, 50, 51, 52, 53, 54, 55, 56, 57, 58, 59, 60, 61, 62])] [] (Γx := []) ?_; dsimp only [prev0, List.length_nil, List.length_cons])
   | (refine gAny ?_; first | (refine gC 20 ?_; refine RGl.vl (fun e hk => OpT.callN (c1)) ?_) | (refine gC 28 ?_; refine RGl.vl (fun e hk => OpT.callN (c2)) ?_) | (refine gC 52 ?_; refine RGl.row (Γ1 := fun _ => []) (fun e hk => OpT.callN (c4)) ?_) | (refine gC 53 ?_; refine RGl.row (Γ1 := fun _ => []) (fun e hk => OpT.callN ((c5 _))) ?_) | (refine gC 61 ?_; refine RGl.row (Γ1 := fun _ => []) (fun e hk => OpT.callN (c6)) ?_) | (refine gC 62 ?_; refine RGl.row (Γ1 := fun _ => []) (fun e hk => OpT.callN ((c7 _ _))) ?_) | (refine gC 68 ?_; refine RGl.row (Γ1 := fun _ => []) (fun e hk => OpT.callN ((c8 _ _))) ?_) | (refine gC 75 ?_; refine RGl.vl (fun e hk => OpT.callN ((c9 _))) ?_) | (refine gC 76 ?_; refine RGl.row (Γ1 := fun _ => []) (fun e hk => OpT.callN (c10)) ?_) | (refine gC 77 ?_; refine RGl.row (Γ1 := fun _ => []) (fun e hk => OpT.callN ((c11 _ _))) ?_) | (refine gD 36 ?_; refine RGl.rdX (fun e hk => by (try dsimp only [bndR, ensR, oksR, fcutR, List.append_nil, List.nil_append, List.cons_append, List.append_assoc] at hk ⊢); exact ReadR.binE rfl rfl (BinR.neqB (by kernel_rfl)) (congrArg Value.bool (show (!(a.six == false)) = false by rw [hs]; rfl))) ?_) | (refine gD 40 ?_; refine RGl.rdX (fun e hk => by (try dsimp only [bndR, ensR, oksR, fcutR, List.append_nil, List.nil_append, List.cons_append, List.append_assoc] at hk ⊢); exact ReadR.binE rfl rfl BinR.eql (congrArg Value.bool (decide_eq_false (show ¬ (p : Int) = 0 by omega)))) ?_) | (refine gD 50 ?_; refine RGl.rdX (fun e hk => by (try dsimp only [bndR, ensR, oksR, fcutR, List.append_nil, List.nil_append, List.cons_append, List.append_assoc] at hk ⊢); exact ReadR.binE rfl rfl (BinR.addI (by omega) (by omega)) (congrArg (Value.int .i64) (show _ = ((nk false 0 : Nat) : Int) from by first | rfl | (simp [nk]; done) | (simp [nk]; omega)))) ?_) | (refine gD 59 ?_; refine RGl.rdX (fun e hk => by (try dsimp only [bndR, ensR, oksR, fcutR, List.append_nil, List.nil_append, List.cons_append, List.append_assoc] at hk ⊢); exact ReadR.binE rfl rfl (BinR.addI (by omega) (by omega)) (congrArg (Value.int .i64) (show _ = ((k + 2 * 0 : Nat) : Int) from by first | omega | (simp; done) | (simp; omega)))) ?_) | (refine gOp ?_; first | refine RGl.rdA ?_ | refine RGl.rdX (fun e hk => by (try dsimp only [bndR, ensR, oksR, fcutR, List.append_nil, List.nil_append, List.cons_append, List.append_assoc] at hk ⊢); exact readB) ?_) | (refine RGl.fin (fun e hk => ?_); (try dsimp only [bndA, ensAR, oksA, List.append_nil, List.nil_append, List.cons_append, List.append_assoc] at hk ⊢); (repeat (obtain ⟨hk1, hk⟩ := hk))) | fail)
   | (refine isCond ?_; first | refine WPc.cT ?_ | refine WPc.cF ?_ | (refine WPc.cQ (fun hc => ?_) (fun hc => ?_) <;> try exact prA))
   | (refine isD 36 ?_; refine WPl.rdX (ReadR.binE rfl rfl (BinR.neqB (by kernel_rfl)) (congrArg Value.bool (show (!(a.six == false)) = false by rw [hs]; rfl))) ?_)
   | (refine isD 40 ?_; refine WPl.rdX (ReadR.binE rfl rfl BinR.eql (congrArg Value.bool (decide_eq_false (show ¬ (p : Int) = 0 by omega)))) ?_)
   | (refine isC 20 ?_; refine WPl.cV (c1) ?_)
   | (show WPl _ _ _ _ _ _ _ (⟨_, .store 39 (.tmp 10) _, _, _, _, _⟩ :: _) _; refine WPl.stA (new := pkc ⟨⟨false, pr, (k : Int), s1, d1, pt, hp⟩, ⟨sr, ds, fg, (j : Int), true, da⟩, fl⟩) ?_ (ht := by kernel_rfl))
   | (refine isC 28 ?_; refine WPl.cV (c2) ?_)
   | (refine isC 52 ?_; refine WPl.cR (c4) fun v hv => ?_)
   | (refine isC 53 ?_; refine WPl.cR ((c5 _)) fun v hv => ?_)
   | (refine isC 61 ?_; refine WPl.cR (c6) fun v hv => ?_)
   | (refine isC 62 ?_; refine WPl.cR ((c7 _ _)) fun v hv => ?_)
   | (refine isC 68 ?_; refine WPl.cR ((c8 _ _)) fun v hv => ?_)
   | (refine isLit ?_; refine WPl.lit fun v hv => ?_)
   | (refine isC 75 ?_; refine WPl.cV ((c9 _)) ?_)
   | (refine isC 76 ?_; refine WPl.cR (c10) fun v hv => ?_)
   | (refine isC 77 ?_; refine WPl.cR ((c11 _ _)) fun v hv => ?_)
   | (refine isOp ?_; first | refine WPl.rd ?_ | refine WPl.sk ?_ | refine WPl.rdB ?_)
   | (refine isAl ?_; refine WPl.nw fun g => ?_)
   | (refine isBx ?_; refine WPl.nw fun g => ?_)
   | (refine isSt ?_; first | refine WPl.st1 ?_ | refine WPl.stA ?_ | refine WPl.stEB ?_ | refine WPl.stRB ?_)
   | (show WPl _ _ _ _ _ _ _ (⟨_, .indexAddr _ _ _, _, _, _, _⟩ :: _) _; refine WPl.rdX (ReadR.indexE rfl rfl hasA (by first | assumption | omega)) ?_)
   | (show WPl _ _ _ _ _ _ _ (⟨_, .fieldAddr _ _ _, _, _, _, _⟩ :: _) _; refine WPl.rdX (ReadR.fieldE rfl hasA (by first | assumption | omega)) ?_)
   | (show WPl _ _ _ _ _ _ _ (⟨_, .load _ _, _, _, _, _⟩ :: _) _; first | refine WPl.rdX (ReadR.loadE rfl hasA (by assumption)) ?_ | refine WPl.rdX (ReadR.loadES (by assumption) (by first | assumption | omega) rfl hasA) ?_)
   | (show WPl _ _ _ _ _ _ _ (⟨_, .slice _ _ _ _ _, _, _, _, _⟩ :: _) _; first | refine WPl.rdX (ReadR.sliceH rfl rfl hasA (by omega)) ?_ | refine WPl.rdX (ReadR.sliceL rfl rfl hasA (by omega)) ?_ | refine WPl.rdX (ReadR.sliceLH rfl rfl rfl hasA (by omega) (by omega)) ?_)
   | (refine WPl.spQ (fun hc => ?_) (fun hc => ?_) <;> try exact prA)
   | fail)
  all_goals try (first | exact WPq.dTp | exact WPq.dTs | exact WPq.dV | exact WPq.dR | exact WPq.dR2 | exact WPq.dH | exact WPq.dBH | exact WPq.dT)
theorem rrw_f0a (v : Value) (b : List UInt8) (a : Adr) (p : Nat) (pr : UInt8) (k : Nat) (s1 d1 : Adr) (pt : Bool) (hp : UInt8) (sr ds : Nat) (fg : UInt8) (sa : Int) (da : Int) (fl : Fl) (hp1 : p ≤ 65535) (hp0 : p ≠ 0) (hl : b.length ≤ 100000) (he : pkVal b = .tuple #[ag (pkc ⟨⟨false, pr, (k : Int), s1, d1, pt, hp⟩, ⟨sr, ds, fg, sa, false, da⟩, fl⟩), .int .i64 0])
    (hg : a.good = true) (hs : a.six = false) (hj : sa = (sj ⟨false, pr, (k : Int), s1, d1, pt, hp⟩ : Int)) (hk2 : k + sj ⟨false, pr, (k : Int), s1, d1, pt, hp⟩ + 2 ≤ b.length) (hk20 : 20 ≤ k) (hnk : nk false 0 + a.bytes.length ≤ b.length) (hc : rsC (lay (q1 b ⟨false, pr, (k : Int), s1, d1, pt, hp⟩ 0 a p (rs1 b ⟨false, pr, (k : Int), s1, d1, pt, hp⟩ 0 a p)) ((Hd.mk false pr (k : Int) s1 d1 pt hp).pos.toNat + sj ⟨false, pr, (k : Int), s1, d1, pt, hp⟩) (twoB 0)) (hdA ⟨false, pr, (k : Int), s1, d1, pt, hp⟩ 0 a) = 0 ∧ pr.toNat = 17) :
    Triple Try.prog 7 #[v, .int .i64 0, ag (adc a), .int .u16 (p : Int)] [rb v b] (RW (r5 b ⟨false, pr, (k : Int), s1, d1, pt, hp⟩ false 0 a p) 0) := by
  have c1 := rparse_t v b hl
  rw [he] at c1
  have c2 := rgood_t a
  rw [hg] at c2
  have c4 := rbytes_t a
  have la := a.len
  have ls := s1.len
  have ld := d1.len
  have lf1 := fl.src.len
  have lf2 := fl.dst.len
  have hpr := pr.toNat_lt
  obtain ⟨j, hjj⟩ : ∃ j, j = sj ⟨false, pr, (k : Int), s1, d1, pt, hp⟩ := ⟨_, rfl⟩
  have hj6 := sj_ge ⟨false, pr, (k : Int), s1, d1, pt, hp⟩
  rw [← hjj] at hj hk2 hj6
  subst hj
  have hbl := a.bytes_len
  rw [hs] at hbl
  have t : ∀ n, (twoB n).length = 2 := fun n => rfl
  have t0 : ([0, 0] : List UInt8).length = 2 := rfl
  have c5 := fun v1 => rlay_t v v1 b a.bytes (nk false 0) hnk hl
  have l1 : (lay b (nk false 0) a.bytes).length = b.length := lay_length hnk
  have c6 := rtwo_t p hp1
  have c7 := fun v1 v2 => rlay_t v1 v2 (lay b (nk false 0) a.bytes) (twoB p) (k + 2 * 0) (by rw [l1, t]; omega) (by omega)
  have eC : lay (lay b (nk false 0) a.bytes) (k + 2 * 0) (twoB p) = core b ⟨false, pr, (k : Int), s1, d1, pt, hp⟩ 0 a p := by unfold core; rfl
  have l2 : (core b ⟨false, pr, (k : Int), s1, d1, pt, hp⟩ 0 a p).length = b.length := by rw [← eC, lay_length (by rw [l1, t]; omega), l1]
  rw [eC] at c7
  unfold r5
  unfold rs1 q1 at hc ⊢
  show Triple _ _ _ _ (RW (q2 _ _ false (rs2 (lay _ (k + sj _) (twoB 0)) _)) 0)
  rw [← hjj] at hc ⊢
  rw [show hdA ⟨false, pr, (k : Int), s1, d1, pt, hp⟩ 0 a = ⟨false, pr, (k : Int), a, d1, pt, hp⟩ from rfl] at hc ⊢
  simp only [show (Hd.mk false pr (k : Int) s1 d1 pt hp).pos.toNat = k from rfl, show (Hd.mk false pr (k : Int) s1 d1 pt hp).six = false from rfl] at hc ⊢
  rw [show twoB 0 = [0, 0] from rfl] at hc ⊢
  try simp only [if_neg (show ¬ (false = true) by decide), Bool.false_eq_true, if_false] at hc ⊢
  have c8 := fun v1 v2 => rlay_t v1 v2 (core b ⟨false, pr, (k : Int), s1, d1, pt, hp⟩ 0 a p) [0, 0] 10 (by rw [l2, t0]; omega) (by omega)
  have l3 : (lay (core b ⟨false, pr, (k : Int), s1, d1, pt, hp⟩ 0 a p) 10 [0, 0]).length = b.length := by rw [lay_length (by rw [l2, t0]; omega), l2]
  have c9 := fun v1 => rsum_t (subv 1 v1 0 k) (seg (lay (core b ⟨false, pr, (k : Int), s1, d1, pt, hp⟩ 0 a p) 10 [0, 0]) 0 k) (by rw [seg_length (by omega)]; omega)
  have hs1 := csum_le (seg (lay (core b ⟨false, pr, (k : Int), s1, d1, pt, hp⟩ 0 a p) 10 [0, 0]) 0 k)
  have c10 := rtwo_t (csum (seg (lay (core b ⟨false, pr, (k : Int), s1, d1, pt, hp⟩ 0 a p) 10 [0, 0]) 0 k)) hs1
  have c11 := fun v1 v2 => rlay_t v1 v2 (lay (core b ⟨false, pr, (k : Int), s1, d1, pt, hp⟩ 0 a p) 10 [0, 0]) (twoB (csum (seg (lay (core b ⟨false, pr, (k : Int), s1, d1, pt, hp⟩ 0 a p) 10 [0, 0]) 0 k))) 10 (by rw [l3, t]; omega) (by omega)
  have lC : (lay (lay (core b ⟨false, pr, (k : Int), s1, d1, pt, hp⟩ 0 a p) 10 [0, 0]) 10 (twoB (csum (seg (lay (core b ⟨false, pr, (k : Int), s1, d1, pt, hp⟩ 0 a p) 10 [0, 0]) 0 k)))).length = b.length := by rw [lay_length (by rw [l3, t]; omega), l3]
  generalize lay (lay (core b ⟨false, pr, (k : Int), s1, d1, pt, hp⟩ 0 a p) 10 [0, 0]) 10 (twoB (csum (seg (lay (core b ⟨false, pr, (k : Int), s1, d1, pt, hp⟩ 0 a p) 10 [0, 0]) 0 k))) = C at *
  generalize csum (seg (lay (core b ⟨false, pr, (k : Int), s1, d1, pt, hp⟩ 0 a p) 10 [0, 0]) 0 k) = S1 at *
  have hsl : (seg (lay (core b ⟨false, pr, (k : Int), s1, d1, pt, hp⟩ 0 a p) 10 [0, 0]) 0 k).length = k := seg_length (by omega)
  generalize lay (core b ⟨false, pr, (k : Int), s1, d1, pt, hp⟩ 0 a p) 10 [0, 0] = C2 at *
  generalize core b ⟨false, pr, (k : Int), s1, d1, pt, hp⟩ 0 a p = C1 at *
  generalize lay b (nk false 0) a.bytes = L1 at *
  generalize hn : a.bytes.length = n at *
  generalize twoB p = T1 at *
  generalize a.bytes = ab at *
  unfold q2
  rw [if_neg (by decide)]
  dsimp only
  rw [← hjj]
  rw [show twoB 0 = [0, 0] from rfl]
  simp only [show (k : Int).toNat = k from rfl]
  have c12 := fun v1 v2 => rlay_t v1 v2 C [0, 0] (k + j) (by rw [lC, t0]; omega) (by omega)
  have lD : (lay C (k + j) [0, 0]).length = b.length := by rw [lay_length (by rw [lC, t0]; omega), lC]
  generalize lay C (k + j) [0, 0] = D at *
  unfold rs2
  unfold rsC at hc ⊢
  dsimp only at hc ⊢
  simp only [show (k : Int).toNat = k from rfl] at hc ⊢
  have c13 := rpseudo_t ⟨false, pr, (k : Int), a, d1, pt, hp⟩ ((D.length - k : Nat) : Int) (D.length - k) (by rw [IntKind.wrap_u64]; omega) (by omega)
  have hps := psu_len ⟨false, pr, (k : Int), a, d1, pt, hp⟩ (D.length - k)
  have c14 := fun v1 => rsum_t v1 (psu ⟨false, pr, (k : Int), a, d1, pt, hp⟩ (D.length - k) ++ seg D k (D.length - k)) (by rw [List.length_append, seg_length (by omega)]; omega)
  have hS := csum_le (psu ⟨false, pr, (k : Int), a, d1, pt, hp⟩ (D.length - k) ++ seg D k (D.length - k))
  have hsl2 : (seg D k (D.length - k)).length = D.length - k := seg_length (by omega)
  generalize psu ⟨false, pr, (k : Int), a, d1, pt, hp⟩ (D.length - k) = ps at *
  generalize csum (ps ++ seg D k (D.length - k)) = S2 at *
  obtain ⟨hc1, hc2⟩ := hc
  rw [if_pos ⟨hc1, hc2⟩]
  have c15 := rtwo_t 65535 (by omega)
  have c16 := fun v1 v2 => rlay_t v1 v2 D (twoB 65535) (k + j) (by rw [lD, t]; omega) (by omega)
  generalize twoB 65535 = T2 at *
  refine Triple.enter Try.func7 rfl Try.ntmps7 rfl (fun W => ?_)
  dsimp only [argsF, Nat.reduceAdd]
  repeat' (first
   | refine WPl.nil ?_ | refine WPq.then ?_ | refine WPq.thenR ?_ | refine WPq.thenE ?_ | refine WPq.blockN ?_ | refine WPq.blockR ?_ | refine WPq.blockE ?_ | refine WPq.blockO rfl ?_ | refine WPc.seq ?_ | refine WPc.block ?_ | refine WPc.ret ?_ | refine WPc.exit ?_ | refine WPc.skip ?_ | refine WPc.region ?_
   | (refine isReg 9 ?_; refine WPc.drA [([], [46, 47, 48, 49, 50, 51, 52, 54, 55, 56, 57, 58, 59, 60]), ([], [45, 47, 48, 49, 51, 52, 54, 55, 56, 57, 58, 59, 60]), ([], [45, 46, 48, 51, 52, 54, 55, 56, 57, 58, 59, 60]), ([], [45, 46, 47, 51, 52, 54, 55, 56, 57, 58, 59, 60]), ([2, 3], [45, 46, 47, 48, 51, 52, 54, 55, 56, 57, 58, 59, 60]), ([1, 2, 3, 4], [45, 46, 47, 48, 49, 51, 52, 54, 55, 56, 57, 58, 59, 60]), ([], [45, 46, 47, 48, 49, 50, 54, 55, 56, 57, 58, 59, 60]), ([6], [45, 46, 47, 48, 49, 50, 51, 54, 55, 56, 57, 58, 59, 60]), ([0, 1, 2, 3, 4, 5, 6, 7], [45, 46, 47, 48, 49, 50, 51, 52, 54, 55, 56, 57, 58, 59, 60]), ([], [45, 46, 47, 48, 49, 50, 51, 52, 53, 57, 58, 60, 61]), ([9], [45, 46, 47, 48, 49, 50, 51, 52, 53, 54, 57, 58, 60, 61]), ([9, 10], [45, 46, 47, 48, 49, 50, 51, 52, 53, 54, 55, 57, 58, 60, 61]), ([], [45, 46, 47, 48, 49, 50, 51, 52, 53, 54, 55, 56, 60, 61]), ([12], [45, 46, 47, 48, 49, 50, 51, 52, 53, 54, 55, 56, 57, 60, 61]), ([9, 10, 11, 12, 13], [45, 46, 47, 48, 49, 50, 51, 52, 53, 54, 55, 56, 57, 58, 60, 61]), ([], [45, 46, 47, 48, 49, 50, 51, 52, 53, 54, 55, 56, 57, 58, 59]), ([0, 1, 2, 3, 4, 5, 6, 7, 8, 15], [45, 46, 47, 48, 49, 50, 51, 52, 53, 54, 55, 56, 57, 58, 59, 60]), ([0, 1, 2, 3, 4, 5, 6, 7, 8, 9, 10, 11, 12, 13, 14, 15, 16], [45, 46, 47, 48, 49, 50, 51, 52, 53, 54, 55, 56, 57, 58, 59, 60, 61]), ([0, 1, 2, 3, 4, 5, 6, 7, 8, 9, 10, 11, 12, 13, 14, 15, 16, 17], [45, 46, 47, 48, 49, 50, 51, 52, 53, 54, 55, 56, 57, 58, 59, 60, 61, 62])] [] (Γx := []) ?_; dsimp only [prev0, List.length_nil, List.length_cons])
   | (refine isReg 15 ?_; refine WPc.drA [([], [15, 84, 85, 86, 87, 88, 89, 90]), ([0], [15, 82, 84, 85, 86, 87, 88, 89, 90]), ([], [15, 82, 83, 87, 88, 89]), ([2], [15, 82, 83, 84, 87, 88, 89]), ([2, 3], [15, 82, 83, 84, 85, 87, 88, 89]), ([], [15, 82, 83, 84, 85, 86]), ([5], [15, 82, 83, 84, 85, 86, 87]), ([5, 6], [15, 82, 83, 84, 85, 86, 87, 88]), ([2, 3, 4, 5, 6, 7], [15, 82, 83, 84, 85, 86, 87, 88, 89]), ([], [82, 83, 84, 85, 86, 87, 88, 89, 90]), ([0, 1, 9], [15, 82, 83, 84, 85, 86, 87, 88, 89, 90]), ([0, 1, 2, 3, 4, 5, 6, 7, 8, 9, 10], [15, 82, 83, 84, 85, 86, 87, 88, 89, 90])] [(9, 10)] (Γx := []) ?_; dsimp only [prev0, List.length_nil, List.length_cons])
   | (refine isReg 20 ?_; refine WPc.drA [([], [102, 103, 104, 105, 106, 108, 109, 110, 111]), ([], [101, 104, 105, 108, 109, 110, 111]), ([1], [101, 102, 104, 105, 108, 109, 110, 111]), ([], [101, 102, 103, 108, 109, 110, 111]), ([3], [101, 102, 103, 104, 108, 109, 110, 111]), ([1, 2, 3, 4], [101, 102, 103, 104, 105, 108, 109, 110, 111]), ([0, 1, 2, 3, 4, 5], [101, 102, 103, 104, 105, 106, 108, 109, 110, 111]), ([], [101, 102, 103, 104, 105, 106, 107, 109, 110]), ([], [101, 102, 103, 104, 105, 106, 107, 108]), ([8], [101, 102, 103, 104, 105, 106, 107, 108, 109]), ([7, 8, 9], [101, 102, 103, 104, 105, 106, 107, 108, 109, 110]), ([0, 1, 2, 3, 4, 5, 6, 7, 8, 9, 10], [101, 102, 103, 104, 105, 106, 107, 108, 109, 110, 111]), ([0, 1, 2, 3, 4, 5, 6, 7, 8, 9, 10, 11], [101, 102, 103, 104, 105, 106, 107, 108, 109, 110, 111, 112]), ([0, 1, 2, 3, 4, 5, 6, 7, 8, 9, 10, 11, 12], [101, 102, 103, 104, 105, 106, 107, 108, 109, 110, 111, 112, 113])] [(6, 11)] (Γx := []) ?_; dsimp only [prev0, List.length_nil, List.length_cons])
   | (refine gAny ?_; first | (refine gC 20 ?_; refine RGl.vl (fun e hk => OpT.callN (c1)) ?_) | (refine gC 28 ?_; refine RGl.vl (fun e hk => OpT.callN (c2)) ?_) | (refine gC 52 ?_; refine RGl.row (Γ1 := fun _ => []) (fun e hk => OpT.callN (c4)) ?_) | (refine gC 53 ?_; refine RGl.row (Γ1 := fun _ => []) (fun e hk => OpT.callN ((c5 _))) ?_) | (refine gC 61 ?_; refine RGl.row (Γ1 := fun _ => []) (fun e hk => OpT.callN (c6)) ?_) | (refine gC 62 ?_; refine RGl.row (Γ1 := fun _ => []) (fun e hk => OpT.callN ((c7 _ _))) ?_) | (refine gC 68 ?_; refine RGl.row (Γ1 := fun _ => []) (fun e hk => OpT.callN ((c8 _ _))) ?_) | (refine gC 75 ?_; refine RGl.vl (fun e hk => OpT.callN ((c9 _))) ?_) | (refine gC 76 ?_; refine RGl.row (Γ1 := fun _ => []) (fun e hk => OpT.callN (c10)) ?_) | (refine gC 77 ?_; refine RGl.row (Γ1 := fun _ => []) (fun e hk => OpT.callN ((c11 _ _))) ?_) | (refine gC 100 ?_; refine RGl.row (Γ1 := fun _ => []) (fun e hk => OpT.callN ((c12 _ _))) ?_) | (refine gC 107 ?_; refine RGl.row (Γ1 := fun _ => []) (fun e hk => OpT.callN (c13)) ?_) | (refine gC 113 ?_; refine RGl.vl (fun e hk => OpT.callN ((c14 _))) ?_) | (refine gC 124 ?_; refine RGl.row (Γ1 := fun _ => []) (fun e hk => OpT.callN (c15)) ?_) | (refine gC 125 ?_; refine RGl.row (Γ1 := fun _ => []) (fun e hk => OpT.callN ((c16 _ _))) ?_) | (refine gD 36 ?_; refine RGl.rdX (fun e hk => by (try dsimp only [bndR, ensR, oksR, fcutR, List.append_nil, List.nil_append, List.cons_append, List.append_assoc] at hk ⊢); exact ReadR.binE rfl rfl (BinR.neqB (by kernel_rfl)) (congrArg Value.bool (show (!(a.six == false)) = false by rw [hs]; rfl))) ?_) | (refine gD 40 ?_; refine RGl.rdX (fun e hk => by (try dsimp only [bndR, ensR, oksR, fcutR, List.append_nil, List.nil_append, List.cons_append, List.append_assoc] at hk ⊢); exact ReadR.binE rfl rfl BinR.eql (congrArg Value.bool (decide_eq_false (show ¬ (p : Int) = 0 by omega)))) ?_) | (refine gD 50 ?_; refine RGl.rdX (fun e hk => by (try dsimp only [bndR, ensR, oksR, fcutR, List.append_nil, List.nil_append, List.cons_append, List.append_assoc] at hk ⊢); exact ReadR.binE rfl rfl (BinR.addI (by omega) (by omega)) (congrArg (Value.int .i64) (show _ = ((nk false 0 : Nat) : Int) from by first | rfl | (simp [nk]; done) | (simp [nk]; omega)))) ?_) | (refine gD 59 ?_; refine RGl.rdX (fun e hk => by (try dsimp only [bndR, ensR, oksR, fcutR, List.append_nil, List.nil_append, List.cons_append, List.append_assoc] at hk ⊢); exact ReadR.binE rfl rfl (BinR.addI (by omega) (by omega)) (congrArg (Value.int .i64) (show _ = ((k + 2 * 0 : Nat) : Int) from by first | omega | (simp; done) | (simp; omega)))) ?_) | (refine gD 90 ?_; refine RGl.rdX (fun e hk => by (try dsimp only [bndR, ensR, oksR, fcutR, List.append_nil, List.nil_append, List.cons_append, List.append_assoc] at hk ⊢); exact ReadR.binE rfl rfl (BinR.addI (by omega) (by omega)) (congrArg (Value.int .i64) (show _ = ((k + j : Nat) : Int) from by omega))) ?_) | (refine gD 106 ?_; refine RGl.rdX (fun e hk => by (try dsimp only [bndR, ensR, oksR, fcutR, List.append_nil, List.nil_append, List.cons_append, List.append_assoc] at hk ⊢); exact ReadR.binE rfl rfl (BinR.subI (by omega) (by omega)) (congrArg (Value.int .i64) (show _ = ((D.length - k : Nat) : Int) from by omega))) ?_) | ((show RGl _ _ _ _ _ _ _ _ (⟨_, .store _ (.tmp 15) _, _, _, _, _⟩ :: _) _ _; refine RGl.turn (fun e hk => by (try dsimp only [bndR, ensR, oksR, fcutR, List.append_nil, List.nil_append, List.cons_append, List.append_assoc] at hk ⊢); exact OpT.storeA (cs' := hdc ⟨false, pr, (k : Int), s1, d1, pt, hp⟩) rfl rfl takesA fokA (by kernel_rfl) (by kernel_rfl)) ?_)) | (refine gD 115 ?_; refine RGl.rdX (fun e hk => by (try dsimp only [bndR, ensR, oksR, fcutR, List.append_nil, List.nil_append, List.cons_append, List.append_assoc] at hk ⊢); exact ReadR.binE rfl rfl BinR.eql (congrArg Value.bool (decide_eq_true (show ((S2 : Nat) : Int) = 0 by omega)))) ?_) | (refine gD 119 ?_; refine RGl.rdX (fun e hk => by (try dsimp only [bndR, ensR, oksR, fcutR, List.append_nil, List.nil_append, List.cons_append, List.append_assoc] at hk ⊢); exact ReadR.binE rfl rfl BinR.eql (congrArg Value.bool (decide_eq_true (show ((pr.toNat : Nat) : Int) = 17 by omega)))) ?_) | (refine gOp ?_; first | refine RGl.rdA ?_ | refine RGl.rdX (fun e hk => by (try dsimp only [bndR, ensR, oksR, fcutR, List.append_nil, List.nil_append, List.cons_append, List.append_assoc] at hk ⊢); exact readB) ?_) | (refine gAl ?_; refine RGl.nwA ?_) | (refine gApp ?_; refine RGl.appA ?_) | (refine gSt ?_; refine RGl.stA ?_) | (refine RGl.fin (fun e hk => ?_); (try dsimp only [bndA, ensAR, oksA, List.append_nil, List.nil_append, List.cons_append, List.append_assoc] at hk ⊢); (repeat (obtain ⟨hk1, hk⟩ := hk))) | fail)
   | (refine isCond ?_; first | refine WPc.cT ?_ | refine WPc.cF ?_ | (refine WPc.cQ (fun hc => ?_) (fun hc => ?_) <;> try exact prA))
   | (refine isD 36 ?_; refine WPl.rdX (ReadR.binE rfl rfl (BinR.neqB (by kernel_rfl)) (congrArg Value.bool (show (!(a.six == false)) = false by rw [hs]; rfl))) ?_)
   | (refine isD 40 ?_; refine WPl.rdX (ReadR.binE rfl rfl BinR.eql (congrArg Value.bool (decide_eq_false (show ¬ (p : Int) = 0 by omega)))) ?_)
   | (refine isC 20 ?_; refine WPl.cV (c1) ?_)
   | (show WPl _ _ _ _ _ _ _ (⟨_, .store 39 (.tmp 10) _, _, _, _, _⟩ :: _) _; refine WPl.stA (new := pkc ⟨⟨false, pr, (k : Int), s1, d1, pt, hp⟩, ⟨sr, ds, fg, (j : Int), false, da⟩, fl⟩) ?_ (ht := by kernel_rfl))
   | (refine isC 28 ?_; refine WPl.cV (c2) ?_)
   | (refine isC 52 ?_; refine WPl.cR (c4) fun v hv => ?_)
   | (refine isC 53 ?_; refine WPl.cR ((c5 _)) fun v hv => ?_)
   | (refine isC 61 ?_; refine WPl.cR (c6) fun v hv => ?_)
   | (refine isC 62 ?_; refine WPl.cR ((c7 _ _)) fun v hv => ?_)
   | (refine isC 68 ?_; refine WPl.cR ((c8 _ _)) fun v hv => ?_)
   | (refine isLit ?_; refine WPl.lit fun v hv => ?_)
   | (refine isC 75 ?_; refine WPl.cV ((c9 _)) ?_)
   | (refine isC 76 ?_; refine WPl.cR (c10) fun v hv => ?_)
   | (refine isC 77 ?_; refine WPl.cR ((c11 _ _)) fun v hv => ?_)
   | (refine isLit ?_; refine WPl.lit fun v hv => ?_)
   | (refine isC 100 ?_; refine WPl.cR ((c12 _ _)) fun v hv => ?_)
   | (refine isC 107 ?_; refine WPl.cR (c13) fun v hv => ?_)
   | (refine isC 113 ?_; refine WPl.cV ((c14 _)) ?_)
   | (refine isC 124 ?_; refine WPl.cR (c15) fun v hv => ?_)
   | (refine isC 125 ?_; refine WPl.cR ((c16 _ _)) fun v hv => ?_)
   | (refine isD 115 ?_; refine WPl.rdX (ReadR.binE rfl rfl BinR.eql (congrArg Value.bool (decide_eq_true (show ((S2 : Nat) : Int) = 0 by omega)))) ?_)
   | (refine isD 119 ?_; refine WPl.rdX (ReadR.binE rfl rfl BinR.eql (congrArg Value.bool (decide_eq_true (show ((pr.toNat : Nat) : Int) = 17 by omega)))) ?_)
   | (refine isOp ?_; first | refine WPl.rd ?_ | refine WPl.sk ?_ | refine WPl.rdB ?_)
   | (refine isAl ?_; refine WPl.nw fun g => ?_)
   | (refine isBx ?_; refine WPl.nw fun g => ?_)
   | (refine isSt ?_; first | refine WPl.st1 ?_ | refine WPl.stA ?_ | refine WPl.stEB ?_ | refine WPl.stRB ?_)
   | (show WPl _ _ _ _ _ _ _ (⟨_, .indexAddr _ _ _, _, _, _, _⟩ :: _) _; refine WPl.rdX (ReadR.indexE rfl rfl hasA (by first | assumption | omega)) ?_)
   | (show WPl _ _ _ _ _ _ _ (⟨_, .fieldAddr _ _ _, _, _, _, _⟩ :: _) _; refine WPl.rdX (ReadR.fieldE rfl hasA (by first | assumption | omega)) ?_)
   | (show WPl _ _ _ _ _ _ _ (⟨_, .load _ _, _, _, _, _⟩ :: _) _; first | refine WPl.rdX (ReadR.loadE rfl hasA (by assumption)) ?_ | refine WPl.rdX (ReadR.loadES (by assumption) (by first | assumption | omega) rfl hasA) ?_)
   | (show WPl _ _ _ _ _ _ _ (⟨_, .slice _ _ _ _ _, _, _, _, _⟩ :: _) _; first | refine WPl.rdX (ReadR.sliceH rfl rfl hasA (by omega)) ?_ | refine WPl.rdX (ReadR.sliceL rfl rfl hasA (by omega)) ?_ | refine WPl.rdX (ReadR.sliceLH rfl rfl rfl hasA (by omega) (by omega)) ?_)
   | (refine WPl.spQ (fun hc => ?_) (fun hc => ?_) <;> try exact prA)
   | fail)
  all_goals try (first | exact WPq.dTp | exact WPq.dTs | exact WPq.dV | exact WPq.dR | exact WPq.dR2 | exact WPq.dH | exact WPq.dBH | exact WPq.dT)
theorem rrw_f0b (v : Value) (b : List UInt8) (a : Adr) (p : Nat) (pr : UInt8) (k : Nat) (s1 d1 : Adr) (pt : Bool) (hp : UInt8) (sr ds : Nat) (fg : UInt8) (sa : Int) (da : Int) (fl : Fl) (hp1 : p ≤ 65535) (hp0 : p ≠ 0) (hl : b.length ≤ 100000) (he : pkVal b = .tuple #[ag (pkc ⟨⟨false, pr, (k : Int), s1, d1, pt, hp⟩, ⟨sr, ds, fg, sa, false, da⟩, fl⟩), .int .i64 0])
    (hg : a.good = true) (hs : a.six = false) (hj : sa = (sj ⟨false, pr, (k : Int), s1, d1, pt, hp⟩ : Int)) (hk2 : k + sj ⟨false, pr, (k : Int), s1, d1, pt, hp⟩ + 2 ≤ b.length) (hk20 : 20 ≤ k) (hnk : nk false 0 + a.bytes.length ≤ b.length) (hc : rsC (lay (q1 b ⟨false, pr, (k : Int), s1, d1, pt, hp⟩ 0 a p (rs1 b ⟨false, pr, (k : Int), s1, d1, pt, hp⟩ 0 a p)) ((Hd.mk false pr (k : Int) s1 d1 pt hp).pos.toNat + sj ⟨false, pr, (k : Int), s1, d1, pt, hp⟩) (twoB 0)) (hdA ⟨false, pr, (k : Int), s1, d1, pt, hp⟩ 0 a) = 0 ∧ ¬ pr.toNat = 17) :
    Triple Try.prog 7 #[v, .int .i64 0, ag (adc a), .int .u16 (p : Int)] [rb v b] (RW (r5 b ⟨false, pr, (k : Int), s1, d1, pt, hp⟩ false 0 a p) 0) := by
  have c1 := rparse_t v b hl
  rw [he] at c1
  have c2 := rgood_t a
  rw [hg] at c2
  have c4 := rbytes_t a
  have la := a.len
  have ls := s1.len
  have ld := d1.len
  have lf1 := fl.src.len
  have lf2 := fl.dst.len
  have hpr := pr.toNat_lt
  obtain ⟨j, hjj⟩ : ∃ j, j = sj ⟨false, pr, (k : Int), s1, d1, pt, hp⟩ := ⟨_, rfl⟩
  have hj6 := sj_ge ⟨false, pr, (k : Int), s1, d1, pt, hp⟩
  rw [← hjj] at hj hk2 hj6
  subst hj
  have hbl := a.bytes_len
  rw [hs] at hbl
  have t : ∀ n, (twoB n).length = 2 := fun n => rfl
  have t0 : ([0, 0] : List UInt8).length = 2 := rfl
  have c5 := fun v1 => rlay_t v v1 b a.bytes (nk false 0) hnk hl
  have l1 : (lay b (nk false 0) a.bytes).length = b.length := lay_length hnk
  have c6 := rtwo_t p hp1
  have c7 := fun v1 v2 => rlay_t v1 v2 (lay b (nk false 0) a.bytes) (twoB p) (k + 2 * 0) (by rw [l1, t]; omega) (by omega)
  have eC : lay (lay b (nk false 0) a.bytes) (k + 2 * 0) (twoB p) = core b ⟨false, pr, (k : Int), s1, d1, pt, hp⟩ 0 a p := by unfold core; rfl
  have l2 : (core b ⟨false, pr, (k : Int), s1, d1, pt, hp⟩ 0 a p).length = b.length := by rw [← eC, lay_length (by rw [l1, t]; omega), l1]
  rw [eC] at c7
  unfold r5
  unfold rs1 q1 at hc ⊢
  show Triple _ _ _ _ (RW (q2 _ _ false (rs2 (lay _ (k + sj _) (twoB 0)) _)) 0)
  rw [← hjj] at hc ⊢
  rw [show hdA ⟨false, pr, (k : Int), s1, d1, pt, hp⟩ 0 a = ⟨false, pr, (k : Int), a, d1, pt, hp⟩ from rfl] at hc ⊢
  simp only [show (Hd.mk false pr (k : Int) s1 d1 pt hp).pos.toNat = k from rfl, show (Hd.mk false pr (k : Int) s1 d1 pt hp).six = false from rfl] at hc ⊢
  rw [show twoB 0 = [0, 0] from rfl] at hc ⊢
  try simp only [if_neg (show ¬ (false = true) by decide), Bool.false_eq_true, if_false] at hc ⊢
  have c8 := fun v1 v2 => rlay_t v1 v2 (core b ⟨false, pr, (k : Int), s1, d1, pt, hp⟩ 0 a p) [0, 0] 10 (by rw [l2, t0]; omega) (by omega)
  have l3 : (lay (core b ⟨false, pr, (k : Int), s1, d1, pt, hp⟩ 0 a p) 10 [0, 0]).length = b.length := by rw [lay_length (by rw [l2, t0]; omega), l2]
  have c9 := fun v1 => rsum_t (subv 1 v1 0 k) (seg (lay (core b ⟨false, pr, (k : Int), s1, d1, pt, hp⟩ 0 a p) 10 [0, 0]) 0 k) (by rw [seg_length (by omega)]; omega)
  have hs1 := csum_le (seg (lay (core b ⟨false, pr, (k : Int), s1, d1, pt, hp⟩ 0 a p) 10 [0, 0]) 0 k)
  have c10 := rtwo_t (csum (seg (lay (core b ⟨false, pr, (k : Int), s1, d1, pt, hp⟩ 0 a p) 10 [0, 0]) 0 k)) hs1
  have c11 := fun v1 v2 => rlay_t v1 v2 (lay (core b ⟨false, pr, (k : Int), s1, d1, pt, hp⟩ 0 a p) 10 [0, 0]) (twoB (csum (seg (lay (core b ⟨false, pr, (k : Int), s1, d1, pt, hp⟩ 0 a p) 10 [0, 0]) 0 k))) 10 (by rw [l3, t]; omega) (by omega)
  have lC : (lay (lay (core b ⟨false, pr, (k : Int), s1, d1, pt, hp⟩ 0 a p) 10 [0, 0]) 10 (twoB (csum (seg (lay (core b ⟨false, pr, (k : Int), s1, d1, pt, hp⟩ 0 a p) 10 [0, 0]) 0 k)))).length = b.length := by rw [lay_length (by rw [l3, t]; omega), l3]
  generalize lay (lay (core b ⟨false, pr, (k : Int), s1, d1, pt, hp⟩ 0 a p) 10 [0, 0]) 10 (twoB (csum (seg (lay (core b ⟨false, pr, (k : Int), s1, d1, pt, hp⟩ 0 a p) 10 [0, 0]) 0 k))) = C at *
  generalize csum (seg (lay (core b ⟨false, pr, (k : Int), s1, d1, pt, hp⟩ 0 a p) 10 [0, 0]) 0 k) = S1 at *
  have hsl : (seg (lay (core b ⟨false, pr, (k : Int), s1, d1, pt, hp⟩ 0 a p) 10 [0, 0]) 0 k).length = k := seg_length (by omega)
  generalize lay (core b ⟨false, pr, (k : Int), s1, d1, pt, hp⟩ 0 a p) 10 [0, 0] = C2 at *
  generalize core b ⟨false, pr, (k : Int), s1, d1, pt, hp⟩ 0 a p = C1 at *
  generalize lay b (nk false 0) a.bytes = L1 at *
  generalize hn : a.bytes.length = n at *
  generalize twoB p = T1 at *
  generalize a.bytes = ab at *
  unfold q2
  rw [if_neg (by decide)]
  dsimp only
  rw [← hjj]
  rw [show twoB 0 = [0, 0] from rfl]
  simp only [show (k : Int).toNat = k from rfl]
  have c12 := fun v1 v2 => rlay_t v1 v2 C [0, 0] (k + j) (by rw [lC, t0]; omega) (by omega)
  have lD : (lay C (k + j) [0, 0]).length = b.length := by rw [lay_length (by rw [lC, t0]; omega), lC]
  generalize lay C (k + j) [0, 0] = D at *
  unfold rs2
  unfold rsC at hc ⊢
  dsimp only at hc ⊢
  simp only [show (k : Int).toNat = k from rfl] at hc ⊢
  have c13 := rpseudo_t ⟨false, pr, (k : Int), a, d1, pt, hp⟩ ((D.length - k : Nat) : Int) (D.length - k) (by rw [IntKind.wrap_u64]; omega) (by omega)
  have hps := psu_len ⟨false, pr, (k : Int), a, d1, pt, hp⟩ (D.length - k)
  have c14 := fun v1 => rsum_t v1 (psu ⟨false, pr, (k : Int), a, d1, pt, hp⟩ (D.length - k) ++ seg D k (D.length - k)) (by rw [List.length_append, seg_length (by omega)]; omega)
  have hS := csum_le (psu ⟨false, pr, (k : Int), a, d1, pt, hp⟩ (D.length - k) ++ seg D k (D.length - k))
  have hsl2 : (seg D k (D.length - k)).length = D.length - k := seg_length (by omega)
  generalize psu ⟨false, pr, (k : Int), a, d1, pt, hp⟩ (D.length - k) = ps at *
  generalize csum (ps ++ seg D k (D.length - k)) = S2 at *
  obtain ⟨hc1, hc2⟩ := hc
  rw [if_neg (fun h => hc2 h.2)]
  have c15 := rtwo_t S2 (by omega)
  have c16 := fun v1 v2 => rlay_t v1 v2 D (twoB S2) (k + j) (by rw [lD, t]; omega) (by omega)
  generalize twoB S2 = T2 at *
  refine Triple.enter Try.func7 rfl Try.ntmps7 rfl (fun W => ?_)
  dsimp only [argsF, Nat.reduceAdd]
  repeat' (first
   | refine WPl.nil ?_ | refine WPq.then ?_ | refine WPq.thenR ?_ | refine WPq.thenE ?_ | refine WPq.blockN ?_ | refine WPq.blockR ?_ | refine WPq.blockE ?_ | refine WPq.blockO rfl ?_ | refine WPc.seq ?_ | refine WPc.block ?_ | refine WPc.ret ?_ | refine WPc.exit ?_ | refine WPc.skip ?_ | refine WPc.region ?_
   | (refine isReg 9 ?_; refine WPc.drA [([], [46, 47, 48, 49, 50, 51, 52, 54, 55, 56, 57, 58, 59, 60]), ([], [45, 47, 48, 49, 51, 52, 54, 55, 56, 57, 58, 59, 60]), ([], [45, 46, 48, 51, 52, 54, 55, 56, 57, 58, 59, 60]), ([], [45, 46, 47, 51, 52, 54, 55, 56, 57, 58, 59, 60]), ([2, 3], [45, 46, 47, 48, 51, 52, 54, 55, 56, 57, 58, 59, 60]), ([1, 2, 3, 4], [45, 46, 47, 48, 49, 51, 52, 54, 55, 56, 57, 58, 59, 60]), ([], [45, 46, 47, 48, 49, 50, 54, 55, 56, 57, 58, 59, 60]), ([6], [45, 46, 47, 48, 49, 50, 51, 54, 55, 56, 57, 58, 59, 60]), ([0, 1, 2, 3, 4, 5, 6, 7], [45, 46, 47, 48, 49, 50, 51, 52, 54, 55, 56, 57, 58, 59, 60]), ([], [45, 46, 47, 48, 49, 50, 51, 52, 53, 57, 58, 60, 61]), ([9], [45, 46, 47, 48, 49, 50, 51, 52, 53, 54, 57, 58, 60, 61]), ([9, 10], [45, 46, 47, 48, 49, 50, 51, 52, 53, 54, 55, 57, 58, 60, 61]), ([], [45, 46, 47, 48, 49, 50, 51, 52, 53, 54, 55, 56, 60, 61]), ([12], [45, 46, 47, 48, 49, 50, 51, 52, 53, 54, 55, 56, 57, 60, 61]), ([9, 10, 11, 12, 13], [45, 46, 47, 48, 49, 50, 51, 52, 53, 54, 55, 56, 57, 58, 60, 61]), ([], [45, 46, 47, 48, 49, 50, 51, 52, 53, 54, 55, 56, 57, 58, 59]), ([0, 1, 2, 3, 4, 5, 6, 7, 8, 15], [45, 46, 47, 48, 49, 50, 51, 52, 53, 54, 55, 56, 57, 58, 59, 60]), ([0, 1, 2, 3, 4, 5, 6, 7, 8, 9, 10, 11, 12, 13, 14, 15, 16], [45, 46, 47, 48, 49, 50, 51, 52, 53, 54, 55, 56, 57, 58, 59, 60, 61]), ([0, 1, 2, 3, 4, 5, 6, 7, 8, 9, 10, 11, 12, 13, 14, 15, 16, 17], [45, 46, 47, 48, 49, 50, 51, 52, 53, 54, 55, 56, 57, 58, 59, 60, 61, 62])] [] (Γx := []) ?_; dsimp only [prev0, List.length_nil, List.length_cons])
   | (refine isReg 15 ?_; refine WPc.drA [([], [15, 84, 85, 86, 87, 88, 89, 90]), ([0], [15, 82, 84, 85, 86, 87, 88, 89, 90]), ([], [15, 82, 83, 87, 88, 89]), ([2], [15, 82, 83, 84, 87, 88, 89]), ([2, 3], [15, 82, 83, 84, 85, 87, 88, 89]), ([], [15, 82, 83, 84, 85, 86]), ([5], [15, 82, 83, 84, 85, 86, 87]), ([5, 6], [15, 82, 83, 84, 85, 86, 87, 88]), ([2, 3, 4, 5, 6, 7], [15, 82, 83, 84, 85, 86, 87, 88, 89]), ([], [82, 83, 84, 85, 86, 87, 88, 89, 90]), ([0, 1, 9], [15, 82, 83, 84, 85, 86, 87, 88, 89, 90]), ([0, 1, 2, 3, 4, 5, 6, 7, 8, 9, 10], [15, 82, 83, 84, 85, 86, 87, 88, 89, 90])] [(9, 10)] (Γx := []) ?_; dsimp only [prev0, List.length_nil, List.length_cons])
   | (refine isReg 20 ?_; refine WPc.drA [([], [102, 103, 104, 105, 106, 108, 109, 110, 111]), ([], [101, 104, 105, 108, 109, 110, 111]), ([1], [101, 102, 104, 105, 108, 109, 110, 111]), ([], [101, 102, 103, 108, 109, 110, 111]), ([3], [101, 102, 103, 104, 108, 109, 110, 111]), ([1, 2, 3, 4], [101, 102, 103, 104, 105, 108, 109, 110, 111]), ([0, 1, 2, 3, 4, 5], [101, 102, 103, 104, 105, 106, 108, 109, 110, 111]), ([], [101, 102, 103, 104, 105, 106, 107, 109, 110]), ([], [101, 102, 103, 104, 105, 106, 107, 108]), ([8], [101, 102, 103, 104, 105, 106, 107, 108, 109]), ([7, 8, 9], [101, 102, 103, 104, 105, 106, 107, 108, 109, 110]), ([0, 1, 2, 3, 4, 5, 6, 7, 8, 9, 10], [101, 102, 103, 104, 105, 106, 107, 108, 109, 110, 111]), ([0, 1, 2, 3, 4, 5, 6, 7, 8, 9, 10, 11], [101, 102, 103, 104, 105, 106, 107, 108, 109, 110, 111, 112]), ([0, 1, 2, 3, 4, 5, 6, 7, 8, 9, 10, 11, 12], [101, 102, 103, 104, 105, 106, 107, 108, 109, 110, 111, 112, 113])] [(6, 11)] (Γx := []) ?_; dsimp only [prev0, List.length_nil, List.length_cons])
   | (refine gAny ?_; first | (refine gC 20 ?_; refine RGl.vl (fun e hk => OpT.callN (c1)) ?_) | (refine gC 28 ?_; refine RGl.vl (fun e hk => OpT.callN (c2)) ?_) | (refine gC 52 ?_; refine RGl.row (Γ1 := fun _ => []) (fun e hk => OpT.callN (c4)) ?_) | (refine gC 53 ?_; refine RGl.row (Γ1 := fun _ => []) (fun e hk => OpT.callN ((c5 _))) ?_) | (refine gC 61 ?_; refine RGl.row (Γ1 := fun _ => []) (fun e hk => OpT.callN (c6)) ?_) | (refine gC 62 ?_; refine RGl.row (Γ1 := fun _ => []) (fun e hk => OpT.callN ((c7 _ _))) ?_) | (refine gC 68 ?_; refine RGl.row (Γ1 := fun _ => []) (fun e hk => OpT.callN ((c8 _ _))) ?_) | (refine gC 75 ?_; refine RGl.vl (fun e hk => OpT.callN ((c9 _))) ?_) | (refine gC 76 ?_; refine RGl.row (Γ1 := fun _ => []) (fun e hk => OpT.callN (c10)) ?_) | (refine gC 77 ?_; refine RGl.row (Γ1 := fun _ => []) (fun e hk => OpT.callN ((c11 _ _))) ?_) | (refine gC 100 ?_; refine RGl.row (Γ1 := fun _ => []) (fun e hk => OpT.callN ((c12 _ _))) ?_) | (refine gC 107 ?_; refine RGl.row (Γ1 := fun _ => []) (fun e hk => OpT.callN (c13)) ?_) | (refine gC 113 ?_; refine RGl.vl (fun e hk => OpT.callN ((c14 _))) ?_) | (refine gC 124 ?_; refine RGl.row (Γ1 := fun _ => []) (fun e hk => OpT.callN (c15)) ?_) | (refine gC 125 ?_; refine RGl.row (Γ1 := fun _ => []) (fun e hk => OpT.callN ((c16 _ _))) ?_) | (refine gD 36 ?_; refine RGl.rdX (fun e hk => by (try dsimp only [bndR, ensR, oksR, fcutR, List.append_nil, List.nil_append, List.cons_append, List.append_assoc] at hk ⊢); exact ReadR.binE rfl rfl (BinR.neqB (by kernel_rfl)) (congrArg Value.bool (show (!(a.six == false)) = false by rw [hs]; rfl))) ?_) | (refine gD 40 ?_; refine RGl.rdX (fun e hk => by (try dsimp only [bndR, ensR, oksR, fcutR, List.append_nil, List.nil_append, List.cons_append, List.append_assoc] at hk ⊢); exact ReadR.binE rfl rfl BinR.eql (congrArg Value.bool (decide_eq_false (show ¬ (p : Int) = 0 by omega)))) ?_) | (refine gD 50 ?_; refine RGl.rdX (fun e hk => by (try dsimp only [bndR, ensR, oksR, fcutR, List.append_nil, List.nil_append, List.cons_append, List.append_assoc] at hk ⊢); exact ReadR.binE rfl rfl (BinR.addI (by omega) (by omega)) (congrArg (Value.int .i64) (show _ = ((nk false 0 : Nat) : Int) from by first | rfl | (simp [nk]; done) | (simp [nk]; omega)))) ?_) | (refine gD 59 ?_; refine RGl.rdX (fun e hk => by (try dsimp only [bndR, ensR, oksR, fcutR, List.append_nil, List.nil_append, List.cons_append, List.append_assoc] at hk ⊢); exact ReadR.binE rfl rfl (BinR.addI (by omega) (by omega)) (congrArg (Value.int .i64) (show _ = ((k + 2 * 0 : Nat) : Int) from by first | omega | (simp; done) | (simp; omega)))) ?_) | (refine gD 90 ?_; refine RGl.rdX (fun e hk => by (try dsimp only [bndR, ensR, oksR, fcutR, List.append_nil, List.nil_append, List.cons_append, List.append_assoc] at hk ⊢); exact ReadR.binE rfl rfl (BinR.addI (by omega) (by omega)) (congrArg (Value.int .i64) (show _ = ((k + j : Nat) : Int) from by omega))) ?_) | (refine gD 106 ?_; refine RGl.rdX (fun e hk => by (try dsimp only [bndR, ensR, oksR, fcutR, List.append_nil, List.nil_append, List.cons_append, List.append_assoc] at hk ⊢); exact ReadR.binE rfl rfl (BinR.subI (by omega) (by omega)) (congrArg (Value.int .i64) (show _ = ((D.length - k : Nat) : Int) from by omega))) ?_) | ((show RGl _ _ _ _ _ _ _ _ (⟨_, .store _ (.tmp 15) _, _, _, _, _⟩ :: _) _ _; refine RGl.turn (fun e hk => by (try dsimp only [bndR, ensR, oksR, fcutR, List.append_nil, List.nil_append, List.cons_append, List.append_assoc] at hk ⊢); exact OpT.storeA (cs' := hdc ⟨false, pr, (k : Int), s1, d1, pt, hp⟩) rfl rfl takesA fokA (by kernel_rfl) (by kernel_rfl)) ?_)) | (refine gD 115 ?_; refine RGl.rdX (fun e hk => by (try dsimp only [bndR, ensR, oksR, fcutR, List.append_nil, List.nil_append, List.cons_append, List.append_assoc] at hk ⊢); exact ReadR.binE rfl rfl BinR.eql (congrArg Value.bool (decide_eq_true (show ((S2 : Nat) : Int) = 0 by omega)))) ?_) | (refine gD 119 ?_; refine RGl.rdX (fun e hk => by (try dsimp only [bndR, ensR, oksR, fcutR, List.append_nil, List.nil_append, List.cons_append, List.append_assoc] at hk ⊢); exact ReadR.binE rfl rfl BinR.eql (congrArg Value.bool (decide_eq_false (show ¬ ((pr.toNat : Nat) : Int) = 17 by omega)))) ?_) | (refine gOp ?_; first | refine RGl.rdA ?_ | refine RGl.rdX (fun e hk => by (try dsimp only [bndR, ensR, oksR, fcutR, List.append_nil, List.nil_append, List.cons_append, List.append_assoc] at hk ⊢); exact readB) ?_) | (refine gAl ?_; refine RGl.nwA ?_) | (refine gApp ?_; refine RGl.appA ?_) | (refine gSt ?_; refine RGl.stA ?_) | (refine RGl.fin (fun e hk => ?_); (try dsimp only [bndA, ensAR, oksA, List.append_nil, List.nil_append, List.cons_append, List.append_assoc] at hk ⊢); (repeat (obtain ⟨hk1, hk⟩ := hk))) | fail)
   | (refine isCond ?_; first | refine WPc.cT ?_ | refine WPc.cF ?_ | (refine WPc.cQ (fun hc => ?_) (fun hc => ?_) <;> try exact prA))
   | (refine isD 36 ?_; refine WPl.rdX (ReadR.binE rfl rfl (BinR.neqB (by kernel_rfl)) (congrArg Value.bool (show (!(a.six == false)) = false by rw [hs]; rfl))) ?_)
   | (refine isD 40 ?_; refine WPl.rdX (ReadR.binE rfl rfl BinR.eql (congrArg Value.bool (decide_eq_false (show ¬ (p : Int) = 0 by omega)))) ?_)
   | (refine isC 20 ?_; refine WPl.cV (c1) ?_)
   | (show WPl _ _ _ _ _ _ _ (⟨_, .store 39 (.tmp 10) _, _, _, _, _⟩ :: _) _; refine WPl.stA (new := pkc ⟨⟨false, pr, (k : Int), s1, d1, pt, hp⟩, ⟨sr, ds, fg, (j : Int), false, da⟩, fl⟩) ?_ (ht := by kernel_rfl))
   | (refine isC 28 ?_; refine WPl.cV (c2) ?_)
   | (refine isC 52 ?_; refine WPl.cR (c4) fun v hv => ?_)
   | (refine isC 53 ?_; refine WPl.cR ((c5 _)) fun v hv => ?_)
   | (refine isC 61 ?_; refine WPl.cR (c6) fun v hv => ?_)
   | (refine isC 62 ?_; refine WPl.cR ((c7 _ _)) fun v hv => ?_)
   | (refine isC 68 ?_; refine WPl.cR ((c8 _ _)) fun v hv => ?_)
   | (refine isLit ?_; refine WPl.lit fun v hv => ?_)
   | (refine isC 75 ?_; refine WPl.cV ((c9 _)) ?_)
   | (refine isC 76 ?_; refine WPl.cR (c10) fun v hv => ?_)
   | (refine isC 77 ?_; refine WPl.cR ((c11 _ _)) fun v hv => ?_)
   | (refine isLit ?_; refine WPl.lit fun v hv => ?_)
   | (refine isC 100 ?_; refine WPl.cR ((c12 _ _)) fun v hv => ?_)
   | (refine isC 107 ?_; refine WPl.cR (c13) fun v hv => ?_)
   | (refine isC 113 ?_; refine WPl.cV ((c14 _)) ?_)
   | (refine isC 124 ?_; refine WPl.cR (c15) fun v hv => ?_)
   | (refine isC 125 ?_; refine WPl.cR ((c16 _ _)) fun v hv => ?_)
   | (refine isD 115 ?_; refine WPl.rdX (ReadR.binE rfl rfl BinR.eql (congrArg Value.bool (decide_eq_true (show ((S2 : Nat) : Int) = 0 by omega)))) ?_)
   | (refine isD 119 ?_; refine WPl.rdX (ReadR.binE rfl rfl BinR.eql (congrArg Value.bool (decide_eq_false (show ¬ ((pr.toNat : Nat) : Int) = 17 by omega)))) ?_)
   | (refine isOp ?_; first | refine WPl.rd ?_ | refine WPl.sk ?_ | refine WPl.rdB ?_)
   | (refine isAl ?_; refine WPl.nw fun g => ?_)
   | (refine isBx ?_; refine WPl.nw fun g => ?_)
   | (refine isSt ?_; first | refine WPl.st1 ?_ | refine WPl.stA ?_ | refine WPl.stEB ?_ | refine WPl.stRB ?_)
   | (show WPl _ _ _ _ _ _ _ (⟨_, .indexAddr _ _ _, _, _, _, _⟩ :: _) _; refine WPl.rdX (ReadR.indexE rfl rfl hasA (by first | assumption | omega)) ?_)
   | (show WPl _ _ _ _ _ _ _ (⟨_, .fieldAddr _ _ _, _, _, _, _⟩ :: _) _; refine WPl.rdX (ReadR.fieldE rfl hasA (by first | assumption | omega)) ?_)
   | (show WPl _ _ _ _ _ _ _ (⟨_, .load _ _, _, _, _, _⟩ :: _) _; first | refine WPl.rdX (ReadR.loadE rfl hasA (by assumption)) ?_ | refine WPl.rdX (ReadR.loadES (by assumption) (by first | assumption | omega) rfl hasA) ?_)
   | (show WPl _ _ _ _ _ _ _ (⟨_, .slice _ _ _ _ _, _, _, _, _⟩ :: _) _; first | refine WPl.rdX (ReadR.sliceH rfl rfl hasA (by omega)) ?_ | refine WPl.rdX (ReadR.sliceL rfl rfl hasA (by omega)) ?_ | refine WPl.rdX (ReadR.sliceLH rfl rfl rfl hasA (by omega) (by omega)) ?_)
   | (refine WPl.spQ (fun hc => ?_) (fun hc => ?_) <;> try exact prA)
   | fail)
  all_goals try (first | exact WPq.dTp | exact WPq.dTs | exact WPq.dV | exact WPq.dR | exact WPq.dR2 | exact WPq.dH | exact WPq.dBH | exact WPq.dT)
theorem rrw_f0c (v : Value) (b : List UInt8) (a : Adr) (p : Nat) (pr : UInt8) (k : Nat) (s1 d1 : Adr) (pt : Bool) (hp : UInt8) (sr ds : Nat) (fg : UInt8) (sa : Int) (da : Int) (fl : Fl) (hp1 : p ≤ 65535) (hp0 : p ≠ 0) (hl : b.length ≤ 100000) (he : pkVal b = .tuple #[ag (pkc ⟨⟨false, pr, (k : Int), s1, d1, pt, hp⟩, ⟨sr, ds, fg, sa, false, da⟩, fl⟩), .int .i64 0])
    (hg : a.good = true) (hs : a.six = false) (hj : sa = (sj ⟨false, pr, (k : Int), s1, d1, pt, hp⟩ : Int)) (hk2 : k + sj ⟨false, pr, (k : Int), s1, d1, pt, hp⟩ + 2 ≤ b.length) (hk20 : 20 ≤ k) (hnk : nk false 0 + a.bytes.length ≤ b.length) (hc : ¬ rsC (lay (q1 b ⟨false, pr, (k : Int), s1, d1, pt, hp⟩ 0 a p (rs1 b ⟨false, pr, (k : Int), s1, d1, pt, hp⟩ 0 a p)) ((Hd.mk false pr (k : Int) s1 d1 pt hp).pos.toNat + sj ⟨false, pr, (k : Int), s1, d1, pt, hp⟩) (twoB 0)) (hdA ⟨false, pr, (k : Int), s1, d1, pt, hp⟩ 0 a) = 0 ∧ True) :
    Triple Try.prog 7 #[v, .int .i64 0, ag (adc a), .int .u16 (p : Int)] [rb v b] (RW (r5 b ⟨false, pr, (k : Int), s1, d1, pt, hp⟩ false 0 a p) 0) := by
  have c1 := rparse_t v b hl
  rw [he] at c1
  have c2 := rgood_t a
  rw [hg] at c2
  have c4 := rbytes_t a
  have la := a.len
  have ls := s1.len
  have ld := d1.len
  have lf1 := fl.src.len
  have lf2 := fl.dst.len
  have hpr := pr.toNat_lt
  obtain ⟨j, hjj⟩ : ∃ j, j = sj ⟨false, pr, (k : Int), s1, d1, pt, hp⟩ := ⟨_, rfl⟩
  have hj6 := sj_ge ⟨false, pr, (k : Int), s1, d1, pt, hp⟩
  rw [← hjj] at hj hk2 hj6
  subst hj
  have hbl := a.bytes_len
  rw [hs] at hbl
  have t : ∀ n, (twoB n).length = 2 := fun n => rfl
  have t0 : ([0, 0] : List UInt8).length = 2 := rfl
  have c5 := fun v1 => rlay_t v v1 b a.bytes (nk false 0) hnk hl
  have l1 : (lay b (nk false 0) a.bytes).length = b.length := lay_length hnk
  have c6 := rtwo_t p hp1
  have c7 := fun v1 v2 => rlay_t v1 v2 (lay b (nk false 0) a.bytes) (twoB p) (k + 2 * 0) (by rw [l1, t]; omega) (by omega)
  have eC : lay (lay b (nk false 0) a.bytes) (k + 2 * 0) (twoB p) = core b ⟨false, pr, (k : Int), s1, d1, pt, hp⟩ 0 a p := by unfold core; rfl
  have l2 : (core b ⟨false, pr, (k : Int), s1, d1, pt, hp⟩ 0 a p).length = b.length := by rw [← eC, lay_length (by rw [l1, t]; omega), l1]
  rw [eC] at c7
  unfold r5
  unfold rs1 q1 at hc ⊢
  show Triple _ _ _ _ (RW (q2 _ _ false (rs2 (lay _ (k + sj _) (twoB 0)) _)) 0)
  rw [← hjj] at hc ⊢
  rw [show hdA ⟨false, pr, (k : Int), s1, d1, pt, hp⟩ 0 a = ⟨false, pr, (k : Int), a, d1, pt, hp⟩ from rfl] at hc ⊢
  simp only [show (Hd.mk false pr (k : Int) s1 d1 pt hp).pos.toNat = k from rfl, show (Hd.mk false pr (k : Int) s1 d1 pt hp).six = false from rfl] at hc ⊢
  rw [show twoB 0 = [0, 0] from rfl] at hc ⊢
  try simp only [if_neg (show ¬ (false = true) by decide), Bool.false_eq_true, if_false] at hc ⊢
  have c8 := fun v1 v2 => rlay_t v1 v2 (core b ⟨false, pr, (k : Int), s1, d1, pt, hp⟩ 0 a p) [0, 0] 10 (by rw [l2, t0]; omega) (by omega)
  have l3 : (lay (core b ⟨false, pr, (k : Int), s1, d1, pt, hp⟩ 0 a p) 10 [0, 0]).length = b.length := by rw [lay_length (by rw [l2, t0]; omega), l2]
  have c9 := fun v1 => rsum_t (subv 1 v1 0 k) (seg (lay (core b ⟨false, pr, (k : Int), s1, d1, pt, hp⟩ 0 a p) 10 [0, 0]) 0 k) (by rw [seg_length (by omega)]; omega)
  have hs1 := csum_le (seg (lay (core b ⟨false, pr, (k : Int), s1, d1, pt, hp⟩ 0 a p) 10 [0, 0]) 0 k)
  have c10 := rtwo_t (csum (seg (lay (core b ⟨false, pr, (k : Int), s1, d1, pt, hp⟩ 0 a p) 10 [0, 0]) 0 k)) hs1
  have c11 := fun v1 v2 => rlay_t v1 v2 (lay (core b ⟨false, pr, (k : Int), s1, d1, pt, hp⟩ 0 a p) 10 [0, 0]) (twoB (csum (seg (lay (core b ⟨false, pr, (k : Int), s1, d1, pt, hp⟩ 0 a p) 10 [0, 0]) 0 k))) 10 (by rw [l3, t]; omega) (by omega)
  have lC : (lay (lay (core b ⟨false, pr, (k : Int), s1, d1, pt, hp⟩ 0 a p) 10 [0, 0]) 10 (twoB (csum (seg (lay (core b ⟨false, pr, (k : Int), s1, d1, pt, hp⟩ 0 a p) 10 [0, 0]) 0 k)))).length = b.length := by rw [lay_length (by rw [l3, t]; omega), l3]
  generalize lay (lay (core b ⟨false, pr, (k : Int), s1, d1, pt, hp⟩ 0 a p) 10 [0, 0]) 10 (twoB (csum (seg (lay (core b ⟨false, pr, (k : Int), s1, d1, pt, hp⟩ 0 a p) 10 [0, 0]) 0 k))) = C at *
  generalize csum (seg (lay (core b ⟨false, pr, (k : Int), s1, d1, pt, hp⟩ 0 a p) 10 [0, 0]) 0 k) = S1 at *
  have hsl : (seg (lay (core b ⟨false, pr, (k : Int), s1, d1, pt, hp⟩ 0 a p) 10 [0, 0]) 0 k).length = k := seg_length (by omega)
  generalize lay (core b ⟨false, pr, (k : Int), s1, d1, pt, hp⟩ 0 a p) 10 [0, 0] = C2 at *
  generalize core b ⟨false, pr, (k : Int), s1, d1, pt, hp⟩ 0 a p = C1 at *
  generalize lay b (nk false 0) a.bytes = L1 at *
  generalize hn : a.bytes.length = n at *
  generalize twoB p = T1 at *
  generalize a.bytes = ab at *
  unfold q2
  rw [if_neg (by decide)]
  dsimp only
  rw [← hjj]
  rw [show twoB 0 = [0, 0] from rfl]
  simp only [show (k : Int).toNat = k from rfl]
  have c12 := fun v1 v2 => rlay_t v1 v2 C [0, 0] (k + j) (by rw [lC, t0]; omega) (by omega)
  have lD : (lay C (k + j) [0, 0]).length = b.length := by rw [lay_length (by rw [lC, t0]; omega), lC]
  generalize lay C (k + j) [0, 0] = D at *
  unfold rs2
  unfold rsC at hc ⊢
  dsimp only at hc ⊢
  simp only [show (k : Int).toNat = k from rfl] at hc ⊢
  have c13 := rpseudo_t ⟨false, pr, (k : Int), a, d1, pt, hp⟩ ((D.length - k : Nat) : Int) (D.length - k) (by rw [IntKind.wrap_u64]; omega) (by omega)
  have hps := psu_len ⟨false, pr, (k : Int), a, d1, pt, hp⟩ (D.length - k)
  have c14 := fun v1 => rsum_t v1 (psu ⟨false, pr, (k : Int), a, d1, pt, hp⟩ (D.length - k) ++ seg D k (D.length - k)) (by rw [List.length_append, seg_length (by omega)]; omega)
  have hS := csum_le (psu ⟨false, pr, (k : Int), a, d1, pt, hp⟩ (D.length - k) ++ seg D k (D.length - k))
  have hsl2 : (seg D k (D.length - k)).length = D.length - k := seg_length (by omega)
  generalize psu ⟨false, pr, (k : Int), a, d1, pt, hp⟩ (D.length - k) = ps at *
  generalize csum (ps ++ seg D k (D.length - k)) = S2 at *
  obtain ⟨hc1, hc2⟩ := hc
  rw [if_neg (fun h => hc1 h.1)]
  have c15 := rtwo_t S2 (by omega)
  have c16 := fun v1 v2 => rlay_t v1 v2 D (twoB S2) (k + j) (by rw [lD, t]; omega) (by omega)
  generalize twoB S2 = T2 at *
  refine Triple.enter Try.func7 rfl Try.ntmps7 rfl (fun W => ?_)
  dsimp only [argsF, Nat.reduceAdd]
  repeat' (first
   | refine WPl.nil ?_ | refine WPq.then ?_ | refine WPq.thenR ?_ | refine WPq.thenE ?_ | refine WPq.blockN ?_ | refine WPq.blockR ?_ | refine WPq.blockE ?_ | refine WPq.blockO rfl ?_ | refine WPc.seq ?_ | refine WPc.block ?_ | refine WPc.ret ?_ | refine WPc.exit ?_ | refine WPc.skip ?_ | refine WPc.region ?_
   | (refine isReg 9 ?_; refine WPc.drA [([], [46, 47, 48, 49, 50, 51, 52, 54, 55, 56, 57, 58, 59, 60]), ([], [45, 47, 48, 49, 51, 52, 54, 55, 56, 57, 58, 59, 60]), ([], [45, 46, 48, 51, 52, 54, 55, 56, 57, 58, 59, 60]), ([], [45, 46, 47, 51, 52, 54, 55, 56, 57, 58, 59, 60]), ([2, 3], [45, 46, 47, 48, 51, 52, 54, 55, 56, 57, 58, 59, 60]), ([1, 2, 3, 4], [45, 46, 47, 48, 49, 51, 52, 54, 55, 56, 57, 58, 59, 60]), ([], [45, 46, 47, 48, 49, 50, 54, 55, 56, 57, 58, 59, 60]), ([6], [45, 46, 47, 48, 49, 50, 51, 54, 55, 56, 57, 58, 59, 60]), ([0, 1, 2, 3, 4, 5, 6, 7], [45, 46, 47, 48, 49, 50, 51, 52, 54, 55, 56, 57, 58, 59, 60]), ([], [45, 46, 47, 48, 49, 50, 51, 52, 53, 57, 58, 60, 61]), ([9], [45, 46, 47, 48, 49, 50, 51, 52, 53, 54, 57, 58, 60, 61]), ([9, 10], [45, 46, 47, 48, 49, 50, 51, 52, 53, 54, 55, 57, 58, 60, 61]), ([], [45, 46, 47, 48, 49, 50, 51, 52, 53, 54, 55, 56, 60, 61]), ([12], [45, 46, 47, 48, 49, 50, 51, 52, 53, 54, 55, 56, 57, 60, 61]), ([9, 10, 11, 12, 13], [45, 46, 47, 48, 49, 50, 51, 52, 53, 54, 55, 56, 57, 58, 60, 61]), ([], [45, 46, 47, 48, 49, 50, 51, 52, 53, 54, 55, 56, 57, 58, 59]), ([0, 1, 2, 3, 4, 5, 6, 7, 8, 15], [45, 46, 47, 48, 49, 50, 51, 52, 53, 54, 55, 56, 57, 58, 59, 60]), ([0, 1, 2, 3, 4, 5, 6, 7, 8, 9, 10, 11, 12, 13, 14, 15, 16], [45, 46, 47, 48, 49, 50, 51, 52, 53, 54, 55, 56, 57, 58, 59, 60, 61]), ([0, 1, 2, 3, 4, 5, 6, 7, 8, 9, 10, 11, 12, 13, 14, 15, 16, 17], [45, 46, 47, 48, 49, 50, 51, 52, 53, 54, 55, 56, 57, 58, 59, 60, 61, 62])] [] (Γx := []) ?_; dsimp only [prev0, List.length_nil, List.length_cons])
   | (refine isReg 15 ?_; refine WPc.drA [([], [15, 84, 85, 86, 87, 88, 89, 90]), ([0], [15, 82, 84, 85, 86, 87, 88, 89, 90]), ([], [15, 82, 83, 87, 88, 89]), ([2], [15, 82, 83, 84, 87, 88, 89]), ([2, 3], [15, 82, 83, 84, 85, 87, 88, 89]), ([], [15, 82, 83, 84, 85, 86]), ([5], [15, 82, 83, 84, 85, 86, 87]), ([5, 6], [15, 82, 83, 84, 85, 86, 87, 88]), ([2, 3, 4, 5, 6, 7], [15, 82, 83, 84, 85, 86, 87, 88, 89]), ([], [82, 83, 84, 85, 86, 87, 88, 89, 90]), ([0, 1, 9], [15, 82, 83, 84, 85, 86, 87, 88, 89, 90]), ([0, 1, 2, 3, 4, 5, 6, 7, 8, 9, 10], [15, 82, 83, 84, 85, 86, 87, 88, 89, 90])] [(9, 10)] (Γx := []) ?_; dsimp only [prev0, List.length_nil, List.length_cons])
   | (refine isReg 20 ?_; refine WPc.drA [([], [102, 103, 104, 105, 106, 108, 109, 110, 111]), ([], [101, 104, 105, 108, 109, 110, 111]), ([1], [101, 102, 104, 105, 108, 109, 110, 111]), ([], [101, 102, 103, 108, 109, 110, 111]), ([3], [101, 102, 103, 104, 108, 109, 110, 111]), ([1, 2, 3, 4], [101, 102, 103, 104, 105, 108, 109, 110, 111]), ([0, 1, 2, 3, 4, 5], [101, 102, 103, 104, 105, 106, 108, 109, 110, 111]), ([], [101, 102, 103, 104, 105, 106, 107, 109, 110]), ([], [101, 102, 103, 104, 105, 106, 107, 108]), ([8], [101, 102, 103, 104, 105, 106, 107, 108, 109]), ([7, 8, 9], [101, 102, 103, 104, 105, 106, 107, 108, 109, 110]), ([0, 1, 2, 3, 4, 5, 6, 7, 8, 9, 10], [101, 102, 103, 104, 105, 106, 107, 108, 109, 110, 111]), ([0, 1, 2, 3, 4, 5, 6, 7, 8, 9, 10, 11], [101, 102, 103, 104, 105, 106, 107, 108, 109, 110, 111, 112]), ([0, 1, 2, 3, 4, 5, 6, 7, 8, 9, 10, 11, 12], [101, 102, 103, 104, 105, 106, 107, 108, 109, 110, 111, 112, 113])] [(6, 11)] (Γx := []) ?_; dsimp only [prev0, List.length_nil, List.length_cons])
   | (refine gAny ?_; first | (refine gC 20 ?_; refine RGl.vl (fun e hk => OpT.callN (c1)) ?_) | (refine gC 28 ?_; refine RGl.vl (fun e hk => OpT.callN (c2)) ?_) | (refine gC 52 ?_; refine RGl.row (Γ1 := fun _ => []) (fun e hk => OpT.callN (c4)) ?_) | (refine gC 53 ?_; refine RGl.row (Γ1 := fun _ => []) (fun e hk => OpT.callN ((c5 _))) ?_) | (refine gC 61 ?_; refine RGl.row (Γ1 := fun _ => []) (fun e hk => OpT.callN (c6)) ?_) | (refine gC 62 ?_; refine RGl.row (Γ1 := fun _ => []) (fun e hk => OpT.callN ((c7 _ _))) ?_) | (refine gC 68 ?_; refine RGl.row (Γ1 := fun _ => []) (fun e hk => OpT.callN ((c8 _ _))) ?_) | (refine gC 75 ?_; refine RGl.vl (fun e hk => OpT.callN ((c9 _))) ?_) | (refine gC 76 ?_; refine RGl.row (Γ1 := fun _ => []) (fun e hk => OpT.callN (c10)) ?_) | (refine gC 77 ?_; refine RGl.row (Γ1 := fun _ => []) (fun e hk => OpT.callN ((c11 _ _))) ?_) | (refine gC 100 ?_; refine RGl.row (Γ1 := fun _ => []) (fun e hk => OpT.callN ((c12 _ _))) ?_) | (refine gC 107 ?_; refine RGl.row (Γ1 := fun _ => []) (fun e hk => OpT.callN (c13)) ?_) | (refine gC 113 ?_; refine RGl.vl (fun e hk => OpT.callN ((c14 _))) ?_) | (refine gC 124 ?_; refine RGl.row (Γ1 := fun _ => []) (fun e hk => OpT.callN (c15)) ?_) | (refine gC 125 ?_; refine RGl.row (Γ1 := fun _ => []) (fun e hk => OpT.callN ((c16 _ _))) ?_) | (refine gD 36 ?_; refine RGl.rdX (fun e hk => by (try dsimp only [bndR, ensR, oksR, fcutR, List.append_nil, List.nil_append, List.cons_append, List.append_assoc] at hk ⊢); exact ReadR.binE rfl rfl (BinR.neqB (by kernel_rfl)) (congrArg Value.bool (show (!(a.six == false)) = false by rw [hs]; rfl))) ?_) | (refine gD 40 ?_; refine RGl.rdX (fun e hk => by (try dsimp only [bndR, ensR, oksR, fcutR, List.append_nil, List.nil_append, List.cons_append, List.append_assoc] at hk ⊢); exact ReadR.binE rfl rfl BinR.eql (congrArg Value.bool (decide_eq_false (show ¬ (p : Int) = 0 by omega)))) ?_) | (refine gD 50 ?_; refine RGl.rdX (fun e hk => by (try dsimp only [bndR, ensR, oksR, fcutR, List.append_nil, List.nil_append, List.cons_append, List.append_assoc] at hk ⊢); exact ReadR.binE rfl rfl (BinR.addI (by omega) (by omega)) (congrArg (Value.int .i64) (show _ = ((nk false 0 : Nat) : Int) from by first | rfl | (simp [nk]; done) | (simp [nk]; omega)))) ?_) | (refine gD 59 ?_; refine RGl.rdX (fun e hk => by (try dsimp only [bndR, ensR, oksR, fcutR, List.append_nil, List.nil_append, List.cons_append, List.append_assoc] at hk ⊢); exact ReadR.binE rfl rfl (BinR.addI (by omega) (by omega)) (congrArg (Value.int .i64) (show _ = ((k + 2 * 0 : Nat) : Int) from by first | omega | (simp; done) | (simp; omega)))) ?_) | (refine gD 90 ?_; refine RGl.rdX (fun e hk => by (try dsimp only [bndR, ensR, oksR, fcutR, List.append_nil, List.nil_append, List.cons_append, List.append_assoc] at hk ⊢); exact ReadR.binE rfl rfl (BinR.addI (by omega) (by omega)) (congrArg (Value.int .i64) (show _ = ((k + j : Nat) : Int) from by omega))) ?_) | (refine gD 106 ?_; refine RGl.rdX (fun e hk => by (try dsimp only [bndR, ensR, oksR, fcutR, List.append_nil, List.nil_append, List.cons_append, List.append_assoc] at hk ⊢); exact ReadR.binE rfl rfl (BinR.subI (by omega) (by omega)) (congrArg (Value.int .i64) (show _ = ((D.length - k : Nat) : Int) from by omega))) ?_) | ((show RGl _ _ _ _ _ _ _ _ (⟨_, .store _ (.tmp 15) _, _, _, _, _⟩ :: _) _ _; refine RGl.turn (fun e hk => by (try dsimp only [bndR, ensR, oksR, fcutR, List.append_nil, List.nil_append, List.cons_append, List.append_assoc] at hk ⊢); exact OpT.storeA (cs' := hdc ⟨false, pr, (k : Int), s1, d1, pt, hp⟩) rfl rfl takesA fokA (by kernel_rfl) (by kernel_rfl)) ?_)) | (refine gD 115 ?_; refine RGl.rdX (fun e hk => by (try dsimp only [bndR, ensR, oksR, fcutR, List.append_nil, List.nil_append, List.cons_append, List.append_assoc] at hk ⊢); exact ReadR.binE rfl rfl BinR.eql (congrArg Value.bool (decide_eq_false (show ¬ ((S2 : Nat) : Int) = 0 by omega)))) ?_) | (refine gOp ?_; first | refine RGl.rdA ?_ | refine RGl.rdX (fun e hk => by (try dsimp only [bndR, ensR, oksR, fcutR, List.append_nil, List.nil_append, List.cons_append, List.append_assoc] at hk ⊢); exact readB) ?_) | (refine gAl ?_; refine RGl.nwA ?_) | (refine gApp ?_; refine RGl.appA ?_) | (refine gSt ?_; refine RGl.stA ?_) | (refine RGl.fin (fun e hk => ?_); (try dsimp only [bndA, ensAR, oksA, List.append_nil, List.nil_append, List.cons_append, List.append_assoc] at hk ⊢); (repeat (obtain ⟨hk1, hk⟩ := hk))) | fail)
   | (refine isCond ?_; first | refine WPc.cT ?_ | refine WPc.cF ?_ | (refine WPc.cQ (fun hc => ?_) (fun hc => ?_) <;> try exact prA))
   | (refine isD 36 ?_; refine WPl.rdX (ReadR.binE rfl rfl (BinR.neqB (by kernel_rfl)) (congrArg Value.bool (show (!(a.six == false)) = false by rw [hs]; rfl))) ?_)
   | (refine isD 40 ?_; refine WPl.rdX (ReadR.binE rfl rfl BinR.eql (congrArg Value.bool (decide_eq_false (show ¬ (p : Int) = 0 by omega)))) ?_)
   | (refine isC 20 ?_; refine WPl.cV (c1) ?_)
   | (show WPl _ _ _ _ _ _ _ (⟨_, .store 39 (.tmp 10) _, _, _, _, _⟩ :: _) _; refine WPl.stA (new := pkc ⟨⟨false, pr, (k : Int), s1, d1, pt, hp⟩, ⟨sr, ds, fg, (j : Int), false, da⟩, fl⟩) ?_ (ht := by kernel_rfl))
   | (refine isC 28 ?_; refine WPl.cV (c2) ?_)
   | (refine isC 52 ?_; refine WPl.cR (c4) fun v hv => ?_)
   | (refine isC 53 ?_; refine WPl.cR ((c5 _)) fun v hv => ?_)
   | (refine isC 61 ?_; refine WPl.cR (c6) fun v hv => ?_)
   | (refine isC 62 ?_; refine WPl.cR ((c7 _ _)) fun v hv => ?_)
   | (refine isC 68 ?_; refine WPl.cR ((c8 _ _)) fun v hv => ?_)
   | (refine isLit ?_; refine WPl.lit fun v hv => ?_)
   | (refine isC 75 ?_; refine WPl.cV ((c9 _)) ?_)
   | (refine isC 76 ?_; refine WPl.cR (c10) fun v hv => ?_)
   | (refine isC 77 ?_; refine WPl.cR ((c11 _ _)) fun v hv => ?_)
   | (refine isLit ?_; refine WPl.lit fun v hv => ?_)
   | (refine isC 100 ?_; refine WPl.cR ((c12 _ _)) fun v hv => ?_)
   | (refine isC 107 ?_; refine WPl.cR (c13) fun v hv => ?_)
   | (refine isC 113 ?_; refine WPl.cV ((c14 _)) ?_)
   | (refine isC 124 ?_; refine WPl.cR (c15) fun v hv => ?_)
   | (refine isC 125 ?_; refine WPl.cR ((c16 _ _)) fun v hv => ?_)
   | (refine isD 115 ?_; refine WPl.rdX (ReadR.binE rfl rfl BinR.eql (congrArg Value.bool (decide_eq_false (show ¬ ((S2 : Nat) : Int) = 0 by omega)))) ?_)
   | (refine isOp ?_; first | refine WPl.rd ?_ | refine WPl.sk ?_ | refine WPl.rdB ?_)
   | (refine isAl ?_; refine WPl.nw fun g => ?_)
   | (refine isBx ?_; refine WPl.nw fun g => ?_)
   | (refine isSt ?_; first | refine WPl.st1 ?_ | refine WPl.stA ?_ | refine WPl.stEB ?_ | refine WPl.stRB ?_)
   | (show WPl _ _ _ _ _ _ _ (⟨_, .indexAddr _ _ _, _, _, _, _⟩ :: _) _; refine WPl.rdX (ReadR.indexE rfl rfl hasA (by first | assumption | omega)) ?_)
   | (show WPl _ _ _ _ _ _ _ (⟨_, .fieldAddr _ _ _, _, _, _, _⟩ :: _) _; refine WPl.rdX (ReadR.fieldE rfl hasA (by first | assumption | omega)) ?_)
   | (show WPl _ _ _ _ _ _ _ (⟨_, .load _ _, _, _, _, _⟩ :: _) _; first | refine WPl.rdX (ReadR.loadE rfl hasA (by assumption)) ?_ | refine WPl.rdX (ReadR.loadES (by assumption) (by first | assumption | omega) rfl hasA) ?_)
   | (show WPl _ _ _ _ _ _ _ (⟨_, .slice _ _ _ _ _, _, _, _, _⟩ :: _) _; first | refine WPl.rdX (ReadR.sliceH rfl rfl hasA (by omega)) ?_ | refine WPl.rdX (ReadR.sliceL rfl rfl hasA (by omega)) ?_ | refine WPl.rdX (ReadR.sliceLH rfl rfl rfl hasA (by omega) (by omega)) ?_)
   | (refine WPl.spQ (fun hc => ?_) (fun hc => ?_) <;> try exact prA)
   | fail)
  all_goals try (first | exact WPq.dTp | exact WPq.dTs | exact WPq.dV | exact WPq.dR | exact WPq.dR2 | exact WPq.dH | exact WPq.dBH | exact WPq.dT)

end Go.Proofs.Ytjfhiifpnpokpaa
