/- What the row of natRewrites_holds needs: part 11. -/
import Derived.Test.YtjfhiifpnpokpaaNrw9
import Derived.Test.YtjfhiifpnpokpaaNrw10
import Derived.Test.YtjfhiifpnpokpaaNrw6
import Derived.Test.YtjfhiifpnpokpaaNrw4
import Derived.Test.YtjfhiifpnpokpaaNrw5
/- Reference 17 (nat): Rewrite where it is told: contracts (printed by gen_nf.py). -/
namespace Go.Proofs.Ytjfhiifpnpokpaa
open Go.RowKit
set_option linter.unusedSimpArgs false
set_option linter.unusedVariables false
set_option maxRecDepth 20000
set_option maxHeartbeats 1000000
attribute [local irreducible] WPc WPl WPq ReadR OpT BinR HasS bx rdN rowN Take Takes Prov Triple ResF BuildP Done ag Int.decLt Int.decLe Int.instDecidableEq
attribute [local irreducible] core csum psu
theorem rrw_f1z (v : Value) (b : List UInt8) (a : Adr) (p : Nat) (pr : UInt8) (k : Nat) (s1 d1 : Adr) (pt : Bool) (hp : UInt8) (sr ds : Nat) (fg : UInt8) (sa : Int) (da : Int) (fl : Fl) (hp1 : p ≤ 65535) (hp0 : p ≠ 0) (hl : b.length ≤ 100000) (he : pkVal b = .tuple #[ag (pkc ⟨⟨false, pr, (k : Int), s1, d1, pt, hp⟩, ⟨sr, ds, fg, sa, true, da⟩, fl⟩), .int .i64 0])
    (hg : a.good = true) (hs : a.six = false) (hj : sa = (sj ⟨false, pr, (k : Int), s1, d1, pt, hp⟩ : Int)) (hk2 : k + sj ⟨false, pr, (k : Int), s1, d1, pt, hp⟩ + 2 ≤ b.length) (hk20 : 20 ≤ k) (hnk : nk false 1 + a.bytes.length ≤ b.length) :
    Triple Try.prog 7 #[v, .int .i64 1, ag (adc a), .int .u16 (p : Int)] [rb v b] (RW (r5 b ⟨false, pr, (k : Int), s1, d1, pt, hp⟩ true 1 a p) 0) := by
  have c1 := rparse_t v b hl
  rw [he] at c1
  have c2 := rgood_t a
  rw [hg] at c2
  have c4 := rbytes_t a
  have la := a.len
  have ls := s1.len
  have ld := d1.len
  have lf1 := fl.src.len
  have lf2 := fl.dst.len
  have hpr := pr.toNat_lt
  obtain ⟨j, hjj⟩ : ∃ j, j = sj ⟨false, pr, (k : Int), s1, d1, pt, hp⟩ := ⟨_, rfl⟩
  have hj6 := sj_ge ⟨false, pr, (k : Int), s1, d1, pt, hp⟩
  rw [← hjj] at hj hk2 hj6
  subst hj
  have hbl := a.bytes_len
  rw [hs] at hbl
  have t : ∀ n, (twoB n).length = 2 := fun n => rfl
  have t0 : ([0, 0] : List UInt8).length = 2 := rfl
  have c5 := fun v1 => rlay_t v v1 b a.bytes (nk false 1) hnk hl
  have l1 : (lay b (nk false 1) a.bytes).length = b.length := lay_length hnk
  have c6 := rtwo_t p hp1
  have c7 := fun v1 v2 => rlay_t v1 v2 (lay b (nk false 1) a.bytes) (twoB p) (k + 2 * 1) (by rw [l1, t]; omega) (by omega)
  have eC : lay (lay b (nk false 1) a.bytes) (k + 2 * 1) (twoB p) = core b ⟨false, pr, (k : Int), s1, d1, pt, hp⟩ 1 a p := by unfold core; rfl
  have l2 : (core b ⟨false, pr, (k : Int), s1, d1, pt, hp⟩ 1 a p).length = b.length := by rw [← eC, lay_length (by rw [l1, t]; omega), l1]
  rw [eC] at c7
  unfold r5
  unfold rs1 q1
  show Triple _ _ _ _ (RW (q2 _ _ true (rs2 (lay _ (k + sj _) (twoB 0)) _)) 0)
  rw [← hjj]
  rw [show hdA ⟨false, pr, (k : Int), s1, d1, pt, hp⟩ 1 a = ⟨false, pr, (k : Int), s1, a, pt, hp⟩ from rfl]
  simp only [show (Hd.mk false pr (k : Int) s1 d1 pt hp).pos.toNat = k from rfl, show (Hd.mk false pr (k : Int) s1 d1 pt hp).six = false from rfl]
  rw [show twoB 0 = [0, 0] from rfl]
  try simp only [if_neg (show ¬ (false = true) by decide), Bool.false_eq_true, if_false]
  have c8 := fun v1 v2 => rlay_t v1 v2 (core b ⟨false, pr, (k : Int), s1, d1, pt, hp⟩ 1 a p) [0, 0] 10 (by rw [l2, t0]; omega) (by omega)
  have l3 : (lay (core b ⟨false, pr, (k : Int), s1, d1, pt, hp⟩ 1 a p) 10 [0, 0]).length = b.length := by rw [lay_length (by rw [l2, t0]; omega), l2]
  have c9 := fun v1 => rsum_t (subv 1 v1 0 k) (seg (lay (core b ⟨false, pr, (k : Int), s1, d1, pt, hp⟩ 1 a p) 10 [0, 0]) 0 k) (by rw [seg_length (by omega)]; omega)
  have hs1 := csum_le (seg (lay (core b ⟨false, pr, (k : Int), s1, d1, pt, hp⟩ 1 a p) 10 [0, 0]) 0 k)
  have c10 := rtwo_t (csum (seg (lay (core b ⟨false, pr, (k : Int), s1, d1, pt, hp⟩ 1 a p) 10 [0, 0]) 0 k)) hs1
  have c11 := fun v1 v2 => rlay_t v1 v2 (lay (core b ⟨false, pr, (k : Int), s1, d1, pt, hp⟩ 1 a p) 10 [0, 0]) (twoB (csum (seg (lay (core b ⟨false, pr, (k : Int), s1, d1, pt, hp⟩ 1 a p) 10 [0, 0]) 0 k))) 10 (by rw [l3, t]; omega) (by omega)
  have lC : (lay (lay (core b ⟨false, pr, (k : Int), s1, d1, pt, hp⟩ 1 a p) 10 [0, 0]) 10 (twoB (csum (seg (lay (core b ⟨false, pr, (k : Int), s1, d1, pt, hp⟩ 1 a p) 10 [0, 0]) 0 k)))).length = b.length := by rw [lay_length (by rw [l3, t]; omega), l3]
  generalize lay (lay (core b ⟨false, pr, (k : Int), s1, d1, pt, hp⟩ 1 a p) 10 [0, 0]) 10 (twoB (csum (seg (lay (core b ⟨false, pr, (k : Int), s1, d1, pt, hp⟩ 1 a p) 10 [0, 0]) 0 k))) = C at *
  generalize csum (seg (lay (core b ⟨false, pr, (k : Int), s1, d1, pt, hp⟩ 1 a p) 10 [0, 0]) 0 k) = S1 at *
  have hsl : (seg (lay (core b ⟨false, pr, (k : Int), s1, d1, pt, hp⟩ 1 a p) 10 [0, 0]) 0 k).length = k := seg_length (by omega)
  generalize lay (core b ⟨false, pr, (k : Int), s1, d1, pt, hp⟩ 1 a p) 10 [0, 0] = C2 at *
  generalize core b ⟨false, pr, (k : Int), s1, d1, pt, hp⟩ 1 a p = C1 at *
  generalize lay b (nk false 1) a.bytes = L1 at *
  generalize hn : a.bytes.length = n at *
  generalize twoB p = T1 at *
  generalize a.bytes = ab at *
  unfold q2
  rw [if_pos rfl]
  refine Triple.enter Try.func7 rfl Try.ntmps7 rfl (fun W => ?_)
  dsimp only [argsF, Nat.reduceAdd]
  repeat' (first
   | refine WPl.nil ?_ | refine WPq.then ?_ | refine WPq.thenR ?_ | refine WPq.thenE ?_ | refine WPq.blockN ?_ | refine WPq.blockR ?_ | refine WPq.blockE ?_ | refine WPq.blockO rfl ?_ | refine WPc.seq ?_ | refine WPc.block ?_ | refine WPc.ret ?_ | refine WPc.exit ?_ | refine WPc.skip ?_ | refine WPc.region ?_
   | (refine isReg 9 ?_; refine WPc.drA [([], [46, 47, 48, 49, 50, 51, 52, 54, 55, 56, 57, 58, 59, 60]), ([], [45, 47, 48, 49, 51, 52, 54, 55, 56, 57, 58, 59, 60]), ([], [45, 46, 48, 51, 52, 54, 55, 56, 57, 58, 59, 60]), ([], [45, 46, 47, 51, 52, 54, 55, 56, 57, 58, 59, 60]), ([2, 3], [45, 46, 47, 48, 51, 52, 54, 55, 56, 57, 58, 59, 60]), ([1, 2, 3, 4], [45, 46, 47, 48, 49, 51, 52, 54, 55, 56, 57, 58, 59, 60]), ([], [45, 46, 47, 48, 49, 50, 54, 55, 56, 57, 58, 59, 60]), ([6], [45, 46, 47, 48, 49, 50, 51, 54, 55, 56, 57, 58, 59, 60]), ([0, 1, 2, 3, 4, 5, 6, 7], [45, 46, 47, 48, 49, 50, 51, 52, 54, 55, 56, 57, 58, 59, 60]), ([], [45, 46, 47, 48, 49, 50, 51, 52, 53, 57, 58, 60, 61]), ([9], [45, 46, 47, 48, 49, 50, 51, 52, 53, 54, 57, 58, 60, 61]), ([9, 10], [45, 46, 47, 48, 49, 50, 51, 52, 53, 54, 55, 57, 58, 60, 61]), ([], [45, 46, 47, 48, 49, 50, 51, 52, 53, 54, 55, 56, 60, 61]), ([12], [45, 46, 47, 48, 49, 50, 51, 52, 53, 54, 55, 56, 57, 60, 61]), ([9, 10, 11, 12, 13], [45, 46, 47, 48, 49, 50, 51, 52, 53, 54, 55, 56, 57, 58, 60, 61]), ([], [45, 46, 47, 48, 49, 50, 51, 52, 53, 54, 55, 56, 57, 58, 59]), ([0, 1, 2, 3, 4, 5, 6, 7, 8, 15], [45, 46, 47, 48, 49, 50, 51, 52, 53, 54, 55, 56, 57, 58, 59, 60]), ([0, 1, 2, 3, 4, 5, 6, 7, 8, 9, 10, 11, 12, 13, 14, 15, 16], [45, 46, 47, 48, 49, 50, 51, 52, 53, 54, 55, 56, 57, 58, 59, 60, 61]), ([0, 1, 2, 3, 4, 5, 6, 7, 8, 9, 10, 11, 12, 13, 14, 15, 16, 17], [45, 46, 47, 48, 49, 50, 51, 52, 53, 54, 55, 56, 57, 58, 59, 60, 61, 62])] [] (Γx := []) ?_; dsimp only [prev0, List.length_nil, List.length_cons])
   | (refine gAny ?_; first | (refine gC 20 ?_; refine RGl.vl (fun e hk => OpT.callN (c1)) ?_) | (refine gC 28 ?_; refine RGl.vl (fun e hk => OpT.callN (c2)) ?_) | (refine gC 52 ?_; refine RGl.row (Γ1 := fun _ => []) (fun e hk => OpT.callN (c4)) ?_) | (refine gC 53 ?_; refine RGl.row (Γ1 := fun _ => []) (fun e hk => OpT.callN ((c5 _))) ?_) | (refine gC 61 ?_; refine RGl.row (Γ1 := fun _ => []) (fun e hk => OpT.callN (c6)) ?_) | (refine gC 62 ?_; refine RGl.row (Γ1 := fun _ => []) (fun e hk => OpT.callN ((c7 _ _))) ?_) | (refine gC 68 ?_; refine RGl.row (Γ1 := fun _ => []) (fun e hk => OpT.callN ((c8 _ _))) ?_) | (refine gC 75 ?_; refine RGl.vl (fun e hk => OpT.callN ((c9 _))) ?_) | (refine gC 76 ?_; refine RGl.row (Γ1 := fun _ => []) (fun e hk => OpT.callN (c10)) ?_) | (refine gC 77 ?_; refine RGl.row (Γ1 := fun _ => []) (fun e hk => OpT.callN ((c11 _ _))) ?_) | (refine gD 36 ?_; refine RGl.rdX (fun e hk => by (try dsimp only [bndR, ensR, oksR, fcutR, List.append_nil, List.nil_append, List.cons_append, List.append_assoc] at hk ⊢); exact ReadR.binE rfl rfl (BinR.neqB (by kernel_rfl)) (congrArg Value.bool (show (!(a.six == false)) = false by rw [hs]; rfl))) ?_) | (refine gD 40 ?_; refine RGl.rdX (fun e hk => by (try dsimp only [bndR, ensR, oksR, fcutR, List.append_nil, List.nil_append, List.cons_append, List.append_assoc] at hk ⊢); exact ReadR.binE rfl rfl BinR.eql (congrArg Value.bool (decide_eq_false (show ¬ (p : Int) = 0 by omega)))) ?_) | (refine gD 50 ?_; refine RGl.rdX (fun e hk => by (try dsimp only [bndR, ensR, oksR, fcutR, List.append_nil, List.nil_append, List.cons_append, List.append_assoc] at hk ⊢); exact ReadR.binE rfl rfl (BinR.addI (by omega) (by omega)) (congrArg (Value.int .i64) (show _ = ((nk false 1 : Nat) : Int) from by first | rfl | (simp [nk]; done) | (simp [nk]; omega)))) ?_) | (refine gD 59 ?_; refine RGl.rdX (fun e hk => by (try dsimp only [bndR, ensR, oksR, fcutR, List.append_nil, List.nil_append, List.cons_append, List.append_assoc] at hk ⊢); exact ReadR.binE rfl rfl (BinR.addI (by omega) (by omega)) (congrArg (Value.int .i64) (show _ = ((k + 2 * 1 : Nat) : Int) from by first | omega | (simp; done) | (simp; omega)))) ?_) | (refine gOp ?_; first | refine RGl.rdA ?_ | refine RGl.rdX (fun e hk => by (try dsimp only [bndR, ensR, oksR, fcutR, List.append_nil, List.nil_append, List.cons_append, List.append_assoc] at hk ⊢); exact readB) ?_) | (refine RGl.fin (fun e hk => ?_); (try dsimp only [bndA, ensAR, oksA, List.append_nil, List.nil_append, List.cons_append, List.append_assoc] at hk ⊢); (repeat (obtain ⟨hk1, hk⟩ := hk))) | fail)
   | (refine isCond ?_; first | refine WPc.cT ?_ | refine WPc.cF ?_ | (refine WPc.cQ (fun hc => ?_) (fun hc => ?_) <;> try exact prA))
   | (refine isD 36 ?_; refine WPl.rdX (ReadR.binE rfl rfl (BinR.neqB (by kernel_rfl)) (congrArg Value.bool (show (!(a.six == false)) = false by rw [hs]; rfl))) ?_)
   | (refine isD 40 ?_; refine WPl.rdX (ReadR.binE rfl rfl BinR.eql (congrArg Value.bool (decide_eq_false (show ¬ (p : Int) = 0 by omega)))) ?_)
   | (refine isC 20 ?_; refine WPl.cV (c1) ?_)
   | (show WPl _ _ _ _ _ _ _ (⟨_, .store 39 (.tmp 10) _, _, _, _, _⟩ :: _) _; refine WPl.stA (new := pkc ⟨⟨false, pr, (k : Int), s1, d1, pt, hp⟩, ⟨sr, ds, fg, (j : Int), true, da⟩, fl⟩) ?_ (ht := by kernel_rfl))
   | (refine isC 28 ?_; refine WPl.cV (c2) ?_)
   | (refine isC 52 ?_; refine WPl.cR (c4) fun v hv => ?_)
   | (refine isC 53 ?_; refine WPl.cR ((c5 _)) fun v hv => ?_)
   | (refine isC 61 ?_; refine WPl.cR (c6) fun v hv => ?_)
   | (refine isC 62 ?_; refine WPl.cR ((c7 _ _)) fun v hv => ?_)
   | (refine isC 68 ?_; refine WPl.cR ((c8 _ _)) fun v hv => ?_)
   | (refine isLit ?_; refine WPl.lit fun v hv => ?_)
   | (refine isC 75 ?_; refine WPl.cV ((c9 _)) ?_)
   | (refine isC 76 ?_; refine WPl.cR (c10) fun v hv => ?_)
   | (refine isC 77 ?_; refine WPl.cR ((c11 _ _)) fun v hv => ?_)
   | (refine isOp ?_; first | refine WPl.rd ?_ | refine WPl.sk ?_ | refine WPl.rdB ?_)
   | (refine isAl ?_; refine WPl.nw fun g => ?_)
   | (refine isBx ?_; refine WPl.nw fun g => ?_)
   | (refine isSt ?_; first | refine WPl.st1 ?_ | refine WPl.stA ?_ | refine WPl.stEB ?_ | refine WPl.stRB ?_)
   | (show WPl _ _ _ _ _ _ _ (⟨_, .indexAddr _ _ _, _, _, _, _⟩ :: _) _; refine WPl.rdX (ReadR.indexE rfl rfl hasA (by first | assumption | omega)) ?_)
   | (show WPl _ _ _ _ _ _ _ (⟨_, .fieldAddr _ _ _, _, _, _, _⟩ :: _) _; refine WPl.rdX (ReadR.fieldE rfl hasA (by first | assumption | omega)) ?_)
   | (show WPl _ _ _ _ _ _ _ (⟨_, .load _ _, _, _, _, _⟩ :: _) _; first | refine WPl.rdX (ReadR.loadE rfl hasA (by assumption)) ?_ | refine WPl.rdX (ReadR.loadES (by assumption) (by first | assumption | omega) rfl hasA) ?_)
   | (show WPl _ _ _ _ _ _ _ (⟨_, .slice _ _ _ _ _, _, _, _, _⟩ :: _) _; first | refine WPl.rdX (ReadR.sliceH rfl rfl hasA (by omega)) ?_ | refine WPl.rdX (ReadR.sliceL rfl rfl hasA (by omega)) ?_ | refine WPl.rdX (ReadR.sliceLH rfl rfl rfl hasA (by omega) (by omega)) ?_)
   | (refine WPl.spQ (fun hc => ?_) (fun hc => ?_) <;> try exact prA)
   | fail)
  all_goals try (first | exact WPq.dTp | exact WPq.dTs | exact WPq.dV | exact WPq.dR | exact WPq.dR2 | exact WPq.dH | exact WPq.dBH | exact WPq.dT)
theorem rrw_f1a (v : Value) (b : List UInt8) (a : Adr) (p : Nat) (pr : UInt8) (k : Nat) (s1 d1 : Adr) (pt : Bool) (hp : UInt8) (sr ds : Nat) (fg : UInt8) (sa : Int) (da : Int) (fl : Fl) (hp1 : p ≤ 65535) (hp0 : p ≠ 0) (hl : b.length ≤ 100000) (he : pkVal b = .tuple #[ag (pkc ⟨⟨false, pr, (k : Int), s1, d1, pt, hp⟩, ⟨sr, ds, fg, sa, false, da⟩, fl⟩), .int .i64 0])
    (hg : a.good = true) (hs : a.six = false) (hj : sa = (sj ⟨false, pr, (k : Int), s1, d1, pt, hp⟩ : Int)) (hk2 : k + sj ⟨false, pr, (k : Int), s1, d1, pt, hp⟩ + 2 ≤ b.length) (hk20 : 20 ≤ k) (hnk : nk false 1 + a.bytes.length ≤ b.length) (hc : rsC (lay (q1 b ⟨false, pr, (k : Int), s1, d1, pt, hp⟩ 1 a p (rs1 b ⟨false, pr, (k : Int), s1, d1, pt, hp⟩ 1 a p)) ((Hd.mk false pr (k : Int) s1 d1 pt hp).pos.toNat + sj ⟨false, pr, (k : Int), s1, d1, pt, hp⟩) (twoB 0)) (hdA ⟨false, pr, (k : Int), s1, d1, pt, hp⟩ 1 a) = 0 ∧ pr.toNat = 17) :
    Triple Try.prog 7 #[v, .int .i64 1, ag (adc a), .int .u16 (p : Int)] [rb v b] (RW (r5 b ⟨false, pr, (k : Int), s1, d1, pt, hp⟩ false 1 a p) 0) := by
  have c1 := rparse_t v b hl
  rw [he] at c1
  have c2 := rgood_t a
  rw [hg] at c2
  have c4 := rbytes_t a
  have la := a.len
  have ls := s1.len
  have ld := d1.len
  have lf1 := fl.src.len
  have lf2 := fl.dst.len
  have hpr := pr.toNat_lt
  obtain ⟨j, hjj⟩ : ∃ j, j = sj ⟨false, pr, (k : Int), s1, d1, pt, hp⟩ := ⟨_, rfl⟩
  have hj6 := sj_ge ⟨false, pr, (k : Int), s1, d1, pt, hp⟩
  rw [← hjj] at hj hk2 hj6
  subst hj
  have hbl := a.bytes_len
  rw [hs] at hbl
  have t : ∀ n, (twoB n).length = 2 := fun n => rfl
  have t0 : ([0, 0] : List UInt8).length = 2 := rfl
  have c5 := fun v1 => rlay_t v v1 b a.bytes (nk false 1) hnk hl
  have l1 : (lay b (nk false 1) a.bytes).length = b.length := lay_length hnk
  have c6 := rtwo_t p hp1
  have c7 := fun v1 v2 => rlay_t v1 v2 (lay b (nk false 1) a.bytes) (twoB p) (k + 2 * 1) (by rw [l1, t]; omega) (by omega)
  have eC : lay (lay b (nk false 1) a.bytes) (k + 2 * 1) (twoB p) = core b ⟨false, pr, (k : Int), s1, d1, pt, hp⟩ 1 a p := by unfold core; rfl
  have l2 : (core b ⟨false, pr, (k : Int), s1, d1, pt, hp⟩ 1 a p).length = b.length := by rw [← eC, lay_length (by rw [l1, t]; omega), l1]
  rw [eC] at c7
  unfold r5
  unfold rs1 q1 at hc ⊢
  show Triple _ _ _ _ (RW (q2 _ _ false (rs2 (lay _ (k + sj _) (twoB 0)) _)) 0)
  rw [← hjj] at hc ⊢
  rw [show hdA ⟨false, pr, (k : Int), s1, d1, pt, hp⟩ 1 a = ⟨false, pr, (k : Int), s1, a, pt, hp⟩ from rfl] at hc ⊢
  simp only [show (Hd.mk false pr (k : Int) s1 d1 pt hp).pos.toNat = k from rfl, show (Hd.mk false pr (k : Int) s1 d1 pt hp).six = false from rfl] at hc ⊢
  rw [show twoB 0 = [0, 0] from rfl] at hc ⊢
  try simp only [if_neg (show ¬ (false = true) by decide), Bool.false_eq_true, if_false] at hc ⊢
  have c8 := fun v1 v2 => rlay_t v1 v2 (core b ⟨false, pr, (k : Int), s1, d1, pt, hp⟩ 1 a p) [0, 0] 10 (by rw [l2, t0]; omega) (by omega)
  have l3 : (lay (core b ⟨false, pr, (k : Int), s1, d1, pt, hp⟩ 1 a p) 10 [0, 0]).length = b.length := by rw [lay_length (by rw [l2, t0]; omega), l2]
  have c9 := fun v1 => rsum_t (subv 1 v1 0 k) (seg (lay (core b ⟨false, pr, (k : Int), s1, d1, pt, hp⟩ 1 a p) 10 [0, 0]) 0 k) (by rw [seg_length (by omega)]; omega)
  have hs1 := csum_le (seg (lay (core b ⟨false, pr, (k : Int), s1, d1, pt, hp⟩ 1 a p) 10 [0, 0]) 0 k)
  have c10 := rtwo_t (csum (seg (lay (core b ⟨false, pr, (k : Int), s1, d1, pt, hp⟩ 1 a p) 10 [0, 0]) 0 k)) hs1
  have c11 := fun v1 v2 => rlay_t v1 v2 (lay (core b ⟨false, pr, (k : Int), s1, d1, pt, hp⟩ 1 a p) 10 [0, 0]) (twoB (csum (seg (lay (core b ⟨false, pr, (k : Int), s1, d1, pt, hp⟩ 1 a p) 10 [0, 0]) 0 k))) 10 (by rw [l3, t]; omega) (by omega)
  have lC : (lay (lay (core b ⟨false, pr, (k : Int), s1, d1, pt, hp⟩ 1 a p) 10 [0, 0]) 10 (twoB (csum (seg (lay (core b ⟨false, pr, (k : Int), s1, d1, pt, hp⟩ 1 a p) 10 [0, 0]) 0 k)))).length = b.length := by rw [lay_length (by rw [l3, t]; omega), l3]
  generalize lay (lay (core b ⟨false, pr, (k : Int), s1, d1, pt, hp⟩ 1 a p) 10 [0, 0]) 10 (twoB (csum (seg (lay (core b ⟨false, pr, (k : Int), s1, d1, pt, hp⟩ 1 a p) 10 [0, 0]) 0 k))) = C at *
  generalize csum (seg (lay (core b ⟨false, pr, (k : Int), s1, d1, pt, hp⟩ 1 a p) 10 [0, 0]) 0 k) = S1 at *
  have hsl : (seg (lay (core b ⟨false, pr, (k : Int), s1, d1, pt, hp⟩ 1 a p) 10 [0, 0]) 0 k).length = k := seg_length (by omega)
  generalize lay (core b ⟨false, pr, (k : Int), s1, d1, pt, hp⟩ 1 a p) 10 [0, 0] = C2 at *
  generalize core b ⟨false, pr, (k : Int), s1, d1, pt, hp⟩ 1 a p = C1 at *
  generalize lay b (nk false 1) a.bytes = L1 at *
  generalize hn : a.bytes.length = n at *
  generalize twoB p = T1 at *
  generalize a.bytes = ab at *
  unfold q2
  rw [if_neg (by decide)]
  dsimp only
  rw [← hjj]
  rw [show twoB 0 = [0, 0] from rfl]
  simp only [show (k : Int).toNat = k from rfl]
  have c12 := fun v1 v2 => rlay_t v1 v2 C [0, 0] (k + j) (by rw [lC, t0]; omega) (by omega)
  have lD : (lay C (k + j) [0, 0]).length = b.length := by rw [lay_length (by rw [lC, t0]; omega), lC]
  generalize lay C (k + j) [0, 0] = D at *
  unfold rs2
  unfold rsC at hc ⊢
  dsimp only at hc ⊢
  simp only [show (k : Int).toNat = k from rfl] at hc ⊢
  have c13 := rpseudo_t ⟨false, pr, (k : Int), s1, a, pt, hp⟩ ((D.length - k : Nat) : Int) (D.length - k) (by rw [IntKind.wrap_u64]; omega) (by omega)
  have hps := psu_len ⟨false, pr, (k : Int), s1, a, pt, hp⟩ (D.length - k)
  have c14 := fun v1 => rsum_t v1 (psu ⟨false, pr, (k : Int), s1, a, pt, hp⟩ (D.length - k) ++ seg D k (D.length - k)) (by rw [List.length_append, seg_length (by omega)]; omega)
  have hS := csum_le (psu ⟨false, pr, (k : Int), s1, a, pt, hp⟩ (D.length - k) ++ seg D k (D.length - k))
  have hsl2 : (seg D k (D.length - k)).length = D.length - k := seg_length (by omega)
  generalize psu ⟨false, pr, (k : Int), s1, a, pt, hp⟩ (D.length - k) = ps at *
  generalize csum (ps ++ seg D k (D.length - k)) = S2 at *
  obtain ⟨hc1, hc2⟩ := hc
  rw [if_pos ⟨hc1, hc2⟩]
  have c15 := rtwo_t 65535 (by omega)
  have c16 := fun v1 v2 => rlay_t v1 v2 D (twoB 65535) (k + j) (by rw [lD, t]; omega) (by omega)
  generalize twoB 65535 = T2 at *
  refine Triple.enter Try.func7 rfl Try.ntmps7 rfl (fun W => ?_)
  dsimp only [argsF, Nat.reduceAdd]
  repeat' (first
   | refine WPl.nil ?_ | refine WPq.then ?_ | refine WPq.thenR ?_ | refine WPq.thenE ?_ | refine WPq.blockN ?_ | refine WPq.blockR ?_ | refine WPq.blockE ?_ | refine WPq.blockO rfl ?_ | refine WPc.seq ?_ | refine WPc.block ?_ | refine WPc.ret ?_ | refine WPc.exit ?_ | refine WPc.skip ?_ | refine WPc.region ?_
   | (refine isReg 9 ?_; refine WPc.drA [([], [46, 47, 48, 49, 50, 51, 52, 54, 55, 56, 57, 58, 59, 60]), ([], [45, 47, 48, 49, 51, 52, 54, 55, 56, 57, 58, 59, 60]), ([], [45, 46, 48, 51, 52, 54, 55, 56, 57, 58, 59, 60]), ([], [45, 46, 47, 51, 52, 54, 55, 56, 57, 58, 59, 60]), ([2, 3], [45, 46, 47, 48, 51, 52, 54, 55, 56, 57, 58, 59, 60]), ([1, 2, 3, 4], [45, 46, 47, 48, 49, 51, 52, 54, 55, 56, 57, 58, 59, 60]), ([], [45, 46, 47, 48, 49, 50, 54, 55, 56, 57, 58, 59, 60]), ([6], [45, 46, 47, 48, 49, 50, 51, 54, 55, 56, 57, 58, 59, 60]), ([0, 1, 2, 3, 4, 5, 6, 7], [45, 46, 47, 48, 49, 50, 51, 52, 54, 55, 56, 57, 58, 59, 60]), ([], [45, 46, 47, 48, 49, 50, 51, 52, 53, 57, 58, 60, 61]), ([9], [45, 46, 47, 48, 49, 50, 51, 52, 53, 54, 57, 58, 60, 61]), ([9, 10], [45, 46, 47, 48, 49, 50, 51, 52, 53, 54, 55, 57, 58, 60, 61]), ([], [45, 46, 47, 48, 49, 50, 51, 52, 53, 54, 55, 56, 60, 61]), ([12], [45, 46, 47, 48, 49, 50, 51, 52, 53, 54, 55, 56, 57, 60, 61]), ([9, 10, 11, 12, 13], [45, 46, 47, 48, 49, 50, 51, 52, 53, 54, 55, 56, 57, 58, 60, 61]), ([], [45, 46, 47, 48, 49, 50, 51, 52, 53, 54, 55, 56, 57, 58, 59]), ([0, 1, 2, 3, 4, 5, 6, 7, 8, 15], [45, 46, 47, 48, 49, 50, 51, 52, 53, 54, 55, 56, 57, 58, 59, 60]), ([0, 1, 2, 3, 4, 5, 6, 7, 8, 9, 10, 11, 12, 13, 14, 15, 16], [45, 46, 47, 48, 49, 50, 51, 52, 53, 54, 55, 56, 57, 58, 59, 60, 61]), ([0, 1, 2, 3, 4, 5, 6, 7, 8, 9, 10, 11, 12, 13, 14, 15, 16, 17], [45, 46, 47, 48, 49, 50, 51, 52, 53, 54, 55, 56, 57, 58, 59, 60, 61, 62])] [] (Γx := []) ?_; dsimp only [prev0, List.length_nil, List.length_cons])
   | (refine isReg 15 ?_; refine WPc.drA [([], [15, 84, 85, 86, 87, 88, 89, 90]), ([0], [15, 82, 84, 85, 86, 87, 88, 89, 90]), ([], [15, 82, 83, 87, 88, 89]), ([2], [15, 82, 83, 84, 87, 88, 89]), ([2, 3], [15, 82, 83, 84, 85, 87, 88, 89]), ([], [15, 82, 83, 84, 85, 86]), ([5], [15, 82, 83, 84, 85, 86, 87]), ([5, 6], [15, 82, 83, 84, 85, 86, 87, 88]), ([2, 3, 4, 5, 6, 7], [15, 82, 83, 84, 85, 86, 87, 88, 89]), ([], [82, 83, 84, 85, 86, 87, 88, 89, 90]), ([0, 1, 9], [15, 82, 83, 84, 85, 86, 87, 88, 89, 90]), ([0, 1, 2, 3, 4, 5, 6, 7, 8, 9, 10], [15, 82, 83, 84, 85, 86, 87, 88, 89, 90])] [(9, 10)] (Γx := []) ?_; dsimp only [prev0, List.length_nil, List.length_cons])
   | (refine isReg 20 ?_; refine WPc.drA [([], [102, 103, 104, 105, 106, 108, 109, 110, 111]), ([], [101, 104, 105, 108, 109, 110, 111]), ([1], [101, 102, 104, 105, 108, 109, 110, 111]), ([], [101, 102, 103, 108, 109, 110, 111]), ([3], [101, 102, 103, 104, 108, 109, 110, 111]), ([1, 2, 3, 4], [101, 102, 103, 104, 105, 108, 109, 110, 111]), ([0, 1, 2, 3, 4, 5], [101, 102, 103, 104, 105, 106, 108, 109, 110, 111]), ([], [101, 102, 103, 104, 105, 106, 107, 109, 110]), ([], [101, 102, 103, 104, 105, 106, 107, 108]), ([8], [101, 102, 103, 104, 105, 106, 107, 108, 109]), ([7, 8, 9], [101, 102, 103, 104, 105, 106, 107, 108, 109, 110]), ([0, 1, 2, 3, 4, 5, 6, 7, 8, 9, 10], [101, 102, 103, 104, 105, 106, 107, 108, 109, 110, 111]), ([0, 1, 2, 3, 4, 5, 6, 7, 8, 9, 10, 11], [101, 102, 103, 104, 105, 106, 107, 108, 109, 110, 111, 112]), ([0, 1, 2, 3, 4, 5, 6, 7, 8, 9, 10, 11, 12], [101, 102, 103, 104, 105, 106, 107, 108, 109, 110, 111, 112, 113])] [(6, 11)] (Γx := []) ?_; dsimp only [prev0, List.length_nil, List.length_cons])
   | (refine gAny ?_; first | (refine gC 20 ?_; refine RGl.vl (fun e hk => OpT.callN (c1)) ?_) | (refine gC 28 ?_; refine RGl.vl (fun e hk => OpT.callN (c2)) ?_) | (refine gC 52 ?_; refine RGl.row (Γ1 := fun _ => []) (fun e hk => OpT.callN (c4)) ?_) | (refine gC 53 ?_; refine RGl.row (Γ1 := fun _ => []) (fun e hk => OpT.callN ((c5 _))) ?_) | (refine gC 61 ?_; refine RGl.row (Γ1 := fun _ => []) (fun e hk => OpT.callN (c6)) ?_) | (refine gC 62 ?_; refine RGl.row (Γ1 := fun _ => []) (fun e hk => OpT.callN ((c7 _ _))) ?_) | (refine gC 68 ?_; refine RGl.row (Γ1 := fun _ => []) (fun e hk => OpT.callN ((c8 _ _))) ?_) | (refine gC 75 ?_; refine RGl.vl (fun e hk => OpT.callN ((c9 _))) ?_) | (refine gC 76 ?_; refine RGl.row (Γ1 := fun _ => []) (fun e hk => OpT.callN (c10)) ?_) | (refine gC 77 ?_; refine RGl.row (Γ1 := fun _ => []) (fun e hk => OpT.callN ((c11 _ _))) ?_) | (refine gC 100 ?_; refine RGl.row (Γ1 := fun _ => []) (fun e hk => OpT.callN ((c12 _ _))) ?_) | (refine gC 107 ?_; refine RGl.row (Γ1 := fun _ => []) (fun e hk => OpT.callN (c13)) ?_) | (refine gC 113 ?_; refine RGl.vl (fun e hk => OpT.callN ((c14 _))) ?_) | (refine gC 124 ?_; refine RGl.row (Γ1 := fun _ => []) (fun e hk => OpT.callN (c15)) ?_) | (refine gC 125 ?_; refine RGl.row (Γ1 := fun _ => []) (fun e hk => OpT.callN ((c16 _ _))) ?_) | (refine gD 36 ?_; refine RGl.rdX (fun e hk => by (try dsimp only [bndR, ensR, oksR, fcutR, List.append_nil, List.nil_append, List.cons_append, List.append_assoc] at hk ⊢); exact ReadR.binE rfl rfl (BinR.neqB (by kernel_rfl)) (congrArg Value.bool (show (!(a.six == false)) = false by rw [hs]; rfl))) ?_) | (refine gD 40 ?_; refine RGl.rdX (fun e hk => by (try dsimp only [bndR, ensR, oksR, fcutR, List.append_nil, List.nil_append, List.cons_append, List.append_assoc] at hk ⊢); exact ReadR.binE rfl rfl BinR.eql (congrArg Value.bool (decide_eq_false (show ¬ (p : Int) = 0 by omega)))) ?_) | (refine gD 50 ?_; refine RGl.rdX (fun e hk => by (try dsimp only [bndR, ensR, oksR, fcutR, List.append_nil, List.nil_append, List.cons_append, List.append_assoc] at hk ⊢); exact ReadR.binE rfl rfl (BinR.addI (by omega) (by omega)) (congrArg (Value.int .i64) (show _ = ((nk false 1 : Nat) : Int) from by first | rfl | (simp [nk]; done) | (simp [nk]; omega)))) ?_) | (refine gD 59 ?_; refine RGl.rdX (fun e hk => by (try dsimp only [bndR, ensR, oksR, fcutR, List.append_nil, List.nil_append, List.cons_append, List.append_assoc] at hk ⊢); exact ReadR.binE rfl rfl (BinR.addI (by omega) (by omega)) (congrArg (Value.int .i64) (show _ = ((k + 2 * 1 : Nat) : Int) from by first | omega | (simp; done) | (simp; omega)))) ?_) | (refine gD 90 ?_; refine RGl.rdX (fun e hk => by (try dsimp only [bndR, ensR, oksR, fcutR, List.append_nil, List.nil_append, List.cons_append, List.append_assoc] at hk ⊢); exact ReadR.binE rfl rfl (BinR.addI (by omega) (by omega)) (congrArg (Value.int .i64) (show _ = ((k + j : Nat) : Int) from by omega))) ?_) | (refine gD 106 ?_; refine RGl.rdX (fun e hk => by (try dsimp only [bndR, ensR, oksR, fcutR, List.append_nil, List.nil_append, List.cons_append, List.append_assoc] at hk ⊢); exact ReadR.binE rfl rfl (BinR.subI (by omega) (by omega)) (congrArg (Value.int .i64) (show _ = ((D.length - k : Nat) : Int) from by omega))) ?_) | ((show RGl _ _ _ _ _ _ _ _ (⟨_, .store _ (.tmp 15) _, _, _, _, _⟩ :: _) _ _; refine RGl.turn (fun e hk => by (try dsimp only [bndR, ensR, oksR, fcutR, List.append_nil, List.nil_append, List.cons_append, List.append_assoc] at hk ⊢); exact OpT.storeA (cs' := hdc ⟨false, pr, (k : Int), s1, d1, pt, hp⟩) rfl rfl takesA fokA (by kernel_rfl) (by kernel_rfl)) ?_)) | (refine gD 115 ?_; refine RGl.rdX (fun e hk => by (try dsimp only [bndR, ensR, oksR, fcutR, List.append_nil, List.nil_append, List.cons_append, List.append_assoc] at hk ⊢); exact ReadR.binE rfl rfl BinR.eql (congrArg Value.bool (decide_eq_true (show ((S2 : Nat) : Int) = 0 by omega)))) ?_) | (refine gD 119 ?_; refine RGl.rdX (fun e hk => by (try dsimp only [bndR, ensR, oksR, fcutR, List.append_nil, List.nil_append, List.cons_append, List.append_assoc] at hk ⊢); exact ReadR.binE rfl rfl BinR.eql (congrArg Value.bool (decide_eq_true (show ((pr.toNat : Nat) : Int) = 17 by omega)))) ?_) | (refine gOp ?_; first | refine RGl.rdA ?_ | refine RGl.rdX (fun e hk => by (try dsimp only [bndR, ensR, oksR, fcutR, List.append_nil, List.nil_append, List.cons_append, List.append_assoc] at hk ⊢); exact readB) ?_) | (refine gAl ?_; refine RGl.nwA ?_) | (refine gApp ?_; refine RGl.appA ?_) | (refine gSt ?_; refine RGl.stA ?_) | (refine RGl.fin (fun e hk => ?_); (try dsimp only [bndA, ensAR, oksA, List.append_nil, List.nil_append, List.cons_append, List.append_assoc] at hk ⊢); (repeat (obtain ⟨hk1, hk⟩ := hk))) | fail)
   | (refine isCond ?_; first | refine WPc.cT ?_ | refine WPc.cF ?_ | (refine WPc.cQ (fun hc => ?_) (fun hc => ?_) <;> try exact prA))
   | (refine isD 36 ?_; refine WPl.rdX (ReadR.binE rfl rfl (BinR.neqB (by kernel_rfl)) (congrArg Value.bool (show (!(a.six == false)) = false by rw [hs]; rfl))) ?_)
   | (refine isD 40 ?_; refine WPl.rdX (ReadR.binE rfl rfl BinR.eql (congrArg Value.bool (decide_eq_false (show ¬ (p : Int) = 0 by omega)))) ?_)
   | (refine isC 20 ?_; refine WPl.cV (c1) ?_)
   | (show WPl _ _ _ _ _ _ _ (⟨_, .store 39 (.tmp 10) _, _, _, _, _⟩ :: _) _; refine WPl.stA (new := pkc ⟨⟨false, pr, (k : Int), s1, d1, pt, hp⟩, ⟨sr, ds, fg, (j : Int), false, da⟩, fl⟩) ?_ (ht := by kernel_rfl))
   | (refine isC 28 ?_; refine WPl.cV (c2) ?_)
   | (refine isC 52 ?_; refine WPl.cR (c4) fun v hv => ?_)
   | (refine isC 53 ?_; refine WPl.cR ((c5 _)) fun v hv => ?_)
   | (refine isC 61 ?_; refine WPl.cR (c6) fun v hv => ?_)
   | (refine isC 62 ?_; refine WPl.cR ((c7 _ _)) fun v hv => ?_)
   | (refine isC 68 ?_; refine WPl.cR ((c8 _ _)) fun v hv => ?_)
   | (refine isLit ?_; refine WPl.lit fun v hv => ?_)
   | (refine isC 75 ?_; refine WPl.cV ((c9 _)) ?_)
   | (refine isC 76 ?_; refine WPl.cR (c10) fun v hv => ?_)
   | (refine isC 77 ?_; refine WPl.cR ((c11 _ _)) fun v hv => ?_)
   | (refine isLit ?_; refine WPl.lit fun v hv => ?_)
   | (refine isC 100 ?_; refine WPl.cR ((c12 _ _)) fun v hv => ?_)
   | (refine isC 107 ?_; refine WPl.cR (c13) fun v hv => ?_)
   | (refine isC 113 ?_; refine WPl.cV ((c14 _)) ?_)
   | (refine isC 124 ?_; refine WPl.cR (c15) fun v hv => ?_)
   | (refine isC 125 ?_; refine WPl.cR ((c16 _ _)) fun v hv => ?_)
   | (refine isD 115 ?_; refine WPl.rdX (ReadR.binE rfl rfl BinR.eql (congrArg Value.bool (decide_eq_true (show ((S2 : Nat) : Int) = 0 by omega)))) ?_)
   | (refine isD 119 ?_; refine WPl.rdX (ReadR.binE rfl rfl BinR.eql (congrArg Value.bool (decide_eq_true (show ((pr.toNat : Nat) : Int) = 17 by omega)))) ?_)
   | (refine isOp ?_; first | refine WPl.rd ?_ | refine WPl.sk ?_ | refine WPl.rdB ?_)
   | (refine isAl ?_; refine WPl.nw fun g => ?_)
   | (refine isBx ?_; refine WPl.nw fun g => ?_)
   | (refine isSt ?_; first | refine WPl.st1 ?_ | refine WPl.stA ?_ | refine WPl.stEB ?_ | refine WPl.stRB ?_)
   | (show WPl _ _ _ _ _ _ _ (⟨_, .indexAddr _ _ _, _, _, _, _⟩ :: _) _; refine WPl.rdX (ReadR.indexE rfl rfl hasA (by first | assumption | omega)) ?_)
   | (show WPl _ _ _ _ _ _ _ (⟨_, .fieldAddr _ _ _, _, _, _, _⟩ :: _) _; refine WPl.rdX (ReadR.fieldE rfl hasA (by first | assumption | omega)) ?_)
   | (show WPl _ _ _ _ _ _ _ (⟨_, .load _ _, _, _, _, _⟩ :: _) _; first | refine WPl.rdX (ReadR.loadE rfl hasA (by assumption)) ?_ | refine WPl.rdX (ReadR.loadES (by assumption) (by first | assumption | omega) rfl hasA) ?_)
   | (show WPl _ _ _ _ _ _ _ (⟨_, .slice _ _ _ _ _, _, _, _, _⟩ :: _) _; first | refine WPl.rdX (ReadR.sliceH rfl rfl hasA (by omega)) ?_ | refine WPl.rdX (ReadR.sliceL rfl rfl hasA (by omega)) ?_ | refine WPl.rdX (ReadR.sliceLH rfl rfl rfl hasA (by omega) (by omega)) ?_)
   | (refine WPl.spQ (fun hc => ?_) (fun hc => ?_) <;> try exact prA)
   | fail)
  all_goals try (first | exact WPq.dTp | exact WPq.dTs | exact WPq.dV | exact WPq.dR | exact WPq.dR2 | exact WPq.dH | exact WPq.dBH | exact WPq.dT)
theorem rrw_f1b (v : Value) (b : List UInt8) (a : Adr) (p : Nat) (pr : UInt8) (k : Nat) (s1 d1 : Adr) (pt : Bool) (hp : UInt8) (sr ds : Nat) (fg : UInt8) (sa : Int) (da : Int) (fl : Fl) (hp1 : p ≤ 65535) (hp0 : p ≠ 0) (hl : b.length ≤ 100000) (he : pkVal b = .tuple #[ag (pkc ⟨⟨false, pr, (k : Int), s1, d1, pt, hp⟩, ⟨sr, ds, fg, sa, false, da⟩, fl⟩), .int .i64 0])
    (hg : a.good = true) (hs : a.six = false) (hj : sa = (sj ⟨false, pr, (k : Int), s1, d1, pt, hp⟩ : Int)) (hk2 : k + sj ⟨false, pr, (k : Int), s1, d1, pt, hp⟩ + 2 ≤ b.length) (hk20 : 20 ≤ k) (hnk : nk false 1 + a.bytes.length ≤ b.length) (hc : rsC (lay (q1 b ⟨false, pr, (k : Int), s1, d1, pt, hp⟩ 1 a p (rs1 b ⟨false, pr, (k : Int), s1, d1, pt, hp⟩ 1 a p)) ((Hd.mk false pr (k : Int) s1 d1 pt hp).pos.toNat + sj ⟨false, pr, (k : Int), s1, d1, pt, hp⟩) (twoB 0)) (hdA ⟨false, pr, (k : Int), s1, d1, pt, hp⟩ 1 a) = 0 ∧ ¬ pr.toNat = 17) :
    Triple Try.prog 7 #[v, .int .i64 1, ag (adc a), .int .u16 (p : Int)] [rb v b] (RW (r5 b ⟨false, pr, (k : Int), s1, d1, pt, hp⟩ false 1 a p) 0) := by
  have c1 := rparse_t v b hl
  rw [he] at c1
  have c2 := rgood_t a
  rw [hg] at c2
  have c4 := rbytes_t a
  have la := a.len
  have ls := s1.len
  have ld := d1.len
  have lf1 := fl.src.len
  have lf2 := fl.dst.len
  have hpr := pr.toNat_lt
  obtain ⟨j, hjj⟩ : ∃ j, j = sj ⟨false, pr, (k : Int), s1, d1, pt, hp⟩ := ⟨_, rfl⟩
  have hj6 := sj_ge ⟨false, pr, (k : Int), s1, d1, pt, hp⟩
  rw [← hjj] at hj hk2 hj6
  subst hj
  have hbl := a.bytes_len
  rw [hs] at hbl
  have t : ∀ n, (twoB n).length = 2 := fun n => rfl
  have t0 : ([0, 0] : List UInt8).length = 2 := rfl
  have c5 := fun v1 => rlay_t v v1 b a.bytes (nk false 1) hnk hl
  have l1 : (lay b (nk false 1) a.bytes).length = b.length := lay_length hnk
  have c6 := rtwo_t p hp1
  have c7 := fun v1 v2 => rlay_t v1 v2 (lay b (nk false 1) a.bytes) (twoB p) (k + 2 * 1) (by rw [l1, t]; omega) (by omega)
  have eC : lay (lay b (nk false 1) a.bytes) (k + 2 * 1) (twoB p) = core b ⟨false, pr, (k : Int), s1, d1, pt, hp⟩ 1 a p := by unfold core; rfl
  have l2 : (core b ⟨false, pr, (k : Int), s1, d1, pt, hp⟩ 1 a p).length = b.length := by rw [← eC, lay_length (by rw [l1, t]; omega), l1]
  rw [eC] at c7
  unfold r5
  unfold rs1 q1 at hc ⊢
  show Triple _ _ _ _ (RW (q2 _ _ false (rs2 (lay _ (k + sj _) (twoB 0)) _)) 0)
  rw [← hjj] at hc ⊢
  rw [show hdA ⟨false, pr, (k : Int), s1, d1, pt, hp⟩ 1 a = ⟨false, pr, (k : Int), s1, a, pt, hp⟩ from rfl] at hc ⊢
  simp only [show (Hd.mk false pr (k : Int) s1 d1 pt hp).pos.toNat = k from rfl, show (Hd.mk false pr (k : Int) s1 d1 pt hp).six = false from rfl] at hc ⊢
  rw [show twoB 0 = [0, 0] from rfl] at hc ⊢
  try simp only [if_neg (show ¬ (false = true) by decide), Bool.false_eq_true, if_false] at hc ⊢
  have c8 := fun v1 v2 => rlay_t v1 v2 (core b ⟨false, pr, (k : Int), s1, d1, pt, hp⟩ 1 a p) [0, 0] 10 (by rw [l2, t0]; omega) (by omega)
  have l3 : (lay (core b ⟨false, pr, (k : Int), s1, d1, pt, hp⟩ 1 a p) 10 [0, 0]).length = b.length := by rw [lay_length (by rw [l2, t0]; omega), l2]
  have c9 := fun v1 => rsum_t (subv 1 v1 0 k) (seg (lay (core b ⟨false, pr, (k : Int), s1, d1, pt, hp⟩ 1 a p) 10 [0, 0]) 0 k) (by rw [seg_length (by omega)]; omega)
  have hs1 := csum_le (seg (lay (core b ⟨false, pr, (k : Int), s1, d1, pt, hp⟩ 1 a p) 10 [0, 0]) 0 k)
  have c10 := rtwo_t (csum (seg (lay (core b ⟨false, pr, (k : Int), s1, d1, pt, hp⟩ 1 a p) 10 [0, 0]) 0 k)) hs1
  have c11 := fun v1 v2 => rlay_t v1 v2 (lay (core b ⟨false, pr, (k : Int), s1, d1, pt, hp⟩ 1 a p) 10 [0, 0]) (twoB (csum (seg (lay (core b ⟨false, pr, (k : Int), s1, d1, pt, hp⟩ 1 a p) 10 [0, 0]) 0 k))) 10 (by rw [l3, t]; omega) (by omega)
  have lC : (lay (lay (core b ⟨false, pr, (k : Int), s1, d1, pt, hp⟩ 1 a p) 10 [0, 0]) 10 (twoB (csum (seg (lay (core b ⟨false, pr, (k : Int), s1, d1, pt, hp⟩ 1 a p) 10 [0, 0]) 0 k)))).length = b.length := by rw [lay_length (by rw [l3, t]; omega), l3]
  generalize lay (lay (core b ⟨false, pr, (k : Int), s1, d1, pt, hp⟩ 1 a p) 10 [0, 0]) 10 (twoB (csum (seg (lay (core b ⟨false, pr, (k : Int), s1, d1, pt, hp⟩ 1 a p) 10 [0, 0]) 0 k))) = C at *
  generalize csum (seg (lay (core b ⟨false, pr, (k : Int), s1, d1, pt, hp⟩ 1 a p) 10 [0, 0]) 0 k) = S1 at *
  have hsl : (seg (lay (core b ⟨false, pr, (k : Int), s1, d1, pt, hp⟩ 1 a p) 10 [0, 0]) 0 k).length = k := seg_length (by omega)
  generalize lay (core b ⟨false, pr, (k : Int), s1, d1, pt, hp⟩ 1 a p) 10 [0, 0] = C2 at *
  generalize core b ⟨false, pr, (k : Int), s1, d1, pt, hp⟩ 1 a p = C1 at *
  generalize lay b (nk false 1) a.bytes = L1 at *
  generalize hn : a.bytes.length = n at *
  generalize twoB p = T1 at *
  generalize a.bytes = ab at *
  unfold q2
  rw [if_neg (by decide)]
  dsimp only
  rw [← hjj]
  rw [show twoB 0 = [0, 0] from rfl]
  simp only [show (k : Int).toNat = k from rfl]
  have c12 := fun v1 v2 => rlay_t v1 v2 C [0, 0] (k + j) (by rw [lC, t0]; omega) (by omega)
  have lD : (lay C (k + j) [0, 0]).length = b.length := by rw [lay_length (by rw [lC, t0]; omega), lC]
  generalize lay C (k + j) [0, 0] = D at *
  unfold rs2
  unfold rsC at hc ⊢
  dsimp only at hc ⊢
  simp only [show (k : Int).toNat = k from rfl] at hc ⊢
  have c13 := rpseudo_t ⟨false, pr, (k : Int), s1, a, pt, hp⟩ ((D.length - k : Nat) : Int) (D.length - k) (by rw [IntKind.wrap_u64]; omega) (by omega)
  have hps := psu_len ⟨false, pr, (k : Int), s1, a, pt, hp⟩ (D.length - k)
  have c14 := fun v1 => rsum_t v1 (psu ⟨false, pr, (k : Int), s1, a, pt, hp⟩ (D.length - k) ++ seg D k (D.length - k)) (by rw [List.length_append, seg_length (by omega)]; omega)
  have hS := csum_le (psu ⟨false, pr, (k : Int), s1, a, pt, hp⟩ (D.length - k) ++ seg D k (D.length - k))
  have hsl2 : (seg D k (D.length - k)).length = D.length - k := seg_length (by omega)
  generalize psu ⟨false, pr, (k : Int), s1, a, pt, hp⟩ (D.length - k) = ps at *
  generalize csum (ps ++ seg D k (D.length - k)) = S2 at *
  obtain ⟨hc1, hc2⟩ := hc
  rw [if_neg (fun h => hc2 h.2)]
  have c15 := rtwo_t S2 (by omega)
  have c16 := fun v1 v2 => rlay_t v1 v2 D (twoB S2) (k + j) (by rw [lD, t]; omega) (by omega)
  generalize twoB S2 = T2 at *
  refine Triple.enter Try.func7 rfl Try.ntmps7 rfl (fun W => ?_)
  dsimp only [argsF, Nat.reduceAdd]
  repeat' (first
   | refine WPl.nil ?_ | refine WPq.then ?_ | refine WPq.thenR ?_ | refine WPq.thenE ?_ | refine WPq.blockN ?_ | refine WPq.blockR ?_ | refine WPq.blockE ?_ | refine WPq.blockO rfl ?_ | refine WPc.seq ?_ | refine WPc.block ?_ | refine WPc.ret ?_ | refine WPc.exit ?_ | refine WPc.skip ?_ | refine WPc.region ?_
   | (refine isReg 9 ?_; refine WPc.drA [([], [46, 47, 48, 49, 50, 51, 52, 54, 55, 56, 57, 58, 59, 60]), ([], [45, 47, 48, 49, 51, 52, 54, 55, 56, 57, 58, 59, 60]), ([], [45, 46, 48, 51, 52, 54, 55, 56, 57, 58, 59, 60]), ([], [45, 46, 47, 51, 52, 54, 55, 56, 57, 58, 59, 60]), ([2, 3], [45, 46, 47, 48, 51, 52, 54, 55, 56, 57, 58, 59, 60]), ([1, 2, 3, 4], [45, 46, 47, 48, 49, 51, 52, 54, 55, 56, 57, 58, 59, 60]), ([], [45, 46, 47, 48, 49, 50, 54, 55, 56, 57, 58, 59, 60]), ([6], [45, 46, 47, 48, 49, 50, 51, 54, 55, 56, 57, 58, 59, 60]), ([0, 1, 2, 3, 4, 5, 6, 7], [45, 46, 47, 48, 49, 50, 51, 52, 54, 55, 56, 57, 58, 59, 60]), ([], [45, 46, 47, 48, 49, 50, 51, 52, 53, 57, 58, 60, 61]), ([9], [45, 46, 47, 48, 49, 50, 51, 52, 53, 54, 57, 58, 60, 61]), ([9, 10], [45, 46, 47, 48, 49, 50, 51, 52, 53, 54, 55, 57, 58, 60, 61]), ([], [45, 46, 47, 48, 49, 50, 51, 52, 53, 54, 55, 56, 60, 61]), ([12], [45, 46, 47, 48, 49, 50, 51, 52, 53, 54, 55, 56, 57, 60, 61]), ([9, 10, 11, 12, 13], [45, 46, 47, 48, 49, 50, 51, 52, 53, 54, 55, 56, 57, 58, 60, 61]), ([], [45, 46, 47, 48, 49, 50, 51, 52, 53, 54, 55, 56, 57, 58, 59]), ([0, 1, 2, 3, 4, 5, 6, 7, 8, 15], [45, 46, 47, 48, 49, 50, 51, 52, 53, 54, 55, 56, 57, 58, 59, 60]), ([0, 1, 2, 3, 4, 5, 6, 7, 8, 9, 10, 11, 12, 13, 14, 15, 16], [45, 46, 47, 48, 49, 50, 51, 52, 53, 54, 55, 56, 57, 58, 59, 60, 61]), ([0, 1, 2, 3, 4, 5, 6, 7, 8, 9, 10, 11, 12, 13, 14, 15, 16, 17], [45, 46, 47, 48, 49, 50, 51, 52, 53, 54, 55, 56, 57, 58, 59, 60, 61, 62])] [] (Γx := []) ?_; dsimp only [prev0, List.length_nil, List.length_cons])
   | (refine isReg 15 ?_; refine WPc.drA [([], [15, 84, 85, 86, 87, 88, 89, 90]), ([0], [15, 82, 84, 85, 86, 87, 88, 89, 90]), ([], [15, 82, 83, 87, 88, 89]), ([2], [15, 82, 83, 84, 87, 88, 89]), ([2, 3], [15, 82, 83, 84, 85, 87, 88, 89]), ([], [15, 82, 83, 84, 85, 86]), ([5], [15, 82, 83, 84, 85, 86, 87]), ([5, 6], [15, 82, 83, 84, 85, 86, 87, 88]), ([2, 3, 4, 5, 6, 7], [15, 82, 83, 84, 85, 86, 87, 88, 89]), ([], [82, 83, 84, 85, 86, 87, 88, 89, 90]), ([0, 1, 9], [15, 82, 83, 84, 85, 86, 87, 88, 89, 90]), ([0, 1, 2, 3, 4, 5, 6, 7, 8, 9, 10], [15, 82, 83, 84, 85, 86, 87, 88, 89, 90])] [(9, 10)] (Γx := []) ?_; dsimp only [prev0, List.length_nil, List.length_cons])
   | (refine isReg 20 ?_; refine WPc.drA [([], [102, 103, 104, 105, 106, 108, 109, 110, 111]), ([], [101, 104, 105, 108, 109, 110, 111]), ([1], [101, 102, 104, 105, 108, 109, 110, 111]), ([], [101, 102, 103, 108, 109, 110, 111]), ([3], [101, 102, 103, 104, 108, 109, 110, 111]), ([1, 2, 3, 4], [101, 102, 103, 104, 105, 108, 109, 110, 111]), ([0, 1, 2, 3, 4, 5], [101, 102, 103, 104, 105, 106, 108, 109, 110, 111]), ([], [101, 102, 103, 104, 105, 106, 107, 109, 110]), ([], [101, 102, 103, 104, 105, 106, 107, 108]), ([8], [101, 102, 103, 104, 105, 106, 107, 108, 109]), ([7, 8, 9], [101, 102, 103, 104, 105, 106, 107, 108, 109, 110]), ([0, 1, 2, 3, 4, 5, 6, 7, 8, 9, 10], [101, 102, 103, 104, 105, 106, 107, 108, 109, 110, 111]), ([0, 1, 2, 3, 4, 5, 6, 7, 8, 9, 10, 11], [101, 102, 103, 104, 105, 106, 107, 108, 109, 110, 111, 112]), ([0, 1, 2, 3, 4, 5, 6, 7, 8, 9, 10, 11, 12], [101, 102, 103, 104, 105, 106, 107, 108, 109, 110, 111, 112, 113])] [(6, 11)] (Γx := []) ?_; dsimp only [prev0, List.length_nil, List.length_cons])
   | (refine gAny ?_; first | (refine gC 20 ?_; refine RGl.vl (fun e hk => OpT.callN (c1)) ?_) | (refine gC 28 ?_; refine RGl.vl (fun e hk => OpT.callN (c2)) ?_) | (refine gC 52 ?_; refine RGl.row (Γ1 := fun _ => []) (fun e hk => OpT.callN (c4)) ?_) | (refine gC 53 ?_; refine RGl.row (Γ1 := fun _ => []) (fun e hk => OpT.callN ((c5 _))) ?_) | (refine gC 61 ?_; refine RGl.row (Γ1 := fun _ => []) (fun e hk => OpT.callN (c6)) ?_) | (refine gC 62 ?_; refine RGl.row (Γ1 := fun _ => []) (fun e hk => OpT.callN ((c7 _ _))) ?_) | (refine gC 68 ?_; refine RGl.row (Γ1 := fun _ => []) (fun e hk => OpT.callN ((c8 _ _))) ?_) | (refine gC 75 ?_; refine RGl.vl (fun e hk => OpT.callN ((c9 _))) ?_) | (refine gC 76 ?_; refine RGl.row (Γ1 := fun _ => []) (fun e hk => OpT.callN (c10)) ?_) | (refine gC 77 ?_; refine RGl.row (Γ1 := fun _ => []) (fun e hk => OpT.callN ((c11 _ _))) ?_) | (refine gC 100 ?_; refine RGl.row (Γ1 := fun _ => []) (fun e hk => OpT.callN ((c12 _ _))) ?_) | (refine gC 107 ?_; refine RGl.row (Γ1 := fun _ => []) (fun e hk => OpT.callN (c13)) ?_) | (refine gC 113 ?_; refine RGl.vl (fun e hk => OpT.callN ((c14 _))) ?_) | (refine gC 124 ?_; refine RGl.row (Γ1 := fun _ => []) (fun e hk => OpT.callN (c15)) ?_) | (refine gC 125 ?_; refine RGl.row (Γ1 := fun _ => []) (fun e hk => OpT.callN ((c16 _ _))) ?_) | (refine gD 36 ?_; refine RGl.rdX (fun e hk => by (try dsimp only [bndR, ensR, oksR, fcutR, List.append_nil, List.nil_append, List.cons_append, List.append_assoc] at hk ⊢); exact ReadR.binE rfl rfl (BinR.neqB (by kernel_rfl)) (congrArg Value.bool (show (!(a.six == false)) = false by rw [hs]; rfl))) ?_) | (refine gD 40 ?_; refine RGl.rdX (fun e hk => by (try dsimp only [bndR, ensR, oksR, fcutR, List.append_nil, List.nil_append, List.cons_append, List.append_assoc] at hk ⊢); exact ReadR.binE rfl rfl BinR.eql (congrArg Value.bool (decide_eq_false (show ¬ (p : Int) = 0 by omega)))) ?_) | (refine gD 50 ?_; refine RGl.rdX (fun e hk => by (try dsimp only [bndR, ensR, oksR, fcutR, List.append_nil, List.nil_append, List.cons_append, List.append_assoc] at hk ⊢); exact ReadR.binE rfl rfl (BinR.addI (by omega) (by omega)) (congrArg (Value.int .i64) (show _ = ((nk false 1 : Nat) : Int) from by first | rfl | (simp [nk]; done) | (simp [nk]; omega)))) ?_) | (refine gD 59 ?_; refine RGl.rdX (fun e hk => by (try dsimp only [bndR, ensR, oksR, fcutR, List.append_nil, List.nil_append, List.cons_append, List.append_assoc] at hk ⊢); exact ReadR.binE rfl rfl (BinR.addI (by omega) (by omega)) (congrArg (Value.int .i64) (show _ = ((k + 2 * 1 : Nat) : Int) from by first | omega | (simp; done) | (simp; omega)))) ?_) | (refine gD 90 ?_; refine RGl.rdX (fun e hk => by (try dsimp only [bndR, ensR, oksR, fcutR, List.append_nil, List.nil_append, List.cons_append, List.append_assoc] at hk ⊢); exact ReadR.binE rfl rfl (BinR.addI (by omega) (by omega)) (congrArg (Value.int .i64) (show _ = ((k + j : Nat) : Int) from by omega))) ?_) | (refine gD 106 ?_; refine RGl.rdX (fun e hk => by (try dsimp only [bndR, ensR, oksR, fcutR, List.append_nil, List.nil_append, List.cons_append, List.append_assoc] at hk ⊢); exact ReadR.binE rfl rfl (BinR.subI (by omega) (by omega)) (congrArg (Value.int .i64) (show _ = ((D.length - k : Nat) : Int) from by omega))) ?_) | ((show RGl _ _ _ _ _ _ _ _ (⟨_, .store _ (.tmp 15) _, _, _, _, _⟩ :: _) _ _; refine RGl.turn (fun e hk => by (try dsimp only [bndR, ensR, oksR, fcutR, List.append_nil, List.nil_append, List.cons_append, List.append_assoc] at hk ⊢); exact OpT.storeA (cs' := hdc ⟨false, pr, (k : Int), s1, d1, pt, hp⟩) rfl rfl takesA fokA (by kernel_rfl) (by kernel_rfl)) ?_)) | (refine gD 115 ?_; refine RGl.rdX (fun e hk => by (try dsimp only [bndR, ensR, oksR, fcutR, List.append_nil, List.nil_append, List.cons_append, List.append_assoc] at hk ⊢); exact ReadR.binE rfl rfl BinR.eql (congrArg Value.bool (decide_eq_true (show ((S2 : Nat) : Int) = 0 by omega)))) ?_) | (refine gD 119 ?_; refine RGl.rdX (fun e hk => by (try dsimp only [bndR, ensR, oksR, fcutR, List.append_nil, List.nil_append, List.cons_append, List.append_assoc] at hk ⊢); exact ReadR.binE rfl rfl BinR.eql (congrArg Value.bool (decide_eq_false (show ¬ ((pr.toNat : Nat) : Int) = 17 by omega)))) ?_) | (refine gOp ?_; first | refine RGl.rdA ?_ | refine RGl.rdX (fun e hk => by (try dsimp only [bndR, ensR, oksR, fcutR, List.append_nil, List.nil_append, List.cons_append, List.append_assoc] at hk ⊢); exact readB) ?_) | (refine gAl ?_; refine RGl.nwA ?_) | (refine gApp ?_; refine RGl.appA ?_) | (refine gSt ?_; refine RGl.stA ?_) | (refine RGl.fin (fun e hk => ?_); (try dsimp only [bndA, ensAR, oksA, List.append_nil, List.nil_append, List.cons_append, List.append_assoc] at hk ⊢); (repeat (obtain ⟨hk1, hk⟩ := hk))) | fail)
   | (refine isCond ?_; first | refine WPc.cT ?_ | refine WPc.cF ?_ | (refine WPc.cQ (fun hc => ?_) (fun hc => ?_) <;> try exact prA))
   | (refine isD 36 ?_; refine WPl.rdX (ReadR.binE rfl rfl (BinR.neqB (by kernel_rfl)) (congrArg Value.bool (show (!(a.six == false)) = false by rw [hs]; rfl))) ?_)
   | (refine isD 40 ?_; refine WPl.rdX (ReadR.binE rfl rfl BinR.eql (congrArg Value.bool (decide_eq_false (show ¬ (p : Int) = 0 by omega)))) ?_)
   | (refine isC 20 ?_; refine WPl.cV (c1) ?_)
   | (show WPl _ _ _ _ _ _ _ (⟨_, .store 39 (.tmp 10) _, _, _, _, _⟩ :: _) _; refine WPl.stA (new := pkc ⟨⟨false, pr, (k : Int), s1, d1, pt, hp⟩, ⟨sr, ds, fg, (j : Int), false, da⟩, fl⟩) ?_ (ht := by kernel_rfl))
   | (refine isC 28 ?_; refine WPl.cV (c2) ?_)
   | (refine isC 52 ?_; refine WPl.cR (c4) fun v hv => ?_)
   | (refine isC 53 ?_; refine WPl.cR ((c5 _)) fun v hv => ?_)
   | (refine isC 61 ?_; refine WPl.cR (c6) fun v hv => ?_)
   | (refine isC 62 ?_; refine WPl.cR ((c7 _ _)) fun v hv => ?_)
   | (refine isC 68 ?_; refine WPl.cR ((c8 _ _)) fun v hv => ?_)
   | (refine isLit ?_; refine WPl.lit fun v hv => ?_)
   | (refine isC 75 ?_; refine WPl.cV ((c9 _)) ?_)
   | (refine isC 76 ?_; refine WPl.cR (c10) fun v hv => ?_)
   | (refine isC 77 ?_; refine WPl.cR ((c11 _ _)) fun v hv => ?_)
   | (refine isLit ?_; refine WPl.lit fun v hv => ?_)
   | (refine isC 100 ?_; refine WPl.cR ((c12 _ _)) fun v hv => ?_)
   | (refine isC 107 ?_; refine WPl.cR (c13) fun v hv => ?_)
   | (refine isC 113 ?_; refine WPl.cV ((c14 _)) ?_)
   | (refine isC 124 ?_; refine WPl.cR (c15) fun v hv => ?_)
   | (refine isC 125 ?_; refine WPl.cR ((c16 _ _)) fun v hv => ?_)
   | (refine isD 115 ?_; refine WPl.rdX (ReadR.binE rfl rfl BinR.eql (congrArg Value.bool (decide_eq_true (show ((S2 : Nat) : Int) = 0 by omega)))) ?_)
   | (refine isD 119 ?_; refine WPl.rdX (ReadR.binE rfl rfl BinR.eql (congrArg Value.bool (decide_eq_false (show ¬ ((pr.toNat : Nat) : Int) = 17 by omega)))) ?_)
   | (refine isOp ?_; first | refine WPl.rd ?_ | refine WPl.sk ?_ | refine WPl.rdB ?_)
   | (refine isAl ?_; refine WPl.nw fun g => ?_)
   | (refine isBx ?_; refine WPl.nw fun g => ?_)
   | (refine isSt ?_; first | refine WPl.st1 ?_ | refine WPl.stA ?_ | refine WPl.stEB ?_ | refine WPl.stRB ?_)
   | (show WPl _ _ _ _ _ _ _ (⟨_, .indexAddr _ _ _, _, _, _, _⟩ :: _) _; refine WPl.rdX (ReadR.indexE rfl rfl hasA (by first | assumption | omega)) ?_)
   | (show WPl _ _ _ _ _ _ _ (⟨_, .fieldAddr _ _ _, _, _, _, _⟩ :: _) _; refine WPl.rdX (ReadR.fieldE rfl hasA (by first | assumption | omega)) ?_)
   | (show WPl _ _ _ _ _ _ _ (⟨_, .load _ _, _, _, _, _⟩ :: _) _; first | refine WPl.rdX (ReadR.loadE rfl hasA (by assumption)) ?_ | refine WPl.rdX (ReadR.loadES (by assumption) (by first | assumption | omega) rfl hasA) ?_)
   | (show WPl _ _ _ _ _ _ _ (⟨_, .slice _ _ _ _ _, _, _, _, _⟩ :: _) _; first | refine WPl.rdX (ReadR.sliceH rfl rfl hasA (by omega)) ?_ | refine WPl.rdX (ReadR.sliceL rfl rfl hasA (by omega)) ?_ | refine WPl.rdX (ReadR.sliceLH rfl rfl rfl hasA (by omega) (by omega)) ?_)
   | (refine WPl.spQ (fun hc => ?_) (fun hc => ?_) <;> try exact prA)
   | fail)
  all_goals try (first | exact WPq.dTp | exact WPq.dTs | exact WPq.dV | exact WPq.dR | exact WPq.dR2 | exact WPq.dH | exact WPq.dBH | exact WPq.dT)
theorem rrw_f1c (v : Value) (b : List UInt8) (a : Adr) (p : Nat) (pr : UInt8) (k : Nat) (s1 d1 : Adr) (pt : Bool) (hp : UInt8) (sr ds : Nat) (fg : UInt8) (sa : Int) (da : Int) (fl : Fl) (hp1 : p ≤ 65535) (hp0 : p ≠ 0) (hl : b.length ≤ 100000) (he : pkVal b = .tuple #[ag (pkc ⟨⟨false, pr, (k : Int), s1, d1, pt, hp⟩, ⟨sr, ds, fg, sa, false, da⟩, fl⟩), .int .i64 0])
    (hg : a.good = true) (hs : a.six = false) (hj : sa = (sj ⟨false, pr, (k : Int), s1, d1, pt, hp⟩ : Int)) (hk2 : k + sj ⟨false, pr, (k : Int), s1, d1, pt, hp⟩ + 2 ≤ b.length) (hk20 : 20 ≤ k) (hnk : nk false 1 + a.bytes.length ≤ b.length) (hc : ¬ rsC (lay (q1 b ⟨false, pr, (k : Int), s1, d1, pt, hp⟩ 1 a p (rs1 b ⟨false, pr, (k : Int), s1, d1, pt, hp⟩ 1 a p)) ((Hd.mk false pr (k : Int) s1 d1 pt hp).pos.toNat + sj ⟨false, pr, (k : Int), s1, d1, pt, hp⟩) (twoB 0)) (hdA ⟨false, pr, (k : Int), s1, d1, pt, hp⟩ 1 a) = 0 ∧ True) :
    Triple Try.prog 7 #[v, .int .i64 1, ag (adc a), .int .u16 (p : Int)] [rb v b] (RW (r5 b ⟨false, pr, (k : Int), s1, d1, pt, hp⟩ false 1 a p) 0) := by
  have c1 := rparse_t v b hl
  rw [he] at c1
  have c2 := rgood_t a
  rw [hg] at c2
  have c4 := rbytes_t a
  have la := a.len
  have ls := s1.len
  have ld := d1.len
  have lf1 := fl.src.len
  have lf2 := fl.dst.len
  have hpr := pr.toNat_lt
  obtain ⟨j, hjj⟩ : ∃ j, j = sj ⟨false, pr, (k : Int), s1, d1, pt, hp⟩ := ⟨_, rfl⟩
  have hj6 := sj_ge ⟨false, pr, (k : Int), s1, d1, pt, hp⟩
  rw [← hjj] at hj hk2 hj6
  subst hj
  have hbl := a.bytes_len
  rw [hs] at hbl
  have t : ∀ n, (twoB n).length = 2 := fun n => rfl
  have t0 : ([0, 0] : List UInt8).length = 2 := rfl
  have c5 := fun v1 => rlay_t v v1 b a.bytes (nk false 1) hnk hl
  have l1 : (lay b (nk false 1) a.bytes).length = b.length := lay_length hnk
  have c6 := rtwo_t p hp1
  have c7 := fun v1 v2 => rlay_t v1 v2 (lay b (nk false 1) a.bytes) (twoB p) (k + 2 * 1) (by rw [l1, t]; omega) (by omega)
  have eC : lay (lay b (nk false 1) a.bytes) (k + 2 * 1) (twoB p) = core b ⟨false, pr, (k : Int), s1, d1, pt, hp⟩ 1 a p := by unfold core; rfl
  have l2 : (core b ⟨false, pr, (k : Int), s1, d1, pt, hp⟩ 1 a p).length = b.length := by rw [← eC, lay_length (by rw [l1, t]; omega), l1]
  rw [eC] at c7
  unfold r5
  unfold rs1 q1 at hc ⊢
  show Triple _ _ _ _ (RW (q2 _ _ false (rs2 (lay _ (k + sj _) (twoB 0)) _)) 0)
  rw [← hjj] at hc ⊢
  rw [show hdA ⟨false, pr, (k : Int), s1, d1, pt, hp⟩ 1 a = ⟨false, pr, (k : Int), s1, a, pt, hp⟩ from rfl] at hc ⊢
  simp only [show (Hd.mk false pr (k : Int) s1 d1 pt hp).pos.toNat = k from rfl, show (Hd.mk false pr (k : Int) s1 d1 pt hp).six = false from rfl] at hc ⊢
  rw [show twoB 0 = [0, 0] from rfl] at hc ⊢
  try simp only [if_neg (show ¬ (false = true) by decide), Bool.false_eq_true, if_false] at hc ⊢
  have c8 := fun v1 v2 => rlay_t v1 v2 (core b ⟨false, pr, (k : Int), s1, d1, pt, hp⟩ 1 a p) [0, 0] 10 (by rw [l2, t0]; omega) (by omega)
  have l3 : (lay (core b ⟨false, pr, (k : Int), s1, d1, pt, hp⟩ 1 a p) 10 [0, 0]).length = b.length := by rw [lay_length (by rw [l2, t0]; omega), l2]
  have c9 := fun v1 => rsum_t (subv 1 v1 0 k) (seg (lay (core b ⟨false, pr, (k : Int), s1, d1, pt, hp⟩ 1 a p) 10 [0, 0]) 0 k) (by rw [seg_length (by omega)]; omega)
  have hs1 := csum_le (seg (lay (core b ⟨false, pr, (k : Int), s1, d1, pt, hp⟩ 1 a p) 10 [0, 0]) 0 k)
  have c10 := rtwo_t (csum (seg (lay (core b ⟨false, pr, (k : Int), s1, d1, pt, hp⟩ 1 a p) 10 [0, 0]) 0 k)) hs1
  have c11 := fun v1 v2 => rlay_t v1 v2 (lay (core b ⟨false, pr, (k : Int), s1, d1, pt, hp⟩ 1 a p) 10 [0, 0]) (twoB (csum (seg (lay (core b ⟨false, pr, (k : Int), s1, d1, pt, hp⟩ 1 a p) 10 [0, 0]) 0 k))) 10 (by rw [l3, t]; omega) (by omega)
  have lC : (lay (lay (core b ⟨false, pr, (k : Int), s1, d1, pt, hp⟩ 1 a p) 10 [0, 0]) 10 (twoB (csum (seg (lay (core b ⟨false, pr, (k : Int), s1, d1, pt, hp⟩ 1 a p) 10 [0, 0]) 0 k)))).length = b.length := by rw [lay_length (by rw [l3, t]; omega), l3]
  generalize lay (lay (core b ⟨false, pr, (k : Int), s1, d1, pt, hp⟩ 1 a p) 10 [0, 0]) 10 (twoB (csum (seg (lay (core b ⟨false, pr, (k : Int), s1, d1, pt, hp⟩ 1 a p) 10 [0, 0]) 0 k))) = C at *
  generalize csum (seg (lay (core b ⟨false, pr, (k : Int), s1, d1, pt, hp⟩ 1 a p) 10 [0, 0]) 0 k) = S1 at *
  have hsl : (seg (lay (core b ⟨false, pr, (k : Int), s1, d1, pt, hp⟩ 1 a p) 10 [0, 0]) 0 k).length = k := seg_length (by omega)
  generalize lay (core b ⟨false, pr, (k : Int), s1, d1, pt, hp⟩ 1 a p) 10 [0, 0] = C2 at *
  generalize core b ⟨false, pr, (k : Int), s1, d1, pt, hp⟩ 1 a p = C1 at *
  generalize lay b (nk false 1) a.bytes = L1 at *
  generalize hn : a.bytes.length = n at *
  generalize twoB p = T1 at *
  generalize a.bytes = ab at *
  unfold q2
  rw [if_neg (by decide)]
  dsimp only
  rw [← hjj]
  rw [show twoB 0 = [0, 0] from rfl]
  simp only [show (k : Int).toNat = k from rfl]
  have c12 := fun v1 v2 => rlay_t v1 v2 C [0, 0] (k + j) (by rw [lC, t0]; omega) (by omega)
  have lD : (lay C (k + j) [0, 0]).length = b.length := by rw [lay_length (by rw [lC, t0]; omega), lC]
  generalize lay C (k + j) [0, 0] = D at *
  unfold rs2
  unfold rsC at hc ⊢
  dsimp only at hc ⊢
  simp only [show (k : Int).toNat = k from rfl] at hc ⊢
  have c13 := rpseudo_t ⟨false, pr, (k : Int), s1, a, pt, hp⟩ ((D.length - k : Nat) : Int) (D.length - k) (by rw [IntKind.wrap_u64]; omega) (by omega)
  have hps := psu_len ⟨false, pr, (k : Int), s1, a, pt, hp⟩ (D.length - k)
  have c14 := fun v1 => rsum_t v1 (psu ⟨false, pr, (k : Int), s1, a, pt, hp⟩ (D.length - k) ++ seg D k (D.length - k)) (by rw [List.length_append, seg_length (by omega)]; omega)
  have hS := csum_le (psu ⟨false, pr, (k : Int), s1, a, pt, hp⟩ (D.length - k) ++ seg D k (D.length - k))
  have hsl2 : (seg D k (D.length - k)).length = D.length - k := seg_length (by omega)
  generalize psu ⟨false, pr, (k : Int), s1, a, pt, hp⟩ (D.length - k) = ps at *
  generalize csum (ps ++ seg D k (D.length - k)) = S2 at *
  obtain ⟨hc1, hc2⟩ := hc
  rw [if_neg (fun h => hc1 h.1)]
  have c15 := rtwo_t S2 (by omega)
  have c16 := fun v1 v2 => rlay_t v1 v2 D (twoB S2) (k + j) (by rw [lD, t]; omega) (by omega)
  generalize twoB S2 = T2 at *
  refine Triple.enter Try.func7 rfl Try.ntmps7 rfl (fun W => ?_)
  dsimp only [argsF, Nat.reduceAdd]
  repeat' (first
   | refine WPl.nil ?_ | refine WPq.then ?_ | refine WPq.thenR ?_ | refine WPq.thenE ?_ | refine WPq.blockN ?_ | refine WPq.blockR ?_ | refine WPq.blockE ?_ | refine WPq.blockO rfl ?_ | refine WPc.seq ?_ | refine WPc.block ?_ | refine WPc.ret ?_ | refine WPc.exit ?_ | refine WPc.skip ?_ | refine WPc.region ?_
   | (refine isReg 9 ?_; refine WPc.drA [([], [46, 47, 48, 49, 50, 51, 52, 54, 55, 56, 57, 58, 59, 60]), ([], [45, 47, 48, 49, 51, 52, 54, 55, 56, 57, 58, 59, 60]), ([], [45, 46, 48, 51, 52, 54, 55, 56, 57, 58, 59, 60]), ([], [45, 46, 47, 51, 52, 54, 55, 56, 57, 58, 59, 60]), ([2, 3], [45, 46, 47, 48, 51, 52, 54, 55, 56, 57, 58, 59, 60]), ([1, 2, 3, 4], [45, 46, 47, 48, 49, 51, 52, 54, 55, 56, 57, 58, 59, 60]), ([], [45, 46, 47, 48, 49, 50, 54, 55, 56, 57, 58, 59, 60]), ([6], [45, 46, 47, 48, 49, 50, 51, 54, 55, 56, 57, 58, 59, 60]), ([0, 1, 2, 3, 4, 5, 6, 7], [45, 46, 47, 48, 49, 50, 51, 52, 54, 55, 56, 57, 58, 59, 60]), ([], [45, 46, 47, 48, 49, 50, 51, 52, 53, 57, 58, 60, 61]), ([9], [45, 46, 47, 48, 49, 50, 51, 52, 53, 54, 57, 58, 60, 61]), ([9, 10], [45, 46, 47, 48, 49, 50, 51, 52, 53, 54, 55, 57, 58, 60, 61]), ([], [45, 46, 47, 48, 49, 50, 51, 52, 53, 54, 55, 56, 60, 61]), ([12], [45, 46, 47, 48, 49, 50, 51, 52, 53, 54, 55, 56, 57, 60, 61]), ([9, 10, 11, 12, 13], [45, 46, 47, 48, 49, 50, 51, 52, 53, 54, 55, 56, 57, 58, 60, 61]), ([], [45, 46, 47, 48, 49, 50, 51, 52, 53, 54, 55, 56, 57, 58, 59]), ([0, 1, 2, 3, 4, 5, 6, 7, 8, 15], [45, 46, 47, 48, 49, 50, 51, 52, 53, 54, 55, 56, 57, 58, 59, 60]), ([0, 1, 2, 3, 4, 5, 6, 7, 8, 9, 10, 11, 12, 13, 14, 15, 16], [45, 46, 47, 48, 49, 50, 51, 52, 53, 54, 55, 56, 57, 58, 59, 60, 61]), ([0, 1, 2, 3, 4, 5, 6, 7, 8, 9, 10, 11, 12, 13, 14, 15, 16, 17], [45, 46, 47, 48, 49, 50, 51, 52, 53, 54, 55, 56, 57, 58, 59, 60, 61, 62])] [] (Γx := []) ?_; dsimp only [prev0, List.length_nil, List.length_cons])
   | (refine isReg 15 ?_; refine WPc.drA [([], [15, 84, 85, 86, 87, 88, 89, 90]), ([0], [15, 82, 84, 85, 86, 87, 88, 89, 90]), ([], [15, 82, 83, 87, 88, 89]), ([2], [15, 82, 83, 84, 87, 88, 89]), ([2, 3], [15, 82, 83, 84, 85, 87, 88, 89]), ([], [15, 82, 83, 84, 85, 86]), ([5], [15, 82, 83, 84, 85, 86, 87]), ([5, 6], [15, 82, 83, 84, 85, 86, 87, 88]), ([2, 3, 4, 5, 6, 7], [15, 82, 83, 84, 85, 86, 87, 88, 89]), ([], [82, 83, 84, 85, 86, 87, 88, 89, 90]), ([0, 1, 9], [15, 82, 83, 84, 85, 86, 87, 88, 89, 90]), ([0, 1, 2, 3, 4, 5, 6, 7, 8, 9, 10], [15, 82, 83, 84, 85, 86, 87, 88, 89, 90])] [(9, 10)] (Γx := []) ?_; dsimp only [prev0, List.length_nil, List.length_cons])
   | (refine isReg 20 ?_; refine WPc.drA [([], [102, 103, 104, 105, 106, 108, 109, 110, 111]), ([], [101, 104, 105, 108, 109, 110, 111]), ([1], [101, 102, 104, 105, 108, 109, 110, 111]), ([], [101, 102, 103, 108, 109, 110, 111]), ([3], [101, 102, 103, 104, 108, 109, 110, 111]), ([1, 2, 3, 4], [101, 102, 103, 104, 105, 108, 109, 110, 111]), ([0, 1, 2, 3, 4, 5], [101, 102, 103, 104, 105, 106, 108, 109, 110, 111]), ([], [101, 102, 103, 104, 105, 106, 107, 109, 110]), ([], [101, 102, 103, 104, 105, 106, 107, 108]), ([8], [101, 102, 103, 104, 105, 106, 107, 108, 109]), ([7, 8, 9], [101, 102, 103, 104, 105, 106, 107, 108, 109, 110]), ([0, 1, 2, 3, 4, 5, 6, 7, 8, 9, 10], [101, 102, 103, 104, 105, 106, 107, 108, 109, 110, 111]), ([0, 1, 2, 3, 4, 5, 6, 7, 8, 9, 10, 11], [101, 102, 103, 104, 105, 106, 107, 108, 109, 110, 111, 112]), ([0, 1, 2, 3, 4, 5, 6, 7, 8, 9, 10, 11, 12], [101, 102, 103, 104, 105, 106, 107, 108, 109, 110, 111, 112, 113])] [(6, 11)] (Γx := []) ?_; dsimp only [prev0, List.length_nil, List.length_cons])
   | (refine gAny ?_; first | (refine gC 20 ?_; refine RGl.vl (fun e hk => OpT.callN (c1)) ?_) | (refine gC 28 ?_; refine RGl.vl (fun e hk => OpT.callN (c2)) ?_) | (refine gC 52 ?_; refine RGl.row (Γ1 := fun _ => []) (fun e hk => OpT.callN (c4)) ?_) | (refine gC 53 ?_; refine RGl.row (Γ1 := fun _ => []) (fun e hk => OpT.callN ((c5 _))) ?_) | (refine gC 61 ?_; refine RGl.row (Γ1 := fun _ => []) (fun e hk => OpT.callN (c6)) ?_) | (refine gC 62 ?_; refine RGl.row (Γ1 := fun _ => []) (fun e hk => OpT.callN ((c7 _ _))) ?_) | (refine gC 68 ?_; refine RGl.row (Γ1 := fun _ => []) (fun e hk => OpT.callN ((c8 _ _))) ?_) | (refine gC 75 ?_; refine RGl.vl (fun e hk => OpT.callN ((c9 _))) ?_) | (refine gC 76 ?_; refine RGl.row (Γ1 := fun _ => []) (fun e hk => OpT.callN (c10)) ?_) | (refine gC 77 ?_; refine RGl.row (Γ1 := fun _ => []) (fun e hk => OpT.callN ((c11 _ _))) ?_) | (refine gC 100 ?_; refine RGl.row (Γ1 := fun _ => []) (fun e hk => OpT.callN ((c12 _ _))) ?_) | (refine gC 107 ?_; refine RGl.row (Γ1 := fun _ => []) (fun e hk => OpT.callN (c13)) ?_) | (refine gC 113 ?_; refine RGl.vl (fun e hk => OpT.callN ((c14 _))) ?_) | (refine gC 124 ?_; refine RGl.row (Γ1 := fun _ => []) (fun e hk => OpT.callN (c15)) ?_) | (refine gC 125 ?_; refine RGl.row (Γ1 := fun _ => []) (fun e hk => OpT.callN ((c16 _ _))) ?_) | (refine gD 36 ?_; refine RGl.rdX (fun e hk => by (try dsimp only [bndR, ensR, oksR, fcutR, List.append_nil, List.nil_append, List.cons_append, List.append_assoc] at hk ⊢); exact ReadR.binE rfl rfl (BinR.neqB (by kernel_rfl)) (congrArg Value.bool (show (!(a.six == false)) = false by rw [hs]; rfl))) ?_) | (refine gD 40 ?_; refine RGl.rdX (fun e hk => by (try dsimp only [bndR, ensR, oksR, fcutR, List.append_nil, List.nil_append, List.cons_append, List.append_assoc] at hk ⊢); exact ReadR.binE rfl rfl BinR.eql (congrArg Value.bool (decide_eq_false (show ¬ (p : Int) = 0 by omega)))) ?_) | (refine gD 50 ?_; refine RGl.rdX (fun e hk => by (try dsimp only [bndR, ensR, oksR, fcutR, List.append_nil, List.nil_append, List.cons_append, List.append_assoc] at hk ⊢); exact ReadR.binE rfl rfl (BinR.addI (by omega) (by omega)) (congrArg (Value.int .i64) (show _ = ((nk false 1 : Nat) : Int) from by first | rfl | (simp [nk]; done) | (simp [nk]; omega)))) ?_) | (refine gD 59 ?_; refine RGl.rdX (fun e hk => by (try dsimp only [bndR, ensR, oksR, fcutR, List.append_nil, List.nil_append, List.cons_append, List.append_assoc] at hk ⊢); exact ReadR.binE rfl rfl (BinR.addI (by omega) (by omega)) (congrArg (Value.int .i64) (show _ = ((k + 2 * 1 : Nat) : Int) from by first | omega | (simp; done) | (simp; omega)))) ?_) | (refine gD 90 ?_; refine RGl.rdX (fun e hk => by (try dsimp only [bndR, ensR, oksR, fcutR, List.append_nil, List.nil_append, List.cons_append, List.append_assoc] at hk ⊢); exact ReadR.binE rfl rfl (BinR.addI (by omega) (by omega)) (congrArg (Value.int .i64) (show _ = ((k + j : Nat) : Int) from by omega))) ?_) | (refine gD 106 ?_; refine RGl.rdX (fun e hk => by (try dsimp only [bndR, ensR, oksR, fcutR, List.append_nil, List.nil_append, List.cons_append, List.append_assoc] at hk ⊢); exact ReadR.binE rfl rfl (BinR.subI (by omega) (by omega)) (congrArg (Value.int .i64) (show _ = ((D.length - k : Nat) : Int) from by omega))) ?_) | ((show RGl _ _ _ _ _ _ _ _ (⟨_, .store _ (.tmp 15) _, _, _, _, _⟩ :: _) _ _; refine RGl.turn (fun e hk => by (try dsimp only [bndR, ensR, oksR, fcutR, List.append_nil, List.nil_append, List.cons_append, List.append_assoc] at hk ⊢); exact OpT.storeA (cs' := hdc ⟨false, pr, (k : Int), s1, d1, pt, hp⟩) rfl rfl takesA fokA (by kernel_rfl) (by kernel_rfl)) ?_)) | (refine gD 115 ?_; refine RGl.rdX (fun e hk => by (try dsimp only [bndR, ensR, oksR, fcutR, List.append_nil, List.nil_append, List.cons_append, List.append_assoc] at hk ⊢); exact ReadR.binE rfl rfl BinR.eql (congrArg Value.bool (decide_eq_false (show ¬ ((S2 : Nat) : Int) = 0 by omega)))) ?_) | (refine gOp ?_; first | refine RGl.rdA ?_ | refine RGl.rdX (fun e hk => by (try dsimp only [bndR, ensR, oksR, fcutR, List.append_nil, List.nil_append, List.cons_append, List.append_assoc] at hk ⊢); exact readB) ?_) | (refine gAl ?_; refine RGl.nwA ?_) | (refine gApp ?_; refine RGl.appA ?_) | (refine gSt ?_; refine RGl.stA ?_) | (refine RGl.fin (fun e hk => ?_); (try dsimp only [bndA, ensAR, oksA, List.append_nil, List.nil_append, List.cons_append, List.append_assoc] at hk ⊢); (repeat (obtain ⟨hk1, hk⟩ := hk))) | fail)
   | (refine isCond ?_; first | refine WPc.cT ?_ | refine WPc.cF ?_ | (refine WPc.cQ (fun hc => ?_) (fun hc => ?_) <;> try exact prA))
   | (refine isD 36 ?_; refine WPl.rdX (ReadR.binE rfl rfl (BinR.neqB (by kernel_rfl)) (congrArg Value.bool (show (!(a.six == false)) = false by rw [hs]; rfl))) ?_)
   | (refine isD 40 ?_; refine WPl.rdX (ReadR.binE rfl rfl BinR.eql (congrArg Value.bool (decide_eq_false (show ¬ (p : Int) = 0 by omega)))) ?_)
   | (refine isC 20 ?_; refine WPl.cV (c1) ?_)
   | (show WPl _ _ _ _ _ _ _ (⟨_, .store 39 (.tmp 10) _, _, _, _, _⟩ :: _) _; refine WPl.stA (new := pkc ⟨⟨false, pr, (k : Int), s1, d1, pt, hp⟩, ⟨sr, ds, fg, (j : Int), false, da⟩, fl⟩) ?_ (ht := by kernel_rfl))
   | (refine isC 28 ?_; refine WPl.cV (c2) ?_)
   | (refine isC 52 ?_; refine WPl.cR (c4) fun v hv => ?_)
   | (refine isC 53 ?_; refine WPl.cR ((c5 _)) fun v hv => ?_)
   | (refine isC 61 ?_; refine WPl.cR (c6) fun v hv => ?_)
   | (refine isC 62 ?_; refine WPl.cR ((c7 _ _)) fun v hv => ?_)
   | (refine isC 68 ?_; refine WPl.cR ((c8 _ _)) fun v hv => ?_)
   | (refine isLit ?_; refine WPl.lit fun v hv => ?_)
   | (refine isC 75 ?_; refine WPl.cV ((c9 _)) ?_)
   | (refine isC 76 ?_; refine WPl.cR (c10) fun v hv => ?_)
   | (refine isC 77 ?_; refine WPl.cR ((c11 _ _)) fun v hv => ?_)
   | (refine isLit ?_; refine WPl.lit fun v hv => ?_)
   | (refine isC 100 ?_; refine WPl.cR ((c12 _ _)) fun v hv => ?_)
   | (refine isC 107 ?_; refine WPl.cR (c13) fun v hv => ?_)
   | (refine isC 113 ?_; refine WPl.cV ((c14 _)) ?_)
   | (refine isC 124 ?_; refine WPl.cR (c15) fun v hv => ?_)
   | (refine isC 125 ?_; refine WPl.cR ((c16 _ _)) fun v hv => ?_)
   | (refine isD 115 ?_; refine WPl.rdX (ReadR.binE rfl rfl BinR.eql (congrArg Value.bool (decide_eq_false (show ¬ ((S2 : Nat) : Int) = 0 by omega)))) ?_)
   | (refine isOp ?_; first | refine WPl.rd ?_ | refine WPl.sk ?_ | refine WPl.rdB ?_)
   | (refine isAl ?_; refine WPl.nw fun g => ?_)
   | (refine isBx ?_; refine WPl.nw fun g => ?_)
   | (refine isSt ?_; first | refine WPl.st1 ?_ | refine WPl.stA ?_ | refine WPl.stEB ?_ | refine WPl.stRB ?_)
   | (show WPl _ _ _ _ _ _ _ (⟨_, .indexAddr _ _ _, _, _, _, _⟩ :: _) _; refine WPl.rdX (ReadR.indexE rfl rfl hasA (by first | assumption | omega)) ?_)
   | (show WPl _ _ _ _ _ _ _ (⟨_, .fieldAddr _ _ _, _, _, _, _⟩ :: _) _; refine WPl.rdX (ReadR.fieldE rfl hasA (by first | assumption | omega)) ?_)
   | (show WPl _ _ _ _ _ _ _ (⟨_, .load _ _, _, _, _, _⟩ :: _) _; first | refine WPl.rdX (ReadR.loadE rfl hasA (by assumption)) ?_ | refine WPl.rdX (ReadR.loadES (by assumption) (by first | assumption | omega) rfl hasA) ?_)
   | (show WPl _ _ _ _ _ _ _ (⟨_, .slice _ _ _ _ _, _, _, _, _⟩ :: _) _; first | refine WPl.rdX (ReadR.sliceH rfl rfl hasA (by omega)) ?_ | refine WPl.rdX (ReadR.sliceL rfl rfl hasA (by omega)) ?_ | refine WPl.rdX (ReadR.sliceLH rfl rfl rfl hasA (by omega) (by omega)) ?_)
   | (refine WPl.spQ (fun hc => ?_) (fun hc => ?_) <;> try exact prA)
   | fail)
  all_goals try (first | exact WPq.dTp | exact WPq.dTs | exact WPq.dV | exact WPq.dR | exact WPq.dR2 | exact WPq.dH | exact WPq.dBH | exact WPq.dT)

end Go.Proofs.Ytjfhiifpnpokpaa
/- Reference 17 (nat): Rewrite where it is told: all cases. -/
namespace Go.Proofs.Ytjfhiifpnpokpaa
end Go.Proofs.Ytjfhiifpnpokpaa
/- Layer 17 (nat): plain law: the packet that is sent elsewhere, against the reference's. -/
namespace Go.Proofs.Ytjfhiifpnpokpaa
open Go.RowKit
set_option linter.unusedSimpArgs false
set_option linter.unusedVariables false
set_option maxRecDepth 20000
set_option maxHeartbeats 4000000
attribute [local irreducible] WPc WPl WPq ReadR OpT BinR HasS bx rdN rowN Take Takes Prov Triple ResF BuildP Done ag Int.decLt Int.decLe Int.instDecidableEq

theorem ofA_good {a : Adr} (hg : a.good = true) : ofA a.bytes = a := by
  have hl := a.len
  cases h : a.six with
  | true =>
    have hb : a.bytes = a.b := by unfold Adr.bytes; rw [h]; rfl
    rw [hb]
    unfold ofA
    rw [dif_pos hl]
    exact Adr.ext h.symm rfl
  | false =>
    have hb : a.bytes = seg a.b 12 4 := by unfold Adr.bytes; rw [h]; rfl
    have hsl : (seg a.b 12 4).length = 4 := by rw [seg_length (by omega)]
    have hg2 : seg a.b 0 12 = List.replicate 12 0 := by
      unfold Adr.good at hg; rw [h] at hg; simpa using hg
    rw [hb]
    unfold ofA
    rw [dif_neg (by omega), dif_pos hsl]
    refine Adr.ext h.symm ?_
    show over (List.replicate 16 0) 12 (seg a.b 12 4) = a.b
    have e1 : a.b = seg a.b 0 12 ++ seg a.b 12 4 := by
      unfold seg
      rw [List.drop_zero, List.take_of_length_le (l := a.b.drop 12) (by simp; omega), List.take_append_drop]
    conv => rhs; rw [e1, hg2]
    unfold over
    rw [hsl]
    simp
theorem ofA_is6 {l : List UInt8} (h : l.length = 16) : (ofA l).six = true := by unfold ofA; rw [dif_pos h]; rfl
theorem ofA_is4 {l : List UInt8} (h : l.length = 4) : (ofA l).six = false := by unfold ofA; rw [dif_neg (by omega), dif_pos h]; rfl
theorem ph_kinds {b : List UInt8} (hE : phE b = 0) : (phH b).src.six = (phH b).six ∧ (phH b).dst.six = (phH b).six := by
  rcases phH_six hE with ⟨h4, he, e, es, h0⟩ | ⟨h6, he, e, es, h0⟩
  · obtain ⟨q1, q2, q3, q4, q5, _⟩ := ferr_zero he
    have xs : (fread b).src = ofA (seg b 12 4) ∧ (fread b).dst = ofA (seg b 16 4) := by unfold fread; rw [if_pos he]; exact ⟨rfl, rfl⟩
    rw [es, e, xs.1, xs.2]
    exact ⟨ofA_is4 (seg_length (by omega)), ofA_is4 (seg_length (by omega))⟩
  · obtain ⟨q1, q2, _⟩ := xerr0_zero (xerr_form he).1
    have xs : (xread b).src = ofA (seg b 8 16) ∧ (xread b).dst = ofA (seg b 24 16) := by unfold xread; rw [if_pos he]; exact ⟨rfl, rfl⟩
    rw [es, e, xs.1, xs.2]
    exact ⟨ofA_is6 (seg_length (by omega)), ofA_is6 (seg_length (by omega))⟩
theorem natE_zero {b : List UInt8} {a : Adr} {p : Nat} (h : natE b a p = 0) : pkE b = 0 ∧ natB b a p := by
  unfold natE at h
  by_cases he : pkE b = 0
  · rw [if_neg (fun hh => hh he)] at h
    by_cases hb : natB b a p
    · exact ⟨he, hb⟩
    · rw [if_neg hb] at h; omega
  · rw [if_pos he] at h; exact absurd h he
/-- All that is known of a packet that is sent elsewhere. -/
theorem nat_plain {b : List UInt8} {a : Adr} {w p : Nat} (hw : w = 0 ∨ w = 1) (hp : p ≤ 65535) (hl : b.length ≤ 50000) (h : natE b a p = 0) :
    ∃ k j : Nat, (pkR b).hd.pos = (k : Int) ∧ (pkR b).sg.sumAt = (j : Int) ∧ 12 < k ∧ k + j ≤ 100000 ∧ pkE (natL b w a p) = 0 ∧
      pkR (natL b w a p) = pkOf (hdA (pkR b).hd w a) (sgP (pkR b).sg w p) ∧ (natL b w a p).length = b.length ∧ (refL b w a p).length = b.length ∧
      (∀ i, i < (natL b w a p).length → i ≠ 10 → i ≠ 11 → i ≠ k + j → i ≠ k + j + 1 → (natL b w a p).getD i 0 = (refL b w a p).getD i 0) ∧ pkR b = pkOf (pkR b).hd (pkR b).sg := by
  obtain ⟨he, hg, hs, hp0⟩ := natE_zero h
  obtain ⟨hE, hpt, hS, hR⟩ := pk_zero he
  obtain ⟨⟨k, hk, hk2, hk20⟩, hsj, h12⟩ := pk_facts he
  have hnk := pk_nk he hs hw
  have hL : natL b w a p = n5 b (phH b) (sgR (phH b) (pkS b)).zero w a p := by unfold natL; rw [if_pos h]
  have hQ : refL b w a p = r5 b (phH b) (sgR (phH b) (pkS b)).zero w a p := by unfold refL; rw [if_pos h]
  obtain ⟨a1, a2, a3⟩ := pk_n5 he hs (ofA_good hg) hw (ph_kinds hE) hp hp0 _ rfl
  have hkk : (phH b).pos.toNat = k := by omega
  have x1 : (pkR b).hd = phH b := by rw [hR]; rfl
  have x2 : (pkR b).sg = sgR (phH b) (pkS b) := by rw [hR]; rfl
  refine ⟨k, sj (phH b), x1 ▸ hk, x2 ▸ hsj, by omega, by omega, ?_⟩
  rw [hL, hQ, x1, x2]
  refine ⟨a1, a2, a3, ?_, ?_, hR⟩
  · unfold r5
    exact (q_core (i := 12 + (k + sj (phH b)) + 2) hnk h12 (by omega) hw ⟨by omega, by omega⟩ ⟨by omega, by omega⟩).1
  · intro i _ i10 i11 ik ik1
    have e1 := n5_core (z := (sgR (phH b) (pkS b)).zero) (p := p) (i := i) hnk h12 (by omega) hw ⟨i10, i11⟩ ⟨by omega, by omega⟩
    unfold r5
    rw [e1]
    exact (q_core (i := i) hnk h12 (by omega) hw ⟨i10, i11⟩ ⟨by omega, by omega⟩).2.symm
end Go.Proofs.Ytjfhiifpnpokpaa
/- Reference 17 (nat): Rewrite: the contract. -/
namespace Go.Proofs.Ytjfhiifpnpokpaa
open Go.RowKit
set_option linter.unusedSimpArgs false
set_option linter.unusedVariables false
set_option maxRecDepth 20000
set_option maxHeartbeats 4000000
attribute [local irreducible] WPc WPl WPq ReadR OpT BinR HasS bx rdN rowN Take Takes Prov Triple ResF BuildP Done ag Int.decLt Int.decLe Int.instDecidableEq
theorem rrw_no (v : Value) (b : List UInt8) (w : Int) (a : Adr) (p : Nat) (hp : p ≤ 65535) (hl : b.length ≤ 100000) (h : ¬ natE b a p = 0) :
    Triple Try.prog 7 #[v, .int .i64 w, ag (adc a), .int .u16 (p : Int)] [rb v b] (RW [] (natE b a p)) := by
  have c1 := rparse_t v b hl
  have c2 := rgood_t a
  have la := a.len
  simp only [pkVal] at c1
  obtain ⟨X, hX⟩ : ∃ X, X = pkR b := ⟨_, rfl⟩
  have k1 := X.hd.src.len
  have k2 := X.hd.dst.len
  have k3 := X.fl.src.len
  have k4 := X.fl.dst.len
  by_cases he : pkE b = 0
  · have hR := (pk_zero he).2.2.2
    have x1 : X.hd = phH b := by rw [hX, hR]; rfl
    rw [he, ← hX] at c1
    have hb : ¬ natB b a p := fun hb => h (by unfold natE; rw [if_neg (fun hh => hh he), if_pos hb])
    have hE : natE b a p = 1 := by unfold natE; rw [if_neg (fun hh => hh he), if_neg hb]
    rw [hE]
    by_cases h1 : a.good = true
    · rw [h1] at c2
      by_cases h2 : a.six = X.hd.six
      · have h3 : p = 0 := by
          apply Classical.byContradiction
          intro h3
          exact hb ⟨h1, h2.trans (by rw [x1]), h3⟩
        refine Triple.enter Try.func7 rfl Try.ntmps7 rfl (fun W => ?_)
        dsimp only [argsF, Nat.reduceAdd]
        repeat' (first
         | refine WPl.nil ?_ | refine WPq.then ?_ | refine WPq.thenR ?_ | refine WPq.thenE ?_ | refine WPq.blockN ?_ | refine WPq.blockR ?_ | refine WPq.blockE ?_ | refine WPq.blockO rfl ?_ | refine WPc.seq ?_ | refine WPc.block ?_ | refine WPc.ret ?_ | refine WPc.exit ?_ | refine WPc.skip ?_ | refine WPc.region ?_
         | (refine isCond ?_; first | refine WPc.cT ?_ | refine WPc.cF ?_ | (refine WPc.cQ (fun hc => ?_) (fun hc => ?_) <;> try exact prA))
         | (refine isC 20 ?_; refine WPl.cV (c1) ?_)
         | (show WPl _ _ _ _ _ _ _ (⟨_, .store 39 (.tmp 10) _, _, _, _, _⟩ :: _) _; refine WPl.stA (new := pkc X) ?_ (ht := by kernel_rfl))
         | (refine isC 28 ?_; refine WPl.cV (c2) ?_)
         | (refine isLit ?_; refine WPl.lits fun v hv => ?_)
         | (refine isD 40 ?_; refine WPl.rdX (ReadR.binE rfl rfl BinR.eql (congrArg Value.bool (decide_eq_true (show (p : Int) = 0 by omega)))) ?_)
         | (refine isOp ?_; first | refine WPl.rd ?_ | refine WPl.sk ?_ | refine WPl.rdB ?_)
         | (refine isAl ?_; refine WPl.nw fun g => ?_)
         | (refine isBx ?_; refine WPl.nw fun g => ?_)
         | (refine isSt ?_; first | refine WPl.st1 ?_ | refine WPl.stA ?_ | refine WPl.stEB ?_ | refine WPl.stRB ?_)
         | (show WPl _ _ _ _ _ _ _ (⟨_, .indexAddr _ _ _, _, _, _, _⟩ :: _) _; refine WPl.rdX (ReadR.indexE rfl rfl hasA (by first | assumption | omega)) ?_)
         | (show WPl _ _ _ _ _ _ _ (⟨_, .fieldAddr _ _ _, _, _, _, _⟩ :: _) _; refine WPl.rdX (ReadR.fieldE rfl hasA (by first | assumption | omega)) ?_)
         | (show WPl _ _ _ _ _ _ _ (⟨_, .load _ _, _, _, _, _⟩ :: _) _; first | refine WPl.rdX (ReadR.loadE rfl hasA (by assumption)) ?_ | refine WPl.rdX (ReadR.loadES (by assumption) (by first | assumption | omega) rfl hasA) ?_)
         | (show WPl _ _ _ _ _ _ _ (⟨_, .slice _ _ _ _ _, _, _, _, _⟩ :: _) _; first | refine WPl.rdX (ReadR.sliceH rfl rfl hasA (by omega)) ?_ | refine WPl.rdX (ReadR.sliceL rfl rfl hasA (by omega)) ?_ | refine WPl.rdX (ReadR.sliceLH rfl rfl rfl hasA (by omega) (by omega)) ?_)
         | (refine WPl.spQ (fun hc => ?_) (fun hc => ?_) <;> try exact prA)
         | fail)
        all_goals try (first | exact WPq.dTp | exact WPq.dTs | exact WPq.dV | exact WPq.dR | exact WPq.dR2 | exact WPq.dH | exact WPq.dBH | exact WPq.dT)
      · have h2' : (!a.six == X.hd.six) = true := by cases ha : a.six <;> cases hb : X.hd.six <;> simp_all
        refine Triple.enter Try.func7 rfl Try.ntmps7 rfl (fun W => ?_)
        dsimp only [argsF, Nat.reduceAdd]
        repeat' (first
         | refine WPl.nil ?_ | refine WPq.then ?_ | refine WPq.thenR ?_ | refine WPq.thenE ?_ | refine WPq.blockN ?_ | refine WPq.blockR ?_ | refine WPq.blockE ?_ | refine WPq.blockO rfl ?_ | refine WPc.seq ?_ | refine WPc.block ?_ | refine WPc.ret ?_ | refine WPc.exit ?_ | refine WPc.skip ?_ | refine WPc.region ?_
         | (refine isCond ?_; first | refine WPc.cT ?_ | refine WPc.cF ?_ | (refine WPc.cQ (fun hc => ?_) (fun hc => ?_) <;> try exact prA))
         | (refine isC 20 ?_; refine WPl.cV (c1) ?_)
         | (show WPl _ _ _ _ _ _ _ (⟨_, .store 39 (.tmp 10) _, _, _, _, _⟩ :: _) _; refine WPl.stA (new := pkc X) ?_ (ht := by kernel_rfl))
         | (refine isC 28 ?_; refine WPl.cV (c2) ?_)
         | (refine isLit ?_; refine WPl.lits fun v hv => ?_)
         | (refine isD 36 ?_; refine WPl.rdX (ReadR.binE rfl rfl (BinR.neqB (by kernel_rfl)) (congrArg Value.bool h2')) ?_)
         | (refine isOp ?_; first | refine WPl.rd ?_ | refine WPl.sk ?_ | refine WPl.rdB ?_)
         | (refine isAl ?_; refine WPl.nw fun g => ?_)
         | (refine isBx ?_; refine WPl.nw fun g => ?_)
         | (refine isSt ?_; first | refine WPl.st1 ?_ | refine WPl.stA ?_ | refine WPl.stEB ?_ | refine WPl.stRB ?_)
         | (show WPl _ _ _ _ _ _ _ (⟨_, .indexAddr _ _ _, _, _, _, _⟩ :: _) _; refine WPl.rdX (ReadR.indexE rfl rfl hasA (by first | assumption | omega)) ?_)
         | (show WPl _ _ _ _ _ _ _ (⟨_, .fieldAddr _ _ _, _, _, _, _⟩ :: _) _; refine WPl.rdX (ReadR.fieldE rfl hasA (by first | assumption | omega)) ?_)
         | (show WPl _ _ _ _ _ _ _ (⟨_, .load _ _, _, _, _, _⟩ :: _) _; first | refine WPl.rdX (ReadR.loadE rfl hasA (by assumption)) ?_ | refine WPl.rdX (ReadR.loadES (by assumption) (by first | assumption | omega) rfl hasA) ?_)
         | (show WPl _ _ _ _ _ _ _ (⟨_, .slice _ _ _ _ _, _, _, _, _⟩ :: _) _; first | refine WPl.rdX (ReadR.sliceH rfl rfl hasA (by omega)) ?_ | refine WPl.rdX (ReadR.sliceL rfl rfl hasA (by omega)) ?_ | refine WPl.rdX (ReadR.sliceLH rfl rfl rfl hasA (by omega) (by omega)) ?_)
         | (refine WPl.spQ (fun hc => ?_) (fun hc => ?_) <;> try exact prA)
         | fail)
        all_goals try (first | exact WPq.dTp | exact WPq.dTs | exact WPq.dV | exact WPq.dR | exact WPq.dR2 | exact WPq.dH | exact WPq.dBH | exact WPq.dT)
    · rw [show a.good = false by simpa using h1] at c2
      refine Triple.enter Try.func7 rfl Try.ntmps7 rfl (fun W => ?_)
      dsimp only [argsF, Nat.reduceAdd]
      repeat' (first
       | refine WPl.nil ?_ | refine WPq.then ?_ | refine WPq.thenR ?_ | refine WPq.thenE ?_ | refine WPq.blockN ?_ | refine WPq.blockR ?_ | refine WPq.blockE ?_ | refine WPq.blockO rfl ?_ | refine WPc.seq ?_ | refine WPc.block ?_ | refine WPc.ret ?_ | refine WPc.exit ?_ | refine WPc.skip ?_ | refine WPc.region ?_
       | (refine isCond ?_; first | refine WPc.cT ?_ | refine WPc.cF ?_ | (refine WPc.cQ (fun hc => ?_) (fun hc => ?_) <;> try exact prA))
       | (refine isC 20 ?_; refine WPl.cV (c1) ?_)
       | (show WPl _ _ _ _ _ _ _ (⟨_, .store 39 (.tmp 10) _, _, _, _, _⟩ :: _) _; refine WPl.stA (new := pkc X) ?_ (ht := by kernel_rfl))
       | (refine isC 28 ?_; refine WPl.cV (c2) ?_)
       | (refine isLit ?_; refine WPl.lits fun v hv => ?_)
       | (refine isOp ?_; first | refine WPl.rd ?_ | refine WPl.sk ?_ | refine WPl.rdB ?_)
       | (refine isAl ?_; refine WPl.nw fun g => ?_)
       | (refine isBx ?_; refine WPl.nw fun g => ?_)
       | (refine isSt ?_; first | refine WPl.st1 ?_ | refine WPl.stA ?_ | refine WPl.stEB ?_ | refine WPl.stRB ?_)
       | (show WPl _ _ _ _ _ _ _ (⟨_, .indexAddr _ _ _, _, _, _, _⟩ :: _) _; refine WPl.rdX (ReadR.indexE rfl rfl hasA (by first | assumption | omega)) ?_)
       | (show WPl _ _ _ _ _ _ _ (⟨_, .fieldAddr _ _ _, _, _, _, _⟩ :: _) _; refine WPl.rdX (ReadR.fieldE rfl hasA (by first | assumption | omega)) ?_)
       | (show WPl _ _ _ _ _ _ _ (⟨_, .load _ _, _, _, _, _⟩ :: _) _; first | refine WPl.rdX (ReadR.loadE rfl hasA (by assumption)) ?_ | refine WPl.rdX (ReadR.loadES (by assumption) (by first | assumption | omega) rfl hasA) ?_)
       | (show WPl _ _ _ _ _ _ _ (⟨_, .slice _ _ _ _ _, _, _, _, _⟩ :: _) _; first | refine WPl.rdX (ReadR.sliceH rfl rfl hasA (by omega)) ?_ | refine WPl.rdX (ReadR.sliceL rfl rfl hasA (by omega)) ?_ | refine WPl.rdX (ReadR.sliceLH rfl rfl rfl hasA (by omega) (by omega)) ?_)
       | (refine WPl.spQ (fun hc => ?_) (fun hc => ?_) <;> try exact prA)
       | fail)
      all_goals try (first | exact WPq.dTp | exact WPq.dTs | exact WPq.dV | exact WPq.dR | exact WPq.dR2 | exact WPq.dH | exact WPq.dBH | exact WPq.dT)
  · have hE : natE b a p = pkE b := by unfold natE; rw [if_pos he]
    rw [hE]
    rw [← hX] at c1
    generalize pkE b = z at *
    have hz : Value.bool (!decide (z = 0)) = .bool true := by rw [decide_eq_false he]; rfl
    refine Triple.enter Try.func7 rfl Try.ntmps7 rfl (fun W => ?_)
    dsimp only [argsF, Nat.reduceAdd]
    repeat' (first
     | refine WPl.nil ?_ | refine WPq.then ?_ | refine WPq.thenR ?_ | refine WPq.thenE ?_ | refine WPq.blockN ?_ | refine WPq.blockR ?_ | refine WPq.blockE ?_ | refine WPq.blockO rfl ?_ | refine WPc.seq ?_ | refine WPc.block ?_ | refine WPc.ret ?_ | refine WPc.exit ?_ | refine WPc.skip ?_ | refine WPc.region ?_
     | (refine isCond ?_; first | refine WPc.cT ?_ | refine WPc.cF ?_ | (refine WPc.cQ (fun hc => ?_) (fun hc => ?_) <;> try exact prA))
     | (refine isC 20 ?_; refine WPl.cV (c1) ?_)
     | (show WPl _ _ _ _ _ _ _ (⟨_, .store 39 (.tmp 10) _, _, _, _, _⟩ :: _) _; refine WPl.stA (new := pkc X) ?_ (ht := by kernel_rfl))
     | (refine isLit ?_; refine WPl.lits fun v hv => ?_)
     | (refine isD 24 ?_; refine WPl.rdX (ReadR.binE rfl rfl BinR.neq hz) ?_)
     | (refine isOp ?_; first | refine WPl.rd ?_ | refine WPl.sk ?_ | refine WPl.rdB ?_)
     | (refine isAl ?_; refine WPl.nw fun g => ?_)
     | (refine isBx ?_; refine WPl.nw fun g => ?_)
     | (refine isSt ?_; first | refine WPl.st1 ?_ | refine WPl.stA ?_ | refine WPl.stEB ?_ | refine WPl.stRB ?_)
     | (show WPl _ _ _ _ _ _ _ (⟨_, .indexAddr _ _ _, _, _, _, _⟩ :: _) _; refine WPl.rdX (ReadR.indexE rfl rfl hasA (by first | assumption | omega)) ?_)
     | (show WPl _ _ _ _ _ _ _ (⟨_, .fieldAddr _ _ _, _, _, _, _⟩ :: _) _; refine WPl.rdX (ReadR.fieldE rfl hasA (by first | assumption | omega)) ?_)
     | (show WPl _ _ _ _ _ _ _ (⟨_, .load _ _, _, _, _, _⟩ :: _) _; first | refine WPl.rdX (ReadR.loadE rfl hasA (by assumption)) ?_ | refine WPl.rdX (ReadR.loadES (by assumption) (by first | assumption | omega) rfl hasA) ?_)
     | (show WPl _ _ _ _ _ _ _ (⟨_, .slice _ _ _ _ _, _, _, _, _⟩ :: _) _; first | refine WPl.rdX (ReadR.sliceH rfl rfl hasA (by omega)) ?_ | refine WPl.rdX (ReadR.sliceL rfl rfl hasA (by omega)) ?_ | refine WPl.rdX (ReadR.sliceLH rfl rfl rfl hasA (by omega) (by omega)) ?_)
     | (refine WPl.spQ (fun hc => ?_) (fun hc => ?_) <;> try exact prA)
     | fail)
    all_goals try (first | exact WPq.dTp | exact WPq.dTs | exact WPq.dV | exact WPq.dR | exact WPq.dR2 | exact WPq.dH | exact WPq.dBH | exact WPq.dT)
theorem rrw_t (v : Value) (b : List UInt8) (w : Nat) (a : Adr) (p : Nat) (hw : w = 0 ∨ w = 1) (hp : p ≤ 65535) (hl : b.length ≤ 100000) :
    Triple Try.prog 7 #[v, .int .i64 (w : Int), ag (adc a), .int .u16 (p : Int)] [rb v b] (RW (refL b w a p) (natE b a p)) := by
  by_cases h : natE b a p = 0
  · obtain ⟨he, hg, hs, hp0⟩ := natE_zero h
    obtain ⟨hE, hpt, hS, hR⟩ := pk_zero he
    obtain ⟨⟨k, hk, hk2, hk20⟩, hsj, h12⟩ := pk_facts he
    have hnk := pk_nk he hs hw
    have hQ : refL b w a p = r5 b (phH b) (sgR (phH b) (pkS b)).zero w a p := by unfold refL; rw [if_pos h]
    have hv : pkVal b = .tuple #[ag (pkc ⟨phH b, sgR (phH b) (pkS b), ⟨(phH b).src, (phH b).dst, (sgR (phH b) (pkS b)).src, (sgR (phH b) (pkS b)).dst, (phH b).proto⟩⟩), .int .i64 0] := by
      show Value.tuple #[ag (pkc (pkR b)), .int .i64 (pkE b)] = _
      rw [he, hR]; rfl
    rw [h, hQ]
    generalize sgR (phH b) (pkS b) = S at *
    generalize phH b = H at *
    obtain ⟨six, pr, pos, s1, d1, pt, hp'⟩ := H
    dsimp only at hk hs hnk
    subst hk
    obtain ⟨sr, ds, fg, sa, z, da⟩ := S
    dsimp only at hsj
    cases six with
    | true =>
      rcases hw with rfl | rfl
      · cases z with
        | true => exact rrw_t0z v b a p pr k s1 d1 pt hp' sr ds fg sa da _ hp hp0 hl hv hg hs hsj hk2 hk20 hnk
        | false =>
          by_cases h1 : rsC (lay (q1 b ⟨true, pr, (k : Int), s1, d1, pt, hp'⟩ 0 a p (rs1 b ⟨true, pr, (k : Int), s1, d1, pt, hp'⟩ 0 a p)) ((Hd.mk true pr (k : Int) s1 d1 pt hp').pos.toNat + sj ⟨true, pr, (k : Int), s1, d1, pt, hp'⟩) (twoB 0)) (hdA ⟨true, pr, (k : Int), s1, d1, pt, hp'⟩ 0 a) = 0
          · by_cases h2 : pr.toNat = 17
            · exact rrw_t0a v b a p pr k s1 d1 pt hp' sr ds fg sa da _ hp hp0 hl hv hg hs hsj hk2 hk20 hnk ⟨h1, h2⟩
            · exact rrw_t0b v b a p pr k s1 d1 pt hp' sr ds fg sa da _ hp hp0 hl hv hg hs hsj hk2 hk20 hnk ⟨h1, h2⟩
          · exact rrw_t0c v b a p pr k s1 d1 pt hp' sr ds fg sa da _ hp hp0 hl hv hg hs hsj hk2 hk20 hnk ⟨h1, trivial⟩
      · cases z with
        | true => exact rrw_t1z v b a p pr k s1 d1 pt hp' sr ds fg sa da _ hp hp0 hl hv hg hs hsj hk2 hk20 hnk
        | false =>
          by_cases h1 : rsC (lay (q1 b ⟨true, pr, (k : Int), s1, d1, pt, hp'⟩ 1 a p (rs1 b ⟨true, pr, (k : Int), s1, d1, pt, hp'⟩ 1 a p)) ((Hd.mk true pr (k : Int) s1 d1 pt hp').pos.toNat + sj ⟨true, pr, (k : Int), s1, d1, pt, hp'⟩) (twoB 0)) (hdA ⟨true, pr, (k : Int), s1, d1, pt, hp'⟩ 1 a) = 0
          · by_cases h2 : pr.toNat = 17
            · exact rrw_t1a v b a p pr k s1 d1 pt hp' sr ds fg sa da _ hp hp0 hl hv hg hs hsj hk2 hk20 hnk ⟨h1, h2⟩
            · exact rrw_t1b v b a p pr k s1 d1 pt hp' sr ds fg sa da _ hp hp0 hl hv hg hs hsj hk2 hk20 hnk ⟨h1, h2⟩
          · exact rrw_t1c v b a p pr k s1 d1 pt hp' sr ds fg sa da _ hp hp0 hl hv hg hs hsj hk2 hk20 hnk ⟨h1, trivial⟩
    | false =>
      rcases hw with rfl | rfl
      · cases z with
        | true => exact rrw_f0z v b a p pr k s1 d1 pt hp' sr ds fg sa da _ hp hp0 hl hv hg hs hsj hk2 hk20 hnk
        | false =>
          by_cases h1 : rsC (lay (q1 b ⟨false, pr, (k : Int), s1, d1, pt, hp'⟩ 0 a p (rs1 b ⟨false, pr, (k : Int), s1, d1, pt, hp'⟩ 0 a p)) ((Hd.mk false pr (k : Int) s1 d1 pt hp').pos.toNat + sj ⟨false, pr, (k : Int), s1, d1, pt, hp'⟩) (twoB 0)) (hdA ⟨false, pr, (k : Int), s1, d1, pt, hp'⟩ 0 a) = 0
          · by_cases h2 : pr.toNat = 17
            · exact rrw_f0a v b a p pr k s1 d1 pt hp' sr ds fg sa da _ hp hp0 hl hv hg hs hsj hk2 hk20 hnk ⟨h1, h2⟩
            · exact rrw_f0b v b a p pr k s1 d1 pt hp' sr ds fg sa da _ hp hp0 hl hv hg hs hsj hk2 hk20 hnk ⟨h1, h2⟩
          · exact rrw_f0c v b a p pr k s1 d1 pt hp' sr ds fg sa da _ hp hp0 hl hv hg hs hsj hk2 hk20 hnk ⟨h1, trivial⟩
      · cases z with
        | true => exact rrw_f1z v b a p pr k s1 d1 pt hp' sr ds fg sa da _ hp hp0 hl hv hg hs hsj hk2 hk20 hnk
        | false =>
          by_cases h1 : rsC (lay (q1 b ⟨false, pr, (k : Int), s1, d1, pt, hp'⟩ 1 a p (rs1 b ⟨false, pr, (k : Int), s1, d1, pt, hp'⟩ 1 a p)) ((Hd.mk false pr (k : Int) s1 d1 pt hp').pos.toNat + sj ⟨false, pr, (k : Int), s1, d1, pt, hp'⟩) (twoB 0)) (hdA ⟨false, pr, (k : Int), s1, d1, pt, hp'⟩ 1 a) = 0
          · by_cases h2 : pr.toNat = 17
            · exact rrw_f1a v b a p pr k s1 d1 pt hp' sr ds fg sa da _ hp hp0 hl hv hg hs hsj hk2 hk20 hnk ⟨h1, h2⟩
            · exact rrw_f1b v b a p pr k s1 d1 pt hp' sr ds fg sa da _ hp hp0 hl hv hg hs hsj hk2 hk20 hnk ⟨h1, h2⟩
          · exact rrw_f1c v b a p pr k s1 d1 pt hp' sr ds fg sa da _ hp hp0 hl hv hg hs hsj hk2 hk20 hnk ⟨h1, trivial⟩
  · have hL : refL b w a p = [] := by unfold refL; rw [if_neg h]
    rw [hL]
    exact rrw_no v b w a p hp hl h
end Go.Proofs.Ytjfhiifpnpokpaa
/- Layer 15 (seg): plain facts of what is written: it is read, spoilt, of others. -/
namespace Go.Proofs.Ytjfhiifpnpokpaa
open Go.RowKit
set_option linter.unusedSimpArgs false
set_option linter.unusedVariables false
set_option maxRecDepth 20000
set_option maxHeartbeats 4000000
attribute [local irreducible] WPc WPl WPq ReadR OpT BinR HasS bx rdN rowN Take Takes Prov Triple ResF BuildP Done ag Int.decLt Int.decLe Int.instDecidableEq

end Go.Proofs.Ytjfhiifpnpokpaa
/- Layer 16 (pkt): packets built; what the statements use; PktBack returns true. -/
namespace Go.Proofs.Ytjfhiifpnpokpaa
open Go.RowKit
set_option linter.unusedSimpArgs false
set_option linter.unusedVariables false
set_option maxRecDepth 20000
set_option maxHeartbeats 4000000
attribute [local irreducible] WPc WPl WPq ReadR OpT BinR HasS bx rdN rowN Take Takes Prov Triple ResF BuildP Done ag Int.decLt Int.decLe Int.instDecidableEq

def pbH (f : Fl) (hops : UInt8) : Hd := ⟨f.src.six, f.proto, 0, f.src, f.dst, false, hops⟩
def pbS (f : Fl) (flags : UInt8) : Sg := ⟨f.sp, f.dp, flags, 0, false, 0⟩
def pbB (f : Fl) (flags hops : UInt8) (d : List UInt8) : List UInt8 := swL (pbH f hops) (pbS f flags) d
def pbE (f : Fl) (flags hops : UInt8) (d : List UInt8) : Int :=
  if ¬ swE (pbH f hops) (pbS f flags) d.length = 0 then swE (pbH f hops) (pbS f flags) d.length
  else if f.src.six then xwerr (pbH f hops) (pbB f flags hops d).length else fwerr (pbH f hops) (pbB f flags hops d).length
def pbL (f : Fl) (flags hops : UInt8) (d : List UInt8) : List UInt8 :=
  if ¬ swE (pbH f hops) (pbS f flags) d.length = 0 then []
  else if f.src.six then xwL (pbH f hops) (pbB f flags hops d) else fwL (pbH f hops) (pbB f flags hops d)
section
attribute [local irreducible] swL swE xwL xwerr fwL fwerr
end
def Fl.back (f : Fl) : Fl := ⟨f.dst, f.src, f.dp, f.sp, f.proto⟩
def f16 : Fl := ⟨Adr.zero, Adr.zero, 5, 6, 17⟩
theorem some_t : Triple Try.prog 22 #[] [] (RVal (ag (flc f16))) := by
  refine Triple.enter Try.func22 rfl Try.ntmps22 rfl (fun W => ?_)
  dsimp only [argsF, Nat.reduceAdd]
  repeat' (first
   | refine WPl.nil ?_ | refine WPq.then ?_ | refine WPq.thenR ?_ | refine WPq.thenE ?_ | refine WPq.blockN ?_ | refine WPq.blockR ?_ | refine WPq.blockE ?_ | refine WPq.blockO rfl ?_ | refine WPc.seq ?_ | refine WPc.block ?_ | refine WPc.ret ?_ | refine WPc.exit ?_ | refine WPc.skip ?_ | refine WPc.region ?_
   | (refine isCond ?_; first | refine WPc.cT ?_ | refine WPc.cF ?_ | (refine WPc.cQ (fun hc => ?_) (fun hc => ?_) <;> try exact prA))
   | (refine isOp ?_; first | refine WPl.rd ?_ | refine WPl.sk ?_ | refine WPl.rdB ?_)
   | (refine isAl ?_; refine WPl.nw fun g => ?_)
   | (refine isSt ?_; first | refine WPl.st1 ?_ | refine WPl.stA ?_ | refine WPl.stEB ?_ | refine WPl.stRB ?_)
   | (show WPl _ _ _ _ _ _ _ (⟨_, .indexAddr _ _ _, _, _, _, _⟩ :: _) _; refine WPl.rdX (ReadR.indexE rfl rfl hasA (by first | assumption | omega)) ?_)
   | (show WPl _ _ _ _ _ _ _ (⟨_, .fieldAddr _ _ _, _, _, _, _⟩ :: _) _; refine WPl.rdX (ReadR.fieldE rfl hasA (by first | assumption | omega)) ?_)
   | (show WPl _ _ _ _ _ _ _ (⟨_, .load _ _, _, _, _, _⟩ :: _) _; first | refine WPl.rdX (ReadR.loadE rfl hasA (by assumption)) ?_ | refine WPl.rdX (ReadR.loadES (by assumption) (by first | assumption | omega) rfl hasA) ?_)
   | (show WPl _ _ _ _ _ _ _ (⟨_, .slice _ _ _ _ _, _, _, _, _⟩ :: _) _; first | refine WPl.rdX (ReadR.sliceH rfl rfl hasA (by omega)) ?_ | refine WPl.rdX (ReadR.sliceL rfl rfl hasA (by omega)) ?_ | refine WPl.rdX (ReadR.sliceLH rfl rfl rfl hasA (by omega) (by omega)) ?_)
   | (refine WPl.spQ (fun hc => ?_) (fun hc => ?_) <;> try exact prA)
   | fail)
  all_goals try (first | exact WPq.dTp | exact WPq.dTs | exact WPq.dV | exact WPq.dR | exact WPq.dR2 | exact WPq.dH | exact WPq.dBH | exact WPq.dT)
theorem h16_len : (pbL f16 0 9 [7]).length = 29 := by decide +kernel
theorem pkEq {a b : Pk} (h : a = b) : ((a.hd.six == b.hd.six) && (decide (((a.hd.proto.toNat : Nat) : Int) = ((b.hd.proto.toNat : Nat) : Int)) && (decide (a.hd.pos = b.hd.pos) && ((a.hd.src.six == b.hd.src.six) && (decide (a.hd.src.b = b.hd.src.b) && ((a.hd.dst.six == b.hd.dst.six) && (decide (a.hd.dst.b = b.hd.dst.b) && ((a.hd.part == b.hd.part) && (decide (((a.hd.hops.toNat : Nat) : Int) = ((b.hd.hops.toNat : Nat) : Int)) && (decide ((a.sg.src : Int) = (b.sg.src : Int)) && (decide ((a.sg.dst : Int) = (b.sg.dst : Int)) && (decide (((a.sg.flags.toNat : Nat) : Int) = ((b.sg.flags.toNat : Nat) : Int)) && (decide (a.sg.sumAt = b.sg.sumAt) && ((a.sg.zero == b.sg.zero) && (decide (a.sg.data = b.sg.data) && ((a.fl.src.six == b.fl.src.six) && (decide (a.fl.src.b = b.fl.src.b) && ((a.fl.dst.six == b.fl.dst.six) && (decide (a.fl.dst.b = b.fl.dst.b) && (decide ((a.fl.sp : Int) = (b.fl.sp : Int)) && (decide ((a.fl.dp : Int) = (b.fl.dp : Int)) && (decide (((a.fl.proto.toNat : Nat) : Int) = ((b.fl.proto.toNat : Nat) : Int)) && true)))))))))))))))))))))) = true := by
  subst h; simp
attribute [local irreducible] pbL pbE pkR pkE
end Go.Proofs.Ytjfhiifpnpokpaa
/- References of layers 13, 15, 16: packets of UDP of IPv4, written: contracts. -/
namespace Go.Proofs.Ytjfhiifpnpokpaa
open Go.RowKit
set_option linter.unusedSimpArgs false
set_option linter.unusedVariables false
set_option maxRecDepth 20000
set_option maxHeartbeats 4000000
attribute [local irreducible] WPc WPl WPq ReadR OpT BinR HasS bx rdN rowN Take Takes Prov Triple ResF BuildP Done ag Int.decLt Int.decLe Int.instDecidableEq
attribute [local irreducible] be psu swT swU
theorem rswrite_t (h : Hd) (s : Sg) (vd : Value) (d : List UInt8) (hd : d.length ≤ 1000) (hs1 : s.src < 65536) (hs2 : s.dst < 65536) (h17 : h.proto.toNat = 17) (hb : swBad h s = false) (hz : s.zero = false) :
    Triple Try.prog 37 #[ag (hdc h), ag (sgc s), vd] [rb vd d] (RW (summ h (swU s d) 6) 0) := by
  have l1 := h.src.len
  have l2 := h.dst.len
  obtain ⟨b1, b2, b3, b4, b5, b6⟩ := swBad_no hb
  have g1 := rgood_t h.src
  have g2 := rgood_t h.dst
  rw [b3] at g1
  rw [b4] at g2
  have hb1 := be_length s.src 2
  have hb2 := be_length s.dst 2
  have hb3 := be_length (8 + d.length) 2
  have hul := swU_len s d
  have hue : [] ++ be s.src 2 ++ be s.dst 2 ++ be (8 + d.length) 2 ++ nbs [0, 0] ++ d = swU s d := by unfold swU; simp
  have hpl := psu_len h (swU s d).length
  have hnl := sumN_le h (swU s d)
  have c1 := rpseudo_t h ((swU s d).length : Int) (swU s d).length (wrapLen (by omega)) (by omega)
  have c2 := fun v => rsum_t v (psu h (swU s d).length ++ swU s d) (by simp; omega)
  have hcl := csum_le (psu h (swU s d).length ++ swU s d)
  have hN : sumN h (swU s d) = if csum (psu h (swU s d).length ++ swU s d) = 0 then 65535 else csum (psu h (swU s d).length ++ swU s d) := by
    unfold sumN
    by_cases hc : csum (psu h (swU s d).length ++ swU s d) = 0
    · rw [if_pos ⟨hc, h17⟩, if_pos hc]
    · rw [if_neg (fun hh => hc hh.1), if_neg hc]
  have hres : ((swU s d).set 6 (UInt8.ofNat (sumN h (swU s d) / 256))).set 7 (UInt8.ofNat (sumN h (swU s d))) = summ h (swU s d) 6 := by rw [over_set2 (by omega)]; rfl
  have hsl : ((swU s d).set 6 (UInt8.ofNat (sumN h (swU s d) / 256))).length = 8 + d.length := by rw [List.length_set]; exact hul
  rw [← hres]
  obtain ⟨m, hm⟩ : ∃ m, m = sumN h (swU s d) := ⟨_, rfl⟩
  obtain ⟨c, hc⟩ : ∃ c, c = csum (psu h (swU s d).length ++ swU s d) := ⟨_, rfl⟩
  rw [← hm] at hN hnl hsl ⊢
  rw [← hc] at c2 hcl hN
  obtain ⟨p, hp⟩ : ∃ p, p = psu h (swU s d).length := ⟨_, rfl⟩
  rw [← hp] at c1 c2 hpl
  clear hc hm hres hp
  obtain ⟨U, hU⟩ : ∃ U, U = swU s d := ⟨_, rfl⟩
  rw [← hU] at hue hul c1 c2 hsl ⊢
  clear hU
  have hw1 := wrap_hi hnl
  have hw2 := wrap_lo hnl
  subst hue
  by_cases hc0 : c = 0
  · rw [if_pos hc0] at hN
    subst hN
    subst hc0
    refine Triple.enter Try.func37 rfl Try.ntmps37 rfl (fun W => ?_)
    dsimp only [argsF, Nat.reduceAdd]
    repeat' (first
     | refine WPl.nil ?_ | refine WPq.then ?_ | refine WPq.thenR ?_ | refine WPq.thenE ?_ | refine WPq.blockN ?_ | refine WPq.blockR ?_ | refine WPq.blockE ?_ | refine WPq.blockO rfl ?_ | refine WPc.seq ?_ | refine WPc.block ?_ | refine WPc.ret ?_ | refine WPc.exit ?_ | refine WPc.skip ?_ | refine WPc.region ?_
     | (refine isReg 7 ?_; refine WPc.drA [([], [62, 63, 64, 66, 67, 68]), ([], [61, 66, 67, 68]), ([1], [61, 62, 66, 67, 68]), ([1, 2], [61, 62, 63, 66, 67, 68]), ([0, 1, 2, 3], [61, 62, 63, 64, 66, 67, 68]), ([], [61, 62, 63, 64, 65]), ([5], [61, 62, 63, 64, 65, 66]), ([5, 6], [61, 62, 63, 64, 65, 66, 67]), ([0, 1, 2, 3, 4, 5, 6, 7], [61, 62, 63, 64, 65, 66, 67, 68]), ([0, 1, 2, 3, 4, 5, 6, 7, 8], [61, 62, 63, 64, 65, 66, 67, 68, 69])] [] (Γx := []) ?_; dsimp only [prev0, List.length_nil, List.length_cons])
     | (refine gAny ?_; first | (refine gC 31 ?_; refine RGl.vl (fun e hk => OpT.callN (g1)) ?_) | (refine gC 37 ?_; refine RGl.vl (fun e hk => OpT.callN (g2)) ?_) | (refine gC 65 ?_; refine RGl.row (Γ1 := fun _ => []) (fun e hk => OpT.callN (rput_t _ [] s.src 2 (by omega) (by omega) (by simp))) ?_) | (refine gC 69 ?_; refine RGl.row (Γ1 := fun _ => []) (fun e hk => OpT.callN (rput_t _ ([] ++ be s.src 2) s.dst 2 (by omega) (by omega) (by simp; omega))) ?_) | (refine gC 83 ?_; refine RGl.row (Γ1 := fun _ => []) (fun e hk => OpT.callN (rput_t _ ([] ++ be s.src 2 ++ be s.dst 2) (8 + d.length) 2 (by omega) (by omega) (by simp; omega))) ?_) | (refine gC 105 ?_; refine RGl.row (Γ1 := fun _ => []) (fun e hk => OpT.callN (c1)) ?_) | (refine gC 108 ?_; refine RGl.vl (fun e hk => OpT.callN (c2 _)) ?_) | (refine gD 123 ?_; refine RGl.rdX (fun e hk => by (try dsimp only [bndR, ensR, oksR, fcutR, List.append_nil, List.nil_append, List.cons_append, List.append_assoc] at hk ⊢); exact ReadR.convT hw1 rfl rfl) ?_) | (refine gD 126 ?_; refine RGl.rdX (fun e hk => by (try dsimp only [bndR, ensR, oksR, fcutR, List.append_nil, List.nil_append, List.cons_append, List.append_assoc] at hk ⊢); exact ReadR.convT hw2 rfl rfl) ?_) | (refine gOp ?_; first | refine RGl.rdA ?_ | refine RGl.rdX (fun e hk => by (try dsimp only [bndR, ensR, oksR, fcutR, List.append_nil, List.nil_append, List.cons_append, List.append_assoc] at hk ⊢); exact readB) ?_) | (refine gLit ?_; refine RGl.litA ?_) | (refine RGl.fin (fun e hk => ?_); (try dsimp only [bndA, ensAR, oksA, List.append_nil, List.nil_append, List.cons_append, List.append_assoc] at hk ⊢); (repeat (obtain ⟨hk1, hk⟩ := hk))) | fail)
     | (refine isCond ?_; first | refine WPc.cT ?_ | refine WPc.cF ?_ | (refine WPc.cQ (fun hc => ?_) (fun hc => ?_) <;> try exact prA))
     | (refine isLit ?_; refine WPl.lit fun v hv => ?_)
     | (refine isApp ?_; refine WPl.app fun v hv => ?_)
     | (refine isC 31 ?_; refine WPl.cV (g1) ?_)
     | (refine isC 37 ?_; refine WPl.cV (g2) ?_)
     | (refine isC 65 ?_; refine WPl.cR (rput_t _ [] s.src 2 (by omega) (by omega) (by simp)) fun v hv => ?_)
     | (refine isC 69 ?_; refine WPl.cR (rput_t _ ([] ++ be s.src 2) s.dst 2 (by omega) (by omega) (by simp; omega)) fun v hv => ?_)
     | (refine isC 83 ?_; refine WPl.cR (rput_t _ ([] ++ be s.src 2 ++ be s.dst 2) (8 + d.length) 2 (by omega) (by omega) (by simp; omega)) fun v hv => ?_)
     | (refine isC 105 ?_; refine WPl.cR (c1) fun v hv => ?_)
     | (refine isC 108 ?_; refine WPl.cV (c2 _) ?_)
     | (refine isD 123 ?_; refine WPl.rdX (ReadR.convT hw1 rfl rfl) ?_)
     | (refine isD 126 ?_; refine WPl.rdX (ReadR.convT hw2 rfl rfl) ?_)
     | (refine isOp ?_; first | refine WPl.rd ?_ | refine WPl.sk ?_ | refine WPl.rdB ?_)
     | (refine isBx ?_; refine WPl.nw fun g => ?_)
     | (refine isSt ?_; first | refine WPl.st1 ?_ | refine WPl.stA ?_ | refine WPl.stEB ?_ | refine WPl.stRB ?_)
     | (show WPl _ _ _ _ _ _ _ (⟨_, .indexAddr _ _ _, _, _, _, _⟩ :: _) _; refine WPl.rdX (ReadR.indexE rfl rfl hasA (by first | assumption | omega)) ?_)
     | (show WPl _ _ _ _ _ _ _ (⟨_, .fieldAddr _ _ _, _, _, _, _⟩ :: _) _; refine WPl.rdX (ReadR.fieldE rfl hasA (by first | assumption | omega)) ?_)
     | (show WPl _ _ _ _ _ _ _ (⟨_, .load _ _, _, _, _, _⟩ :: _) _; first | refine WPl.rdX (ReadR.loadE rfl hasA (by assumption)) ?_ | refine WPl.rdX (ReadR.loadES (by assumption) (by first | assumption | omega) rfl hasA) ?_)
     | (show WPl _ _ _ _ _ _ _ (⟨_, .slice _ _ _ _ _, _, _, _, _⟩ :: _) _; first | refine WPl.rdX (ReadR.sliceH rfl rfl hasA (by omega)) ?_ | refine WPl.rdX (ReadR.sliceL rfl rfl hasA (by omega)) ?_ | refine WPl.rdX (ReadR.sliceLH rfl rfl rfl hasA (by omega) (by omega)) ?_)
     | (refine WPl.spQ (fun hc => ?_) (fun hc => ?_) <;> try exact prA)
     | fail)
    all_goals try (first | exact WPq.dTp | exact WPq.dTs | exact WPq.dV | exact WPq.dR | exact WPq.dR2 | exact WPq.dH | exact WPq.dBH | exact WPq.dT)
  · rw [if_neg hc0] at hN
    subst hN
    refine Triple.enter Try.func37 rfl Try.ntmps37 rfl (fun W => ?_)
    dsimp only [argsF, Nat.reduceAdd]
    repeat' (first
     | refine WPl.nil ?_ | refine WPq.then ?_ | refine WPq.thenR ?_ | refine WPq.thenE ?_ | refine WPq.blockN ?_ | refine WPq.blockR ?_ | refine WPq.blockE ?_ | refine WPq.blockO rfl ?_ | refine WPc.seq ?_ | refine WPc.block ?_ | refine WPc.ret ?_ | refine WPc.exit ?_ | refine WPc.skip ?_ | refine WPc.region ?_
     | (refine isReg 7 ?_; refine WPc.drA [([], [62, 63, 64, 66, 67, 68]), ([], [61, 66, 67, 68]), ([1], [61, 62, 66, 67, 68]), ([1, 2], [61, 62, 63, 66, 67, 68]), ([0, 1, 2, 3], [61, 62, 63, 64, 66, 67, 68]), ([], [61, 62, 63, 64, 65]), ([5], [61, 62, 63, 64, 65, 66]), ([5, 6], [61, 62, 63, 64, 65, 66, 67]), ([0, 1, 2, 3, 4, 5, 6, 7], [61, 62, 63, 64, 65, 66, 67, 68]), ([0, 1, 2, 3, 4, 5, 6, 7, 8], [61, 62, 63, 64, 65, 66, 67, 68, 69])] [] (Γx := []) ?_; dsimp only [prev0, List.length_nil, List.length_cons])
     | (refine gAny ?_; first | (refine gC 31 ?_; refine RGl.vl (fun e hk => OpT.callN (g1)) ?_) | (refine gC 37 ?_; refine RGl.vl (fun e hk => OpT.callN (g2)) ?_) | (refine gC 65 ?_; refine RGl.row (Γ1 := fun _ => []) (fun e hk => OpT.callN (rput_t _ [] s.src 2 (by omega) (by omega) (by simp))) ?_) | (refine gC 69 ?_; refine RGl.row (Γ1 := fun _ => []) (fun e hk => OpT.callN (rput_t _ ([] ++ be s.src 2) s.dst 2 (by omega) (by omega) (by simp; omega))) ?_) | (refine gC 83 ?_; refine RGl.row (Γ1 := fun _ => []) (fun e hk => OpT.callN (rput_t _ ([] ++ be s.src 2 ++ be s.dst 2) (8 + d.length) 2 (by omega) (by omega) (by simp; omega))) ?_) | (refine gC 105 ?_; refine RGl.row (Γ1 := fun _ => []) (fun e hk => OpT.callN (c1)) ?_) | (refine gC 108 ?_; refine RGl.vl (fun e hk => OpT.callN (c2 _)) ?_) | (refine gD 123 ?_; refine RGl.rdX (fun e hk => by (try dsimp only [bndR, ensR, oksR, fcutR, List.append_nil, List.nil_append, List.cons_append, List.append_assoc] at hk ⊢); exact ReadR.convT hw1 rfl rfl) ?_) | (refine gD 126 ?_; refine RGl.rdX (fun e hk => by (try dsimp only [bndR, ensR, oksR, fcutR, List.append_nil, List.nil_append, List.cons_append, List.append_assoc] at hk ⊢); exact ReadR.convT hw2 rfl rfl) ?_) | (refine gOp ?_; first | refine RGl.rdA ?_ | refine RGl.rdX (fun e hk => by (try dsimp only [bndR, ensR, oksR, fcutR, List.append_nil, List.nil_append, List.cons_append, List.append_assoc] at hk ⊢); exact readB) ?_) | (refine gLit ?_; refine RGl.litA ?_) | (refine RGl.fin (fun e hk => ?_); (try dsimp only [bndA, ensAR, oksA, List.append_nil, List.nil_append, List.cons_append, List.append_assoc] at hk ⊢); (repeat (obtain ⟨hk1, hk⟩ := hk))) | fail)
     | (refine isCond ?_; first | refine WPc.cT ?_ | refine WPc.cF ?_ | (refine WPc.cQ (fun hc => ?_) (fun hc => ?_) <;> try exact prA))
     | (refine isLit ?_; refine WPl.lit fun v hv => ?_)
     | (refine isApp ?_; refine WPl.app fun v hv => ?_)
     | (refine isC 31 ?_; refine WPl.cV (g1) ?_)
     | (refine isC 37 ?_; refine WPl.cV (g2) ?_)
     | (refine isC 65 ?_; refine WPl.cR (rput_t _ [] s.src 2 (by omega) (by omega) (by simp)) fun v hv => ?_)
     | (refine isC 69 ?_; refine WPl.cR (rput_t _ ([] ++ be s.src 2) s.dst 2 (by omega) (by omega) (by simp; omega)) fun v hv => ?_)
     | (refine isC 83 ?_; refine WPl.cR (rput_t _ ([] ++ be s.src 2 ++ be s.dst 2) (8 + d.length) 2 (by omega) (by omega) (by simp; omega)) fun v hv => ?_)
     | (refine isC 105 ?_; refine WPl.cR (c1) fun v hv => ?_)
     | (refine isC 108 ?_; refine WPl.cV (c2 _) ?_)
     | (refine isD 123 ?_; refine WPl.rdX (ReadR.convT hw1 rfl rfl) ?_)
     | (refine isD 126 ?_; refine WPl.rdX (ReadR.convT hw2 rfl rfl) ?_)
     | (refine isOp ?_; first | refine WPl.rd ?_ | refine WPl.sk ?_ | refine WPl.rdB ?_)
     | (refine isBx ?_; refine WPl.nw fun g => ?_)
     | (refine isSt ?_; first | refine WPl.st1 ?_ | refine WPl.stA ?_ | refine WPl.stEB ?_ | refine WPl.stRB ?_)
     | (show WPl _ _ _ _ _ _ _ (⟨_, .indexAddr _ _ _, _, _, _, _⟩ :: _) _; refine WPl.rdX (ReadR.indexE rfl rfl hasA (by first | assumption | omega)) ?_)
     | (show WPl _ _ _ _ _ _ _ (⟨_, .fieldAddr _ _ _, _, _, _, _⟩ :: _) _; refine WPl.rdX (ReadR.fieldE rfl hasA (by first | assumption | omega)) ?_)
     | (show WPl _ _ _ _ _ _ _ (⟨_, .load _ _, _, _, _, _⟩ :: _) _; first | refine WPl.rdX (ReadR.loadE rfl hasA (by assumption)) ?_ | refine WPl.rdX (ReadR.loadES (by assumption) (by first | assumption | omega) rfl hasA) ?_)
     | (show WPl _ _ _ _ _ _ _ (⟨_, .slice _ _ _ _ _, _, _, _, _⟩ :: _) _; first | refine WPl.rdX (ReadR.sliceH rfl rfl hasA (by omega)) ?_ | refine WPl.rdX (ReadR.sliceL rfl rfl hasA (by omega)) ?_ | refine WPl.rdX (ReadR.sliceLH rfl rfl rfl hasA (by omega) (by omega)) ?_)
     | (refine WPl.spQ (fun hc => ?_) (fun hc => ?_) <;> try exact prA)
     | fail)
    all_goals try (first | exact WPq.dTp | exact WPq.dTs | exact WPq.dV | exact WPq.dR | exact WPq.dR2 | exact WPq.dH | exact WPq.dBH | exact WPq.dT)
end Go.Proofs.Ytjfhiifpnpokpaa
