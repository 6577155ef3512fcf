/- Layer 33 (bucket): what one client takes. -/
import Derived.Test.YtncgponcedkihaaBa
namespace Go.Proofs.Ytncgponcedkihaa
open Go.RowKit
set_option linter.unusedSimpArgs false
set_option linter.unusedVariables false
set_option maxRecDepth 20000
set_option maxHeartbeats 4000000
attribute [local irreducible] WPc WPl WPq ReadR OpT BinR HasS bx rdN rowN Take Takes Prov Triple ResF BuildP Done ag Int.decLt Int.decLe Int.instDecidableEq
section
variable {P B : Int}
/-- One client's tokens, step by step. -/
def tokB (P B : Int) (D : List Cl) (now : Int) : Int := match D with
  | [] => B
  | c :: _ => full P B c now
theorem takeD_one {n now : Int} {D : List Cl} (h : D = [] ∨ ∃ c, D = [c] ∧ c.p = pz ∧ c.at' ≤ now) : takeD P B 1 D pz n now = ([⟨pz, if 0 ≤ n ∧ n ≤ tokB P B D now then tokB P B D now - n else tokB P B D now, now⟩], decide (0 ≤ n ∧ n ≤ tokB P B D now)) := by
  rcases h with rfl | ⟨c, rfl, hp, ha⟩
  · have e : keptD B 1 [] pz now = (⟨pz, B, now⟩, []) := rfl
    rw [takeD_eq e]
    have h1 : full P B ⟨pz, B, now⟩ now = B := by unfold full; rw [if_pos (.inl (Int.le_refl _))]
    rw [h1, show max (⟨pz, B, now⟩ : Cl).at' now = now by dsimp only; omega]; rfl
  · have e : keptD B 1 [c] pz now = (c, []) := by unfold keptD; simp [hp]
    rw [takeD_eq e, hp]
    have : max c.at' now = now := by omega
    rw [this]; rfl
/-- What was taken, and what is left. -/
def bndI (P B : Int) (i : Nat) (D : List Cl) (taken now first : Int) : Prop :=
  (i = 0 ∧ D = [] ∧ taken = 0 ∧ now = 0 ∧ first = 0) ∨ (0 < i ∧ ∃ c, D = [c] ∧ c.p = pz ∧ c.at' = now ∧ 0 ≤ c.tok ∧ c.tok ≤ B ∧ 0 ≤ taken ∧ taken ≤ i * 1000 ∧ 0 ≤ first ∧ first ≤ now ∧ now ≤ i * 1000 ∧ taken + c.tok ≤ B + (now - first) * P)
theorem bnd_le {i : Nat} {D : List Cl} {taken now first : Int} (h : bndI P B i D taken now first) : 0 ≤ taken ∧ taken ≤ i * 1000 ∧ 0 ≤ now ∧ now ≤ i * 1000 ∧ 0 ≤ first ∧ first ≤ now := by
  rcases h with ⟨rfl, rfl, rfl, rfl, rfl⟩ | ⟨h0, c, rfl, h1, h2, h3, h4, h5, h6, h7, h8, h9, h10⟩
  · simp
  · omega
theorem bnd_one {i : Nat} {D : List Cl} {taken now first now' : Int} (h : bndI P B i D taken now first) (hn : now ≤ now') : D = [] ∨ ∃ c, D = [c] ∧ c.p = pz ∧ c.at' ≤ now' := by
  rcases h with ⟨rfl, rfl, rfl, rfl, rfl⟩ | ⟨h0, c, rfl, h1, h2, h3, h4, h5, h6, h7, h8, h9, h10⟩
  · exact .inl rfl
  · exact .inr ⟨c, rfl, h1, by omega⟩
theorem bnd_step {i : Nat} {D : List Cl} {taken now first d n first' : Int} (hP : 0 ≤ P) (hB : 0 ≤ B) (h : bndI P B i D taken now first) (hd : 0 ≤ d) (hd2 : d ≤ 999) (hf : first' = if i = 0 then now + d else first) :
    0 ≤ tokB P B D (now + d) ∧ (n ≤ 999 → 0 ≤ n ∧ n ≤ tokB P B D (now + d) → bndI P B (i + 1) [⟨pz, tokB P B D (now + d) - n, now + d⟩] (taken + n) (now + d) first') ∧ bndI P B (i + 1) [⟨pz, tokB P B D (now + d), now + d⟩] taken (now + d) first' := by
  rcases h with ⟨rfl, rfl, rfl, rfl, rfl⟩ | ⟨h0, c, rfl, h1, h2, h3, h4, h5, h6, h7, h8, h9, h10⟩
  · rw [if_pos rfl] at hf
    subst hf
    have e : (0 + d - (0 + d)) * P = 0 := by rw [Int.sub_self, Int.zero_mul]
    simp only [tokB]
    refine ⟨hB, fun hn9 hn => .inr ⟨by omega, _, rfl, rfl, rfl, ?_⟩, .inr ⟨by omega, _, rfl, rfl, rfl, ?_⟩⟩
    · rw [e]; dsimp only; omega
    · rw [e]; dsimp only; omega
  · rw [if_neg (by omega)] at hf
    subst hf
    have e : (now + d - first') * P = (now - first') * P + d * P := by rw [← Int.add_mul]; congr 1; omega
    have hdp : 0 ≤ d * P := Int.mul_nonneg hd hP
    have hT : 0 ≤ full P B c (now + d) ∧ full P B c (now + d) ≤ B ∧ full P B c (now + d) ≤ c.tok + d * P := by
      have hl := full_le (now := now + d) h3 h4 hP
      refine ⟨hl.1, hl.2, ?_⟩
      unfold full
      split
      · omega
      · have e2 : now + d - c.at' = d := by omega
        rw [e2]; omega
    simp only [tokB]
    generalize full P B c (now + d) = T at hT ⊢
    refine ⟨hT.1, fun hn9 hn => .inr ⟨by omega, _, rfl, rfl, rfl, ?_⟩, .inr ⟨by omega, _, rfl, rfl, rfl, ?_⟩⟩
    · rw [e]; dsimp only; omega
    · rw [e]; dsimp only; omega
theorem bnd_end {i : Nat} {D : List Cl} {taken now first : Int} (hB : 0 ≤ B) (h : bndI P B i D taken now first) : taken ≤ B + (now - first) * P := by
  rcases h with ⟨rfl, rfl, rfl, rfl, rfl⟩ | ⟨h0, c, rfl, h1, h2, h3, h4, h5, h6, h7, h8, h9, h10⟩
  · simp; exact hB
  · omega
end
theorem BinR.remT {Q : Program} {T : TypeId} {k : IntKind} {a b : Int} (hb : b ≠ 0) : BinR Q .rem T (.int k a) (.int k b) (.int k (a.tmod b)) := by
  unfold BinR
  intro X Y w
  simp [eqGuard, binOp, Op.intDiv, hb]
theorem tmod_b (a : Int) : -999 ≤ a.tmod 1000 ∧ a.tmod 1000 ≤ 999 := by
  have h1 := Int.tmod_lt_of_pos a (b := 1000) (by omega)
  have h2 := Int.tmod_lt_of_pos (-a) (b := 1000) (by omega)
  rw [Int.neg_tmod] at h2
  omega
theorem acC_len (a : Ac) : (flat (acC a)).length = 21 := by simp [flat_eq, a.p.1.len, u8s_length]
attribute [local irreducible] pool fset lnk mp mget mfind mput mdel bndI
structure BSt where
  i : Nat
  L : List Nd
  M : List (Pf × Option Nat)
  f : Nat → Option Ch
  taken : Int
  now : Int
  first : Int
theorem bucketBound_t (cp cb : UInt8) (vr : Value) (l : List Ac) (hl : ∀ a ∈ l, acOk a) :
    Triple Try.prog 3 #[.int .u8 ((cp.toNat : Nat) : Int), .int .u8 ((cb.toNat : Nat) : Int), vr] [rdN vr l.length (l.map fun a => flat (acC a)).flatten] (RVal (.bool true)) := by
  have hlive := blives_t
  obtain ⟨P, hP⟩ : ∃ P : Int, ((cp.toNat : Nat) : Int) = P := ⟨_, rfl⟩
  obtain ⟨B0, hB0⟩ : ∃ B : Int, ((cb.toNat : Nat) : Int) = B := ⟨_, rfl⟩
  have hp1 := cp.toNat_lt
  have hb1 := cb.toNat_lt
  rw [hP, hB0]
  have hP1 : 0 ≤ P ∧ P ≤ 255 := by omega
  obtain ⟨B, hB⟩ : ∃ B : Int, 1 + B0 = B := ⟨_, rfl⟩
  have hB1 : 1 ≤ B ∧ B ≤ 256 := by omega
  clear hp1 hb1 hP
  have hb : BOk P B 1 := ⟨by omega, by omega, by omega, by omega, by omega, by omega⟩
  have c0 := bnew_c P B 1 hb
  obtain ⟨C, hC⟩ : ∃ C, C = (l.map fun a => flat (acC a)).flatten := ⟨_, rfl⟩
  have hCl : C.length = l.length * 21 := by rw [hC]; exact rows_len acC_len
  have hat : ∀ i a, l[i]? = some a → C[i * 21 + 19]? = some (.int .i64 a.n) ∧ C[i * 21 + 20]? = some (.int .u64 a.now) := fun i a hx => by
    rw [hC]
    have e := a.p.1.len
    exact ⟨rows_at acC_len hx (by omega) (by simp [flat_eq, u8s_length, e, List.getElem?_append]), rows_at acC_len hx (by omega) (by simp [flat_eq, u8s_length, e, List.getElem?_append])⟩
  rw [← hC]
  clear hC
  refine Triple.enter Try.func3 rfl Try.ntmps3 rfl (fun W => ?_)
  dsimp only [argsF, Nat.reduceAdd]
  repeat' (first
   | refine WPl.nil ?_ | refine WPq.then ?_ | refine WPq.thenR ?_ | refine WPq.thenE ?_ | refine WPq.blockN ?_ | refine WPq.blockR ?_ | refine WPq.blockE ?_ | refine WPq.blockO rfl ?_ | refine WPc.seq ?_ | refine WPc.block ?_ | refine WPc.ret ?_ | refine WPc.exit ?_ | refine WPc.skip ?_ | refine WPc.region ?_
   | (refine isCond ?_; first | refine WPc.cT ?_ | refine WPc.cF ?_ | (refine WPc.cQ (fun hc => ?_) (fun hc => ?_) <;> try exact prA))
   | (refine isD 19 ?_; refine WPl.rdX (ReadR.binE rfl rfl (BinR.addK (by simp only [kmin]; omega) (by simp only [kmax]; omega)) (congrArg (Value.int .i64) hB)) ?_)
   | (refine isC 23 ?_; refine WPl.cXs (c0) fun v Γ1 hR => ?_; obtain ⟨gB, m, f0, rfl, rfl, hI0⟩ := hR; (try dsimp only [putF, List.cons_append, List.nil_append]))
   | (refine isD 27 ?_; refine WPl.rdX (readP) ?_)
   | (refine isOp ?_; first | refine WPl.rd ?_ | refine WPl.sk ?_ | refine WPl.rdB ?_)
   | (refine isAl ?_; refine WPl.nw fun g => ?_)
   | (refine isSt ?_; first | refine WPl.st1 ?_ | refine WPl.stA ?_ | refine WPl.stEB ?_ | refine WPl.stRB ?_)
   | (show WPl _ _ _ _ _ _ _ (⟨_, .indexAddr _ _ _, _, _, _, _⟩ :: _) _; refine WPl.rdX (ReadR.indexE rfl rfl hasA (by first | assumption | omega)) ?_)
   | (show WPl _ _ _ _ _ _ _ (⟨_, .fieldAddr _ _ _, _, _, _, _⟩ :: _) _; refine WPl.rdX (ReadR.fieldE rfl hasA (by first | assumption | omega)) ?_)
   | (show WPl _ _ _ _ _ _ _ (⟨_, .load _ _, _, _, _, _⟩ :: _) _; first | refine WPl.rdX (ReadR.loadE rfl hasA (by assumption)) ?_ | refine WPl.rdX (ReadR.loadES (by assumption) (by first | assumption | omega) rfl hasA) ?_)
   | (show WPl _ _ _ _ _ _ _ (⟨_, .slice _ _ _ _ _, _, _, _, _⟩ :: _) _; first | refine WPl.rdX (ReadR.sliceH rfl rfl hasA (by omega)) ?_ | refine WPl.rdX (ReadR.sliceL rfl rfl hasA (by omega)) ?_ | refine WPl.rdX (ReadR.sliceLH rfl rfl rfl hasA (by omega) (by omega)) ?_)
   | (refine WPl.spQ (fun hc => ?_) (fun hc => ?_) <;> try exact prA)
   | fail)
  first | refine WPc.loop (σ := BSt) (fun st => st.i ≤ 60 ∧ BkI B 1 st.L st.M st.f ∧ bndI P B st.i (st.L.map (·.2)) st.taken st.now st.first) (fun st => [rdN vr l.length C, bx g 24 (rtc P B 1), bx gB 131 (bkc (hdO none st.L) (lsO none st.L) P B ((1 : Nat) : Int) m), mp prM m st.M, pool 135 st.f]) (fun st => [(2, vr), (7, hP' g), (8, hP' gB), (10, .int .u64 st.taken), (11, .int .u64 st.now), (12, .int .u64 st.first), (13, .int .i64 st.i)]) (fun st => 60 - st.i) (⟨0, [], [], f0, 0, 0, 0⟩) ?_ takesA frsA (fun st km hx hk => ?_)
  · exact ⟨Nat.zero_le _, hI0, by unfold bndI; exact .inl ⟨rfl, rfl, rfl, rfl, rfl⟩⟩
  obtain ⟨i, L, M, f, taken, now, first⟩ := st
  obtain ⟨hi, hI, hbd⟩ := hx
  dsimp only at hi hI hbd hk ⊢
  clear hI0 c0
  by_cases hin : i < l.length ∧ i < 60
  · obtain ⟨hil, hi60⟩ := hin
    obtain ⟨a, ha⟩ : ∃ a, l[i]? = some a := ⟨_, List.getElem?_eq_getElem hil⟩
    obtain ⟨a19, a20⟩ := hat i a ha
    have hao := hl a (List.mem_of_getElem? ha)
    unfold acOk at hao
    have hlt : i * 21 < C.length := by omega
    obtain ⟨d, hd⟩ : ∃ d, a.now % 1000 = d := ⟨_, rfl⟩
    have hd1 : 0 ≤ d ∧ d ≤ 999 := by omega
    obtain ⟨n, hn⟩ : ∃ n, a.n.tmod 1000 = n := ⟨_, rfl⟩
    have hn1 := tmod_b a.n
    rw [hn] at hn1
    have hbl0 := bnd_le hbd
    have hone := bnd_one hbd (now' := now + d) (by omega)
    by_cases hi0 : (i : Int) = 0
    · obtain ⟨hs1, hs2, hs3⟩ := bnd_step (d := d) (n := n) (first' := now + d) (by omega) (by omega) hbd hd1.1 hd1.2 (by rw [if_pos (by omega)])
      by_cases hok : 0 ≤ n ∧ n ≤ tokB P B (L.map (·.2)) (now + d)
      · skip
        have ht : takeD P B 1 (L.map (·.2)) pz n (now + d) = ([⟨pz, tokB P B (L.map (·.2)) (now + d) - n, now + d⟩], true) := by rw [takeD_one hone, if_pos hok, decide_eq_true hok]
        have hbn : bndI P B (i + 1) [⟨pz, tokB P B (L.map (·.2)) (now + d) - n, now + d⟩] (taken + n) (now + d) (now + d) := hs2 (by omega) hok
        have hbl := bnd_le hbn
        have hle : ¬ (taken + n) > B + (now + d - (now + d)) * P := by have := bnd_end (by omega) hbn; omega
        have hm0 : 0 ≤ (now + d - (now + d)) * P := Int.mul_nonneg (by omega) (by omega)
        have hm1 : (now + d - (now + d)) * P ≤ 61000 * 255 := Int.mul_le_mul (by omega) (by omega) (by omega) (by omega)
        clear hs2 hs3
        repeat' (first
         | refine WPl.nil ?_ | refine WPq.then ?_ | refine WPq.thenR ?_ | refine WPq.thenE ?_ | refine WPq.blockN ?_ | refine WPq.blockR ?_ | refine WPq.blockE ?_ | refine WPq.blockO rfl ?_ | refine WPc.seq ?_ | refine WPc.block ?_ | refine WPc.ret ?_ | refine WPc.exit ?_ | refine WPc.skip ?_ | refine WPc.region ?_
         | (refine isCond ?_; first | refine WPc.cT ?_ | refine WPc.cF ?_ | (refine WPc.cQ (fun hc => ?_) (fun hc => ?_) <;> try exact prA))
         | (refine isD 45 ?_; refine WPl.rdX (ReadR.indexE (i := i) rfl rfl hasA hil) ?_)
         | (refine isD 46 ?_; refine WPl.rdX (ReadR.fieldE rfl hasA hlt) ?_)
         | (refine isD 47 ?_; refine WPl.rdX (ReadR.loadE rfl hasA a20) ?_)
         | (refine isD 48 ?_; refine WPl.rdX (ReadR.binE rfl rfl (BinR.remK hao.2.2.2.1 (by omega)) (congrArg (Value.int .u64) hd)) ?_)
         | (refine isD 51 ?_; refine WPl.rdX (ReadR.binE rfl rfl BinR.eql (congrArg Value.bool (decide_eq_true hi0))) ?_)
         | (refine isD 55 ?_; refine WPl.rdX (ReadR.indexE (i := i) rfl rfl hasA hil) ?_)
         | (refine isD 56 ?_; refine WPl.rdX (ReadR.fieldE rfl hasA hlt) ?_)
         | (refine isD 57 ?_; refine WPl.rdX (ReadR.loadE rfl hasA a19) ?_)
         | (refine isD 58 ?_; refine WPl.rdX (ReadR.binE rfl rfl (BinR.remT (by omega)) (congrArg (Value.int .i64) hn)) ?_)
         | (refine isC 63 ?_; refine WPl.cXs ((take_c P B 1 hb gB m hI rfl pz n (now + d) pz64 (by omega) (by omega) ht)) fun v Γ1 hR => ?_; obtain ⟨L1, M1, f1, rfl, rfl, hI1, hD1⟩ := hR; (try dsimp only [putF, List.cons_append, List.nil_append]))
         | (refine isD 65 ?_; refine WPl.rdX (ReadR.binE rfl rfl BinR.lss (congrArg Value.bool (decide_eq_false (by omega)))) ?_)
         | (refine isD 80 ?_; refine WPl.rdX (ReadR.bin rfl rfl (BinR.mulK (by simp only [kmin]; omega) (by simp only [kmax]; omega))) ?_)
         | (refine isD 81 ?_; refine WPl.rdX (ReadR.bin rfl rfl (BinR.addK (by simp only [kmin]; omega) (by simp only [kmax]; omega))) ?_)
         | (refine isD 82 ?_; refine WPl.rdX (ReadR.binE rfl rfl BinR.gtr (congrArg Value.bool (decide_eq_false hle))) ?_)
         | (refine isOp ?_; first | refine WPl.rd ?_ | refine WPl.sk ?_ | refine WPl.rdB ?_)
         | (refine isAl ?_; refine WPl.nw fun g => ?_)
         | (refine isSt ?_; first | refine WPl.st1 ?_ | refine WPl.stA ?_ | refine WPl.stEB ?_ | refine WPl.stRB ?_)
         | (show WPl _ _ _ _ _ _ _ (⟨_, .indexAddr _ _ _, _, _, _, _⟩ :: _) _; refine WPl.rdX (ReadR.indexE rfl rfl hasA (by first | assumption | omega)) ?_)
         | (show WPl _ _ _ _ _ _ _ (⟨_, .fieldAddr _ _ _, _, _, _, _⟩ :: _) _; refine WPl.rdX (ReadR.fieldE rfl hasA (by first | assumption | omega)) ?_)
         | (show WPl _ _ _ _ _ _ _ (⟨_, .load _ _, _, _, _, _⟩ :: _) _; first | refine WPl.rdX (ReadR.loadE rfl hasA (by assumption)) ?_ | refine WPl.rdX (ReadR.loadES (by assumption) (by first | assumption | omega) rfl hasA) ?_)
         | (show WPl _ _ _ _ _ _ _ (⟨_, .slice _ _ _ _ _, _, _, _, _⟩ :: _) _; first | refine WPl.rdX (ReadR.sliceH rfl rfl hasA (by omega)) ?_ | refine WPl.rdX (ReadR.sliceL rfl rfl hasA (by omega)) ?_ | refine WPl.rdX (ReadR.sliceLH rfl rfl rfl hasA (by omega) (by omega)) ?_)
         | (refine WPl.spQ (fun hc => ?_) (fun hc => ?_) <;> try exact prA)
         | fail)
        exact WPq.rnd ⟨i + 1, L1, M1, f1, (taken + n), now + d, (now + d)⟩ ⟨by dsimp only; omega, hI1, by dsimp only; rw [hD1]; exact hbn⟩ (by dsimp only; omega)
      · skip
        have ht : takeD P B 1 (L.map (·.2)) pz n (now + d) = ([⟨pz, tokB P B (L.map (·.2)) (now + d), now + d⟩], false) := by rw [takeD_one hone, if_neg hok, decide_eq_false hok]
        have hbn : bndI P B (i + 1) [⟨pz, tokB P B (L.map (·.2)) (now + d), now + d⟩] taken (now + d) (now + d) := hs3
        have hbl := bnd_le hbn
        have hle : ¬ taken > B + (now + d - (now + d)) * P := by have := bnd_end (by omega) hbn; omega
        have hm0 : 0 ≤ (now + d - (now + d)) * P := Int.mul_nonneg (by omega) (by omega)
        have hm1 : (now + d - (now + d)) * P ≤ 61000 * 255 := Int.mul_le_mul (by omega) (by omega) (by omega) (by omega)
        clear hs2 hs3
        repeat' (first
         | refine WPl.nil ?_ | refine WPq.then ?_ | refine WPq.thenR ?_ | refine WPq.thenE ?_ | refine WPq.blockN ?_ | refine WPq.blockR ?_ | refine WPq.blockE ?_ | refine WPq.blockO rfl ?_ | refine WPc.seq ?_ | refine WPc.block ?_ | refine WPc.ret ?_ | refine WPc.exit ?_ | refine WPc.skip ?_ | refine WPc.region ?_
         | (refine isCond ?_; first | refine WPc.cT ?_ | refine WPc.cF ?_ | (refine WPc.cQ (fun hc => ?_) (fun hc => ?_) <;> try exact prA))
         | (refine isD 45 ?_; refine WPl.rdX (ReadR.indexE (i := i) rfl rfl hasA hil) ?_)
         | (refine isD 46 ?_; refine WPl.rdX (ReadR.fieldE rfl hasA hlt) ?_)
         | (refine isD 47 ?_; refine WPl.rdX (ReadR.loadE rfl hasA a20) ?_)
         | (refine isD 48 ?_; refine WPl.rdX (ReadR.binE rfl rfl (BinR.remK hao.2.2.2.1 (by omega)) (congrArg (Value.int .u64) hd)) ?_)
         | (refine isD 51 ?_; refine WPl.rdX (ReadR.binE rfl rfl BinR.eql (congrArg Value.bool (decide_eq_true hi0))) ?_)
         | (refine isD 55 ?_; refine WPl.rdX (ReadR.indexE (i := i) rfl rfl hasA hil) ?_)
         | (refine isD 56 ?_; refine WPl.rdX (ReadR.fieldE rfl hasA hlt) ?_)
         | (refine isD 57 ?_; refine WPl.rdX (ReadR.loadE rfl hasA a19) ?_)
         | (refine isD 58 ?_; refine WPl.rdX (ReadR.binE rfl rfl (BinR.remT (by omega)) (congrArg (Value.int .i64) hn)) ?_)
         | (refine isC 63 ?_; refine WPl.cXs ((take_c P B 1 hb gB m hI rfl pz n (now + d) pz64 (by omega) (by omega) ht)) fun v Γ1 hR => ?_; obtain ⟨L1, M1, f1, rfl, rfl, hI1, hD1⟩ := hR; (try dsimp only [putF, List.cons_append, List.nil_append]))
         | (refine isD 65 ?_; refine WPl.rdX (ReadR.binE rfl rfl BinR.lss (congrArg Value.bool (decide_eq_false (by omega)))) ?_)
         | (refine isD 80 ?_; refine WPl.rdX (ReadR.bin rfl rfl (BinR.mulK (by simp only [kmin]; omega) (by simp only [kmax]; omega))) ?_)
         | (refine isD 81 ?_; refine WPl.rdX (ReadR.bin rfl rfl (BinR.addK (by simp only [kmin]; omega) (by simp only [kmax]; omega))) ?_)
         | (refine isD 82 ?_; refine WPl.rdX (ReadR.binE rfl rfl BinR.gtr (congrArg Value.bool (decide_eq_false hle))) ?_)
         | (refine isOp ?_; first | refine WPl.rd ?_ | refine WPl.sk ?_ | refine WPl.rdB ?_)
         | (refine isAl ?_; refine WPl.nw fun g => ?_)
         | (refine isSt ?_; first | refine WPl.st1 ?_ | refine WPl.stA ?_ | refine WPl.stEB ?_ | refine WPl.stRB ?_)
         | (show WPl _ _ _ _ _ _ _ (⟨_, .indexAddr _ _ _, _, _, _, _⟩ :: _) _; refine WPl.rdX (ReadR.indexE rfl rfl hasA (by first | assumption | omega)) ?_)
         | (show WPl _ _ _ _ _ _ _ (⟨_, .fieldAddr _ _ _, _, _, _, _⟩ :: _) _; refine WPl.rdX (ReadR.fieldE rfl hasA (by first | assumption | omega)) ?_)
         | (show WPl _ _ _ _ _ _ _ (⟨_, .load _ _, _, _, _, _⟩ :: _) _; first | refine WPl.rdX (ReadR.loadE rfl hasA (by assumption)) ?_ | refine WPl.rdX (ReadR.loadES (by assumption) (by first | assumption | omega) rfl hasA) ?_)
         | (show WPl _ _ _ _ _ _ _ (⟨_, .slice _ _ _ _ _, _, _, _, _⟩ :: _) _; first | refine WPl.rdX (ReadR.sliceH rfl rfl hasA (by omega)) ?_ | refine WPl.rdX (ReadR.sliceL rfl rfl hasA (by omega)) ?_ | refine WPl.rdX (ReadR.sliceLH rfl rfl rfl hasA (by omega) (by omega)) ?_)
         | (refine WPl.spQ (fun hc => ?_) (fun hc => ?_) <;> try exact prA)
         | fail)
        exact WPq.rnd ⟨i + 1, L1, M1, f1, taken, now + d, (now + d)⟩ ⟨by dsimp only; omega, hI1, by dsimp only; rw [hD1]; exact hbn⟩ (by dsimp only; omega)
    · obtain ⟨hs1, hs2, hs3⟩ := bnd_step (d := d) (n := n) (first' := first) (by omega) (by omega) hbd hd1.1 hd1.2 (by rw [if_neg (by omega)])
      by_cases hok : 0 ≤ n ∧ n ≤ tokB P B (L.map (·.2)) (now + d)
      · skip
        have ht : takeD P B 1 (L.map (·.2)) pz n (now + d) = ([⟨pz, tokB P B (L.map (·.2)) (now + d) - n, now + d⟩], true) := by rw [takeD_one hone, if_pos hok, decide_eq_true hok]
        have hbn : bndI P B (i + 1) [⟨pz, tokB P B (L.map (·.2)) (now + d) - n, now + d⟩] (taken + n) (now + d) first := hs2 (by omega) hok
        have hbl := bnd_le hbn
        have hle : ¬ (taken + n) > B + (now + d - first) * P := by have := bnd_end (by omega) hbn; omega
        have hm0 : 0 ≤ (now + d - first) * P := Int.mul_nonneg (by omega) (by omega)
        have hm1 : (now + d - first) * P ≤ 61000 * 255 := Int.mul_le_mul (by omega) (by omega) (by omega) (by omega)
        clear hs2 hs3
        repeat' (first
         | refine WPl.nil ?_ | refine WPq.then ?_ | refine WPq.thenR ?_ | refine WPq.thenE ?_ | refine WPq.blockN ?_ | refine WPq.blockR ?_ | refine WPq.blockE ?_ | refine WPq.blockO rfl ?_ | refine WPc.seq ?_ | refine WPc.block ?_ | refine WPc.ret ?_ | refine WPc.exit ?_ | refine WPc.skip ?_ | refine WPc.region ?_
         | (refine isCond ?_; first | refine WPc.cT ?_ | refine WPc.cF ?_ | (refine WPc.cQ (fun hc => ?_) (fun hc => ?_) <;> try exact prA))
         | (refine isD 45 ?_; refine WPl.rdX (ReadR.indexE (i := i) rfl rfl hasA hil) ?_)
         | (refine isD 46 ?_; refine WPl.rdX (ReadR.fieldE rfl hasA hlt) ?_)
         | (refine isD 47 ?_; refine WPl.rdX (ReadR.loadE rfl hasA a20) ?_)
         | (refine isD 48 ?_; refine WPl.rdX (ReadR.binE rfl rfl (BinR.remK hao.2.2.2.1 (by omega)) (congrArg (Value.int .u64) hd)) ?_)
         | (refine isD 51 ?_; refine WPl.rdX (ReadR.binE rfl rfl BinR.eql (congrArg Value.bool (decide_eq_false hi0))) ?_)
         | (refine isD 55 ?_; refine WPl.rdX (ReadR.indexE (i := i) rfl rfl hasA hil) ?_)
         | (refine isD 56 ?_; refine WPl.rdX (ReadR.fieldE rfl hasA hlt) ?_)
         | (refine isD 57 ?_; refine WPl.rdX (ReadR.loadE rfl hasA a19) ?_)
         | (refine isD 58 ?_; refine WPl.rdX (ReadR.binE rfl rfl (BinR.remT (by omega)) (congrArg (Value.int .i64) hn)) ?_)
         | (refine isC 63 ?_; refine WPl.cXs ((take_c P B 1 hb gB m hI rfl pz n (now + d) pz64 (by omega) (by omega) ht)) fun v Γ1 hR => ?_; obtain ⟨L1, M1, f1, rfl, rfl, hI1, hD1⟩ := hR; (try dsimp only [putF, List.cons_append, List.nil_append]))
         | (refine isD 65 ?_; refine WPl.rdX (ReadR.binE rfl rfl BinR.lss (congrArg Value.bool (decide_eq_false (by omega)))) ?_)
         | (refine isD 80 ?_; refine WPl.rdX (ReadR.bin rfl rfl (BinR.mulK (by simp only [kmin]; omega) (by simp only [kmax]; omega))) ?_)
         | (refine isD 81 ?_; refine WPl.rdX (ReadR.bin rfl rfl (BinR.addK (by simp only [kmin]; omega) (by simp only [kmax]; omega))) ?_)
         | (refine isD 82 ?_; refine WPl.rdX (ReadR.binE rfl rfl BinR.gtr (congrArg Value.bool (decide_eq_false hle))) ?_)
         | (refine isOp ?_; first | refine WPl.rd ?_ | refine WPl.sk ?_ | refine WPl.rdB ?_)
         | (refine isAl ?_; refine WPl.nw fun g => ?_)
         | (refine isSt ?_; first | refine WPl.st1 ?_ | refine WPl.stA ?_ | refine WPl.stEB ?_ | refine WPl.stRB ?_)
         | (show WPl _ _ _ _ _ _ _ (⟨_, .indexAddr _ _ _, _, _, _, _⟩ :: _) _; refine WPl.rdX (ReadR.indexE rfl rfl hasA (by first | assumption | omega)) ?_)
         | (show WPl _ _ _ _ _ _ _ (⟨_, .fieldAddr _ _ _, _, _, _, _⟩ :: _) _; refine WPl.rdX (ReadR.fieldE rfl hasA (by first | assumption | omega)) ?_)
         | (show WPl _ _ _ _ _ _ _ (⟨_, .load _ _, _, _, _, _⟩ :: _) _; first | refine WPl.rdX (ReadR.loadE rfl hasA (by assumption)) ?_ | refine WPl.rdX (ReadR.loadES (by assumption) (by first | assumption | omega) rfl hasA) ?_)
         | (show WPl _ _ _ _ _ _ _ (⟨_, .slice _ _ _ _ _, _, _, _, _⟩ :: _) _; first | refine WPl.rdX (ReadR.sliceH rfl rfl hasA (by omega)) ?_ | refine WPl.rdX (ReadR.sliceL rfl rfl hasA (by omega)) ?_ | refine WPl.rdX (ReadR.sliceLH rfl rfl rfl hasA (by omega) (by omega)) ?_)
         | (refine WPl.spQ (fun hc => ?_) (fun hc => ?_) <;> try exact prA)
         | fail)
        exact WPq.rnd ⟨i + 1, L1, M1, f1, (taken + n), now + d, first⟩ ⟨by dsimp only; omega, hI1, by dsimp only; rw [hD1]; exact hbn⟩ (by dsimp only; omega)
      · skip
        have ht : takeD P B 1 (L.map (·.2)) pz n (now + d) = ([⟨pz, tokB P B (L.map (·.2)) (now + d), now + d⟩], false) := by rw [takeD_one hone, if_neg hok, decide_eq_false hok]
        have hbn : bndI P B (i + 1) [⟨pz, tokB P B (L.map (·.2)) (now + d), now + d⟩] taken (now + d) first := hs3
        have hbl := bnd_le hbn
        have hle : ¬ taken > B + (now + d - first) * P := by have := bnd_end (by omega) hbn; omega
        have hm0 : 0 ≤ (now + d - first) * P := Int.mul_nonneg (by omega) (by omega)
        have hm1 : (now + d - first) * P ≤ 61000 * 255 := Int.mul_le_mul (by omega) (by omega) (by omega) (by omega)
        clear hs2 hs3
        repeat' (first
         | refine WPl.nil ?_ | refine WPq.then ?_ | refine WPq.thenR ?_ | refine WPq.thenE ?_ | refine WPq.blockN ?_ | refine WPq.blockR ?_ | refine WPq.blockE ?_ | refine WPq.blockO rfl ?_ | refine WPc.seq ?_ | refine WPc.block ?_ | refine WPc.ret ?_ | refine WPc.exit ?_ | refine WPc.skip ?_ | refine WPc.region ?_
         | (refine isCond ?_; first | refine WPc.cT ?_ | refine WPc.cF ?_ | (refine WPc.cQ (fun hc => ?_) (fun hc => ?_) <;> try exact prA))
         | (refine isD 45 ?_; refine WPl.rdX (ReadR.indexE (i := i) rfl rfl hasA hil) ?_)
         | (refine isD 46 ?_; refine WPl.rdX (ReadR.fieldE rfl hasA hlt) ?_)
         | (refine isD 47 ?_; refine WPl.rdX (ReadR.loadE rfl hasA a20) ?_)
         | (refine isD 48 ?_; refine WPl.rdX (ReadR.binE rfl rfl (BinR.remK hao.2.2.2.1 (by omega)) (congrArg (Value.int .u64) hd)) ?_)
         | (refine isD 51 ?_; refine WPl.rdX (ReadR.binE rfl rfl BinR.eql (congrArg Value.bool (decide_eq_false hi0))) ?_)
         | (refine isD 55 ?_; refine WPl.rdX (ReadR.indexE (i := i) rfl rfl hasA hil) ?_)
         | (refine isD 56 ?_; refine WPl.rdX (ReadR.fieldE rfl hasA hlt) ?_)
         | (refine isD 57 ?_; refine WPl.rdX (ReadR.loadE rfl hasA a19) ?_)
         | (refine isD 58 ?_; refine WPl.rdX (ReadR.binE rfl rfl (BinR.remT (by omega)) (congrArg (Value.int .i64) hn)) ?_)
         | (refine isC 63 ?_; refine WPl.cXs ((take_c P B 1 hb gB m hI rfl pz n (now + d) pz64 (by omega) (by omega) ht)) fun v Γ1 hR => ?_; obtain ⟨L1, M1, f1, rfl, rfl, hI1, hD1⟩ := hR; (try dsimp only [putF, List.cons_append, List.nil_append]))
         | (refine isD 65 ?_; refine WPl.rdX (ReadR.binE rfl rfl BinR.lss (congrArg Value.bool (decide_eq_false (by omega)))) ?_)
         | (refine isD 80 ?_; refine WPl.rdX (ReadR.bin rfl rfl (BinR.mulK (by simp only [kmin]; omega) (by simp only [kmax]; omega))) ?_)
         | (refine isD 81 ?_; refine WPl.rdX (ReadR.bin rfl rfl (BinR.addK (by simp only [kmin]; omega) (by simp only [kmax]; omega))) ?_)
         | (refine isD 82 ?_; refine WPl.rdX (ReadR.binE rfl rfl BinR.gtr (congrArg Value.bool (decide_eq_false hle))) ?_)
         | (refine isOp ?_; first | refine WPl.rd ?_ | refine WPl.sk ?_ | refine WPl.rdB ?_)
         | (refine isAl ?_; refine WPl.nw fun g => ?_)
         | (refine isSt ?_; first | refine WPl.st1 ?_ | refine WPl.stA ?_ | refine WPl.stEB ?_ | refine WPl.stRB ?_)
         | (show WPl _ _ _ _ _ _ _ (⟨_, .indexAddr _ _ _, _, _, _, _⟩ :: _) _; refine WPl.rdX (ReadR.indexE rfl rfl hasA (by first | assumption | omega)) ?_)
         | (show WPl _ _ _ _ _ _ _ (⟨_, .fieldAddr _ _ _, _, _, _, _⟩ :: _) _; refine WPl.rdX (ReadR.fieldE rfl hasA (by first | assumption | omega)) ?_)
         | (show WPl _ _ _ _ _ _ _ (⟨_, .load _ _, _, _, _, _⟩ :: _) _; first | refine WPl.rdX (ReadR.loadE rfl hasA (by assumption)) ?_ | refine WPl.rdX (ReadR.loadES (by assumption) (by first | assumption | omega) rfl hasA) ?_)
         | (show WPl _ _ _ _ _ _ _ (⟨_, .slice _ _ _ _ _, _, _, _, _⟩ :: _) _; first | refine WPl.rdX (ReadR.sliceH rfl rfl hasA (by omega)) ?_ | refine WPl.rdX (ReadR.sliceL rfl rfl hasA (by omega)) ?_ | refine WPl.rdX (ReadR.sliceLH rfl rfl rfl hasA (by omega) (by omega)) ?_)
         | (refine WPl.spQ (fun hc => ?_) (fun hc => ?_) <;> try exact prA)
         | fail)
        exact WPq.rnd ⟨i + 1, L1, M1, f1, taken, now + d, first⟩ ⟨by dsimp only; omega, hI1, by dsimp only; rw [hD1]; exact hbn⟩ (by dsimp only; omega)
  · skip
    repeat' (first
     | refine WPl.nil ?_ | refine WPq.then ?_ | refine WPq.thenR ?_ | refine WPq.thenE ?_ | refine WPq.blockN ?_ | refine WPq.blockR ?_ | refine WPq.blockE ?_ | refine WPq.blockO rfl ?_ | refine WPc.seq ?_ | refine WPc.block ?_ | refine WPc.ret ?_ | refine WPc.exit ?_ | refine WPc.skip ?_ | refine WPc.region ?_
     | (refine isCond ?_; first | refine WPc.cT ?_ | refine WPc.cF ?_ | (refine WPc.cQ (fun hc => ?_) (fun hc => ?_) <;> try exact prA))
     | (refine isC 83 ?_; refine WPl.cV (hlive) ?_)
     | (refine isOp ?_; first | refine WPl.rd ?_ | refine WPl.sk ?_ | refine WPl.rdB ?_)
     | (refine isAl ?_; refine WPl.nw fun g => ?_)
     | (refine isSt ?_; first | refine WPl.st1 ?_ | refine WPl.stA ?_ | refine WPl.stEB ?_ | refine WPl.stRB ?_)
     | (show WPl _ _ _ _ _ _ _ (⟨_, .indexAddr _ _ _, _, _, _, _⟩ :: _) _; refine WPl.rdX (ReadR.indexE rfl rfl hasA (by first | assumption | omega)) ?_)
     | (show WPl _ _ _ _ _ _ _ (⟨_, .fieldAddr _ _ _, _, _, _, _⟩ :: _) _; refine WPl.rdX (ReadR.fieldE rfl hasA (by first | assumption | omega)) ?_)
     | (show WPl _ _ _ _ _ _ _ (⟨_, .load _ _, _, _, _, _⟩ :: _) _; first | refine WPl.rdX (ReadR.loadE rfl hasA (by assumption)) ?_ | refine WPl.rdX (ReadR.loadES (by assumption) (by first | assumption | omega) rfl hasA) ?_)
     | (show WPl _ _ _ _ _ _ _ (⟨_, .slice _ _ _ _ _, _, _, _, _⟩ :: _) _; first | refine WPl.rdX (ReadR.sliceH rfl rfl hasA (by omega)) ?_ | refine WPl.rdX (ReadR.sliceL rfl rfl hasA (by omega)) ?_ | refine WPl.rdX (ReadR.sliceLH rfl rfl rfl hasA (by omega) (by omega)) ?_)
     | (refine WPl.spQ (fun hc => ?_) (fun hc => ?_) <;> try exact prA)
     | fail)
    all_goals try (first | exact WPq.dTp | exact WPq.dTs | exact WPq.dV | exact WPq.dR | exact WPq.dR2 | exact WPq.dH | exact WPq.dBH | exact WPq.dT)
end Go.Proofs.Ytncgponcedkihaa
