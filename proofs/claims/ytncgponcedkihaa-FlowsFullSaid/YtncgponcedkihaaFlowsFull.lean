/- FlowsFull: as many flows are kept as may be. -/
import Derived.Test.YtncgponcedkihaaFf
import Derived.Test.YtncgponcedkihaaOpG
namespace Go.Proofs.Ytncgponcedkihaa
open Go.RowKit
set_option linter.unusedSimpArgs false
set_option linter.unusedVariables false
set_option maxRecDepth 20000
set_option maxHeartbeats 4000000
attribute [local irreducible] WPc WPl WPq ReadR OpT BinR HasS bx rdN rowN Take Takes Prov Triple ResF BuildP Done ag Int.decLt Int.decLe Int.instDecidableEq
def fI (i : Nat) : Fl := ⟨Adr.zero, Adr.zero, i, 0, 6⟩
def eU (t : Int) : En := ⟨0, 0, Adr.zero, 0, 0, t⟩
def uAt (n : Nat) (t : Int) (i : Nat) : Int := if i = n / 2 then t else 18446744073709551615
def fullL (n : Nat) (t : Int) (k : Nat) : LL := (List.range k).map fun i => (fI i, eU (uAt n t i))
theorem full_len {n : Nat} {t : Int} {k : Nat} : (fullL n t k).length = k := by simp [fullL]
theorem full_w {i : Nat} (h : i < 65536) : flW (fI i) := ⟨h, Nat.zero_lt_succ _⟩
theorem full_wr {i : Nat} {t : Int} (h : i < 65536) : flW (replyF (fI i) (eU t)) := ⟨Nat.zero_lt_succ _, h⟩
theorem full_none {n : Nat} {t : Int} {k j : Nat} {R : RR} {t' : Int} (h : lkd (fullL n t k) R) (hj : k ≤ j) : mhas (fullL n t k) (fI j) = false ∧ mhas R (replyF (fI j) (eU t')) = false := by
  have hs : ∀ x ∈ fullL n t k, x.1.sp ≠ j := fun x hx => by
    obtain ⟨i, hi, rfl⟩ := List.mem_map.1 hx
    have := List.mem_range.1 hi
    show i ≠ j
    omega
  constructor
  · unfold mhas
    rw [(mfind_none (fun x hx e => hs x hx (by rw [e]; rfl))).1]; rfl
  · unfold mhas
    cases hc : mfind R (replyF (fI j) (eU t')) with
    | none => rfl
    | some f =>
      obtain ⟨a, h1, h2⟩ := (h.li _ _).1 hc
      have := hs _ (mfind_mem h1)
      exact (this (congrArg Fl.dp h2)).elim
theorem full_put {n : Nat} {t : Int} {k : Nat} {R : RR} (h : lkd (fullL n t k) R) : mput (fullL n t k) (fI k) (eU (uAt n t k)) = fullL n t (k + 1) := by
  have h1 : mhas (fullL n t k) (fI k) = false := (full_none (t' := 0) h (Nat.le_refl _)).1
  have h2 : mfind (fullL n t k) (fI k) = none := by simpa [mhas] using h1
  rw [(mfind_none (mfind_none_of h2)).2.1]
  simp [fullL, List.range_succ]
theorem mhas_none {K V : Type} [DecidableEq K] {l : List (K × V)} {k : K} (h : mhas l k = false) : mfind l k = none := by simpa [mhas] using h
theorem range_but {n j : Nat} (h : j < n) : ((List.range n).filter (fun i => decide (i ≠ j))).length = n - 1 := by
  have h1 := List.Nodup.erase_eq_filter (List.nodup_range (n := n)) j
  have h2 : ((List.range n).erase j).length = n - 1 := by rw [List.length_erase_of_mem (List.mem_range.2 h), List.length_range]
  rw [← h2, h1]
  congr 1
  apply List.filter_congr
  intro x _
  by_cases e : x = j <;> simp [e]
theorem full_exp {n : Nat} {t : Int} (hn : 0 < n) : ((fullL n t n).filter (fun x => !pExp 100 x.2)).length = if t ≤ 100 then n - 1 else n := by
  have e : (fullL n t n).filter (fun x => !pExp 100 x.2) = ((List.range n).filter (fun i => !decide (uAt n t i ≤ 100))).map fun i => (fI i, eU (uAt n t i)) := by
    unfold fullL
    rw [List.filter_map]
    rfl
  rw [e, List.length_map]
  split
  · rename_i h
    rw [← range_but (n := n) (j := n / 2) (by omega)]
    congr 1
    apply List.filter_congr
    intro x _
    unfold uAt
    by_cases hx : x = n / 2
    · simp [hx, h]
    · simp [hx]
  · rename_i h
    have : ∀ i ∈ List.range n, (!decide (uAt n t i ≤ 100)) = true := fun i _ => by
      unfold uAt
      split
      · simp; omega
      · simp
    rw [List.filter_eq_self.2 this, List.length_range]
theorem full_put' {n : Nat} {t : Int} {k : Nat} {L : LL} {R : RR} {tv : Int} (h : lkd L R) (hL : L = fullL n t k) (hu : uAt n t k = tv) : mput L (fI k) (eU tv) = fullL n t (k + 1) := by
  subst hL; subst hu; exact full_put h
theorem full_ok {n : Nat} {t : Int} {L : LL} {R : RR} {m1 m2 : Nat} {A : Asn} {vx : Value} {Γ : List Asn} (hk : lkd L R) (hL : L = fullL n t n) (hn : 1 ≤ n ∧ n ≤ 256) (ht : t ≤ 100) (hR : RPutE (n : Int) 100 L (fI 9999) (eU 5) m1 m2 A vx Γ) :
    ∃ (l : LL) (R' : RR), vx = .int .i64 0 ∧ Γ = [A, mp flM m1 l, mp rpM m2 R'] ∧ l.length = n := by
  obtain ⟨l, R', h1, h2, h3, h4⟩ := hR
  have hz : l.length = n - 1 := by rw [h2, hL, full_exp (by omega), if_pos ht]
  rcases h4 with ⟨hq, _, _⟩ | ⟨hq, rfl, rfl⟩
  · exfalso; omega
  · refine ⟨_, _, rfl, rfl, ?_⟩
    have hb : mhas l (fI 9999) = false := by
      rw [h2]; exact mhas_filter (by subst hL; exact (full_none (t' := 0) hk (by omega)).1)
    rw [mput_len, hb, if_neg (by decide)]
    omega
theorem full_no {n : Nat} {t : Int} {L : LL} {m1 m2 : Nat} {A : Asn} {vx : Value} {Γ : List Asn} (hL : L = fullL n t n) (hn : 1 ≤ n ∧ n ≤ 256) (ht : ¬ t ≤ 100) (hR : RPutE (n : Int) 100 L (fI 9999) (eU 5) m1 m2 A vx Γ) :
    ∃ (l : LL) (R' : RR), vx = .int .i64 2 ∧ Γ = [A, mp flM m1 l, mp rpM m2 R'] ∧ l.length = n := by
  obtain ⟨l, R', h1, h2, h3, h4⟩ := hR
  have hz : l.length = n := by rw [h2, hL, full_exp (by omega), if_neg ht]
  rcases h4 with ⟨hq, rfl, rfl⟩ | ⟨hq, _, _⟩
  · exact ⟨_, _, rfl, rfl, hz⟩
  · exfalso; omega
theorem full0 {n : Nat} {t : Int} : ([] : LL) = fullL n t 0 := rfl
attribute [local irreducible] mp rg mpe mget mfind mput mdel fullL
theorem flowsFull_t (cu : UInt8) (t : Int) (ht : 0 ≤ t) :
    Triple Try.prog 7 #[.int .u8 ((cu.toNat : Nat) : Int), .int .u64 t] [] (RVal (.bool true)) := by
  have hcu := cu.toNat_lt
  obtain ⟨n, hn⟩ : ∃ n : Nat, n = 1 + cu.toNat := ⟨_, rfl⟩
  have hN : 1 + ((cu.toNat : Nat) : Int) = ((n : Nat) : Int) := by omega
  have hn1 : 1 ≤ n ∧ n ≤ 256 := by omega
  have hN2 : ((n : Nat) : Int) / 2 = ((n / 2 : Nat) : Int) := by omega
  have c1 := fnew_t ((n : Nat) : Int) (by omega) (by omega)
  have c9 := flives_t
  clear hn
  refine Triple.enter Try.func7 rfl Try.ntmps7 rfl (fun W => ?_)
  dsimp only [argsF, Nat.reduceAdd]
  repeat' (first
   | refine WPl.nil ?_ | refine WPq.then ?_ | refine WPq.thenR ?_ | refine WPq.thenE ?_ | refine WPq.blockN ?_ | refine WPq.blockR ?_ | refine WPq.blockE ?_ | refine WPq.blockO rfl ?_ | refine WPc.seq ?_ | refine WPc.block ?_ | refine WPc.ret ?_ | refine WPc.exit ?_ | refine WPc.skip ?_ | refine WPc.region ?_
   | (refine isCond ?_; first | refine WPc.cT ?_ | refine WPc.cF ?_ | (refine WPc.cQ (fun hc => ?_) (fun hc => ?_) <;> try exact prA))
   | (refine isD 13 ?_; refine WPl.rdX (ReadR.binE rfl rfl (BinR.addK (by simp only [kmin]; omega) (by simp only [kmax]; omega)) (congrArg (Value.int .i64) hN)) ?_)
   | (refine isC 16 ?_; refine WPl.cXs (c1) fun v Γ1 hR => ?_; obtain ⟨gT, m1, m2, rfl, rfl⟩ := hR; (try dsimp only [putF, List.cons_append, List.nil_append]))
   | (refine isD 20 ?_; refine WPl.rdX (readP) ?_)
   | (refine isOp ?_; first | refine WPl.rd ?_ | refine WPl.sk ?_ | refine WPl.rdB ?_)
   | (show WPl _ _ _ _ _ _ _ (⟨_, .indexAddr _ _ _, _, _, _, _⟩ :: _) _; refine WPl.rdX (ReadR.indexE rfl rfl hasA (by first | assumption | omega)) ?_)
   | (show WPl _ _ _ _ _ _ _ (⟨_, .fieldAddr _ _ _, _, _, _, _⟩ :: _) _; refine WPl.rdX (ReadR.fieldE rfl hasA (by first | assumption | omega)) ?_)
   | (show WPl _ _ _ _ _ _ _ (⟨_, .load _ _, _, _, _, _⟩ :: _) _; first | refine WPl.rdX (ReadR.loadE rfl hasA (by assumption)) ?_ | refine WPl.rdX (ReadR.loadES (by assumption) (by first | assumption | omega) rfl hasA) ?_)
   | (show WPl _ _ _ _ _ _ _ (⟨_, .slice _ _ _ _ _, _, _, _, _⟩ :: _) _; first | refine WPl.rdX (ReadR.sliceH rfl rfl hasA (by omega)) ?_ | refine WPl.rdX (ReadR.sliceL rfl rfl hasA (by omega)) ?_ | refine WPl.rdX (ReadR.sliceLH rfl rfl rfl hasA (by omega) (by omega)) ?_)
   | (refine WPl.spQ (fun hc => ?_) (fun hc => ?_) <;> try exact prA)
   | fail)
  first | refine WPc.loop (σ := Nat × LL × RR) (fun st => st.1 ≤ n ∧ lkd st.2.1 st.2.2 ∧ st.2.1 = fullL n t st.1) (fun st => [bx gT 141 (fxc ((n : Nat) : Int) m1 m2), mp flM m1 st.2.1, mp rpM m2 st.2.2]) (fun st => [(1, .int .u64 t), (5, .int .i64 ((n : Nat) : Int)), (6, hPf gT), (8, .int .i64 (st.1 : Int))]) (fun st => n - st.1) ((0, [], [])) ?_ takesA frsA (fun st km hx hk => ?_)
  · exact ⟨Nat.zero_le _, lkd.nil, full0⟩
  obtain ⟨i, L, R⟩ := st
  obtain ⟨hi, hl, hL⟩ := hx
  dsimp only at hi hl hL hk ⊢
  have hkm : km = n - i := hk
  clear hk
  by_cases hin : i < n
  · obtain ⟨j, hj⟩ : ∃ j : Nat, j = n / 2 := ⟨_, rfl⟩
    rw [← hj] at hN2
    have hno := fun t' => full_none (t' := t') (hL ▸ hl) (Nat.le_refl i)
    rw [← hL] at hno
    have hlen : L.length = i := by rw [hL, full_len]
    by_cases hij : i = j
    · have c2 := fput_t gT m1 m2 ((n : Nat) : Int) L R (fI i) (eU t) 0 (full_w (by omega)) (full_wr (by omega)) (hno t).2 (hno t).1 (by omega)
      repeat' (first
       | refine WPl.nil ?_ | refine WPq.then ?_ | refine WPq.thenR ?_ | refine WPq.thenE ?_ | refine WPq.blockN ?_ | refine WPq.blockR ?_ | refine WPq.blockE ?_ | refine WPq.blockO rfl ?_ | refine WPc.seq ?_ | refine WPc.block ?_ | refine WPc.ret ?_ | refine WPc.exit ?_ | refine WPc.skip ?_ | refine WPc.region ?_
       | (refine isCond ?_; first | refine WPc.cT ?_ | refine WPc.cF ?_ | (refine WPc.cQ (fun hc => ?_) (fun hc => ?_) <;> try exact prA))
       | (refine isD 32 ?_; refine WPl.rdX (ReadR.binE rfl rfl (BinR.quoK (by omega) (by omega) (by simp only [kmax]; omega)) (congrArg (Value.int .i64) hN2)) ?_)
       | (refine isC 41 ?_; refine WPl.cTs (c2) ?_; (try dsimp only [putF, List.cons_append, List.nil_append]))
       | (refine isOp ?_; first | refine WPl.rd ?_ | refine WPl.sk ?_ | refine WPl.rdB ?_)
       | (show WPl _ _ _ _ _ _ _ (⟨_, .indexAddr _ _ _, _, _, _, _⟩ :: _) _; refine WPl.rdX (ReadR.indexE rfl rfl hasA (by first | assumption | omega)) ?_)
       | (show WPl _ _ _ _ _ _ _ (⟨_, .fieldAddr _ _ _, _, _, _, _⟩ :: _) _; refine WPl.rdX (ReadR.fieldE rfl hasA (by first | assumption | omega)) ?_)
       | (show WPl _ _ _ _ _ _ _ (⟨_, .load _ _, _, _, _, _⟩ :: _) _; first | refine WPl.rdX (ReadR.loadE rfl hasA (by assumption)) ?_ | refine WPl.rdX (ReadR.loadES (by assumption) (by first | assumption | omega) rfl hasA) ?_)
       | (show WPl _ _ _ _ _ _ _ (⟨_, .slice _ _ _ _ _, _, _, _, _⟩ :: _) _; first | refine WPl.rdX (ReadR.sliceH rfl rfl hasA (by omega)) ?_ | refine WPl.rdX (ReadR.sliceL rfl rfl hasA (by omega)) ?_ | refine WPl.rdX (ReadR.sliceLH rfl rfl rfl hasA (by omega) (by omega)) ?_)
       | (refine WPl.spQ (fun hc => ?_) (fun hc => ?_) <;> try exact prA)
       | fail)
      exact WPq.rnd (i + 1, mput L (fI i) (eU t), mput R (replyF (fI i) (eU t)) (fI i)) ⟨by omega, hl.put (full_w (by omega)) (full_wr (by omega)) (mhas_none (hno 0).1) (mhas_none (hno _).2), full_put' hl hL (by unfold uAt; rw [if_pos (by omega)])⟩ (by rw [hkm]; omega)
    · have c2 := fput_t gT m1 m2 ((n : Nat) : Int) L R (fI i) (eU 18446744073709551615) 0 (full_w (by omega)) (full_wr (by omega)) (hno _).2 (hno 0).1 (by omega)
      repeat' (first
       | refine WPl.nil ?_ | refine WPq.then ?_ | refine WPq.thenR ?_ | refine WPq.thenE ?_ | refine WPq.blockN ?_ | refine WPq.blockR ?_ | refine WPq.blockE ?_ | refine WPq.blockO rfl ?_ | refine WPc.seq ?_ | refine WPc.block ?_ | refine WPc.ret ?_ | refine WPc.exit ?_ | refine WPc.skip ?_ | refine WPc.region ?_
       | (refine isCond ?_; first | refine WPc.cT ?_ | refine WPc.cF ?_ | (refine WPc.cQ (fun hc => ?_) (fun hc => ?_) <;> try exact prA))
       | (refine isD 32 ?_; refine WPl.rdX (ReadR.binE rfl rfl (BinR.quoK (by omega) (by omega) (by simp only [kmax]; omega)) (congrArg (Value.int .i64) hN2)) ?_)
       | (refine isC 41 ?_; refine WPl.cTs (c2) ?_; (try dsimp only [putF, List.cons_append, List.nil_append]))
       | (refine isOp ?_; first | refine WPl.rd ?_ | refine WPl.sk ?_ | refine WPl.rdB ?_)
       | (show WPl _ _ _ _ _ _ _ (⟨_, .indexAddr _ _ _, _, _, _, _⟩ :: _) _; refine WPl.rdX (ReadR.indexE rfl rfl hasA (by first | assumption | omega)) ?_)
       | (show WPl _ _ _ _ _ _ _ (⟨_, .fieldAddr _ _ _, _, _, _, _⟩ :: _) _; refine WPl.rdX (ReadR.fieldE rfl hasA (by first | assumption | omega)) ?_)
       | (show WPl _ _ _ _ _ _ _ (⟨_, .load _ _, _, _, _, _⟩ :: _) _; first | refine WPl.rdX (ReadR.loadE rfl hasA (by assumption)) ?_ | refine WPl.rdX (ReadR.loadES (by assumption) (by first | assumption | omega) rfl hasA) ?_)
       | (show WPl _ _ _ _ _ _ _ (⟨_, .slice _ _ _ _ _, _, _, _, _⟩ :: _) _; first | refine WPl.rdX (ReadR.sliceH rfl rfl hasA (by omega)) ?_ | refine WPl.rdX (ReadR.sliceL rfl rfl hasA (by omega)) ?_ | refine WPl.rdX (ReadR.sliceLH rfl rfl rfl hasA (by omega) (by omega)) ?_)
       | (refine WPl.spQ (fun hc => ?_) (fun hc => ?_) <;> try exact prA)
       | fail)
      exact WPq.rnd (i + 1, mput L (fI i) (eU 18446744073709551615), mput R (replyF (fI i) (eU 18446744073709551615)) (fI i)) ⟨by omega, hl.put (full_w (by omega)) (full_wr (by omega)) (mhas_none (hno 0).1) (mhas_none (hno _).2), full_put' hl hL (by unfold uAt; rw [if_neg (by omega)])⟩ (by rw [hkm]; omega)
  · have hie : i = n := by omega
    subst hie
    have hno := fun t' => full_none (j := 9999) (t' := t') (hL ▸ hl) (by omega)
    rw [← hL] at hno
    have hlen : L.length = i := by rw [hL, full_len]
    have c3 := fputE_t gT m1 m2 ((i : Nat) : Int) L R (fI 9999) (eU 5) 100 hl (by omega) (full_w (by omega)) (full_wr (by omega)) (hno _).2 (hno 0).1 (by omega)
    by_cases ht1 : t ≤ 100
    · skip
      repeat' (first
       | refine WPl.nil ?_ | refine WPq.then ?_ | refine WPq.thenR ?_ | refine WPq.thenE ?_ | refine WPq.blockN ?_ | refine WPq.blockR ?_ | refine WPq.blockE ?_ | refine WPq.blockO rfl ?_ | refine WPc.seq ?_ | refine WPc.block ?_ | refine WPc.ret ?_ | refine WPc.exit ?_ | refine WPc.skip ?_ | refine WPc.region ?_
       | (refine isCond ?_; first | refine WPc.cT ?_ | refine WPc.cF ?_ | (refine WPc.cQ (fun hc => ?_) (fun hc => ?_) <;> try exact prA))
       | (refine isD 48 ?_; refine WPl.rdX (ReadR.binE rfl rfl BinR.leq (congrArg Value.bool (decide_eq_true ht1))) ?_)
       | (refine isC 46 ?_; refine WPl.cXs (c3) fun v Γ1 hR => ?_; (obtain ⟨l', R', rfl, rfl, hln⟩ := full_ok hl hL hn1 ht1 hR; have c5 := flen_t gT m1 m2 ((i : Nat) : Int) l'; rw [hln] at c5); (try dsimp only [putF, List.cons_append, List.nil_append]))
       | (refine isC 53 ?_; refine WPl.cTs (c5) ?_; (try dsimp only [putF, List.cons_append, List.nil_append]))
       | (refine isD 50 ?_; refine WPl.rdX (ReadR.binE rfl rfl BinR.eql (congrArg Value.bool (decide_eq_true rfl))) ?_)
       | (refine isD 55 ?_; refine WPl.rdX (ReadR.binE rfl rfl BinR.eql (congrArg Value.bool (decide_eq_true rfl))) ?_)
       | (refine isC 58 ?_; refine WPl.cV (c9) ?_)
       | (refine isOp ?_; first | refine WPl.rd ?_ | refine WPl.sk ?_ | refine WPl.rdB ?_)
       | (show WPl _ _ _ _ _ _ _ (⟨_, .indexAddr _ _ _, _, _, _, _⟩ :: _) _; refine WPl.rdX (ReadR.indexE rfl rfl hasA (by first | assumption | omega)) ?_)
       | (show WPl _ _ _ _ _ _ _ (⟨_, .fieldAddr _ _ _, _, _, _, _⟩ :: _) _; refine WPl.rdX (ReadR.fieldE rfl hasA (by first | assumption | omega)) ?_)
       | (show WPl _ _ _ _ _ _ _ (⟨_, .load _ _, _, _, _, _⟩ :: _) _; first | refine WPl.rdX (ReadR.loadE rfl hasA (by assumption)) ?_ | refine WPl.rdX (ReadR.loadES (by assumption) (by first | assumption | omega) rfl hasA) ?_)
       | (show WPl _ _ _ _ _ _ _ (⟨_, .slice _ _ _ _ _, _, _, _, _⟩ :: _) _; first | refine WPl.rdX (ReadR.sliceH rfl rfl hasA (by omega)) ?_ | refine WPl.rdX (ReadR.sliceL rfl rfl hasA (by omega)) ?_ | refine WPl.rdX (ReadR.sliceLH rfl rfl rfl hasA (by omega) (by omega)) ?_)
       | (refine WPl.spQ (fun hc => ?_) (fun hc => ?_) <;> try exact prA)
       | fail)
      all_goals first | exact WPq.dV | exact absurd rfl hc | simp at hc
    · skip
      repeat' (first
       | refine WPl.nil ?_ | refine WPq.then ?_ | refine WPq.thenR ?_ | refine WPq.thenE ?_ | refine WPq.blockN ?_ | refine WPq.blockR ?_ | refine WPq.blockE ?_ | refine WPq.blockO rfl ?_ | refine WPc.seq ?_ | refine WPc.block ?_ | refine WPc.ret ?_ | refine WPc.exit ?_ | refine WPc.skip ?_ | refine WPc.region ?_
       | (refine isCond ?_; first | refine WPc.cT ?_ | refine WPc.cF ?_ | (refine WPc.cQ (fun hc => ?_) (fun hc => ?_) <;> try exact prA))
       | (refine isD 48 ?_; refine WPl.rdX (ReadR.binE rfl rfl BinR.leq (congrArg Value.bool (decide_eq_false ht1))) ?_)
       | (refine isC 46 ?_; refine WPl.cXs (c3) fun v Γ1 hR => ?_; (obtain ⟨l', R', rfl, rfl, hln⟩ := full_no hL hn1 ht1 hR; have c5 := flen_t gT m1 m2 ((i : Nat) : Int) l'; rw [hln] at c5); (try dsimp only [putF, List.cons_append, List.nil_append]))
       | (refine isC 64 ?_; refine WPl.cTs (c5) ?_; (try dsimp only [putF, List.cons_append, List.nil_append]))
       | (refine isD 61 ?_; refine WPl.rdX (ReadR.binE rfl rfl BinR.eql (congrArg Value.bool (decide_eq_true rfl))) ?_)
       | (refine isD 66 ?_; refine WPl.rdX (ReadR.binE rfl rfl BinR.eql (congrArg Value.bool (decide_eq_true rfl))) ?_)
       | (refine isC 69 ?_; refine WPl.cV (c9) ?_)
       | (refine isOp ?_; first | refine WPl.rd ?_ | refine WPl.sk ?_ | refine WPl.rdB ?_)
       | (show WPl _ _ _ _ _ _ _ (⟨_, .indexAddr _ _ _, _, _, _, _⟩ :: _) _; refine WPl.rdX (ReadR.indexE rfl rfl hasA (by first | assumption | omega)) ?_)
       | (show WPl _ _ _ _ _ _ _ (⟨_, .fieldAddr _ _ _, _, _, _, _⟩ :: _) _; refine WPl.rdX (ReadR.fieldE rfl hasA (by first | assumption | omega)) ?_)
       | (show WPl _ _ _ _ _ _ _ (⟨_, .load _ _, _, _, _, _⟩ :: _) _; first | refine WPl.rdX (ReadR.loadE rfl hasA (by assumption)) ?_ | refine WPl.rdX (ReadR.loadES (by assumption) (by first | assumption | omega) rfl hasA) ?_)
       | (show WPl _ _ _ _ _ _ _ (⟨_, .slice _ _ _ _ _, _, _, _, _⟩ :: _) _; first | refine WPl.rdX (ReadR.sliceH rfl rfl hasA (by omega)) ?_ | refine WPl.rdX (ReadR.sliceL rfl rfl hasA (by omega)) ?_ | refine WPl.rdX (ReadR.sliceLH rfl rfl rfl hasA (by omega) (by omega)) ?_)
       | (refine WPl.spQ (fun hc => ?_) (fun hc => ?_) <;> try exact prA)
       | fail)
      all_goals first | exact WPq.dV | exact absurd rfl hc | simp at hc
end Go.Proofs.Ytncgponcedkihaa
