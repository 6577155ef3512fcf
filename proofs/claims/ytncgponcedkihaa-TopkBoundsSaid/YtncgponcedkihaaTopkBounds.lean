/- Layer 38 (topk): the law TopkBounds: its walk. -/
import Derived.Test.YtncgponcedkihaaKi
namespace Go.Proofs.Ytncgponcedkihaa
open Go.RowKit
set_option linter.unusedSimpArgs false
set_option linter.unusedVariables false
set_option maxRecDepth 20000
set_option maxHeartbeats 4000000
attribute [local irreducible] WPc WPl WPq ReadR OpT BinR HasS bx rdN rowN Take Takes Prov Triple ResF BuildP Done ag Int.decLt Int.decLe Int.instDecidableEq
def ml (x : Pf × Int) : Pf × Int := (x.1, x.2 % 1000000)
def AA (l : List (Pf × Int)) (i : Nat) : CL := (l.take i).map ml
theorem AA_step {l : List (Pf × Int)} {i : Nat} {x : Pf × Int} (h : l[i]? = some x) : AA l (i + 1) = AA l i ++ [(x.1, x.2 % 1000000)] := by
  unfold AA; rw [List.take_add_one, h, List.map_append]; rfl
theorem AA_zero {l : List (Pf × Int)} : AA l 0 = [] := rfl
theorem AA_bd {l : List (Pf × Int)} {i : Nat} (hl : ∀ x ∈ l, cnW x) : ∀ x ∈ AA l i, 0 ≤ x.2 ∧ x.2 ≤ 999999 := fun x hx => by
  unfold AA at hx
  obtain ⟨z, hz, rfl⟩ := List.mem_map.1 hx
  have := hl z (List.mem_of_mem_take hz)
  unfold ml; dsimp only; omega
theorem AA_all {l : List (Pf × Int)} {i : Nat} (hl : ∀ x ∈ l, cnW x) (hi : i ≤ 80) (p : Pf) : 0 ≤ came (AA l i) p ∧ came (AA l i) p ≤ totl (AA l i) ∧ totl (AA l i) ≤ 80000000 := by
  have h := came_bound (AA_bd (i := i) hl) p
  have h2 : (AA l i).length ≤ 80 := by unfold AA; rw [List.length_map, List.length_take]; omega
  omega
theorem totl0 {l : List (Pf × Int)} : 0 = totl (AA l 0) := rfl
theorem sumT_le {l : List Int} (h : ∀ x ∈ l, 0 ≤ x) (i : Nat) : 0 ≤ (l.take i).sum ∧ (l.take i).sum ≤ l.sum := by
  induction l generalizing i with
  | nil => simp
  | cons a l ih =>
    have h0 := h a (List.mem_cons_self ..)
    have ih' := fun j => ih (fun x hx => h x (List.mem_cons_of_mem _ hx)) j
    cases i with
    | zero => have := ih' l.length; rw [List.take_length] at this; simp; omega
    | succ i => have := ih' i; simp; omega
theorem AA_end {l : List (Pf × Int)} {i : Nat} (h : i = 80 ∨ (l.length ≤ i ∧ i ≤ 80)) : AA l i = AA l 80 := by
  rcases h with rfl | h
  · rfl
  · unfold AA; rw [List.take_of_length_le h.1, List.take_of_length_le (by omega)]
theorem came0 {l : List (Pf × Int)} {p : Pf} : 0 = came (AA l 0) p := rfl
theorem ss0 {l : List (Pf × Int)} {n : Nat} : SS n (AA l 0) [] := SS.start n
theorem mhas_iff {L : TL} {p : Pf} (hn : (L.map (·.1)).Nodup) : (mhas L p = true → (p, mget hyM L p) ∈ L) ∧ (mhas L p = false → ∀ x ∈ L, x.1 ≠ p) := by
  unfold mhas
  rw [mget_of]
  constructor
  · intro h
    obtain ⟨vd, hv⟩ := Option.isSome_iff_exists.1 h
    rw [hv]
    exact mfind_mem hv
  · intro h x hx e
    have := mfind_at hn hx
    rw [e] at this
    rw [this] at h
    cases h
attribute [local irreducible] mp rg mput mget mfind mdel isLeast came totl AA ccs hys wU
theorem topkBounds_t (cu : UInt8) (vr : Value) (l : List (Pf × Int)) (hl : ∀ x ∈ l, cnW x) :
    Triple Try.prog 11 #[.int .u8 ((cu.toNat : Nat) : Int), vr] [rdN vr l.length (l.map fun x => flat (cnC x)).flatten] (RVal (.bool true)) := by
  have e0 : (l.map fun x => flat (cnC x)).flatten = ccs l := by unfold ccs; rfl
  rw [e0]
  have hlive := tlives_t
  have hcu := cu.toNat_lt
  obtain ⟨n, hn⟩ : ∃ n : Nat, n = 1 + cu.toNat % 12 := ⟨_, rfl⟩
  have hN : 1 + ((cu.toNat : Nat) : Int) % 12 = ((n : Nat) : Int) := by omega
  have hn12 : 1 ≤ n ∧ n ≤ 12 := by omega
  have c0 := tnew_t ((n : Nat) : Int) (by omega) (by omega)
  have hcl := ccs_len (l := l)
  clear hn e0
  refine Triple.enter Try.func11 rfl Try.ntmps11 rfl (fun W => ?_)
  dsimp only [argsF, Nat.reduceAdd]
  repeat' (first
   | (refine isSeqR 4 ?_; refine WPc.join (σ := TL × Int) (fun st => SS n (AA l 80) st.1 ∧ st.2 = totl (AA l 80)) (fun st => [rdN vr l.length (ccs l), bx gT 155 (txc ((n : Nat) : Int) m st.2), mp hyM m st.1]) (fun st => [(0, .int .u8 ((cu.toNat : Nat) : Int)), (1, vr), (5, hPt gT)]) ?_ (fun st hx => ?_))
   | (refine isSeq1 8 ?_; refine Held.it ?_)
   | refine WPl.nil ?_ | refine WPq.then ?_ | refine WPq.thenR ?_ | refine WPq.thenE ?_ | refine WPq.blockN ?_ | refine WPq.blockR ?_ | refine WPq.blockE ?_ | refine WPq.blockO rfl ?_ | refine WPc.seq ?_ | refine WPc.block ?_ | refine WPc.ret ?_ | refine WPc.exit ?_ | refine WPc.skip ?_ | refine WPc.region ?_
   | (refine isReg 7 ?_; refine WPc.drA [([], [42, 43, 44, 45, 46, 47, 48, 49, 50, 51, 52]), ([], [41, 43, 47, 48, 49, 50, 51, 52]), ([], [41, 42, 47, 48, 49, 50, 51, 52]), ([1, 2], [41, 42, 43, 47, 48, 49, 50, 51, 52]), ([1, 2, 3], [41, 42, 43, 44, 47, 48, 49, 50, 51, 52]), ([1, 2, 3, 4], [41, 42, 43, 44, 45, 47, 48, 49, 50, 51, 52]), ([], [41, 42, 43, 44, 45, 46, 48]), ([], [41, 42, 43, 44, 45, 46, 47]), ([6, 7], [41, 42, 43, 44, 45, 46, 47, 48]), ([6, 7, 8], [41, 42, 43, 44, 45, 46, 47, 48, 49]), ([6, 7, 8, 9], [41, 42, 43, 44, 45, 46, 47, 48, 49, 50]), ([6, 7, 8, 9, 10], [41, 42, 43, 44, 45, 46, 47, 48, 49, 50, 51]), ([0, 1, 2, 3, 4, 5, 6, 7, 8, 9, 10, 11], [41, 42, 43, 44, 45, 46, 47, 48, 49, 50, 51, 52])] [] (Γx := []) ?_; dsimp only [prev0, List.length_nil, List.length_cons])
   | (refine isReg 21 ?_; refine WPc.drA [([], [98, 102, 103, 104, 105, 106]), ([], [97, 102, 103, 104, 105, 106]), ([0, 1], [97, 98, 102, 103, 104, 105, 106]), ([0, 1, 2], [97, 98, 99, 102, 103, 104, 105, 106]), ([0, 1, 2, 3], [97, 98, 99, 100, 102, 103, 104, 105, 106]), ([], [97, 98, 99, 100, 101, 103]), ([], [97, 98, 99, 100, 101, 102]), ([5, 6], [97, 98, 99, 100, 101, 102, 103]), ([5, 6, 7], [97, 98, 99, 100, 101, 102, 103, 104]), ([5, 6, 7, 8], [97, 98, 99, 100, 101, 102, 103, 104, 105]), ([0, 1, 2, 3, 4, 5, 6, 7, 8, 9], [97, 98, 99, 100, 101, 102, 103, 104, 105, 106])] [] (Γx := []) ?_; dsimp only [prev0, List.length_nil, List.length_cons])
   | (refine gAny ?_; first | (refine gD 21 ?_; refine RGl.rdX (fun e hk => by (try dsimp only [bndR, ensR, oksR, fcutR, List.append_nil, List.nil_append, List.cons_append, List.append_assoc] at hk ⊢); exact ReadR.binE rfl rfl (BinR.addK (by simp only [kmin]; omega) (by simp only [kmax]; omega)) (congrArg (Value.int .i64) hN)) ?_) | (refine gD 26 ?_; refine RGl.rdX (fun e hk => by (try dsimp only [bndR, ensR, oksR, fcutR, List.append_nil, List.nil_append, List.cons_append, List.append_assoc] at hk ⊢); exact readP) ?_) | (refine gOp ?_; first | refine RGl.rdA ?_ | refine RGl.rdX (fun e hk => by (try dsimp only [bndR, ensR, oksR, fcutR, List.append_nil, List.nil_append, List.cons_append, List.append_assoc] at hk ⊢); exact readB) ?_) | (refine RGl.fin (fun e hk => ?_); (try dsimp only [bndA, ensAR, oksA, List.append_nil, List.nil_append, List.cons_append, List.append_assoc] at hk ⊢); (repeat (obtain ⟨hk1, hk⟩ := hk))) | fail)
   | (refine isCond ?_; first | refine WPc.cT ?_ | refine WPc.cF ?_ | (refine WPc.cQ (fun hc => ?_) (fun hc => ?_) <;> try exact prA))
   | (refine isD 21 ?_; refine WPl.rdX (ReadR.binE rfl rfl (BinR.addK (by simp only [kmin]; omega) (by simp only [kmax]; omega)) (congrArg (Value.int .i64) hN)) ?_)
   | (refine isC 22 ?_; refine WPl.cXs (c0) fun v Γ1 hR => ?_; obtain ⟨gT, m, rfl, rfl⟩ := hR; (try dsimp only [putF, List.cons_append, List.nil_append]))
   | (refine isD 26 ?_; refine WPl.rdX (readP) ?_)
   | (refine isOp ?_; first | refine WPl.rd ?_ | refine WPl.sk ?_ | refine WPl.rdB ?_)
   | (refine isAl ?_; refine WPl.nw fun g => ?_)
   | (refine isSt ?_; first | refine WPl.st1 ?_ | refine WPl.stA ?_ | refine WPl.stEB ?_ | refine WPl.stRB ?_)
   | (show WPl _ _ _ _ _ _ _ (⟨_, .indexAddr _ _ _, _, _, _, _⟩ :: _) _; refine WPl.rdX (ReadR.indexE rfl rfl hasA (by first | assumption | omega)) ?_)
   | (show WPl _ _ _ _ _ _ _ (⟨_, .fieldAddr _ _ _, _, _, _, _⟩ :: _) _; refine WPl.rdX (ReadR.fieldE rfl hasA (by first | assumption | omega)) ?_)
   | (show WPl _ _ _ _ _ _ _ (⟨_, .load _ _, _, _, _, _⟩ :: _) _; first | refine WPl.rdX (ReadR.loadE rfl hasA (by assumption)) ?_ | refine WPl.rdX (ReadR.loadES (by assumption) (by first | assumption | omega) rfl hasA) ?_)
   | (show WPl _ _ _ _ _ _ _ (⟨_, .slice _ _ _ _ _, _, _, _, _⟩ :: _) _; first | refine WPl.rdX (ReadR.sliceH rfl rfl hasA (by omega)) ?_ | refine WPl.rdX (ReadR.sliceL rfl rfl hasA (by omega)) ?_ | refine WPl.rdX (ReadR.sliceLH rfl rfl rfl hasA (by omega) (by omega)) ?_)
   | (refine WPl.spQ (fun hc => ?_) (fun hc => ?_) <;> try exact prA)
   | fail)
  · skip
    first | refine WPc.loop (σ := Nat × TL × Int) (fun st => st.1 ≤ 80 ∧ SS n (AA l st.1) st.2.1 ∧ st.2.2 = totl (AA l st.1)) (fun st => [rdN vr l.length (ccs l), bx gT 155 (txc ((n : Nat) : Int) m st.2.2), mp hyM m st.2.1]) (fun st => [(0, .int .u8 ((cu.toNat : Nat) : Int)), (1, vr), (5, hPt gT), (7, .int .i64 st.1)]) (fun st => 80 - st.1) ((0, [], 0)) ?_ takesA frsA (fun st km hx hk => ?_)
    · exact ⟨Nat.zero_le _, ss0, totl0⟩
    obtain ⟨i, L, ta⟩ := st
    obtain ⟨hi, hS, hta⟩ := hx
    dsimp only at hi hS hta hk ⊢
    have hkm : km = 80 - i := hk
    clear hk
    refine WPc.mkeys (M := hyM) (m := m) (l := L) memA fun hnd hwf => ?_
    by_cases hin : i < l.length ∧ i < 80
    · obtain ⟨hil, hi80⟩ := hin
      obtain ⟨x, hx⟩ : ∃ x, l[i]? = some x := ⟨_, List.getElem?_eq_getElem hil⟩
      have hxp := ccs_p hx
      have hxn := ccs_n hx
      have hstep := AA_step hx
      obtain ⟨w1, w2, w3⟩ := hl x (List.mem_of_getElem? hx)
      have hbd := AA_all hl (i := i) hi x.1
      have hbd2 := AA_all hl (i := i + 1) (by omega) x.1
      obtain ⟨p, q⟩ := x
      dsimp only at w1 w2 w3 hxp hxn hstep hbd hbd2
      have l1 := p.1.len
      obtain ⟨nn, hnn⟩ : ∃ nn, q % 1000000 = nn := ⟨_, rfl⟩
      rw [hnn] at hstep
      have htot : wU (ta + nn) = totl (AA l (i + 1)) := by
        rw [hstep, totl_snoc] at hbd2 ⊢
        rw [← hta] at hbd2 ⊢
        exact wU_small (by omega) (by omega)
      have hta1 : ta + nn = totl (AA l (i + 1)) := by rw [hstep, totl_snoc, hta]
      have hn0 : 0 ≤ nn ∧ nn ≤ 999999 := by omega
      have hlt1 : i * 19 + 18 < (ccs l).length := by omega
      by_cases hz : nn = 0
      · subst hz
        have c1 := tadd0_t gT m ((n : Nat) : Int) ta L p
        repeat' (first
         | refine WPl.nil ?_ | refine WPq.then ?_ | refine WPq.thenR ?_ | refine WPq.thenE ?_ | refine WPq.blockN ?_ | refine WPq.blockR ?_ | refine WPq.blockE ?_ | refine WPq.blockO rfl ?_ | refine WPc.seq ?_ | refine WPc.block ?_ | refine WPc.ret ?_ | refine WPc.exit ?_ | refine WPc.skip ?_ | refine WPc.region ?_
         | (refine isReg 7 ?_; refine WPc.drA [([13, 14], [42, 43, 44, 45, 46, 47, 48, 49, 50, 51, 52]), ([13, 14], [41, 43, 47, 48, 49, 50, 51, 52]), ([13, 14], [41, 42, 47, 48, 49, 50, 51, 52]), ([1, 2, 13, 14], [41, 42, 43, 47, 48, 49, 50, 51, 52]), ([1, 2, 3, 13, 14], [41, 42, 43, 44, 47, 48, 49, 50, 51, 52]), ([1, 2, 3, 4, 13, 14], [41, 42, 43, 44, 45, 47, 48, 49, 50, 51, 52]), ([13, 14], [41, 42, 43, 44, 45, 46, 48]), ([13, 14], [41, 42, 43, 44, 45, 46, 47]), ([6, 7, 13, 14], [41, 42, 43, 44, 45, 46, 47, 48]), ([6, 7, 8, 13, 14], [41, 42, 43, 44, 45, 46, 47, 48, 49]), ([6, 7, 8, 9, 13, 14], [41, 42, 43, 44, 45, 46, 47, 48, 49, 50]), ([6, 7, 8, 9, 10, 13, 14], [41, 42, 43, 44, 45, 46, 47, 48, 49, 50, 51]), ([0, 1, 2, 3, 4, 5, 6, 7, 8, 9, 10, 11, 13, 14], [41, 42, 43, 44, 45, 46, 47, 48, 49, 50, 51, 52])] [(13, 12), (14, 12), (13, 0), (13, 1), (13, 2), (13, 3), (13, 4), (13, 5), (13, 6), (13, 7), (13, 8), (13, 9), (13, 10), (13, 11), (14, 0), (14, 1), (14, 2), (14, 3), (14, 4), (14, 5), (14, 6), (14, 7), (14, 8), (14, 9), (14, 10), (14, 11)] (Γx := [bx gT 155 (txc ((n : Nat) : Int) m ta), mp hyM m L]) (hox := ownsA) ?_; dsimp only [prev0, List.length_nil, List.length_cons])
         | (refine isReg 21 ?_; refine WPc.drA [([], [98, 102, 103, 104, 105, 106]), ([], [97, 102, 103, 104, 105, 106]), ([0, 1], [97, 98, 102, 103, 104, 105, 106]), ([0, 1, 2], [97, 98, 99, 102, 103, 104, 105, 106]), ([0, 1, 2, 3], [97, 98, 99, 100, 102, 103, 104, 105, 106]), ([], [97, 98, 99, 100, 101, 103]), ([], [97, 98, 99, 100, 101, 102]), ([5, 6], [97, 98, 99, 100, 101, 102, 103]), ([5, 6, 7], [97, 98, 99, 100, 101, 102, 103, 104]), ([5, 6, 7, 8], [97, 98, 99, 100, 101, 102, 103, 104, 105]), ([0, 1, 2, 3, 4, 5, 6, 7, 8, 9], [97, 98, 99, 100, 101, 102, 103, 104, 105, 106])] [] (Γx := []) ?_; dsimp only [prev0, List.length_nil, List.length_cons])
         | (refine gAny ?_; first | (refine gC 53 ?_; refine RGl.turns (fun e hk => by (try dsimp only [bndR, ensR, oksR, fcutR, List.append_nil, List.nil_append, List.cons_append, List.append_assoc] at hk ⊢); exact OpT.callTs (c1)) ?_) | (refine gD 44 ?_; refine RGl.rdX (fun e hk => by (try dsimp only [bndR, ensR, oksR, fcutR, List.append_nil, List.nil_append, List.cons_append, List.append_assoc] at hk ⊢); exact ReadR.indexE (i := i) rfl rfl hasA hil) ?_) | (refine gD 45 ?_; refine RGl.rdX (fun e hk => by (try dsimp only [bndR, ensR, oksR, fcutR, List.append_nil, List.nil_append, List.cons_append, List.append_assoc] at hk ⊢); exact ReadR.fieldE rfl hasA (by omega)) ?_) | (refine gD 46 ?_; refine RGl.rdX (fun e hk => by (try dsimp only [bndR, ensR, oksR, fcutR, List.append_nil, List.nil_append, List.cons_append, List.append_assoc] at hk ⊢); exact ReadR.loadES (cs := pfc p) hxp (by omega) rfl hasA) ?_) | (refine gD 49 ?_; refine RGl.rdX (fun e hk => by (try dsimp only [bndR, ensR, oksR, fcutR, List.append_nil, List.nil_append, List.cons_append, List.append_assoc] at hk ⊢); exact ReadR.indexE (i := i) rfl rfl hasA hil) ?_) | (refine gD 50 ?_; refine RGl.rdX (fun e hk => by (try dsimp only [bndR, ensR, oksR, fcutR, List.append_nil, List.nil_append, List.cons_append, List.append_assoc] at hk ⊢); exact ReadR.fieldE rfl hasA (by omega)) ?_) | (refine gD 51 ?_; refine RGl.rdX (fun e hk => by (try dsimp only [bndR, ensR, oksR, fcutR, List.append_nil, List.nil_append, List.cons_append, List.append_assoc] at hk ⊢); exact ReadR.loadE rfl hasA hxn) ?_) | (refine gD 52 ?_; refine RGl.rdX (fun e hk => by (try dsimp only [bndR, ensR, oksR, fcutR, List.append_nil, List.nil_append, List.cons_append, List.append_assoc] at hk ⊢); exact ReadR.binE rfl rfl (BinR.remK w2 (by omega)) (congrArg (Value.int .u64) hnn)) ?_) | (refine gOp ?_; first | refine RGl.rdA ?_ | refine RGl.rdX (fun e hk => by (try dsimp only [bndR, ensR, oksR, fcutR, List.append_nil, List.nil_append, List.cons_append, List.append_assoc] at hk ⊢); exact readB) ?_) | (refine RGl.fin (fun e hk => ?_); (try dsimp only [bndA, ensAR, oksA, List.append_nil, List.nil_append, List.cons_append, List.append_assoc] at hk ⊢); (repeat (obtain ⟨hk1, hk⟩ := hk))) | fail)
         | (refine isCond ?_; first | refine WPc.cT ?_ | refine WPc.cF ?_ | (refine WPc.cQ (fun hc => ?_) (fun hc => ?_) <;> try exact prA))
         | (refine isD 44 ?_; refine WPl.rdX (ReadR.indexE (i := i) rfl rfl hasA hil) ?_)
         | (refine isD 45 ?_; refine WPl.rdX (ReadR.fieldE rfl hasA (by omega)) ?_)
         | (refine isD 46 ?_; refine WPl.rdX (ReadR.loadES (cs := pfc p) hxp (by omega) rfl hasA) ?_)
         | (refine isD 49 ?_; refine WPl.rdX (ReadR.indexE (i := i) rfl rfl hasA hil) ?_)
         | (refine isD 50 ?_; refine WPl.rdX (ReadR.fieldE rfl hasA (by omega)) ?_)
         | (refine isD 51 ?_; refine WPl.rdX (ReadR.loadE rfl hasA hxn) ?_)
         | (refine isD 52 ?_; refine WPl.rdX (ReadR.binE rfl rfl (BinR.remK w2 (by omega)) (congrArg (Value.int .u64) hnn)) ?_)
         | (refine isC 53 ?_; refine WPl.cTs (c1) ?_; (try dsimp only [putF, List.cons_append, List.nil_append]))
         | (refine isOp ?_; first | refine WPl.rd ?_ | refine WPl.sk ?_ | refine WPl.rdB ?_)
         | (refine isAl ?_; refine WPl.nw fun g => ?_)
         | (refine isSt ?_; first | refine WPl.st1 ?_ | refine WPl.stA ?_ | refine WPl.stEB ?_ | refine WPl.stRB ?_)
         | (show WPl _ _ _ _ _ _ _ (⟨_, .indexAddr _ _ _, _, _, _, _⟩ :: _) _; refine WPl.rdX (ReadR.indexE rfl rfl hasA (by first | assumption | omega)) ?_)
         | (show WPl _ _ _ _ _ _ _ (⟨_, .fieldAddr _ _ _, _, _, _, _⟩ :: _) _; refine WPl.rdX (ReadR.fieldE rfl hasA (by first | assumption | omega)) ?_)
         | (show WPl _ _ _ _ _ _ _ (⟨_, .load _ _, _, _, _, _⟩ :: _) _; first | refine WPl.rdX (ReadR.loadE rfl hasA (by assumption)) ?_ | refine WPl.rdX (ReadR.loadES (by assumption) (by first | assumption | omega) rfl hasA) ?_)
         | (show WPl _ _ _ _ _ _ _ (⟨_, .slice _ _ _ _ _, _, _, _, _⟩ :: _) _; first | refine WPl.rdX (ReadR.sliceH rfl rfl hasA (by omega)) ?_ | refine WPl.rdX (ReadR.sliceL rfl rfl hasA (by omega)) ?_ | refine WPl.rdX (ReadR.sliceLH rfl rfl rfl hasA (by omega) (by omega)) ?_)
         | (refine WPl.spQ (fun hc => ?_) (fun hc => ?_) <;> try exact prA)
         | fail)
        all_goals first | exact WPq.rnd (i + 1, L, ta) ⟨by dsimp only; omega, by dsimp only; rw [hstep]; exact hS.zero, by dsimp only; omega⟩ (by dsimp only; omega) | (exfalso; omega) | trace_state
      · cases hb : mhas L p with
        | true =>
          obtain ⟨g, hg⟩ : ∃ g, mget hyM L p = g := ⟨_, rfl⟩
          have hmem := (mhas_iff hS.nd).1 hb
          rw [hg] at hmem
          have hgc := hS.cle hmem
          dsimp only at hgc
          have c1 := taddIs_t gT m ((n : Nat) : Int) ta L p nn w1 hz g hg hb
          rw [htot, show wU (g.c + nn) = g.c + nn from wU_small (by omega) (by omega)] at c1
          have hS2 := hS.is hn0.1 hmem
          rw [← hstep] at hS2
          repeat' (first
           | refine WPl.nil ?_ | refine WPq.then ?_ | refine WPq.thenR ?_ | refine WPq.thenE ?_ | refine WPq.blockN ?_ | refine WPq.blockR ?_ | refine WPq.blockE ?_ | refine WPq.blockO rfl ?_ | refine WPc.seq ?_ | refine WPc.block ?_ | refine WPc.ret ?_ | refine WPc.exit ?_ | refine WPc.skip ?_ | refine WPc.region ?_
           | (refine isReg 7 ?_; refine WPc.drA [([13, 14], [42, 43, 44, 45, 46, 47, 48, 49, 50, 51, 52]), ([13, 14], [41, 43, 47, 48, 49, 50, 51, 52]), ([13, 14], [41, 42, 47, 48, 49, 50, 51, 52]), ([1, 2, 13, 14], [41, 42, 43, 47, 48, 49, 50, 51, 52]), ([1, 2, 3, 13, 14], [41, 42, 43, 44, 47, 48, 49, 50, 51, 52]), ([1, 2, 3, 4, 13, 14], [41, 42, 43, 44, 45, 47, 48, 49, 50, 51, 52]), ([13, 14], [41, 42, 43, 44, 45, 46, 48]), ([13, 14], [41, 42, 43, 44, 45, 46, 47]), ([6, 7, 13, 14], [41, 42, 43, 44, 45, 46, 47, 48]), ([6, 7, 8, 13, 14], [41, 42, 43, 44, 45, 46, 47, 48, 49]), ([6, 7, 8, 9, 13, 14], [41, 42, 43, 44, 45, 46, 47, 48, 49, 50]), ([6, 7, 8, 9, 10, 13, 14], [41, 42, 43, 44, 45, 46, 47, 48, 49, 50, 51]), ([0, 1, 2, 3, 4, 5, 6, 7, 8, 9, 10, 11, 13, 14], [41, 42, 43, 44, 45, 46, 47, 48, 49, 50, 51, 52])] [(13, 12), (14, 12), (13, 0), (13, 1), (13, 2), (13, 3), (13, 4), (13, 5), (13, 6), (13, 7), (13, 8), (13, 9), (13, 10), (13, 11), (14, 0), (14, 1), (14, 2), (14, 3), (14, 4), (14, 5), (14, 6), (14, 7), (14, 8), (14, 9), (14, 10), (14, 11)] (Γx := [bx gT 155 (txc ((n : Nat) : Int) m ta), mp hyM m L]) (hox := ownsA) ?_; dsimp only [prev0, List.length_nil, List.length_cons])
           | (refine isReg 21 ?_; refine WPc.drA [([], [98, 102, 103, 104, 105, 106]), ([], [97, 102, 103, 104, 105, 106]), ([0, 1], [97, 98, 102, 103, 104, 105, 106]), ([0, 1, 2], [97, 98, 99, 102, 103, 104, 105, 106]), ([0, 1, 2, 3], [97, 98, 99, 100, 102, 103, 104, 105, 106]), ([], [97, 98, 99, 100, 101, 103]), ([], [97, 98, 99, 100, 101, 102]), ([5, 6], [97, 98, 99, 100, 101, 102, 103]), ([5, 6, 7], [97, 98, 99, 100, 101, 102, 103, 104]), ([5, 6, 7, 8], [97, 98, 99, 100, 101, 102, 103, 104, 105]), ([0, 1, 2, 3, 4, 5, 6, 7, 8, 9], [97, 98, 99, 100, 101, 102, 103, 104, 105, 106])] [] (Γx := []) ?_; dsimp only [prev0, List.length_nil, List.length_cons])
           | (refine gAny ?_; first | (refine gC 53 ?_; refine RGl.turns (fun e hk => by (try dsimp only [bndR, ensR, oksR, fcutR, List.append_nil, List.nil_append, List.cons_append, List.append_assoc] at hk ⊢); exact OpT.callTs (c1)) ?_) | (refine gD 44 ?_; refine RGl.rdX (fun e hk => by (try dsimp only [bndR, ensR, oksR, fcutR, List.append_nil, List.nil_append, List.cons_append, List.append_assoc] at hk ⊢); exact ReadR.indexE (i := i) rfl rfl hasA hil) ?_) | (refine gD 45 ?_; refine RGl.rdX (fun e hk => by (try dsimp only [bndR, ensR, oksR, fcutR, List.append_nil, List.nil_append, List.cons_append, List.append_assoc] at hk ⊢); exact ReadR.fieldE rfl hasA (by omega)) ?_) | (refine gD 46 ?_; refine RGl.rdX (fun e hk => by (try dsimp only [bndR, ensR, oksR, fcutR, List.append_nil, List.nil_append, List.cons_append, List.append_assoc] at hk ⊢); exact ReadR.loadES (cs := pfc p) hxp (by omega) rfl hasA) ?_) | (refine gD 49 ?_; refine RGl.rdX (fun e hk => by (try dsimp only [bndR, ensR, oksR, fcutR, List.append_nil, List.nil_append, List.cons_append, List.append_assoc] at hk ⊢); exact ReadR.indexE (i := i) rfl rfl hasA hil) ?_) | (refine gD 50 ?_; refine RGl.rdX (fun e hk => by (try dsimp only [bndR, ensR, oksR, fcutR, List.append_nil, List.nil_append, List.cons_append, List.append_assoc] at hk ⊢); exact ReadR.fieldE rfl hasA (by omega)) ?_) | (refine gD 51 ?_; refine RGl.rdX (fun e hk => by (try dsimp only [bndR, ensR, oksR, fcutR, List.append_nil, List.nil_append, List.cons_append, List.append_assoc] at hk ⊢); exact ReadR.loadE rfl hasA hxn) ?_) | (refine gD 52 ?_; refine RGl.rdX (fun e hk => by (try dsimp only [bndR, ensR, oksR, fcutR, List.append_nil, List.nil_append, List.cons_append, List.append_assoc] at hk ⊢); exact ReadR.binE rfl rfl (BinR.remK w2 (by omega)) (congrArg (Value.int .u64) hnn)) ?_) | (refine gOp ?_; first | refine RGl.rdA ?_ | refine RGl.rdX (fun e hk => by (try dsimp only [bndR, ensR, oksR, fcutR, List.append_nil, List.nil_append, List.cons_append, List.append_assoc] at hk ⊢); exact readB) ?_) | (refine RGl.fin (fun e hk => ?_); (try dsimp only [bndA, ensAR, oksA, List.append_nil, List.nil_append, List.cons_append, List.append_assoc] at hk ⊢); (repeat (obtain ⟨hk1, hk⟩ := hk))) | fail)
           | (refine isCond ?_; first | refine WPc.cT ?_ | refine WPc.cF ?_ | (refine WPc.cQ (fun hc => ?_) (fun hc => ?_) <;> try exact prA))
           | (refine isD 44 ?_; refine WPl.rdX (ReadR.indexE (i := i) rfl rfl hasA hil) ?_)
           | (refine isD 45 ?_; refine WPl.rdX (ReadR.fieldE rfl hasA (by omega)) ?_)
           | (refine isD 46 ?_; refine WPl.rdX (ReadR.loadES (cs := pfc p) hxp (by omega) rfl hasA) ?_)
           | (refine isD 49 ?_; refine WPl.rdX (ReadR.indexE (i := i) rfl rfl hasA hil) ?_)
           | (refine isD 50 ?_; refine WPl.rdX (ReadR.fieldE rfl hasA (by omega)) ?_)
           | (refine isD 51 ?_; refine WPl.rdX (ReadR.loadE rfl hasA hxn) ?_)
           | (refine isD 52 ?_; refine WPl.rdX (ReadR.binE rfl rfl (BinR.remK w2 (by omega)) (congrArg (Value.int .u64) hnn)) ?_)
           | (refine isC 53 ?_; refine WPl.cTs (c1) ?_; (try dsimp only [putF, List.cons_append, List.nil_append]))
           | (refine isOp ?_; first | refine WPl.rd ?_ | refine WPl.sk ?_ | refine WPl.rdB ?_)
           | (refine isAl ?_; refine WPl.nw fun g => ?_)
           | (refine isSt ?_; first | refine WPl.st1 ?_ | refine WPl.stA ?_ | refine WPl.stEB ?_ | refine WPl.stRB ?_)
           | (show WPl _ _ _ _ _ _ _ (⟨_, .indexAddr _ _ _, _, _, _, _⟩ :: _) _; refine WPl.rdX (ReadR.indexE rfl rfl hasA (by first | assumption | omega)) ?_)
           | (show WPl _ _ _ _ _ _ _ (⟨_, .fieldAddr _ _ _, _, _, _, _⟩ :: _) _; refine WPl.rdX (ReadR.fieldE rfl hasA (by first | assumption | omega)) ?_)
           | (show WPl _ _ _ _ _ _ _ (⟨_, .load _ _, _, _, _, _⟩ :: _) _; first | refine WPl.rdX (ReadR.loadE rfl hasA (by assumption)) ?_ | refine WPl.rdX (ReadR.loadES (by assumption) (by first | assumption | omega) rfl hasA) ?_)
           | (show WPl _ _ _ _ _ _ _ (⟨_, .slice _ _ _ _ _, _, _, _, _⟩ :: _) _; first | refine WPl.rdX (ReadR.sliceH rfl rfl hasA (by omega)) ?_ | refine WPl.rdX (ReadR.sliceL rfl rfl hasA (by omega)) ?_ | refine WPl.rdX (ReadR.sliceLH rfl rfl rfl hasA (by omega) (by omega)) ?_)
           | (refine WPl.spQ (fun hc => ?_) (fun hc => ?_) <;> try exact prA)
           | fail)
          all_goals first | exact WPq.rnd (i + 1, mput L p ⟨g.p, g.c + nn, g.o⟩, totl (AA l (i + 1))) ⟨by dsimp only; omega, hS2, rfl⟩ (by dsimp only; omega) | (exfalso; omega) | trace_state
        | false =>
          have hno := (mhas_iff hS.nd).2 hb
          by_cases hlen : L.length < n
          · have c1 := taddNew_t gT m ((n : Nat) : Int) ta L p nn w1 hz hb (by omega)
            rw [htot, show wU (0 + nn) = nn from by rw [Int.zero_add]; exact wU_small (by omega) (by omega)] at c1
            have hS2 := hS.new hn0.1 hno hlen
            rw [← hstep] at hS2
            repeat' (first
             | refine WPl.nil ?_ | refine WPq.then ?_ | refine WPq.thenR ?_ | refine WPq.thenE ?_ | refine WPq.blockN ?_ | refine WPq.blockR ?_ | refine WPq.blockE ?_ | refine WPq.blockO rfl ?_ | refine WPc.seq ?_ | refine WPc.block ?_ | refine WPc.ret ?_ | refine WPc.exit ?_ | refine WPc.skip ?_ | refine WPc.region ?_
             | (refine isReg 7 ?_; refine WPc.drA [([13, 14], [42, 43, 44, 45, 46, 47, 48, 49, 50, 51, 52]), ([13, 14], [41, 43, 47, 48, 49, 50, 51, 52]), ([13, 14], [41, 42, 47, 48, 49, 50, 51, 52]), ([1, 2, 13, 14], [41, 42, 43, 47, 48, 49, 50, 51, 52]), ([1, 2, 3, 13, 14], [41, 42, 43, 44, 47, 48, 49, 50, 51, 52]), ([1, 2, 3, 4, 13, 14], [41, 42, 43, 44, 45, 47, 48, 49, 50, 51, 52]), ([13, 14], [41, 42, 43, 44, 45, 46, 48]), ([13, 14], [41, 42, 43, 44, 45, 46, 47]), ([6, 7, 13, 14], [41, 42, 43, 44, 45, 46, 47, 48]), ([6, 7, 8, 13, 14], [41, 42, 43, 44, 45, 46, 47, 48, 49]), ([6, 7, 8, 9, 13, 14], [41, 42, 43, 44, 45, 46, 47, 48, 49, 50]), ([6, 7, 8, 9, 10, 13, 14], [41, 42, 43, 44, 45, 46, 47, 48, 49, 50, 51]), ([0, 1, 2, 3, 4, 5, 6, 7, 8, 9, 10, 11, 13, 14], [41, 42, 43, 44, 45, 46, 47, 48, 49, 50, 51, 52])] [(13, 12), (14, 12), (13, 0), (13, 1), (13, 2), (13, 3), (13, 4), (13, 5), (13, 6), (13, 7), (13, 8), (13, 9), (13, 10), (13, 11), (14, 0), (14, 1), (14, 2), (14, 3), (14, 4), (14, 5), (14, 6), (14, 7), (14, 8), (14, 9), (14, 10), (14, 11)] (Γx := [bx gT 155 (txc ((n : Nat) : Int) m ta), mp hyM m L]) (hox := ownsA) ?_; dsimp only [prev0, List.length_nil, List.length_cons])
             | (refine isReg 21 ?_; refine WPc.drA [([], [98, 102, 103, 104, 105, 106]), ([], [97, 102, 103, 104, 105, 106]), ([0, 1], [97, 98, 102, 103, 104, 105, 106]), ([0, 1, 2], [97, 98, 99, 102, 103, 104, 105, 106]), ([0, 1, 2, 3], [97, 98, 99, 100, 102, 103, 104, 105, 106]), ([], [97, 98, 99, 100, 101, 103]), ([], [97, 98, 99, 100, 101, 102]), ([5, 6], [97, 98, 99, 100, 101, 102, 103]), ([5, 6, 7], [97, 98, 99, 100, 101, 102, 103, 104]), ([5, 6, 7, 8], [97, 98, 99, 100, 101, 102, 103, 104, 105]), ([0, 1, 2, 3, 4, 5, 6, 7, 8, 9], [97, 98, 99, 100, 101, 102, 103, 104, 105, 106])] [] (Γx := []) ?_; dsimp only [prev0, List.length_nil, List.length_cons])
             | (refine gAny ?_; first | (refine gC 53 ?_; refine RGl.turns (fun e hk => by (try dsimp only [bndR, ensR, oksR, fcutR, List.append_nil, List.nil_append, List.cons_append, List.append_assoc] at hk ⊢); exact OpT.callTs (c1)) ?_) | (refine gD 44 ?_; refine RGl.rdX (fun e hk => by (try dsimp only [bndR, ensR, oksR, fcutR, List.append_nil, List.nil_append, List.cons_append, List.append_assoc] at hk ⊢); exact ReadR.indexE (i := i) rfl rfl hasA hil) ?_) | (refine gD 45 ?_; refine RGl.rdX (fun e hk => by (try dsimp only [bndR, ensR, oksR, fcutR, List.append_nil, List.nil_append, List.cons_append, List.append_assoc] at hk ⊢); exact ReadR.fieldE rfl hasA (by omega)) ?_) | (refine gD 46 ?_; refine RGl.rdX (fun e hk => by (try dsimp only [bndR, ensR, oksR, fcutR, List.append_nil, List.nil_append, List.cons_append, List.append_assoc] at hk ⊢); exact ReadR.loadES (cs := pfc p) hxp (by omega) rfl hasA) ?_) | (refine gD 49 ?_; refine RGl.rdX (fun e hk => by (try dsimp only [bndR, ensR, oksR, fcutR, List.append_nil, List.nil_append, List.cons_append, List.append_assoc] at hk ⊢); exact ReadR.indexE (i := i) rfl rfl hasA hil) ?_) | (refine gD 50 ?_; refine RGl.rdX (fun e hk => by (try dsimp only [bndR, ensR, oksR, fcutR, List.append_nil, List.nil_append, List.cons_append, List.append_assoc] at hk ⊢); exact ReadR.fieldE rfl hasA (by omega)) ?_) | (refine gD 51 ?_; refine RGl.rdX (fun e hk => by (try dsimp only [bndR, ensR, oksR, fcutR, List.append_nil, List.nil_append, List.cons_append, List.append_assoc] at hk ⊢); exact ReadR.loadE rfl hasA hxn) ?_) | (refine gD 52 ?_; refine RGl.rdX (fun e hk => by (try dsimp only [bndR, ensR, oksR, fcutR, List.append_nil, List.nil_append, List.cons_append, List.append_assoc] at hk ⊢); exact ReadR.binE rfl rfl (BinR.remK w2 (by omega)) (congrArg (Value.int .u64) hnn)) ?_) | (refine gOp ?_; first | refine RGl.rdA ?_ | refine RGl.rdX (fun e hk => by (try dsimp only [bndR, ensR, oksR, fcutR, List.append_nil, List.nil_append, List.cons_append, List.append_assoc] at hk ⊢); exact readB) ?_) | (refine RGl.fin (fun e hk => ?_); (try dsimp only [bndA, ensAR, oksA, List.append_nil, List.nil_append, List.cons_append, List.append_assoc] at hk ⊢); (repeat (obtain ⟨hk1, hk⟩ := hk))) | fail)
             | (refine isCond ?_; first | refine WPc.cT ?_ | refine WPc.cF ?_ | (refine WPc.cQ (fun hc => ?_) (fun hc => ?_) <;> try exact prA))
             | (refine isD 44 ?_; refine WPl.rdX (ReadR.indexE (i := i) rfl rfl hasA hil) ?_)
             | (refine isD 45 ?_; refine WPl.rdX (ReadR.fieldE rfl hasA (by omega)) ?_)
             | (refine isD 46 ?_; refine WPl.rdX (ReadR.loadES (cs := pfc p) hxp (by omega) rfl hasA) ?_)
             | (refine isD 49 ?_; refine WPl.rdX (ReadR.indexE (i := i) rfl rfl hasA hil) ?_)
             | (refine isD 50 ?_; refine WPl.rdX (ReadR.fieldE rfl hasA (by omega)) ?_)
             | (refine isD 51 ?_; refine WPl.rdX (ReadR.loadE rfl hasA hxn) ?_)
             | (refine isD 52 ?_; refine WPl.rdX (ReadR.binE rfl rfl (BinR.remK w2 (by omega)) (congrArg (Value.int .u64) hnn)) ?_)
             | (refine isC 53 ?_; refine WPl.cTs (c1) ?_; (try dsimp only [putF, List.cons_append, List.nil_append]))
             | (refine isOp ?_; first | refine WPl.rd ?_ | refine WPl.sk ?_ | refine WPl.rdB ?_)
             | (refine isAl ?_; refine WPl.nw fun g => ?_)
             | (refine isSt ?_; first | refine WPl.st1 ?_ | refine WPl.stA ?_ | refine WPl.stEB ?_ | refine WPl.stRB ?_)
             | (show WPl _ _ _ _ _ _ _ (⟨_, .indexAddr _ _ _, _, _, _, _⟩ :: _) _; refine WPl.rdX (ReadR.indexE rfl rfl hasA (by first | assumption | omega)) ?_)
             | (show WPl _ _ _ _ _ _ _ (⟨_, .fieldAddr _ _ _, _, _, _, _⟩ :: _) _; refine WPl.rdX (ReadR.fieldE rfl hasA (by first | assumption | omega)) ?_)
             | (show WPl _ _ _ _ _ _ _ (⟨_, .load _ _, _, _, _, _⟩ :: _) _; first | refine WPl.rdX (ReadR.loadE rfl hasA (by assumption)) ?_ | refine WPl.rdX (ReadR.loadES (by assumption) (by first | assumption | omega) rfl hasA) ?_)
             | (show WPl _ _ _ _ _ _ _ (⟨_, .slice _ _ _ _ _, _, _, _, _⟩ :: _) _; first | refine WPl.rdX (ReadR.sliceH rfl rfl hasA (by omega)) ?_ | refine WPl.rdX (ReadR.sliceL rfl rfl hasA (by omega)) ?_ | refine WPl.rdX (ReadR.sliceLH rfl rfl rfl hasA (by omega) (by omega)) ?_)
             | (refine WPl.spQ (fun hc => ?_) (fun hc => ?_) <;> try exact prA)
             | fail)
            all_goals first | exact WPq.rnd (i + 1, mput L p ⟨p, nn, 0⟩, totl (AA l (i + 1))) ⟨by dsimp only; omega, hS2, rfl⟩ (by dsimp only; omega) | (exfalso; omega) | trace_state
          · have hne : L ≠ [] := by rintro rfl; simp at hlen; omega
            have hlz := lz_least hne
            obtain ⟨z, hz1, hz2⟩ : ∃ x ∈ L, lz L = x.2 := by
              have h9 := hlz
              unfold isLeast at h9
              exact h9.1
            have hgc := hS.cle hz1
            rw [← hz2] at hgc
            have c1 := taddGoneT_t gT m ((n : Nat) : Int) ta L p nn w1 hz hb (by omega) hne hwf hnd hS.ti
            rw [htot, show wU ((lz L).c + nn) = (lz L).c + nn from wU_small (by omega) (by omega)] at c1
            have hS2 := hS.gone hn0.1 hbd.1 hno hlen hlz
            rw [← hstep] at hS2
            obtain ⟨L2, hL2⟩ : ∃ L2, L2 = mput (mdel L (lz L).p) p ⟨p, (lz L).c + nn, (lz L).c⟩ := ⟨_, rfl⟩
            rw [← hL2] at c1 hS2
            repeat' (first
             | refine WPl.nil ?_ | refine WPq.then ?_ | refine WPq.thenR ?_ | refine WPq.thenE ?_ | refine WPq.blockN ?_ | refine WPq.blockR ?_ | refine WPq.blockE ?_ | refine WPq.blockO rfl ?_ | refine WPc.seq ?_ | refine WPc.block ?_ | refine WPc.ret ?_ | refine WPc.exit ?_ | refine WPc.skip ?_ | refine WPc.region ?_
             | (refine isReg 7 ?_; refine WPc.drA [([13, 14], [42, 43, 44, 45, 46, 47, 48, 49, 50, 51, 52]), ([13, 14], [41, 43, 47, 48, 49, 50, 51, 52]), ([13, 14], [41, 42, 47, 48, 49, 50, 51, 52]), ([1, 2, 13, 14], [41, 42, 43, 47, 48, 49, 50, 51, 52]), ([1, 2, 3, 13, 14], [41, 42, 43, 44, 47, 48, 49, 50, 51, 52]), ([1, 2, 3, 4, 13, 14], [41, 42, 43, 44, 45, 47, 48, 49, 50, 51, 52]), ([13, 14], [41, 42, 43, 44, 45, 46, 48]), ([13, 14], [41, 42, 43, 44, 45, 46, 47]), ([6, 7, 13, 14], [41, 42, 43, 44, 45, 46, 47, 48]), ([6, 7, 8, 13, 14], [41, 42, 43, 44, 45, 46, 47, 48, 49]), ([6, 7, 8, 9, 13, 14], [41, 42, 43, 44, 45, 46, 47, 48, 49, 50]), ([6, 7, 8, 9, 10, 13, 14], [41, 42, 43, 44, 45, 46, 47, 48, 49, 50, 51]), ([0, 1, 2, 3, 4, 5, 6, 7, 8, 9, 10, 11, 13, 14], [41, 42, 43, 44, 45, 46, 47, 48, 49, 50, 51, 52])] [(13, 12), (14, 12), (13, 0), (13, 1), (13, 2), (13, 3), (13, 4), (13, 5), (13, 6), (13, 7), (13, 8), (13, 9), (13, 10), (13, 11), (14, 0), (14, 1), (14, 2), (14, 3), (14, 4), (14, 5), (14, 6), (14, 7), (14, 8), (14, 9), (14, 10), (14, 11)] (Γx := [bx gT 155 (txc ((n : Nat) : Int) m ta), mp hyM m L]) (hox := ownsA) ?_; dsimp only [prev0, List.length_nil, List.length_cons])
             | (refine isReg 21 ?_; refine WPc.drA [([], [98, 102, 103, 104, 105, 106]), ([], [97, 102, 103, 104, 105, 106]), ([0, 1], [97, 98, 102, 103, 104, 105, 106]), ([0, 1, 2], [97, 98, 99, 102, 103, 104, 105, 106]), ([0, 1, 2, 3], [97, 98, 99, 100, 102, 103, 104, 105, 106]), ([], [97, 98, 99, 100, 101, 103]), ([], [97, 98, 99, 100, 101, 102]), ([5, 6], [97, 98, 99, 100, 101, 102, 103]), ([5, 6, 7], [97, 98, 99, 100, 101, 102, 103, 104]), ([5, 6, 7, 8], [97, 98, 99, 100, 101, 102, 103, 104, 105]), ([0, 1, 2, 3, 4, 5, 6, 7, 8, 9], [97, 98, 99, 100, 101, 102, 103, 104, 105, 106])] [] (Γx := []) ?_; dsimp only [prev0, List.length_nil, List.length_cons])
             | (refine gAny ?_; first | (refine gC 53 ?_; refine RGl.turns (fun e hk => by (try dsimp only [bndR, ensR, oksR, fcutR, List.append_nil, List.nil_append, List.cons_append, List.append_assoc] at hk ⊢); exact OpT.callTs (c1)) ?_) | (refine gD 44 ?_; refine RGl.rdX (fun e hk => by (try dsimp only [bndR, ensR, oksR, fcutR, List.append_nil, List.nil_append, List.cons_append, List.append_assoc] at hk ⊢); exact ReadR.indexE (i := i) rfl rfl hasA hil) ?_) | (refine gD 45 ?_; refine RGl.rdX (fun e hk => by (try dsimp only [bndR, ensR, oksR, fcutR, List.append_nil, List.nil_append, List.cons_append, List.append_assoc] at hk ⊢); exact ReadR.fieldE rfl hasA (by omega)) ?_) | (refine gD 46 ?_; refine RGl.rdX (fun e hk => by (try dsimp only [bndR, ensR, oksR, fcutR, List.append_nil, List.nil_append, List.cons_append, List.append_assoc] at hk ⊢); exact ReadR.loadES (cs := pfc p) hxp (by omega) rfl hasA) ?_) | (refine gD 49 ?_; refine RGl.rdX (fun e hk => by (try dsimp only [bndR, ensR, oksR, fcutR, List.append_nil, List.nil_append, List.cons_append, List.append_assoc] at hk ⊢); exact ReadR.indexE (i := i) rfl rfl hasA hil) ?_) | (refine gD 50 ?_; refine RGl.rdX (fun e hk => by (try dsimp only [bndR, ensR, oksR, fcutR, List.append_nil, List.nil_append, List.cons_append, List.append_assoc] at hk ⊢); exact ReadR.fieldE rfl hasA (by omega)) ?_) | (refine gD 51 ?_; refine RGl.rdX (fun e hk => by (try dsimp only [bndR, ensR, oksR, fcutR, List.append_nil, List.nil_append, List.cons_append, List.append_assoc] at hk ⊢); exact ReadR.loadE rfl hasA hxn) ?_) | (refine gD 52 ?_; refine RGl.rdX (fun e hk => by (try dsimp only [bndR, ensR, oksR, fcutR, List.append_nil, List.nil_append, List.cons_append, List.append_assoc] at hk ⊢); exact ReadR.binE rfl rfl (BinR.remK w2 (by omega)) (congrArg (Value.int .u64) hnn)) ?_) | (refine gOp ?_; first | refine RGl.rdA ?_ | refine RGl.rdX (fun e hk => by (try dsimp only [bndR, ensR, oksR, fcutR, List.append_nil, List.nil_append, List.cons_append, List.append_assoc] at hk ⊢); exact readB) ?_) | (refine RGl.fin (fun e hk => ?_); (try dsimp only [bndA, ensAR, oksA, List.append_nil, List.nil_append, List.cons_append, List.append_assoc] at hk ⊢); (repeat (obtain ⟨hk1, hk⟩ := hk))) | fail)
             | (refine isCond ?_; first | refine WPc.cT ?_ | refine WPc.cF ?_ | (refine WPc.cQ (fun hc => ?_) (fun hc => ?_) <;> try exact prA))
             | (refine isD 44 ?_; refine WPl.rdX (ReadR.indexE (i := i) rfl rfl hasA hil) ?_)
             | (refine isD 45 ?_; refine WPl.rdX (ReadR.fieldE rfl hasA (by omega)) ?_)
             | (refine isD 46 ?_; refine WPl.rdX (ReadR.loadES (cs := pfc p) hxp (by omega) rfl hasA) ?_)
             | (refine isD 49 ?_; refine WPl.rdX (ReadR.indexE (i := i) rfl rfl hasA hil) ?_)
             | (refine isD 50 ?_; refine WPl.rdX (ReadR.fieldE rfl hasA (by omega)) ?_)
             | (refine isD 51 ?_; refine WPl.rdX (ReadR.loadE rfl hasA hxn) ?_)
             | (refine isD 52 ?_; refine WPl.rdX (ReadR.binE rfl rfl (BinR.remK w2 (by omega)) (congrArg (Value.int .u64) hnn)) ?_)
             | (refine isC 53 ?_; refine WPl.cTs (c1) ?_; (try dsimp only [putF, List.cons_append, List.nil_append]))
             | (refine isOp ?_; first | refine WPl.rd ?_ | refine WPl.sk ?_ | refine WPl.rdB ?_)
             | (refine isAl ?_; refine WPl.nw fun g => ?_)
             | (refine isSt ?_; first | refine WPl.st1 ?_ | refine WPl.stA ?_ | refine WPl.stEB ?_ | refine WPl.stRB ?_)
             | (show WPl _ _ _ _ _ _ _ (⟨_, .indexAddr _ _ _, _, _, _, _⟩ :: _) _; refine WPl.rdX (ReadR.indexE rfl rfl hasA (by first | assumption | omega)) ?_)
             | (show WPl _ _ _ _ _ _ _ (⟨_, .fieldAddr _ _ _, _, _, _, _⟩ :: _) _; refine WPl.rdX (ReadR.fieldE rfl hasA (by first | assumption | omega)) ?_)
             | (show WPl _ _ _ _ _ _ _ (⟨_, .load _ _, _, _, _, _⟩ :: _) _; first | refine WPl.rdX (ReadR.loadE rfl hasA (by assumption)) ?_ | refine WPl.rdX (ReadR.loadES (by assumption) (by first | assumption | omega) rfl hasA) ?_)
             | (show WPl _ _ _ _ _ _ _ (⟨_, .slice _ _ _ _ _, _, _, _, _⟩ :: _) _; first | refine WPl.rdX (ReadR.sliceH rfl rfl hasA (by omega)) ?_ | refine WPl.rdX (ReadR.sliceL rfl rfl hasA (by omega)) ?_ | refine WPl.rdX (ReadR.sliceLH rfl rfl rfl hasA (by omega) (by omega)) ?_)
             | (refine WPl.spQ (fun hc => ?_) (fun hc => ?_) <;> try exact prA)
             | fail)
            all_goals first | exact WPq.rnd (i + 1, L2, totl (AA l (i + 1))) ⟨by dsimp only; omega, hS2, rfl⟩ (by dsimp only; omega) | (exfalso; omega) | trace_state
    · skip
      repeat' (first
       | refine WPl.nil ?_ | refine WPq.then ?_ | refine WPq.thenR ?_ | refine WPq.thenE ?_ | refine WPq.blockN ?_ | refine WPq.blockR ?_ | refine WPq.blockE ?_ | refine WPq.blockO rfl ?_ | refine WPc.seq ?_ | refine WPc.block ?_ | refine WPc.ret ?_ | refine WPc.exit ?_ | refine WPc.skip ?_ | refine WPc.region ?_
       | (refine isReg 7 ?_; refine WPc.drA [([], [42, 43, 44, 45, 46, 47, 48, 49, 50, 51, 52]), ([], [41, 43, 47, 48, 49, 50, 51, 52]), ([], [41, 42, 47, 48, 49, 50, 51, 52]), ([1, 2], [41, 42, 43, 47, 48, 49, 50, 51, 52]), ([1, 2, 3], [41, 42, 43, 44, 47, 48, 49, 50, 51, 52]), ([1, 2, 3, 4], [41, 42, 43, 44, 45, 47, 48, 49, 50, 51, 52]), ([], [41, 42, 43, 44, 45, 46, 48]), ([], [41, 42, 43, 44, 45, 46, 47]), ([6, 7], [41, 42, 43, 44, 45, 46, 47, 48]), ([6, 7, 8], [41, 42, 43, 44, 45, 46, 47, 48, 49]), ([6, 7, 8, 9], [41, 42, 43, 44, 45, 46, 47, 48, 49, 50]), ([6, 7, 8, 9, 10], [41, 42, 43, 44, 45, 46, 47, 48, 49, 50, 51]), ([0, 1, 2, 3, 4, 5, 6, 7, 8, 9, 10, 11], [41, 42, 43, 44, 45, 46, 47, 48, 49, 50, 51, 52])] [] (Γx := []) ?_; dsimp only [prev0, List.length_nil, List.length_cons])
       | (refine isReg 21 ?_; refine WPc.drA [([], [98, 102, 103, 104, 105, 106]), ([], [97, 102, 103, 104, 105, 106]), ([0, 1], [97, 98, 102, 103, 104, 105, 106]), ([0, 1, 2], [97, 98, 99, 102, 103, 104, 105, 106]), ([0, 1, 2, 3], [97, 98, 99, 100, 102, 103, 104, 105, 106]), ([], [97, 98, 99, 100, 101, 103]), ([], [97, 98, 99, 100, 101, 102]), ([5, 6], [97, 98, 99, 100, 101, 102, 103]), ([5, 6, 7], [97, 98, 99, 100, 101, 102, 103, 104]), ([5, 6, 7, 8], [97, 98, 99, 100, 101, 102, 103, 104, 105]), ([0, 1, 2, 3, 4, 5, 6, 7, 8, 9], [97, 98, 99, 100, 101, 102, 103, 104, 105, 106])] [] (Γx := []) ?_; dsimp only [prev0, List.length_nil, List.length_cons])
       | (refine gAny ?_; first | (refine gOp ?_; first | refine RGl.rdA ?_ | refine RGl.rdX (fun e hk => by (try dsimp only [bndR, ensR, oksR, fcutR, List.append_nil, List.nil_append, List.cons_append, List.append_assoc] at hk ⊢); exact readB) ?_) | (refine RGl.fin (fun e hk => ?_); (try dsimp only [bndA, ensAR, oksA, List.append_nil, List.nil_append, List.cons_append, List.append_assoc] at hk ⊢); (repeat (obtain ⟨hk1, hk⟩ := hk))) | fail)
       | (refine isCond ?_; first | refine WPc.cT ?_ | refine WPc.cF ?_ | (refine WPc.cQ (fun hc => ?_) (fun hc => ?_) <;> try exact prA))
       | (refine isOp ?_; first | refine WPl.rd ?_ | refine WPl.sk ?_ | refine WPl.rdB ?_)
       | (refine isAl ?_; refine WPl.nw fun g => ?_)
       | (refine isSt ?_; first | refine WPl.st1 ?_ | refine WPl.stA ?_ | refine WPl.stEB ?_ | refine WPl.stRB ?_)
       | (show WPl _ _ _ _ _ _ _ (⟨_, .indexAddr _ _ _, _, _, _, _⟩ :: _) _; refine WPl.rdX (ReadR.indexE rfl rfl hasA (by first | assumption | omega)) ?_)
       | (show WPl _ _ _ _ _ _ _ (⟨_, .fieldAddr _ _ _, _, _, _, _⟩ :: _) _; refine WPl.rdX (ReadR.fieldE rfl hasA (by first | assumption | omega)) ?_)
       | (show WPl _ _ _ _ _ _ _ (⟨_, .load _ _, _, _, _, _⟩ :: _) _; first | refine WPl.rdX (ReadR.loadE rfl hasA (by assumption)) ?_ | refine WPl.rdX (ReadR.loadES (by assumption) (by first | assumption | omega) rfl hasA) ?_)
       | (show WPl _ _ _ _ _ _ _ (⟨_, .slice _ _ _ _ _, _, _, _, _⟩ :: _) _; first | refine WPl.rdX (ReadR.sliceH rfl rfl hasA (by omega)) ?_ | refine WPl.rdX (ReadR.sliceL rfl rfl hasA (by omega)) ?_ | refine WPl.rdX (ReadR.sliceLH rfl rfl rfl hasA (by omega) (by omega)) ?_)
       | (refine WPl.spQ (fun hc => ?_) (fun hc => ?_) <;> try exact prA)
       | fail)
      all_goals first | exact WPq.join (L, ta) ⟨by dsimp only; rw [← AA_end (l := l) (i := i) (by omega)]; exact hS, by dsimp only; rw [← AA_end (l := l) (i := i) (by omega)]; exact hta⟩ | (exfalso; omega)
  obtain ⟨L, ta⟩ := st
  obtain ⟨hS, hta⟩ := hx
  dsimp only at hS hta ⊢
  have c2 := tList_t gT m ((n : Nat) : Int) ta L 1000 (by have := hS.len; omega)
  have hL12 := hS.len
  have htb := AA_all hl (i := 80) (Nat.le_refl _) pb1
  refine ⟨?_⟩
  repeat' (first
   | refine WPl.nil ?_ | refine WPq.then ?_ | refine WPq.thenR ?_ | refine WPq.thenE ?_ | refine WPq.blockN ?_ | refine WPq.blockR ?_ | refine WPq.blockE ?_ | refine WPq.blockO rfl ?_ | refine WPc.seq ?_ | refine WPc.block ?_ | refine WPc.ret ?_ | refine WPc.exit ?_ | refine WPc.skip ?_ | refine WPc.region ?_
   | (refine isReg 7 ?_; refine WPc.drA [([], [42, 43, 44, 45, 46, 47, 48, 49, 50, 51, 52]), ([], [41, 43, 47, 48, 49, 50, 51, 52]), ([], [41, 42, 47, 48, 49, 50, 51, 52]), ([1, 2], [41, 42, 43, 47, 48, 49, 50, 51, 52]), ([1, 2, 3], [41, 42, 43, 44, 47, 48, 49, 50, 51, 52]), ([1, 2, 3, 4], [41, 42, 43, 44, 45, 47, 48, 49, 50, 51, 52]), ([], [41, 42, 43, 44, 45, 46, 48]), ([], [41, 42, 43, 44, 45, 46, 47]), ([6, 7], [41, 42, 43, 44, 45, 46, 47, 48]), ([6, 7, 8], [41, 42, 43, 44, 45, 46, 47, 48, 49]), ([6, 7, 8, 9], [41, 42, 43, 44, 45, 46, 47, 48, 49, 50]), ([6, 7, 8, 9, 10], [41, 42, 43, 44, 45, 46, 47, 48, 49, 50, 51]), ([0, 1, 2, 3, 4, 5, 6, 7, 8, 9, 10, 11], [41, 42, 43, 44, 45, 46, 47, 48, 49, 50, 51, 52])] [] (Γx := []) ?_; dsimp only [prev0, List.length_nil, List.length_cons])
   | (refine isReg 21 ?_; refine WPc.drA [([], [98, 102, 103, 104, 105, 106]), ([], [97, 102, 103, 104, 105, 106]), ([0, 1], [97, 98, 102, 103, 104, 105, 106]), ([0, 1, 2], [97, 98, 99, 102, 103, 104, 105, 106]), ([0, 1, 2, 3], [97, 98, 99, 100, 102, 103, 104, 105, 106]), ([], [97, 98, 99, 100, 101, 103]), ([], [97, 98, 99, 100, 101, 102]), ([5, 6], [97, 98, 99, 100, 101, 102, 103]), ([5, 6, 7], [97, 98, 99, 100, 101, 102, 103, 104]), ([5, 6, 7, 8], [97, 98, 99, 100, 101, 102, 103, 104, 105]), ([0, 1, 2, 3, 4, 5, 6, 7, 8, 9], [97, 98, 99, 100, 101, 102, 103, 104, 105, 106])] [] (Γx := []) ?_; dsimp only [prev0, List.length_nil, List.length_cons])
   | (refine gAny ?_; first | (refine gOp ?_; first | refine RGl.rdA ?_ | refine RGl.rdX (fun e hk => by (try dsimp only [bndR, ensR, oksR, fcutR, List.append_nil, List.nil_append, List.cons_append, List.append_assoc] at hk ⊢); exact readB) ?_) | (refine RGl.fin (fun e hk => ?_); (try dsimp only [bndA, ensAR, oksA, List.append_nil, List.nil_append, List.cons_append, List.append_assoc] at hk ⊢); (repeat (obtain ⟨hk1, hk⟩ := hk))) | fail)
   | (refine isCond ?_; first | refine WPc.cT ?_ | refine WPc.cF ?_ | (refine WPc.cQ (fun hc => ?_) (fun hc => ?_) <;> try exact prA))
   | (refine isC 55 ?_; refine WPl.cXs (c2) fun w8 Γ1 hR => ?_; obtain ⟨o, hw8, rfl, hpo, hso⟩ := hR; (have hol : o.length = L.length := (by have := hpo.length_eq; simpa using this)); (rw [show o.take (1000 : Int).toNat = o from List.take_of_length_le (by have : (1000 : Int).toNat = 1000 := rfl; omega)]); (try dsimp only [putF, List.cons_append, List.nil_append]))
   | (refine isOp ?_; first | refine WPl.rd ?_ | refine WPl.sk ?_ | refine WPl.rdB ?_)
   | (refine isAl ?_; refine WPl.nw fun g => ?_)
   | (refine isSt ?_; first | refine WPl.st1 ?_ | refine WPl.stA ?_ | refine WPl.stEB ?_ | refine WPl.stRB ?_)
   | (show WPl _ _ _ _ _ _ _ (⟨_, .indexAddr _ _ _, _, _, _, _⟩ :: _) _; refine WPl.rdX (ReadR.indexE rfl rfl hasA (by first | assumption | omega)) ?_)
   | (show WPl _ _ _ _ _ _ _ (⟨_, .fieldAddr _ _ _, _, _, _, _⟩ :: _) _; refine WPl.rdX (ReadR.fieldE rfl hasA (by first | assumption | omega)) ?_)
   | (show WPl _ _ _ _ _ _ _ (⟨_, .load _ _, _, _, _, _⟩ :: _) _; first | refine WPl.rdX (ReadR.loadE rfl hasA (by assumption)) ?_ | refine WPl.rdX (ReadR.loadES (by assumption) (by first | assumption | omega) rfl hasA) ?_)
   | (show WPl _ _ _ _ _ _ _ (⟨_, .slice _ _ _ _ _, _, _, _, _⟩ :: _) _; first | refine WPl.rdX (ReadR.sliceH rfl rfl hasA (by omega)) ?_ | refine WPl.rdX (ReadR.sliceL rfl rfl hasA (by omega)) ?_ | refine WPl.rdX (ReadR.sliceLH rfl rfl rfl hasA (by omega) (by omega)) ?_)
   | (refine WPl.spQ (fun hc => ?_) (fun hc => ?_) <;> try exact prA)
   | fail)
  have hoc : ∀ h ∈ o, ∃ x ∈ L, h = x.2 := fun h hh => by
    obtain ⟨x, hx, e⟩ := List.mem_map.1 (hpo.mem_iff.1 hh)
    exact ⟨x, hx, e.symm⟩
  have hop : ∀ c ∈ o.map (·.c), 0 ≤ c := fun c hc => by
    obtain ⟨h, hh, rfl⟩ := List.mem_map.1 hc
    obtain ⟨x, hx, rfl⟩ := hoc h hh
    exact (hS.cle hx).1
  have hsum : (o.map (·.c)).sum = totl (AA l 80) := by
    rw [← hS.sum, sum_perm (hpo.map (·.c)), List.map_map]; rfl
  have hol2 := hys_len (l := o)
  clear c2 c0
  first | refine WPc.loop (σ := Nat × Int) (fun st => st.1 ≤ o.length ∧ st.2 = ((o.map (·.c)).take st.1).sum) (fun st => [rowN 97 20 w8 o.length (hys o), bx gT 155 (txc ((n : Nat) : Int) m ta), mp hyM m L, rdN vr l.length (ccs l)]) (fun st => [(0, .int .u8 ((cu.toNat : Nat) : Int)), (1, vr), (5, hPt gT), (8, w8), (9, .int .u64 0), (10, .int .u64 st.2), (11, .int .i64 st.1)]) (fun st => o.length - st.1) ((0, 0)) ?_ takesA frsA (fun st km hx hk => ?_)
  · exact ⟨Nat.zero_le _, rfl⟩
  obtain ⟨j, sm⟩ := st
  obtain ⟨hj, hsm⟩ := hx
  dsimp only at hj hsm hk ⊢
  have hkm : km = o.length - j := hk
  clear hk
  by_cases hjo : j < o.length
  · obtain ⟨h, hh⟩ : ∃ h, o[j]? = some h := ⟨_, List.getElem?_eq_getElem hjo⟩
    have hhc := hys_c hh
    have hst : ((o.map (·.c)).take (j + 1)).sum = sm + h.c := by
      rw [List.take_add_one, List.getElem?_map, hh, hsm]; simp
    have hb1 := sumT_le hop (j + 1)
    rw [hst, hsum] at hb1
    repeat' (first
     | refine WPl.nil ?_ | refine WPq.then ?_ | refine WPq.thenR ?_ | refine WPq.thenE ?_ | refine WPq.blockN ?_ | refine WPq.blockR ?_ | refine WPq.blockE ?_ | refine WPq.blockO rfl ?_ | refine WPc.seq ?_ | refine WPc.block ?_ | refine WPc.ret ?_ | refine WPc.exit ?_ | refine WPc.skip ?_ | refine WPc.region ?_
     | (refine isReg 7 ?_; refine WPc.drA [([], [42, 43, 44, 45, 46, 47, 48, 49, 50, 51, 52]), ([], [41, 43, 47, 48, 49, 50, 51, 52]), ([], [41, 42, 47, 48, 49, 50, 51, 52]), ([1, 2], [41, 42, 43, 47, 48, 49, 50, 51, 52]), ([1, 2, 3], [41, 42, 43, 44, 47, 48, 49, 50, 51, 52]), ([1, 2, 3, 4], [41, 42, 43, 44, 45, 47, 48, 49, 50, 51, 52]), ([], [41, 42, 43, 44, 45, 46, 48]), ([], [41, 42, 43, 44, 45, 46, 47]), ([6, 7], [41, 42, 43, 44, 45, 46, 47, 48]), ([6, 7, 8], [41, 42, 43, 44, 45, 46, 47, 48, 49]), ([6, 7, 8, 9], [41, 42, 43, 44, 45, 46, 47, 48, 49, 50]), ([6, 7, 8, 9, 10], [41, 42, 43, 44, 45, 46, 47, 48, 49, 50, 51]), ([0, 1, 2, 3, 4, 5, 6, 7, 8, 9, 10, 11], [41, 42, 43, 44, 45, 46, 47, 48, 49, 50, 51, 52])] [] (Γx := []) ?_; dsimp only [prev0, List.length_nil, List.length_cons])
     | (refine isReg 21 ?_; refine WPc.drA [([], [98, 102, 103, 104, 105, 106]), ([], [97, 102, 103, 104, 105, 106]), ([0, 1], [97, 98, 102, 103, 104, 105, 106]), ([0, 1, 2], [97, 98, 99, 102, 103, 104, 105, 106]), ([0, 1, 2, 3], [97, 98, 99, 100, 102, 103, 104, 105, 106]), ([], [97, 98, 99, 100, 101, 103]), ([], [97, 98, 99, 100, 101, 102]), ([5, 6], [97, 98, 99, 100, 101, 102, 103]), ([5, 6, 7], [97, 98, 99, 100, 101, 102, 103, 104]), ([5, 6, 7, 8], [97, 98, 99, 100, 101, 102, 103, 104, 105]), ([0, 1, 2, 3, 4, 5, 6, 7, 8, 9], [97, 98, 99, 100, 101, 102, 103, 104, 105, 106])] [] (Γx := []) ?_; dsimp only [prev0, List.length_nil, List.length_cons])
     | (refine gAny ?_; first | (refine gD 68 ?_; refine RGl.rdX (fun e hk => by (try dsimp only [bndR, ensR, oksR, fcutR, List.append_nil, List.nil_append, List.cons_append, List.append_assoc] at hk ⊢); exact ReadR.binE rfl rfl (BinR.addK (by simp only [kmin]; omega) (by simp only [kmax]; omega)) rfl) ?_) | (refine gOp ?_; first | refine RGl.rdA ?_ | refine RGl.rdX (fun e hk => by (try dsimp only [bndR, ensR, oksR, fcutR, List.append_nil, List.nil_append, List.cons_append, List.append_assoc] at hk ⊢); exact readB) ?_) | (refine RGl.fin (fun e hk => ?_); (try dsimp only [bndA, ensAR, oksA, List.append_nil, List.nil_append, List.cons_append, List.append_assoc] at hk ⊢); (repeat (obtain ⟨hk1, hk⟩ := hk))) | fail)
     | (refine isCond ?_; first | refine WPc.cT ?_ | refine WPc.cF ?_ | (refine WPc.cQ (fun hc => ?_) (fun hc => ?_) <;> try exact prA))
     | (refine isD 68 ?_; refine WPl.rdX (ReadR.binE rfl rfl (BinR.addK (by simp only [kmin]; omega) (by simp only [kmax]; omega)) rfl) ?_)
     | (refine isOp ?_; first | refine WPl.rd ?_ | refine WPl.sk ?_ | refine WPl.rdB ?_)
     | (refine isAl ?_; refine WPl.nw fun g => ?_)
     | (refine isSt ?_; first | refine WPl.st1 ?_ | refine WPl.stA ?_ | refine WPl.stEB ?_ | refine WPl.stRB ?_)
     | (show WPl _ _ _ _ _ _ _ (⟨_, .indexAddr _ _ _, _, _, _, _⟩ :: _) _; refine WPl.rdX (ReadR.indexE rfl rfl hasA (by first | assumption | omega)) ?_)
     | (show WPl _ _ _ _ _ _ _ (⟨_, .fieldAddr _ _ _, _, _, _, _⟩ :: _) _; refine WPl.rdX (ReadR.fieldE rfl hasA (by first | assumption | omega)) ?_)
     | (show WPl _ _ _ _ _ _ _ (⟨_, .load _ _, _, _, _, _⟩ :: _) _; first | refine WPl.rdX (ReadR.loadE rfl hasA (by assumption)) ?_ | refine WPl.rdX (ReadR.loadES (by assumption) (by first | assumption | omega) rfl hasA) ?_)
     | (show WPl _ _ _ _ _ _ _ (⟨_, .slice _ _ _ _ _, _, _, _, _⟩ :: _) _; first | refine WPl.rdX (ReadR.sliceH rfl rfl hasA (by omega)) ?_ | refine WPl.rdX (ReadR.sliceL rfl rfl hasA (by omega)) ?_ | refine WPl.rdX (ReadR.sliceLH rfl rfl rfl hasA (by omega) (by omega)) ?_)
     | (refine WPl.spQ (fun hc => ?_) (fun hc => ?_) <;> try exact prA)
     | fail)
    all_goals first | exact WPq.rnd (j + 1, sm + h.c) ⟨by dsimp only; omega, hst.symm⟩ (by dsimp only; omega) | (exfalso; omega) | trace_state
  · have hsmt : sm = totl (AA l 80) := by rw [hsm, List.take_of_length_le (by simp; omega), hsum]
    clear hsm
    repeat' (first
     | refine WPl.nil ?_ | refine WPq.then ?_ | refine WPq.thenR ?_ | refine WPq.thenE ?_ | refine WPq.blockN ?_ | refine WPq.blockR ?_ | refine WPq.blockE ?_ | refine WPq.blockO rfl ?_ | refine WPc.seq ?_ | refine WPc.block ?_ | refine WPc.ret ?_ | refine WPc.exit ?_ | refine WPc.skip ?_ | refine WPc.region ?_
     | (refine isReg 7 ?_; refine WPc.drA [([], [42, 43, 44, 45, 46, 47, 48, 49, 50, 51, 52]), ([], [41, 43, 47, 48, 49, 50, 51, 52]), ([], [41, 42, 47, 48, 49, 50, 51, 52]), ([1, 2], [41, 42, 43, 47, 48, 49, 50, 51, 52]), ([1, 2, 3], [41, 42, 43, 44, 47, 48, 49, 50, 51, 52]), ([1, 2, 3, 4], [41, 42, 43, 44, 45, 47, 48, 49, 50, 51, 52]), ([], [41, 42, 43, 44, 45, 46, 48]), ([], [41, 42, 43, 44, 45, 46, 47]), ([6, 7], [41, 42, 43, 44, 45, 46, 47, 48]), ([6, 7, 8], [41, 42, 43, 44, 45, 46, 47, 48, 49]), ([6, 7, 8, 9], [41, 42, 43, 44, 45, 46, 47, 48, 49, 50]), ([6, 7, 8, 9, 10], [41, 42, 43, 44, 45, 46, 47, 48, 49, 50, 51]), ([0, 1, 2, 3, 4, 5, 6, 7, 8, 9, 10, 11], [41, 42, 43, 44, 45, 46, 47, 48, 49, 50, 51, 52])] [] (Γx := []) ?_; dsimp only [prev0, List.length_nil, List.length_cons])
     | (refine isReg 21 ?_; refine WPc.drA [([], [98, 102, 103, 104, 105, 106]), ([], [97, 102, 103, 104, 105, 106]), ([0, 1], [97, 98, 102, 103, 104, 105, 106]), ([0, 1, 2], [97, 98, 99, 102, 103, 104, 105, 106]), ([0, 1, 2, 3], [97, 98, 99, 100, 102, 103, 104, 105, 106]), ([], [97, 98, 99, 100, 101, 103]), ([], [97, 98, 99, 100, 101, 102]), ([5, 6], [97, 98, 99, 100, 101, 102, 103]), ([5, 6, 7], [97, 98, 99, 100, 101, 102, 103, 104]), ([5, 6, 7, 8], [97, 98, 99, 100, 101, 102, 103, 104, 105]), ([0, 1, 2, 3, 4, 5, 6, 7, 8, 9], [97, 98, 99, 100, 101, 102, 103, 104, 105, 106])] [] (Γx := []) ?_; dsimp only [prev0, List.length_nil, List.length_cons])
     | (refine gAny ?_; first | (refine gOp ?_; first | refine RGl.rdA ?_ | refine RGl.rdX (fun e hk => by (try dsimp only [bndR, ensR, oksR, fcutR, List.append_nil, List.nil_append, List.cons_append, List.append_assoc] at hk ⊢); exact readB) ?_) | (refine RGl.fin (fun e hk => ?_); (try dsimp only [bndA, ensAR, oksA, List.append_nil, List.nil_append, List.cons_append, List.append_assoc] at hk ⊢); (repeat (obtain ⟨hk1, hk⟩ := hk))) | fail)
     | (refine isCond ?_; first | refine WPc.cT ?_ | refine WPc.cF ?_ | (refine WPc.cQ (fun hc => ?_) (fun hc => ?_) <;> try exact prA))
     | (refine isOp ?_; first | refine WPl.rd ?_ | refine WPl.sk ?_ | refine WPl.rdB ?_)
     | (refine isAl ?_; refine WPl.nw fun g => ?_)
     | (refine isSt ?_; first | refine WPl.st1 ?_ | refine WPl.stA ?_ | refine WPl.stEB ?_ | refine WPl.stRB ?_)
     | (show WPl _ _ _ _ _ _ _ (⟨_, .indexAddr _ _ _, _, _, _, _⟩ :: _) _; refine WPl.rdX (ReadR.indexE rfl rfl hasA (by first | assumption | omega)) ?_)
     | (show WPl _ _ _ _ _ _ _ (⟨_, .fieldAddr _ _ _, _, _, _, _⟩ :: _) _; refine WPl.rdX (ReadR.fieldE rfl hasA (by first | assumption | omega)) ?_)
     | (show WPl _ _ _ _ _ _ _ (⟨_, .load _ _, _, _, _, _⟩ :: _) _; first | refine WPl.rdX (ReadR.loadE rfl hasA (by assumption)) ?_ | refine WPl.rdX (ReadR.loadES (by assumption) (by first | assumption | omega) rfl hasA) ?_)
     | (show WPl _ _ _ _ _ _ _ (⟨_, .slice _ _ _ _ _, _, _, _, _⟩ :: _) _; first | refine WPl.rdX (ReadR.sliceH rfl rfl hasA (by omega)) ?_ | refine WPl.rdX (ReadR.sliceL rfl rfl hasA (by omega)) ?_ | refine WPl.rdX (ReadR.sliceLH rfl rfl rfl hasA (by omega) (by omega)) ?_)
     | (refine WPl.spQ (fun hc => ?_) (fun hc => ?_) <;> try exact prA)
     | fail)
    clear hop hj hkm hjo
    first | refine WPc.loop (σ := Nat × Int) (fun st => st.1 ≤ 80 ∧ st.2 = totl (AA l st.1)) (fun st => [rowN 97 20 w8 o.length (hys o), bx gT 155 (txc ((n : Nat) : Int) m ta), mp hyM m L, rdN vr l.length (ccs l)]) (fun st => [(0, .int .u8 ((cu.toNat : Nat) : Int)), (1, vr), (5, hPt gT), (8, w8), (10, .int .u64 sm), (9, .int .u64 st.2), (12, .int .i64 st.1)]) (fun st => 80 - st.1) ((0, 0)) ?_ takesA frsA (fun st km hx hk => ?_)
    · exact ⟨Nat.zero_le _, totl0⟩
    obtain ⟨i, t9⟩ := st
    obtain ⟨hi, ht9⟩ := hx
    dsimp only at hi ht9 hk ⊢
    have hkm : km = 80 - i := hk
    clear hk
    by_cases hin : i < l.length ∧ i < 80
    · obtain ⟨hil, hi80⟩ := hin
      obtain ⟨x, hx⟩ : ∃ x, l[i]? = some x := ⟨_, List.getElem?_eq_getElem hil⟩
      have hxp := ccs_p hx
      have hxn := ccs_n hx
      have hstep := AA_step hx
      obtain ⟨w1, w2, w3⟩ := hl x (List.mem_of_getElem? hx)
      have hbd2 := AA_all hl (i := i + 1) (by omega) x.1
      obtain ⟨p, q⟩ := x
      dsimp only at w1 w2 w3 hxp hxn hstep hbd2
      have l1 := p.1.len
      obtain ⟨nn, hnn⟩ : ∃ nn, q % 1000000 = nn := ⟨_, rfl⟩
      rw [hnn] at hstep
      have hn0 : 0 ≤ nn ∧ nn ≤ 999999 := by omega
      have ht9' : t9 + nn = totl (AA l (i + 1)) := by rw [hstep, totl_snoc, ht9]
      have h80 := AA_all hl (i := 80) (Nat.le_refl _) p
      have hbi := AA_all hl (i := i) hi p
      rw [← ht9] at hbi
      obtain ⟨cm, hcm⟩ : ∃ cm, cm = came (AA l 80) p := ⟨_, rfl⟩
      rw [← hcm] at h80
      have c3 := tcount_t gT m ((n : Nat) : Int) ta L p w1
      have hlt1 : i * 19 + 18 < (ccs l).length := by omega
      repeat' (first
       | (refine isSeqR 18 ?_; refine WPc.join (σ := Unit) (fun st => True) (fun st => [rowN 97 20 w8 o.length (hys o), bx gT 155 (txc ((n : Nat) : Int) m ta), mp hyM m L, rdN vr l.length (ccs l)]) (fun st => [(0, .int .u8 ((cu.toNat : Nat) : Int)), (1, vr), (5, hPt gT), (8, w8), (10, .int .u64 sm), (9, .int .u64 (totl (AA l (i + 1)))), (12, .int .i64 i), (13, .int .u64 cm)]) ?_ (fun st hx => ?_))
       | (refine isSeq1 23 ?_; refine Held.it ?_)
       | refine WPl.nil ?_ | refine WPq.then ?_ | refine WPq.thenR ?_ | refine WPq.thenE ?_ | refine WPq.blockN ?_ | refine WPq.blockR ?_ | refine WPq.blockE ?_ | refine WPq.blockO rfl ?_ | refine WPc.seq ?_ | refine WPc.block ?_ | refine WPc.ret ?_ | refine WPc.exit ?_ | refine WPc.skip ?_ | refine WPc.region ?_
       | (refine isReg 7 ?_; refine WPc.drA [([], [42, 43, 44, 45, 46, 47, 48, 49, 50, 51, 52]), ([], [41, 43, 47, 48, 49, 50, 51, 52]), ([], [41, 42, 47, 48, 49, 50, 51, 52]), ([1, 2], [41, 42, 43, 47, 48, 49, 50, 51, 52]), ([1, 2, 3], [41, 42, 43, 44, 47, 48, 49, 50, 51, 52]), ([1, 2, 3, 4], [41, 42, 43, 44, 45, 47, 48, 49, 50, 51, 52]), ([], [41, 42, 43, 44, 45, 46, 48]), ([], [41, 42, 43, 44, 45, 46, 47]), ([6, 7], [41, 42, 43, 44, 45, 46, 47, 48]), ([6, 7, 8], [41, 42, 43, 44, 45, 46, 47, 48, 49]), ([6, 7, 8, 9], [41, 42, 43, 44, 45, 46, 47, 48, 49, 50]), ([6, 7, 8, 9, 10], [41, 42, 43, 44, 45, 46, 47, 48, 49, 50, 51]), ([0, 1, 2, 3, 4, 5, 6, 7, 8, 9, 10, 11], [41, 42, 43, 44, 45, 46, 47, 48, 49, 50, 51, 52])] [] (Γx := []) ?_; dsimp only [prev0, List.length_nil, List.length_cons])
       | (refine isReg 21 ?_; refine WPc.drA [([], [98, 102, 103, 104, 105, 106]), ([], [97, 102, 103, 104, 105, 106]), ([0, 1], [97, 98, 102, 103, 104, 105, 106]), ([0, 1, 2], [97, 98, 99, 102, 103, 104, 105, 106]), ([0, 1, 2, 3], [97, 98, 99, 100, 102, 103, 104, 105, 106]), ([], [97, 98, 99, 100, 101, 103]), ([], [97, 98, 99, 100, 101, 102]), ([5, 6], [97, 98, 99, 100, 101, 102, 103]), ([5, 6, 7], [97, 98, 99, 100, 101, 102, 103, 104]), ([5, 6, 7, 8], [97, 98, 99, 100, 101, 102, 103, 104, 105]), ([0, 1, 2, 3, 4, 5, 6, 7, 8, 9], [97, 98, 99, 100, 101, 102, 103, 104, 105, 106])] [] (Γx := []) ?_; dsimp only [prev0, List.length_nil, List.length_cons])
       | (refine gAny ?_; first | (refine gD 85 ?_; refine RGl.rdX (fun e hk => by (try dsimp only [bndR, ensR, oksR, fcutR, List.append_nil, List.nil_append, List.cons_append, List.append_assoc] at hk ⊢); exact ReadR.binE rfl rfl (BinR.remK w2 (by omega)) (congrArg (Value.int .u64) hnn)) ?_) | (refine gD 86 ?_; refine RGl.rdX (fun e hk => by (try dsimp only [bndR, ensR, oksR, fcutR, List.append_nil, List.nil_append, List.cons_append, List.append_assoc] at hk ⊢); exact ReadR.binE rfl rfl (BinR.addK (by simp only [kmin]; omega) (by simp only [kmax]; omega)) (congrArg (Value.int .u64) ht9')) ?_) | (refine gOp ?_; first | refine RGl.rdA ?_ | refine RGl.rdX (fun e hk => by (try dsimp only [bndR, ensR, oksR, fcutR, List.append_nil, List.nil_append, List.cons_append, List.append_assoc] at hk ⊢); exact readB) ?_) | (refine RGl.fin (fun e hk => ?_); (try dsimp only [bndA, ensAR, oksA, List.append_nil, List.nil_append, List.cons_append, List.append_assoc] at hk ⊢); (repeat (obtain ⟨hk1, hk⟩ := hk))) | fail)
       | (refine isCond ?_; first | refine WPc.cT ?_ | refine WPc.cF ?_ | (refine WPc.cQ (fun hc => ?_) (fun hc => ?_) <;> try exact prA))
       | (refine isD 85 ?_; refine WPl.rdX (ReadR.binE rfl rfl (BinR.remK w2 (by omega)) (congrArg (Value.int .u64) hnn)) ?_)
       | (refine isD 86 ?_; refine WPl.rdX (ReadR.binE rfl rfl (BinR.addK (by simp only [kmin]; omega) (by simp only [kmax]; omega)) (congrArg (Value.int .u64) ht9')) ?_)
       | (refine isOp ?_; first | refine WPl.rd ?_ | refine WPl.sk ?_ | refine WPl.rdB ?_)
       | (refine isAl ?_; refine WPl.nw fun g => ?_)
       | (refine isSt ?_; first | refine WPl.st1 ?_ | refine WPl.stA ?_ | refine WPl.stEB ?_ | refine WPl.stRB ?_)
       | (show WPl _ _ _ _ _ _ _ (⟨_, .indexAddr _ _ _, _, _, _, _⟩ :: _) _; refine WPl.rdX (ReadR.indexE rfl rfl hasA (by first | assumption | omega)) ?_)
       | (show WPl _ _ _ _ _ _ _ (⟨_, .fieldAddr _ _ _, _, _, _, _⟩ :: _) _; refine WPl.rdX (ReadR.fieldE rfl hasA (by first | assumption | omega)) ?_)
       | (show WPl _ _ _ _ _ _ _ (⟨_, .load _ _, _, _, _, _⟩ :: _) _; first | refine WPl.rdX (ReadR.loadE rfl hasA (by assumption)) ?_ | refine WPl.rdX (ReadR.loadES (by assumption) (by first | assumption | omega) rfl hasA) ?_)
       | (show WPl _ _ _ _ _ _ _ (⟨_, .slice _ _ _ _ _, _, _, _, _⟩ :: _) _; first | refine WPl.rdX (ReadR.sliceH rfl rfl hasA (by omega)) ?_ | refine WPl.rdX (ReadR.sliceL rfl rfl hasA (by omega)) ?_ | refine WPl.rdX (ReadR.sliceLH rfl rfl rfl hasA (by omega) (by omega)) ?_)
       | (refine WPl.spQ (fun hc => ?_) (fun hc => ?_) <;> try exact prA)
       | fail)
      · skip
        first | refine WPc.loop (σ := Nat × Int) (fun st => st.1 ≤ 80 ∧ st.2 = came (AA l st.1) p) (fun st => [rowN 97 20 w8 o.length (hys o), bx gT 155 (txc ((n : Nat) : Int) m ta), mp hyM m L, rdN vr l.length (ccs l)]) (fun st => [(0, .int .u8 ((cu.toNat : Nat) : Int)), (1, vr), (5, hPt gT), (8, w8), (10, .int .u64 sm), (9, .int .u64 (totl (AA l (i + 1)))), (12, .int .i64 i), (13, .int .u64 st.2), (14, .int .i64 st.1)]) (fun st => 80 - st.1) ((0, 0)) ?_ takesA frsA (fun st km hx hk => ?_)
        · exact ⟨Nat.zero_le _, came0⟩
        obtain ⟨k, ck⟩ := st
        obtain ⟨hk8, hck⟩ := hx
        dsimp only at hk8 hck hk ⊢
        have hkm2 : km = 80 - k := hk
        clear hk
        by_cases hkn : k < l.length ∧ k < 80
        · obtain ⟨hkl, hk80⟩ := hkn
          obtain ⟨z, hz⟩ : ∃ z, l[k]? = some z := ⟨_, List.getElem?_eq_getElem hkl⟩
          have hzp := ccs_p hz
          have hzn := ccs_n hz
          have hzs := AA_step hz
          obtain ⟨z1, z2, z3⟩ := hl z (List.mem_of_getElem? hz)
          have hzb := AA_all hl (i := k + 1) (by omega) p
          obtain ⟨pz, qz⟩ := z
          dsimp only at z1 z2 z3 hzp hzn hzs
          have l2 := pz.1.len
          obtain ⟨nz, hnz⟩ : ∃ nz, qz % 1000000 = nz := ⟨_, rfl⟩
          rw [hnz] at hzs
          have hlt2 : k * 19 + 18 < (ccs l).length := by omega
          have hkb := AA_all hl (i := k) hk8 p
          rw [← hck] at hkb
          by_cases hpp : pz = p
          · have hck' : ck + nz = came (AA l (k + 1)) p := by rw [hzs, came_snoc, if_pos hpp, hck]
            repeat' (first
             | refine WPl.nil ?_ | refine WPq.then ?_ | refine WPq.thenR ?_ | refine WPq.thenE ?_ | refine WPq.blockN ?_ | refine WPq.blockR ?_ | refine WPq.blockE ?_ | refine WPq.blockO rfl ?_ | refine WPc.seq ?_ | refine WPc.block ?_ | refine WPc.ret ?_ | refine WPc.exit ?_ | refine WPc.skip ?_ | refine WPc.region ?_
             | (refine isReg 7 ?_; refine WPc.drA [([], [42, 43, 44, 45, 46, 47, 48, 49, 50, 51, 52]), ([], [41, 43, 47, 48, 49, 50, 51, 52]), ([], [41, 42, 47, 48, 49, 50, 51, 52]), ([1, 2], [41, 42, 43, 47, 48, 49, 50, 51, 52]), ([1, 2, 3], [41, 42, 43, 44, 47, 48, 49, 50, 51, 52]), ([1, 2, 3, 4], [41, 42, 43, 44, 45, 47, 48, 49, 50, 51, 52]), ([], [41, 42, 43, 44, 45, 46, 48]), ([], [41, 42, 43, 44, 45, 46, 47]), ([6, 7], [41, 42, 43, 44, 45, 46, 47, 48]), ([6, 7, 8], [41, 42, 43, 44, 45, 46, 47, 48, 49]), ([6, 7, 8, 9], [41, 42, 43, 44, 45, 46, 47, 48, 49, 50]), ([6, 7, 8, 9, 10], [41, 42, 43, 44, 45, 46, 47, 48, 49, 50, 51]), ([0, 1, 2, 3, 4, 5, 6, 7, 8, 9, 10, 11], [41, 42, 43, 44, 45, 46, 47, 48, 49, 50, 51, 52])] [] (Γx := []) ?_; dsimp only [prev0, List.length_nil, List.length_cons])
             | (refine isReg 21 ?_; refine WPc.drA [([], [98, 102, 103, 104, 105, 106]), ([], [97, 102, 103, 104, 105, 106]), ([0, 1], [97, 98, 102, 103, 104, 105, 106]), ([0, 1, 2], [97, 98, 99, 102, 103, 104, 105, 106]), ([0, 1, 2, 3], [97, 98, 99, 100, 102, 103, 104, 105, 106]), ([], [97, 98, 99, 100, 101, 103]), ([], [97, 98, 99, 100, 101, 102]), ([5, 6], [97, 98, 99, 100, 101, 102, 103]), ([5, 6, 7], [97, 98, 99, 100, 101, 102, 103, 104]), ([5, 6, 7, 8], [97, 98, 99, 100, 101, 102, 103, 104, 105]), ([0, 1, 2, 3, 4, 5, 6, 7, 8, 9], [97, 98, 99, 100, 101, 102, 103, 104, 105, 106])] [] (Γx := []) ?_; dsimp only [prev0, List.length_nil, List.length_cons])
             | (refine gAny ?_; first | (refine gD 99 ?_; refine RGl.rdX (fun e hk => by (try dsimp only [bndR, ensR, oksR, fcutR, List.append_nil, List.nil_append, List.cons_append, List.append_assoc] at hk ⊢); exact ReadR.indexE (i := k) rfl rfl hasA hkl) ?_) | (refine gD 100 ?_; refine RGl.rdX (fun e hk => by (try dsimp only [bndR, ensR, oksR, fcutR, List.append_nil, List.nil_append, List.cons_append, List.append_assoc] at hk ⊢); exact ReadR.fieldE rfl hasA (by omega)) ?_) | (refine gD 101 ?_; refine RGl.rdX (fun e hk => by (try dsimp only [bndR, ensR, oksR, fcutR, List.append_nil, List.nil_append, List.cons_append, List.append_assoc] at hk ⊢); exact ReadR.loadES (cs := pfc pz) hzp (by omega) rfl hasA) ?_) | (refine gD 104 ?_; refine RGl.rdX (fun e hk => by (try dsimp only [bndR, ensR, oksR, fcutR, List.append_nil, List.nil_append, List.cons_append, List.append_assoc] at hk ⊢); exact ReadR.indexE (i := i) rfl rfl hasA hil) ?_) | (refine gD 105 ?_; refine RGl.rdX (fun e hk => by (try dsimp only [bndR, ensR, oksR, fcutR, List.append_nil, List.nil_append, List.cons_append, List.append_assoc] at hk ⊢); exact ReadR.fieldE rfl hasA (by omega)) ?_) | (refine gD 106 ?_; refine RGl.rdX (fun e hk => by (try dsimp only [bndR, ensR, oksR, fcutR, List.append_nil, List.nil_append, List.cons_append, List.append_assoc] at hk ⊢); exact ReadR.loadES (cs := pfc p) hxp (by omega) rfl hasA) ?_) | (refine gD 107 ?_; refine RGl.rdX (fun e hk => by (try dsimp only [bndR, ensR, oksR, fcutR, List.append_nil, List.nil_append, List.cons_append, List.append_assoc] at hk ⊢); exact ReadR.binE rfl rfl BinR.pfE (congrArg Value.bool (decide_eq_true hpp))) ?_) | (refine gD 114 ?_; refine RGl.rdX (fun e hk => by (try dsimp only [bndR, ensR, oksR, fcutR, List.append_nil, List.nil_append, List.cons_append, List.append_assoc] at hk ⊢); exact ReadR.binE rfl rfl (BinR.remK z2 (by omega)) (congrArg (Value.int .u64) hnz)) ?_) | (refine gD 115 ?_; refine RGl.rdX (fun e hk => by (try dsimp only [bndR, ensR, oksR, fcutR, List.append_nil, List.nil_append, List.cons_append, List.append_assoc] at hk ⊢); exact ReadR.binE rfl rfl (BinR.addK (by simp only [kmin]; omega) (by simp only [kmax]; omega)) (congrArg (Value.int .u64) hck')) ?_) | (refine gOp ?_; first | refine RGl.rdA ?_ | refine RGl.rdX (fun e hk => by (try dsimp only [bndR, ensR, oksR, fcutR, List.append_nil, List.nil_append, List.cons_append, List.append_assoc] at hk ⊢); exact readB) ?_) | (refine RGl.fin (fun e hk => ?_); (try dsimp only [bndA, ensAR, oksA, List.append_nil, List.nil_append, List.cons_append, List.append_assoc] at hk ⊢); (repeat (obtain ⟨hk1, hk⟩ := hk))) | fail)
             | (refine isCond ?_; first | refine WPc.cT ?_ | refine WPc.cF ?_ | (refine WPc.cQ (fun hc => ?_) (fun hc => ?_) <;> try exact prA))
             | (refine isD 99 ?_; refine WPl.rdX (ReadR.indexE (i := k) rfl rfl hasA hkl) ?_)
             | (refine isD 100 ?_; refine WPl.rdX (ReadR.fieldE rfl hasA (by omega)) ?_)
             | (refine isD 101 ?_; refine WPl.rdX (ReadR.loadES (cs := pfc pz) hzp (by omega) rfl hasA) ?_)
             | (refine isD 104 ?_; refine WPl.rdX (ReadR.indexE (i := i) rfl rfl hasA hil) ?_)
             | (refine isD 105 ?_; refine WPl.rdX (ReadR.fieldE rfl hasA (by omega)) ?_)
             | (refine isD 106 ?_; refine WPl.rdX (ReadR.loadES (cs := pfc p) hxp (by omega) rfl hasA) ?_)
             | (refine isD 107 ?_; refine WPl.rdX (ReadR.binE rfl rfl BinR.pfE (congrArg Value.bool (decide_eq_true hpp))) ?_)
             | (refine isD 114 ?_; refine WPl.rdX (ReadR.binE rfl rfl (BinR.remK z2 (by omega)) (congrArg (Value.int .u64) hnz)) ?_)
             | (refine isD 115 ?_; refine WPl.rdX (ReadR.binE rfl rfl (BinR.addK (by simp only [kmin]; omega) (by simp only [kmax]; omega)) (congrArg (Value.int .u64) hck')) ?_)
             | (refine isOp ?_; first | refine WPl.rd ?_ | refine WPl.sk ?_ | refine WPl.rdB ?_)
             | (refine isAl ?_; refine WPl.nw fun g => ?_)
             | (refine isSt ?_; first | refine WPl.st1 ?_ | refine WPl.stA ?_ | refine WPl.stEB ?_ | refine WPl.stRB ?_)
             | (show WPl _ _ _ _ _ _ _ (⟨_, .indexAddr _ _ _, _, _, _, _⟩ :: _) _; refine WPl.rdX (ReadR.indexE rfl rfl hasA (by first | assumption | omega)) ?_)
             | (show WPl _ _ _ _ _ _ _ (⟨_, .fieldAddr _ _ _, _, _, _, _⟩ :: _) _; refine WPl.rdX (ReadR.fieldE rfl hasA (by first | assumption | omega)) ?_)
             | (show WPl _ _ _ _ _ _ _ (⟨_, .load _ _, _, _, _, _⟩ :: _) _; first | refine WPl.rdX (ReadR.loadE rfl hasA (by assumption)) ?_ | refine WPl.rdX (ReadR.loadES (by assumption) (by first | assumption | omega) rfl hasA) ?_)
             | (show WPl _ _ _ _ _ _ _ (⟨_, .slice _ _ _ _ _, _, _, _, _⟩ :: _) _; first | refine WPl.rdX (ReadR.sliceH rfl rfl hasA (by omega)) ?_ | refine WPl.rdX (ReadR.sliceL rfl rfl hasA (by omega)) ?_ | refine WPl.rdX (ReadR.sliceLH rfl rfl rfl hasA (by omega) (by omega)) ?_)
             | (refine WPl.spQ (fun hc => ?_) (fun hc => ?_) <;> try exact prA)
             | fail)
            all_goals first | exact WPq.rnd (k + 1, came (AA l (k + 1)) p) ⟨by dsimp only; omega, rfl⟩ (by dsimp only; omega) | (exfalso; omega) | trace_state
          · have hck' : ck = came (AA l (k + 1)) p := by rw [hzs, came_snoc, if_neg hpp, hck, Int.add_zero]
            repeat' (first
             | refine WPl.nil ?_ | refine WPq.then ?_ | refine WPq.thenR ?_ | refine WPq.thenE ?_ | refine WPq.blockN ?_ | refine WPq.blockR ?_ | refine WPq.blockE ?_ | refine WPq.blockO rfl ?_ | refine WPc.seq ?_ | refine WPc.block ?_ | refine WPc.ret ?_ | refine WPc.exit ?_ | refine WPc.skip ?_ | refine WPc.region ?_
             | (refine isReg 7 ?_; refine WPc.drA [([], [42, 43, 44, 45, 46, 47, 48, 49, 50, 51, 52]), ([], [41, 43, 47, 48, 49, 50, 51, 52]), ([], [41, 42, 47, 48, 49, 50, 51, 52]), ([1, 2], [41, 42, 43, 47, 48, 49, 50, 51, 52]), ([1, 2, 3], [41, 42, 43, 44, 47, 48, 49, 50, 51, 52]), ([1, 2, 3, 4], [41, 42, 43, 44, 45, 47, 48, 49, 50, 51, 52]), ([], [41, 42, 43, 44, 45, 46, 48]), ([], [41, 42, 43, 44, 45, 46, 47]), ([6, 7], [41, 42, 43, 44, 45, 46, 47, 48]), ([6, 7, 8], [41, 42, 43, 44, 45, 46, 47, 48, 49]), ([6, 7, 8, 9], [41, 42, 43, 44, 45, 46, 47, 48, 49, 50]), ([6, 7, 8, 9, 10], [41, 42, 43, 44, 45, 46, 47, 48, 49, 50, 51]), ([0, 1, 2, 3, 4, 5, 6, 7, 8, 9, 10, 11], [41, 42, 43, 44, 45, 46, 47, 48, 49, 50, 51, 52])] [] (Γx := []) ?_; dsimp only [prev0, List.length_nil, List.length_cons])
             | (refine isReg 21 ?_; refine WPc.drA [([], [98, 102, 103, 104, 105, 106]), ([], [97, 102, 103, 104, 105, 106]), ([0, 1], [97, 98, 102, 103, 104, 105, 106]), ([0, 1, 2], [97, 98, 99, 102, 103, 104, 105, 106]), ([0, 1, 2, 3], [97, 98, 99, 100, 102, 103, 104, 105, 106]), ([], [97, 98, 99, 100, 101, 103]), ([], [97, 98, 99, 100, 101, 102]), ([5, 6], [97, 98, 99, 100, 101, 102, 103]), ([5, 6, 7], [97, 98, 99, 100, 101, 102, 103, 104]), ([5, 6, 7, 8], [97, 98, 99, 100, 101, 102, 103, 104, 105]), ([0, 1, 2, 3, 4, 5, 6, 7, 8, 9], [97, 98, 99, 100, 101, 102, 103, 104, 105, 106])] [] (Γx := []) ?_; dsimp only [prev0, List.length_nil, List.length_cons])
             | (refine gAny ?_; first | (refine gD 99 ?_; refine RGl.rdX (fun e hk => by (try dsimp only [bndR, ensR, oksR, fcutR, List.append_nil, List.nil_append, List.cons_append, List.append_assoc] at hk ⊢); exact ReadR.indexE (i := k) rfl rfl hasA hkl) ?_) | (refine gD 100 ?_; refine RGl.rdX (fun e hk => by (try dsimp only [bndR, ensR, oksR, fcutR, List.append_nil, List.nil_append, List.cons_append, List.append_assoc] at hk ⊢); exact ReadR.fieldE rfl hasA (by omega)) ?_) | (refine gD 101 ?_; refine RGl.rdX (fun e hk => by (try dsimp only [bndR, ensR, oksR, fcutR, List.append_nil, List.nil_append, List.cons_append, List.append_assoc] at hk ⊢); exact ReadR.loadES (cs := pfc pz) hzp (by omega) rfl hasA) ?_) | (refine gD 104 ?_; refine RGl.rdX (fun e hk => by (try dsimp only [bndR, ensR, oksR, fcutR, List.append_nil, List.nil_append, List.cons_append, List.append_assoc] at hk ⊢); exact ReadR.indexE (i := i) rfl rfl hasA hil) ?_) | (refine gD 105 ?_; refine RGl.rdX (fun e hk => by (try dsimp only [bndR, ensR, oksR, fcutR, List.append_nil, List.nil_append, List.cons_append, List.append_assoc] at hk ⊢); exact ReadR.fieldE rfl hasA (by omega)) ?_) | (refine gD 106 ?_; refine RGl.rdX (fun e hk => by (try dsimp only [bndR, ensR, oksR, fcutR, List.append_nil, List.nil_append, List.cons_append, List.append_assoc] at hk ⊢); exact ReadR.loadES (cs := pfc p) hxp (by omega) rfl hasA) ?_) | (refine gD 107 ?_; refine RGl.rdX (fun e hk => by (try dsimp only [bndR, ensR, oksR, fcutR, List.append_nil, List.nil_append, List.cons_append, List.append_assoc] at hk ⊢); exact ReadR.binE rfl rfl BinR.pfE (congrArg Value.bool (decide_eq_false hpp))) ?_) | (refine gOp ?_; first | refine RGl.rdA ?_ | refine RGl.rdX (fun e hk => by (try dsimp only [bndR, ensR, oksR, fcutR, List.append_nil, List.nil_append, List.cons_append, List.append_assoc] at hk ⊢); exact readB) ?_) | (refine RGl.fin (fun e hk => ?_); (try dsimp only [bndA, ensAR, oksA, List.append_nil, List.nil_append, List.cons_append, List.append_assoc] at hk ⊢); (repeat (obtain ⟨hk1, hk⟩ := hk))) | fail)
             | (refine isCond ?_; first | refine WPc.cT ?_ | refine WPc.cF ?_ | (refine WPc.cQ (fun hc => ?_) (fun hc => ?_) <;> try exact prA))
             | (refine isD 99 ?_; refine WPl.rdX (ReadR.indexE (i := k) rfl rfl hasA hkl) ?_)
             | (refine isD 100 ?_; refine WPl.rdX (ReadR.fieldE rfl hasA (by omega)) ?_)
             | (refine isD 101 ?_; refine WPl.rdX (ReadR.loadES (cs := pfc pz) hzp (by omega) rfl hasA) ?_)
             | (refine isD 104 ?_; refine WPl.rdX (ReadR.indexE (i := i) rfl rfl hasA hil) ?_)
             | (refine isD 105 ?_; refine WPl.rdX (ReadR.fieldE rfl hasA (by omega)) ?_)
             | (refine isD 106 ?_; refine WPl.rdX (ReadR.loadES (cs := pfc p) hxp (by omega) rfl hasA) ?_)
             | (refine isD 107 ?_; refine WPl.rdX (ReadR.binE rfl rfl BinR.pfE (congrArg Value.bool (decide_eq_false hpp))) ?_)
             | (refine isOp ?_; first | refine WPl.rd ?_ | refine WPl.sk ?_ | refine WPl.rdB ?_)
             | (refine isAl ?_; refine WPl.nw fun g => ?_)
             | (refine isSt ?_; first | refine WPl.st1 ?_ | refine WPl.stA ?_ | refine WPl.stEB ?_ | refine WPl.stRB ?_)
             | (show WPl _ _ _ _ _ _ _ (⟨_, .indexAddr _ _ _, _, _, _, _⟩ :: _) _; refine WPl.rdX (ReadR.indexE rfl rfl hasA (by first | assumption | omega)) ?_)
             | (show WPl _ _ _ _ _ _ _ (⟨_, .fieldAddr _ _ _, _, _, _, _⟩ :: _) _; refine WPl.rdX (ReadR.fieldE rfl hasA (by first | assumption | omega)) ?_)
             | (show WPl _ _ _ _ _ _ _ (⟨_, .load _ _, _, _, _, _⟩ :: _) _; first | refine WPl.rdX (ReadR.loadE rfl hasA (by assumption)) ?_ | refine WPl.rdX (ReadR.loadES (by assumption) (by first | assumption | omega) rfl hasA) ?_)
             | (show WPl _ _ _ _ _ _ _ (⟨_, .slice _ _ _ _ _, _, _, _, _⟩ :: _) _; first | refine WPl.rdX (ReadR.sliceH rfl rfl hasA (by omega)) ?_ | refine WPl.rdX (ReadR.sliceL rfl rfl hasA (by omega)) ?_ | refine WPl.rdX (ReadR.sliceLH rfl rfl rfl hasA (by omega) (by omega)) ?_)
             | (refine WPl.spQ (fun hc => ?_) (fun hc => ?_) <;> try exact prA)
             | fail)
            all_goals first | exact WPq.rnd (k + 1, ck) ⟨by dsimp only; omega, hck'⟩ (by dsimp only; omega) | (exfalso; omega) | trace_state
        · have hce : ck = cm := by rw [hck, hcm, AA_end (l := l) (i := k) (by omega)]
          subst hce
          repeat' (first
           | refine WPl.nil ?_ | refine WPq.then ?_ | refine WPq.thenR ?_ | refine WPq.thenE ?_ | refine WPq.blockN ?_ | refine WPq.blockR ?_ | refine WPq.blockE ?_ | refine WPq.blockO rfl ?_ | refine WPc.seq ?_ | refine WPc.block ?_ | refine WPc.ret ?_ | refine WPc.exit ?_ | refine WPc.skip ?_ | refine WPc.region ?_
           | (refine isReg 7 ?_; refine WPc.drA [([], [42, 43, 44, 45, 46, 47, 48, 49, 50, 51, 52]), ([], [41, 43, 47, 48, 49, 50, 51, 52]), ([], [41, 42, 47, 48, 49, 50, 51, 52]), ([1, 2], [41, 42, 43, 47, 48, 49, 50, 51, 52]), ([1, 2, 3], [41, 42, 43, 44, 47, 48, 49, 50, 51, 52]), ([1, 2, 3, 4], [41, 42, 43, 44, 45, 47, 48, 49, 50, 51, 52]), ([], [41, 42, 43, 44, 45, 46, 48]), ([], [41, 42, 43, 44, 45, 46, 47]), ([6, 7], [41, 42, 43, 44, 45, 46, 47, 48]), ([6, 7, 8], [41, 42, 43, 44, 45, 46, 47, 48, 49]), ([6, 7, 8, 9], [41, 42, 43, 44, 45, 46, 47, 48, 49, 50]), ([6, 7, 8, 9, 10], [41, 42, 43, 44, 45, 46, 47, 48, 49, 50, 51]), ([0, 1, 2, 3, 4, 5, 6, 7, 8, 9, 10, 11], [41, 42, 43, 44, 45, 46, 47, 48, 49, 50, 51, 52])] [] (Γx := []) ?_; dsimp only [prev0, List.length_nil, List.length_cons])
           | (refine isReg 21 ?_; refine WPc.drA [([], [98, 102, 103, 104, 105, 106]), ([], [97, 102, 103, 104, 105, 106]), ([0, 1], [97, 98, 102, 103, 104, 105, 106]), ([0, 1, 2], [97, 98, 99, 102, 103, 104, 105, 106]), ([0, 1, 2, 3], [97, 98, 99, 100, 102, 103, 104, 105, 106]), ([], [97, 98, 99, 100, 101, 103]), ([], [97, 98, 99, 100, 101, 102]), ([5, 6], [97, 98, 99, 100, 101, 102, 103]), ([5, 6, 7], [97, 98, 99, 100, 101, 102, 103, 104]), ([5, 6, 7, 8], [97, 98, 99, 100, 101, 102, 103, 104, 105]), ([0, 1, 2, 3, 4, 5, 6, 7, 8, 9], [97, 98, 99, 100, 101, 102, 103, 104, 105, 106])] [] (Γx := []) ?_; dsimp only [prev0, List.length_nil, List.length_cons])
           | (refine gAny ?_; first | (refine gOp ?_; first | refine RGl.rdA ?_ | refine RGl.rdX (fun e hk => by (try dsimp only [bndR, ensR, oksR, fcutR, List.append_nil, List.nil_append, List.cons_append, List.append_assoc] at hk ⊢); exact readB) ?_) | (refine RGl.fin (fun e hk => ?_); (try dsimp only [bndA, ensAR, oksA, List.append_nil, List.nil_append, List.cons_append, List.append_assoc] at hk ⊢); (repeat (obtain ⟨hk1, hk⟩ := hk))) | fail)
           | (refine isCond ?_; first | refine WPc.cT ?_ | refine WPc.cF ?_ | (refine WPc.cQ (fun hc => ?_) (fun hc => ?_) <;> try exact prA))
           | (refine isOp ?_; first | refine WPl.rd ?_ | refine WPl.sk ?_ | refine WPl.rdB ?_)
           | (refine isAl ?_; refine WPl.nw fun g => ?_)
           | (refine isSt ?_; first | refine WPl.st1 ?_ | refine WPl.stA ?_ | refine WPl.stEB ?_ | refine WPl.stRB ?_)
           | (show WPl _ _ _ _ _ _ _ (⟨_, .indexAddr _ _ _, _, _, _, _⟩ :: _) _; refine WPl.rdX (ReadR.indexE rfl rfl hasA (by first | assumption | omega)) ?_)
           | (show WPl _ _ _ _ _ _ _ (⟨_, .fieldAddr _ _ _, _, _, _, _⟩ :: _) _; refine WPl.rdX (ReadR.fieldE rfl hasA (by first | assumption | omega)) ?_)
           | (show WPl _ _ _ _ _ _ _ (⟨_, .load _ _, _, _, _, _⟩ :: _) _; first | refine WPl.rdX (ReadR.loadE rfl hasA (by assumption)) ?_ | refine WPl.rdX (ReadR.loadES (by assumption) (by first | assumption | omega) rfl hasA) ?_)
           | (show WPl _ _ _ _ _ _ _ (⟨_, .slice _ _ _ _ _, _, _, _, _⟩ :: _) _; first | refine WPl.rdX (ReadR.sliceH rfl rfl hasA (by omega)) ?_ | refine WPl.rdX (ReadR.sliceL rfl rfl hasA (by omega)) ?_ | refine WPl.rdX (ReadR.sliceLH rfl rfl rfl hasA (by omega) (by omega)) ?_)
           | (refine WPl.spQ (fun hc => ?_) (fun hc => ?_) <;> try exact prA)
           | fail)
          all_goals first | exact WPq.join () trivial | (exfalso; omega) | trace_state
      refine ⟨?_⟩
      cases hb : mhas L p with
      | true =>
        obtain ⟨g, hg⟩ : ∃ g, mget hyM L p = g := ⟨_, rfl⟩
        have hmem := (mhas_iff hS.nd).1 hb
        rw [hg] at hmem c3
        rw [hb] at c3
        obtain ⟨q1, q2, q3, q4⟩ := hS.b _ hmem
        have q5 := hS.cle hmem
        dsimp only at q1 q2 q3 q4 q5
        rw [← hcm] at q3 q4
        have l3 := g.p.1.len
        repeat' (first
         | refine WPl.nil ?_ | refine WPq.then ?_ | refine WPq.thenR ?_ | refine WPq.thenE ?_ | refine WPq.blockN ?_ | refine WPq.blockR ?_ | refine WPq.blockE ?_ | refine WPq.blockO rfl ?_ | refine WPc.seq ?_ | refine WPc.block ?_ | refine WPc.ret ?_ | refine WPc.exit ?_ | refine WPc.skip ?_ | refine WPc.region ?_
         | (refine isReg 7 ?_; refine WPc.drA [([], [42, 43, 44, 45, 46, 47, 48, 49, 50, 51, 52]), ([], [41, 43, 47, 48, 49, 50, 51, 52]), ([], [41, 42, 47, 48, 49, 50, 51, 52]), ([1, 2], [41, 42, 43, 47, 48, 49, 50, 51, 52]), ([1, 2, 3], [41, 42, 43, 44, 47, 48, 49, 50, 51, 52]), ([1, 2, 3, 4], [41, 42, 43, 44, 45, 47, 48, 49, 50, 51, 52]), ([], [41, 42, 43, 44, 45, 46, 48]), ([], [41, 42, 43, 44, 45, 46, 47]), ([6, 7], [41, 42, 43, 44, 45, 46, 47, 48]), ([6, 7, 8], [41, 42, 43, 44, 45, 46, 47, 48, 49]), ([6, 7, 8, 9], [41, 42, 43, 44, 45, 46, 47, 48, 49, 50]), ([6, 7, 8, 9, 10], [41, 42, 43, 44, 45, 46, 47, 48, 49, 50, 51]), ([0, 1, 2, 3, 4, 5, 6, 7, 8, 9, 10, 11], [41, 42, 43, 44, 45, 46, 47, 48, 49, 50, 51, 52])] [] (Γx := []) ?_; dsimp only [prev0, List.length_nil, List.length_cons])
         | (refine isReg 21 ?_; refine WPc.drA [([], [98, 102, 103, 104, 105, 106]), ([], [97, 102, 103, 104, 105, 106]), ([0, 1], [97, 98, 102, 103, 104, 105, 106]), ([0, 1, 2], [97, 98, 99, 102, 103, 104, 105, 106]), ([0, 1, 2, 3], [97, 98, 99, 100, 102, 103, 104, 105, 106]), ([], [97, 98, 99, 100, 101, 103]), ([], [97, 98, 99, 100, 101, 102]), ([5, 6], [97, 98, 99, 100, 101, 102, 103]), ([5, 6, 7], [97, 98, 99, 100, 101, 102, 103, 104]), ([5, 6, 7, 8], [97, 98, 99, 100, 101, 102, 103, 104, 105]), ([0, 1, 2, 3, 4, 5, 6, 7, 8, 9], [97, 98, 99, 100, 101, 102, 103, 104, 105, 106])] [] (Γx := []) ?_; dsimp only [prev0, List.length_nil, List.length_cons])
         | (refine gAny ?_; first | (refine gC 123 ?_; refine RGl.turns (fun e hk => by (try dsimp only [bndR, ensR, oksR, fcutR, List.append_nil, List.nil_append, List.cons_append, List.append_assoc] at hk ⊢); exact OpT.callTs (c3)) ?_) | (refine gD 131 ?_; refine RGl.rdX (fun e hk => by (try dsimp only [bndR, ensR, oksR, fcutR, List.append_nil, List.nil_append, List.cons_append, List.append_assoc] at hk ⊢); exact ReadR.binE rfl rfl BinR.gtr (congrArg Value.bool (decide_eq_false (show ¬ cm > g.c by omega)))) ?_) | (refine gD 138 ?_; refine RGl.rdX (fun e hk => by (try dsimp only [bndR, ensR, oksR, fcutR, List.append_nil, List.nil_append, List.cons_append, List.append_assoc] at hk ⊢); exact ReadR.bin rfl rfl (BinR.subU (by omega) (by omega))) ?_) | (refine gD 139 ?_; refine RGl.rdX (fun e hk => by (try dsimp only [bndR, ensR, oksR, fcutR, List.append_nil, List.nil_append, List.cons_append, List.append_assoc] at hk ⊢); exact ReadR.binE rfl rfl BinR.lss (congrArg Value.bool (decide_eq_false (show ¬ cm < g.c - g.o by omega)))) ?_) | (refine gD 146 ?_; refine RGl.rdX (fun e hk => by (try dsimp only [bndR, ensR, oksR, fcutR, List.append_nil, List.nil_append, List.cons_append, List.append_assoc] at hk ⊢); exact ReadR.binE rfl rfl BinR.gtr (congrArg Value.bool (decide_eq_false (show ¬ g.o > g.c by omega)))) ?_) | (refine gOp ?_; first | refine RGl.rdA ?_ | refine RGl.rdX (fun e hk => by (try dsimp only [bndR, ensR, oksR, fcutR, List.append_nil, List.nil_append, List.cons_append, List.append_assoc] at hk ⊢); exact readB) ?_) | (refine RGl.fin (fun e hk => ?_); (try dsimp only [bndA, ensAR, oksA, List.append_nil, List.nil_append, List.cons_append, List.append_assoc] at hk ⊢); (repeat (obtain ⟨hk1, hk⟩ := hk))) | fail)
         | (refine isCond ?_; first | refine WPc.cT ?_ | refine WPc.cF ?_ | (refine WPc.cQ (fun hc => ?_) (fun hc => ?_) <;> try exact prA))
         | (refine isC 123 ?_; refine WPl.cTs (c3) ?_; (try dsimp only [putF, List.cons_append, List.nil_append]))
         | (refine isD 131 ?_; refine WPl.rdX (ReadR.binE rfl rfl BinR.gtr (congrArg Value.bool (decide_eq_false (show ¬ cm > g.c by omega)))) ?_)
         | (refine isD 138 ?_; refine WPl.rdX (ReadR.bin rfl rfl (BinR.subU (by omega) (by omega))) ?_)
         | (refine isD 139 ?_; refine WPl.rdX (ReadR.binE rfl rfl BinR.lss (congrArg Value.bool (decide_eq_false (show ¬ cm < g.c - g.o by omega)))) ?_)
         | (refine isD 146 ?_; refine WPl.rdX (ReadR.binE rfl rfl BinR.gtr (congrArg Value.bool (decide_eq_false (show ¬ g.o > g.c by omega)))) ?_)
         | (refine isOp ?_; first | refine WPl.rd ?_ | refine WPl.sk ?_ | refine WPl.rdB ?_)
         | (refine isAl ?_; refine WPl.nw fun g => ?_)
         | (refine isSt ?_; first | refine WPl.st1 ?_ | refine WPl.stA ?_ | refine WPl.stEB ?_ | refine WPl.stRB ?_)
         | (show WPl _ _ _ _ _ _ _ (⟨_, .indexAddr _ _ _, _, _, _, _⟩ :: _) _; refine WPl.rdX (ReadR.indexE rfl rfl hasA (by first | assumption | omega)) ?_)
         | (show WPl _ _ _ _ _ _ _ (⟨_, .fieldAddr _ _ _, _, _, _, _⟩ :: _) _; refine WPl.rdX (ReadR.fieldE rfl hasA (by first | assumption | omega)) ?_)
         | (show WPl _ _ _ _ _ _ _ (⟨_, .load _ _, _, _, _, _⟩ :: _) _; first | refine WPl.rdX (ReadR.loadE rfl hasA (by assumption)) ?_ | refine WPl.rdX (ReadR.loadES (by assumption) (by first | assumption | omega) rfl hasA) ?_)
         | (show WPl _ _ _ _ _ _ _ (⟨_, .slice _ _ _ _ _, _, _, _, _⟩ :: _) _; first | refine WPl.rdX (ReadR.sliceH rfl rfl hasA (by omega)) ?_ | refine WPl.rdX (ReadR.sliceL rfl rfl hasA (by omega)) ?_ | refine WPl.rdX (ReadR.sliceLH rfl rfl rfl hasA (by omega) (by omega)) ?_)
         | (refine WPl.spQ (fun hc => ?_) (fun hc => ?_) <;> try exact prA)
         | fail)
        all_goals first | exact WPq.rnd (i + 1, totl (AA l (i + 1))) ⟨by dsimp only; omega, rfl⟩ (by dsimp only; omega) | (exfalso; omega) | trace_state
      | false =>
        obtain ⟨g, hg⟩ : ∃ g, mget hyM L p = g := ⟨_, rfl⟩
        have hno := (mhas_iff hS.nd).2 hb
        rw [hg, hb] at c3
        have l3 := g.p.1.len
        by_cases hc0 : cm > 0
        · have hLn : 0 < L.length := by
            rcases Nat.eq_zero_or_pos L.length with h0 | h0
            · have := hS.few (by omega) p hno
              rw [← hcm] at this; omega
            · exact h0
          obtain ⟨j2, hj2⟩ : ∃ j2, o.length = j2 + 1 := ⟨o.length - 1, by omega⟩
          obtain ⟨hL, hhL⟩ : ∃ h, o[j2]? = some h := ⟨_, List.getElem?_eq_getElem (by omega)⟩
          have hhc := hys_c hhL
          obtain ⟨xl, hxl, rfl⟩ := hoc hL (List.mem_of_getElem? hhL)
          have hlast := hS.no p hno xl hxl
          rw [← hcm] at hlast
          have hne0 : ¬ (o.length : Int) = 0 := by omega
          repeat' (first
           | refine WPl.nil ?_ | refine WPq.then ?_ | refine WPq.thenR ?_ | refine WPq.thenE ?_ | refine WPq.blockN ?_ | refine WPq.blockR ?_ | refine WPq.blockE ?_ | refine WPq.blockO rfl ?_ | refine WPc.seq ?_ | refine WPc.block ?_ | refine WPc.ret ?_ | refine WPc.exit ?_ | refine WPc.skip ?_ | refine WPc.region ?_
           | (refine isReg 7 ?_; refine WPc.drA [([], [42, 43, 44, 45, 46, 47, 48, 49, 50, 51, 52]), ([], [41, 43, 47, 48, 49, 50, 51, 52]), ([], [41, 42, 47, 48, 49, 50, 51, 52]), ([1, 2], [41, 42, 43, 47, 48, 49, 50, 51, 52]), ([1, 2, 3], [41, 42, 43, 44, 47, 48, 49, 50, 51, 52]), ([1, 2, 3, 4], [41, 42, 43, 44, 45, 47, 48, 49, 50, 51, 52]), ([], [41, 42, 43, 44, 45, 46, 48]), ([], [41, 42, 43, 44, 45, 46, 47]), ([6, 7], [41, 42, 43, 44, 45, 46, 47, 48]), ([6, 7, 8], [41, 42, 43, 44, 45, 46, 47, 48, 49]), ([6, 7, 8, 9], [41, 42, 43, 44, 45, 46, 47, 48, 49, 50]), ([6, 7, 8, 9, 10], [41, 42, 43, 44, 45, 46, 47, 48, 49, 50, 51]), ([0, 1, 2, 3, 4, 5, 6, 7, 8, 9, 10, 11], [41, 42, 43, 44, 45, 46, 47, 48, 49, 50, 51, 52])] [] (Γx := []) ?_; dsimp only [prev0, List.length_nil, List.length_cons])
           | (refine isReg 21 ?_; refine WPc.drA [([], [98, 102, 103, 104, 105, 106]), ([], [97, 102, 103, 104, 105, 106]), ([0, 1], [97, 98, 102, 103, 104, 105, 106]), ([0, 1, 2], [97, 98, 99, 102, 103, 104, 105, 106]), ([0, 1, 2, 3], [97, 98, 99, 100, 102, 103, 104, 105, 106]), ([], [97, 98, 99, 100, 101, 103]), ([], [97, 98, 99, 100, 101, 102]), ([5, 6], [97, 98, 99, 100, 101, 102, 103]), ([5, 6, 7], [97, 98, 99, 100, 101, 102, 103, 104]), ([5, 6, 7, 8], [97, 98, 99, 100, 101, 102, 103, 104, 105]), ([0, 1, 2, 3, 4, 5, 6, 7, 8, 9], [97, 98, 99, 100, 101, 102, 103, 104, 105, 106])] [] (Γx := []) ?_; dsimp only [prev0, List.length_nil, List.length_cons])
           | (refine gAny ?_; first | (refine gC 123 ?_; refine RGl.turns (fun e hk => by (try dsimp only [bndR, ensR, oksR, fcutR, List.append_nil, List.nil_append, List.cons_append, List.append_assoc] at hk ⊢); exact OpT.callTs (c3)) ?_) | (refine gD 153 ?_; refine RGl.rdX (fun e hk => by (try dsimp only [bndR, ensR, oksR, fcutR, List.append_nil, List.nil_append, List.cons_append, List.append_assoc] at hk ⊢); exact ReadR.binE rfl rfl BinR.gtr (congrArg Value.bool (decide_eq_true hc0))) ?_) | (refine gD 158 ?_; refine RGl.rdX (fun e hk => by (try dsimp only [bndR, ensR, oksR, fcutR, List.append_nil, List.nil_append, List.cons_append, List.append_assoc] at hk ⊢); exact ReadR.binE rfl rfl BinR.eql (congrArg Value.bool (decide_eq_false hne0))) ?_) | (refine gD 164 ?_; refine RGl.rdX (fun e hk => by (try dsimp only [bndR, ensR, oksR, fcutR, List.append_nil, List.nil_append, List.cons_append, List.append_assoc] at hk ⊢); exact ReadR.binE rfl rfl (BinR.subI (by omega) (by omega)) (congrArg (Value.int .i64) (show (o.length : Int) - 1 = (j2 : Int) by omega))) ?_) | (refine gD 165 ?_; refine RGl.rdX (fun e hk => by (try dsimp only [bndR, ensR, oksR, fcutR, List.append_nil, List.nil_append, List.cons_append, List.append_assoc] at hk ⊢); exact ReadR.indexE (i := j2) rfl rfl hasA (by omega)) ?_) | (refine gD 166 ?_; refine RGl.rdX (fun e hk => by (try dsimp only [bndR, ensR, oksR, fcutR, List.append_nil, List.nil_append, List.cons_append, List.append_assoc] at hk ⊢); exact ReadR.fieldE rfl hasA (by omega)) ?_) | (refine gD 167 ?_; refine RGl.rdX (fun e hk => by (try dsimp only [bndR, ensR, oksR, fcutR, List.append_nil, List.nil_append, List.cons_append, List.append_assoc] at hk ⊢); exact ReadR.loadE rfl hasA hhc) ?_) | (refine gD 168 ?_; refine RGl.rdX (fun e hk => by (try dsimp only [bndR, ensR, oksR, fcutR, List.append_nil, List.nil_append, List.cons_append, List.append_assoc] at hk ⊢); exact ReadR.binE rfl rfl BinR.gtr (congrArg Value.bool (decide_eq_false (show ¬ cm > xl.2.c by omega)))) ?_) | (refine gOp ?_; first | refine RGl.rdA ?_ | refine RGl.rdX (fun e hk => by (try dsimp only [bndR, ensR, oksR, fcutR, List.append_nil, List.nil_append, List.cons_append, List.append_assoc] at hk ⊢); exact readB) ?_) | (refine RGl.fin (fun e hk => ?_); (try dsimp only [bndA, ensAR, oksA, List.append_nil, List.nil_append, List.cons_append, List.append_assoc] at hk ⊢); (repeat (obtain ⟨hk1, hk⟩ := hk))) | fail)
           | (refine isCond ?_; first | refine WPc.cT ?_ | refine WPc.cF ?_ | (refine WPc.cQ (fun hc => ?_) (fun hc => ?_) <;> try exact prA))
           | (refine isC 123 ?_; refine WPl.cTs (c3) ?_; (try dsimp only [putF, List.cons_append, List.nil_append]))
           | (refine isD 153 ?_; refine WPl.rdX (ReadR.binE rfl rfl BinR.gtr (congrArg Value.bool (decide_eq_true hc0))) ?_)
           | (refine isD 158 ?_; refine WPl.rdX (ReadR.binE rfl rfl BinR.eql (congrArg Value.bool (decide_eq_false hne0))) ?_)
           | (refine isD 164 ?_; refine WPl.rdX (ReadR.binE rfl rfl (BinR.subI (by omega) (by omega)) (congrArg (Value.int .i64) (show (o.length : Int) - 1 = (j2 : Int) by omega))) ?_)
           | (refine isD 165 ?_; refine WPl.rdX (ReadR.indexE (i := j2) rfl rfl hasA (by omega)) ?_)
           | (refine isD 166 ?_; refine WPl.rdX (ReadR.fieldE rfl hasA (by omega)) ?_)
           | (refine isD 167 ?_; refine WPl.rdX (ReadR.loadE rfl hasA hhc) ?_)
           | (refine isD 168 ?_; refine WPl.rdX (ReadR.binE rfl rfl BinR.gtr (congrArg Value.bool (decide_eq_false (show ¬ cm > xl.2.c by omega)))) ?_)
           | (refine isOp ?_; first | refine WPl.rd ?_ | refine WPl.sk ?_ | refine WPl.rdB ?_)
           | (refine isAl ?_; refine WPl.nw fun g => ?_)
           | (refine isSt ?_; first | refine WPl.st1 ?_ | refine WPl.stA ?_ | refine WPl.stEB ?_ | refine WPl.stRB ?_)
           | (show WPl _ _ _ _ _ _ _ (⟨_, .indexAddr _ _ _, _, _, _, _⟩ :: _) _; refine WPl.rdX (ReadR.indexE rfl rfl hasA (by first | assumption | omega)) ?_)
           | (show WPl _ _ _ _ _ _ _ (⟨_, .fieldAddr _ _ _, _, _, _, _⟩ :: _) _; refine WPl.rdX (ReadR.fieldE rfl hasA (by first | assumption | omega)) ?_)
           | (show WPl _ _ _ _ _ _ _ (⟨_, .load _ _, _, _, _, _⟩ :: _) _; first | refine WPl.rdX (ReadR.loadE rfl hasA (by assumption)) ?_ | refine WPl.rdX (ReadR.loadES (by assumption) (by first | assumption | omega) rfl hasA) ?_)
           | (show WPl _ _ _ _ _ _ _ (⟨_, .slice _ _ _ _ _, _, _, _, _⟩ :: _) _; first | refine WPl.rdX (ReadR.sliceH rfl rfl hasA (by omega)) ?_ | refine WPl.rdX (ReadR.sliceL rfl rfl hasA (by omega)) ?_ | refine WPl.rdX (ReadR.sliceLH rfl rfl rfl hasA (by omega) (by omega)) ?_)
           | (refine WPl.spQ (fun hc => ?_) (fun hc => ?_) <;> try exact prA)
           | fail)
          all_goals first | exact WPq.rnd (i + 1, totl (AA l (i + 1))) ⟨by dsimp only; omega, rfl⟩ (by dsimp only; omega) | (exfalso; omega) | trace_state
        · skip
          repeat' (first
           | refine WPl.nil ?_ | refine WPq.then ?_ | refine WPq.thenR ?_ | refine WPq.thenE ?_ | refine WPq.blockN ?_ | refine WPq.blockR ?_ | refine WPq.blockE ?_ | refine WPq.blockO rfl ?_ | refine WPc.seq ?_ | refine WPc.block ?_ | refine WPc.ret ?_ | refine WPc.exit ?_ | refine WPc.skip ?_ | refine WPc.region ?_
           | (refine isReg 7 ?_; refine WPc.drA [([], [42, 43, 44, 45, 46, 47, 48, 49, 50, 51, 52]), ([], [41, 43, 47, 48, 49, 50, 51, 52]), ([], [41, 42, 47, 48, 49, 50, 51, 52]), ([1, 2], [41, 42, 43, 47, 48, 49, 50, 51, 52]), ([1, 2, 3], [41, 42, 43, 44, 47, 48, 49, 50, 51, 52]), ([1, 2, 3, 4], [41, 42, 43, 44, 45, 47, 48, 49, 50, 51, 52]), ([], [41, 42, 43, 44, 45, 46, 48]), ([], [41, 42, 43, 44, 45, 46, 47]), ([6, 7], [41, 42, 43, 44, 45, 46, 47, 48]), ([6, 7, 8], [41, 42, 43, 44, 45, 46, 47, 48, 49]), ([6, 7, 8, 9], [41, 42, 43, 44, 45, 46, 47, 48, 49, 50]), ([6, 7, 8, 9, 10], [41, 42, 43, 44, 45, 46, 47, 48, 49, 50, 51]), ([0, 1, 2, 3, 4, 5, 6, 7, 8, 9, 10, 11], [41, 42, 43, 44, 45, 46, 47, 48, 49, 50, 51, 52])] [] (Γx := []) ?_; dsimp only [prev0, List.length_nil, List.length_cons])
           | (refine isReg 21 ?_; refine WPc.drA [([], [98, 102, 103, 104, 105, 106]), ([], [97, 102, 103, 104, 105, 106]), ([0, 1], [97, 98, 102, 103, 104, 105, 106]), ([0, 1, 2], [97, 98, 99, 102, 103, 104, 105, 106]), ([0, 1, 2, 3], [97, 98, 99, 100, 102, 103, 104, 105, 106]), ([], [97, 98, 99, 100, 101, 103]), ([], [97, 98, 99, 100, 101, 102]), ([5, 6], [97, 98, 99, 100, 101, 102, 103]), ([5, 6, 7], [97, 98, 99, 100, 101, 102, 103, 104]), ([5, 6, 7, 8], [97, 98, 99, 100, 101, 102, 103, 104, 105]), ([0, 1, 2, 3, 4, 5, 6, 7, 8, 9], [97, 98, 99, 100, 101, 102, 103, 104, 105, 106])] [] (Γx := []) ?_; dsimp only [prev0, List.length_nil, List.length_cons])
           | (refine gAny ?_; first | (refine gC 123 ?_; refine RGl.turns (fun e hk => by (try dsimp only [bndR, ensR, oksR, fcutR, List.append_nil, List.nil_append, List.cons_append, List.append_assoc] at hk ⊢); exact OpT.callTs (c3)) ?_) | (refine gD 153 ?_; refine RGl.rdX (fun e hk => by (try dsimp only [bndR, ensR, oksR, fcutR, List.append_nil, List.nil_append, List.cons_append, List.append_assoc] at hk ⊢); exact ReadR.binE rfl rfl BinR.gtr (congrArg Value.bool (decide_eq_false hc0))) ?_) | (refine gOp ?_; first | refine RGl.rdA ?_ | refine RGl.rdX (fun e hk => by (try dsimp only [bndR, ensR, oksR, fcutR, List.append_nil, List.nil_append, List.cons_append, List.append_assoc] at hk ⊢); exact readB) ?_) | (refine RGl.fin (fun e hk => ?_); (try dsimp only [bndA, ensAR, oksA, List.append_nil, List.nil_append, List.cons_append, List.append_assoc] at hk ⊢); (repeat (obtain ⟨hk1, hk⟩ := hk))) | fail)
           | (refine isCond ?_; first | refine WPc.cT ?_ | refine WPc.cF ?_ | (refine WPc.cQ (fun hc => ?_) (fun hc => ?_) <;> try exact prA))
           | (refine isC 123 ?_; refine WPl.cTs (c3) ?_; (try dsimp only [putF, List.cons_append, List.nil_append]))
           | (refine isD 153 ?_; refine WPl.rdX (ReadR.binE rfl rfl BinR.gtr (congrArg Value.bool (decide_eq_false hc0))) ?_)
           | (refine isOp ?_; first | refine WPl.rd ?_ | refine WPl.sk ?_ | refine WPl.rdB ?_)
           | (refine isAl ?_; refine WPl.nw fun g => ?_)
           | (refine isSt ?_; first | refine WPl.st1 ?_ | refine WPl.stA ?_ | refine WPl.stEB ?_ | refine WPl.stRB ?_)
           | (show WPl _ _ _ _ _ _ _ (⟨_, .indexAddr _ _ _, _, _, _, _⟩ :: _) _; refine WPl.rdX (ReadR.indexE rfl rfl hasA (by first | assumption | omega)) ?_)
           | (show WPl _ _ _ _ _ _ _ (⟨_, .fieldAddr _ _ _, _, _, _, _⟩ :: _) _; refine WPl.rdX (ReadR.fieldE rfl hasA (by first | assumption | omega)) ?_)
           | (show WPl _ _ _ _ _ _ _ (⟨_, .load _ _, _, _, _, _⟩ :: _) _; first | refine WPl.rdX (ReadR.loadE rfl hasA (by assumption)) ?_ | refine WPl.rdX (ReadR.loadES (by assumption) (by first | assumption | omega) rfl hasA) ?_)
           | (show WPl _ _ _ _ _ _ _ (⟨_, .slice _ _ _ _ _, _, _, _, _⟩ :: _) _; first | refine WPl.rdX (ReadR.sliceH rfl rfl hasA (by omega)) ?_ | refine WPl.rdX (ReadR.sliceL rfl rfl hasA (by omega)) ?_ | refine WPl.rdX (ReadR.sliceLH rfl rfl rfl hasA (by omega) (by omega)) ?_)
           | (refine WPl.spQ (fun hc => ?_) (fun hc => ?_) <;> try exact prA)
           | fail)
          all_goals first | exact WPq.rnd (i + 1, totl (AA l (i + 1))) ⟨by dsimp only; omega, rfl⟩ (by dsimp only; omega) | (exfalso; omega) | trace_state
    · have ht9e : t9 = totl (AA l 80) := by rw [ht9, AA_end (l := l) (i := i) (by omega)]
      have hss : sm = t9 := by rw [hsmt, ht9e]
      have hat : ta = t9 := by rw [hta, ht9e]
      have c4 := tall_t gT m ((n : Nat) : Int) ta
      have hle : (o.length : Int) ≤ (n : Int) := by omega
      repeat' (first
       | refine WPl.nil ?_ | refine WPq.then ?_ | refine WPq.thenR ?_ | refine WPq.thenE ?_ | refine WPq.blockN ?_ | refine WPq.blockR ?_ | refine WPq.blockE ?_ | refine WPq.blockO rfl ?_ | refine WPc.seq ?_ | refine WPc.block ?_ | refine WPc.ret ?_ | refine WPc.exit ?_ | refine WPc.skip ?_ | refine WPc.region ?_
       | (refine isReg 7 ?_; refine WPc.drA [([], [42, 43, 44, 45, 46, 47, 48, 49, 50, 51, 52]), ([], [41, 43, 47, 48, 49, 50, 51, 52]), ([], [41, 42, 47, 48, 49, 50, 51, 52]), ([1, 2], [41, 42, 43, 47, 48, 49, 50, 51, 52]), ([1, 2, 3], [41, 42, 43, 44, 47, 48, 49, 50, 51, 52]), ([1, 2, 3, 4], [41, 42, 43, 44, 45, 47, 48, 49, 50, 51, 52]), ([], [41, 42, 43, 44, 45, 46, 48]), ([], [41, 42, 43, 44, 45, 46, 47]), ([6, 7], [41, 42, 43, 44, 45, 46, 47, 48]), ([6, 7, 8], [41, 42, 43, 44, 45, 46, 47, 48, 49]), ([6, 7, 8, 9], [41, 42, 43, 44, 45, 46, 47, 48, 49, 50]), ([6, 7, 8, 9, 10], [41, 42, 43, 44, 45, 46, 47, 48, 49, 50, 51]), ([0, 1, 2, 3, 4, 5, 6, 7, 8, 9, 10, 11], [41, 42, 43, 44, 45, 46, 47, 48, 49, 50, 51, 52])] [] (Γx := []) ?_; dsimp only [prev0, List.length_nil, List.length_cons])
       | (refine isReg 21 ?_; refine WPc.drA [([], [98, 102, 103, 104, 105, 106]), ([], [97, 102, 103, 104, 105, 106]), ([0, 1], [97, 98, 102, 103, 104, 105, 106]), ([0, 1, 2], [97, 98, 99, 102, 103, 104, 105, 106]), ([0, 1, 2, 3], [97, 98, 99, 100, 102, 103, 104, 105, 106]), ([], [97, 98, 99, 100, 101, 103]), ([], [97, 98, 99, 100, 101, 102]), ([5, 6], [97, 98, 99, 100, 101, 102, 103]), ([5, 6, 7], [97, 98, 99, 100, 101, 102, 103, 104]), ([5, 6, 7, 8], [97, 98, 99, 100, 101, 102, 103, 104, 105]), ([0, 1, 2, 3, 4, 5, 6, 7, 8, 9], [97, 98, 99, 100, 101, 102, 103, 104, 105, 106])] [] (Γx := []) ?_; dsimp only [prev0, List.length_nil, List.length_cons])
       | (refine gAny ?_; first | (refine gC 176 ?_; refine RGl.turns (fun e hk => by (try dsimp only [bndR, ensR, oksR, fcutR, List.append_nil, List.nil_append, List.cons_append, List.append_assoc] at hk ⊢); exact OpT.callTs (c4)) ?_) | (refine gC 190 ?_; refine RGl.vl (fun e hk => OpT.callN (hlive)) ?_) | (refine gD 173 ?_; refine RGl.rdX (fun e hk => by (try dsimp only [bndR, ensR, oksR, fcutR, List.append_nil, List.nil_append, List.cons_append, List.append_assoc] at hk ⊢); exact ReadR.binE rfl rfl BinR.eql (congrArg Value.bool (decide_eq_true hss))) ?_) | (refine gD 178 ?_; refine RGl.rdX (fun e hk => by (try dsimp only [bndR, ensR, oksR, fcutR, List.append_nil, List.nil_append, List.cons_append, List.append_assoc] at hk ⊢); exact ReadR.binE rfl rfl BinR.eql (congrArg Value.bool (decide_eq_true hat))) ?_) | (refine gD 186 ?_; refine RGl.rdX (fun e hk => by (try dsimp only [bndR, ensR, oksR, fcutR, List.append_nil, List.nil_append, List.cons_append, List.append_assoc] at hk ⊢); exact ReadR.binE rfl rfl (BinR.addK (by simp only [kmin]; omega) (by simp only [kmax]; omega)) (congrArg (Value.int .i64) hN)) ?_) | (refine gD 187 ?_; refine RGl.rdX (fun e hk => by (try dsimp only [bndR, ensR, oksR, fcutR, List.append_nil, List.nil_append, List.cons_append, List.append_assoc] at hk ⊢); exact ReadR.binE rfl rfl BinR.leq (congrArg Value.bool (decide_eq_true hle))) ?_) | (refine gOp ?_; first | refine RGl.rdA ?_ | refine RGl.rdX (fun e hk => by (try dsimp only [bndR, ensR, oksR, fcutR, List.append_nil, List.nil_append, List.cons_append, List.append_assoc] at hk ⊢); exact readB) ?_) | (refine RGl.fin (fun e hk => ?_); (try dsimp only [bndA, ensAR, oksA, List.append_nil, List.nil_append, List.cons_append, List.append_assoc] at hk ⊢); (repeat (obtain ⟨hk1, hk⟩ := hk))) | fail)
       | (refine isCond ?_; first | refine WPc.cT ?_ | refine WPc.cF ?_ | (refine WPc.cQ (fun hc => ?_) (fun hc => ?_) <;> try exact prA))
       | (refine isD 173 ?_; refine WPl.rdX (ReadR.binE rfl rfl BinR.eql (congrArg Value.bool (decide_eq_true hss))) ?_)
       | (refine isC 176 ?_; refine WPl.cTs (c4) ?_; (try dsimp only [putF, List.cons_append, List.nil_append]))
       | (refine isD 178 ?_; refine WPl.rdX (ReadR.binE rfl rfl BinR.eql (congrArg Value.bool (decide_eq_true hat))) ?_)
       | (refine isD 186 ?_; refine WPl.rdX (ReadR.binE rfl rfl (BinR.addK (by simp only [kmin]; omega) (by simp only [kmax]; omega)) (congrArg (Value.int .i64) hN)) ?_)
       | (refine isD 187 ?_; refine WPl.rdX (ReadR.binE rfl rfl BinR.leq (congrArg Value.bool (decide_eq_true hle))) ?_)
       | (refine isC 190 ?_; refine WPl.cV (hlive) ?_)
       | (refine isOp ?_; first | refine WPl.rd ?_ | refine WPl.sk ?_ | refine WPl.rdB ?_)
       | (refine isAl ?_; refine WPl.nw fun g => ?_)
       | (refine isSt ?_; first | refine WPl.st1 ?_ | refine WPl.stA ?_ | refine WPl.stEB ?_ | refine WPl.stRB ?_)
       | (show WPl _ _ _ _ _ _ _ (⟨_, .indexAddr _ _ _, _, _, _, _⟩ :: _) _; refine WPl.rdX (ReadR.indexE rfl rfl hasA (by first | assumption | omega)) ?_)
       | (show WPl _ _ _ _ _ _ _ (⟨_, .fieldAddr _ _ _, _, _, _, _⟩ :: _) _; refine WPl.rdX (ReadR.fieldE rfl hasA (by first | assumption | omega)) ?_)
       | (show WPl _ _ _ _ _ _ _ (⟨_, .load _ _, _, _, _, _⟩ :: _) _; first | refine WPl.rdX (ReadR.loadE rfl hasA (by assumption)) ?_ | refine WPl.rdX (ReadR.loadES (by assumption) (by first | assumption | omega) rfl hasA) ?_)
       | (show WPl _ _ _ _ _ _ _ (⟨_, .slice _ _ _ _ _, _, _, _, _⟩ :: _) _; first | refine WPl.rdX (ReadR.sliceH rfl rfl hasA (by omega)) ?_ | refine WPl.rdX (ReadR.sliceL rfl rfl hasA (by omega)) ?_ | refine WPl.rdX (ReadR.sliceLH rfl rfl rfl hasA (by omega) (by omega)) ?_)
       | (refine WPl.spQ (fun hc => ?_) (fun hc => ?_) <;> try exact prA)
       | fail)
      all_goals first | exact WPq.dV | (exfalso; omega) | trace_state
end Go.Proofs.Ytncgponcedkihaa
