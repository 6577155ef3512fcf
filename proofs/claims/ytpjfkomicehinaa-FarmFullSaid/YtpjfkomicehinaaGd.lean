/- Layer 20 (farm): contracts: where a backend is, or would be. -/
import Derived.Test.YtpjfkomicehinaaGc
namespace Go.Proofs.Ytpjfkomicehinaa
def lbB (l : List Bk) (id : Int) : Nat := (l.filter fun b => decide (b.id < id)).length
def hasB (l : List Bk) (id : Int) : Bool := l.any fun b => decide (b.id = id)
def SrtB (l : List Bk) : Prop := l.Pairwise fun a b => a.id < b.id
theorem srt_lt {l : List Bk} (h : SrtB l) {i j : Nat} {a b : Bk} (ha : l[i]? = some a) (hb : l[j]? = some b) (hij : i < j) : a.id < b.id := by
  obtain ⟨hi, rfl⟩ := List.getElem?_eq_some_iff.1 ha
  obtain ⟨hj, rfl⟩ := List.getElem?_eq_some_iff.1 hb
  exact List.pairwise_iff_getElem.1 h i j hi hj hij
theorem filter_split {l : List Bk} {q : Bk → Bool} {i : Nat} (hi : i ≤ l.length) (h1 : ∀ k b, k < i → l[k]? = some b → q b = true) (h2 : ∀ k b, i ≤ k → l[k]? = some b → q b = false) : l.filter q = l.take i ∧ (l.filter fun b => !q b) = l.drop i := by
  have e := List.take_append_drop i l
  have f1 : (l.take i).filter q = l.take i := List.filter_eq_self.2 fun b hb => by
    obtain ⟨k, hk⟩ := List.getElem?_of_mem hb
    have hlt : k < i := by have := (List.getElem?_eq_some_iff.1 hk).1; rw [List.length_take] at this; omega
    rw [List.getElem?_take_of_lt hlt] at hk
    exact h1 k b hlt hk
  have f2 : (l.drop i).filter q = [] := List.filter_eq_nil_iff.2 fun b hb => by
    obtain ⟨k, hk⟩ := List.getElem?_of_mem hb
    rw [List.getElem?_drop] at hk
    rw [h2 (i + k) b (by omega) hk]; simp
  have f3 : ((l.take i).filter fun b => !q b) = [] := List.filter_eq_nil_iff.2 fun b hb => by
    obtain ⟨k, hk⟩ := List.getElem?_of_mem hb
    have hlt : k < i := by have := (List.getElem?_eq_some_iff.1 hk).1; rw [List.length_take] at this; omega
    rw [List.getElem?_take_of_lt hlt] at hk
    rw [h1 k b hlt hk]; simp
  have f4 : ((l.drop i).filter fun b => !q b) = l.drop i := List.filter_eq_self.2 fun b hb => by
    obtain ⟨k, hk⟩ := List.getElem?_of_mem hb
    rw [List.getElem?_drop] at hk
    rw [h2 (i + k) b (by omega) hk]; rfl
  constructor
  · conv => lhs; rw [← e]
    rw [List.filter_append, f1, f2, List.append_nil]
  · conv => lhs; rw [← e]
    rw [List.filter_append, f3, f4, List.nil_append]
theorem lb_of {l : List Bk} {id : Int} {i : Nat} (hi : i ≤ l.length) (h1 : ∀ k b, k < i → l[k]? = some b → b.id < id) (h2 : ∀ k b, i ≤ k → l[k]? = some b → ¬ b.id < id) : lbB l id = i := by
  unfold lbB
  rw [(filter_split (q := fun b => decide (b.id < id)) hi (fun k b hk hb => decide_eq_true (h1 k b hk hb)) (fun k b hk hb => decide_eq_false (h2 k b hk hb))).1, List.length_take]
  omega
theorem has_at {l : List Bk} (hs : SrtB l) {id : Int} {i : Nat} (h1 : ∀ k b, k < i → l[k]? = some b → b.id < id) (h2 : ∀ k b, i ≤ k → l[k]? = some b → ¬ b.id < id) : hasB l id = (match l[i]? with | some b => decide (b.id = id) | none => false) := by
  unfold hasB
  rw [Bool.eq_iff_iff, List.any_eq_true]
  constructor
  · rintro ⟨b, hb, hid⟩
    have hid : b.id = id := by simpa using hid
    obtain ⟨k, hk⟩ := List.getElem?_of_mem hb
    have hki : i ≤ k := by
      refine Nat.le_of_not_lt fun h => ?_
      have := h1 k b h hk
      omega
    have hkl := (List.getElem?_eq_some_iff.1 hk).1
    obtain ⟨c, hc⟩ : ∃ c, l[i]? = some c := ⟨_, List.getElem?_eq_getElem (by omega)⟩
    rw [hc]
    by_cases hik : i = k
    · subst hik
      rw [hk] at hc
      cases hc
      exact decide_eq_true hid
    · have := srt_lt hs hc hk (by omega)
      exact absurd (by omega) (h2 i c (Nat.le_refl _) hc)
  · intro h
    cases hc : l[i]? with
    | none => rw [hc] at h; cases h
    | some c => rw [hc] at h; exact ⟨c, List.mem_of_getElem? hc, h⟩
open Go.RowKit
set_option linter.unusedSimpArgs false
set_option linter.unusedVariables false
set_option maxRecDepth 20000
set_option maxHeartbeats 4000000
attribute [local irreducible] WPc WPl WPq ReadR OpT BinR HasS bx rdN rowN Take Takes Prov Triple ResF BuildP Done ag Int.decLt Int.decLe Int.instDecidableEq
attribute [local irreducible] mp rmp rg rgo mput mget mfind mdel gbag bks ies lbB hasB
theorem gbs_t (vb : Value) (l : List Bk) (id : Int) (hs : SrtB l) (hl : l.length ≤ 1000) (cf : Value) (hcf : cf = .func (.func 48) #[] #[]) :
    Triple Try.prog 47 #[vb, .int .i64 id, cf] [rdN vb l.length (bks l)] (RVal (.tuple #[.int .i64 (lbB l id : Int), .bool (hasB l id)])) := by
  subst hcf
  have hL := bks_len (l := l)
  have cF := fun b : Bk => gat1_t b id
  refine Triple.enter Try.func47 rfl Try.ntmps47 rfl (fun W => ?_)
  dsimp only [argsF, Nat.reduceAdd]
  repeat' (first
   | refine WPl.nil ?_ | refine WPq.then ?_ | refine WPq.thenR ?_ | refine WPq.thenE ?_ | refine WPq.blockN ?_ | refine WPq.blockR ?_ | refine WPq.blockE ?_ | refine WPq.blockO rfl ?_ | refine WPc.seq ?_ | refine WPc.block ?_ | refine WPc.ret ?_ | refine WPc.exit ?_ | refine WPc.skip ?_ | refine WPc.region ?_
   | (refine isCond ?_; first | refine WPc.cT ?_ | refine WPc.cF ?_ | (refine WPc.cQ (fun hc => ?_) (fun hc => ?_) <;> try exact prA))
   | (refine isOp ?_; first | refine WPl.rd ?_ | refine WPl.sk ?_ | refine WPl.rdB ?_)
   | (show WPl _ _ _ _ _ _ _ (⟨_, .indexAddr _ _ _, _, _, _, _⟩ :: _) _; refine WPl.rdX (ReadR.indexE rfl rfl hasA (by first | assumption | omega)) ?_)
   | (show WPl _ _ _ _ _ _ _ (⟨_, .fieldAddr _ _ _, _, _, _, _⟩ :: _) _; refine WPl.rdX (ReadR.fieldE rfl hasA (by first | assumption | omega)) ?_)
   | (show WPl _ _ _ _ _ _ _ (⟨_, .load _ _, _, _, _, _⟩ :: _) _; first | refine WPl.rdX (ReadR.loadE rfl hasA (by assumption)) ?_ | refine WPl.rdX (ReadR.loadES (by assumption) (by first | assumption | omega) rfl hasA) ?_)
   | (show WPl _ _ _ _ _ _ _ (⟨_, .slice _ _ _ _ _, _, _, _, _⟩ :: _) _; first | refine WPl.rdX (ReadR.sliceH rfl rfl hasA (by omega)) ?_ | refine WPl.rdX (ReadR.sliceL rfl rfl hasA (by omega)) ?_ | refine WPl.rdX (ReadR.sliceLH rfl rfl rfl hasA (by omega) (by omega)) ?_)
   | (refine WPl.spQ (fun hc => ?_) (fun hc => ?_) <;> try exact prA)
   | fail)
  first | refine WPc.loop (σ := Nat × Nat) (fun st => st.1 ≤ st.2 ∧ st.2 ≤ l.length ∧ (∀ k b, k < st.1 → l[k]? = some b → b.id < id) ∧ (∀ k b, st.2 ≤ k → l[k]? = some b → ¬ b.id < id)) (fun st => [rdN vb l.length (bks l)]) (fun st => [(0, vb), (1, .int .i64 id), (2, .func (.func 48) #[] #[]), (8, .int .i64 (l.length : Int)), (9, .int .i64 (st.1 : Int)), (10, .int .i64 (st.2 : Int))]) (fun st => st.2 - st.1) ((0, l.length)) ?_ takesA frsA (fun st km hx hk => ?_)
  · exact ⟨Nat.zero_le _, Nat.le_refl _, fun k b hk => absurd hk (Nat.not_lt_zero _), fun k b hk hb => absurd (List.getElem?_eq_some_iff.1 hb).1 (by omega)⟩
  obtain ⟨i, j⟩ := st
  obtain ⟨hij, hj, h1, h2⟩ := hx
  dsimp only at hij hj h1 h2 hk ⊢
  have hkm : km = j - i := hk
  clear hk
  by_cases hlt : i < j
  · have hlt' : (i : Int) < (j : Int) := by omega
    obtain ⟨m, hm⟩ : ∃ m, m = (i + j) / 2 := ⟨_, rfl⟩
    have hml : m < l.length := by omega
    obtain ⟨b, hb⟩ : ∃ b, l[m]? = some b := ⟨_, List.getElem?_eq_getElem hml⟩
    have hbc := bks_at hb
    have cb := cF b
    have hw : IntKind.u64.wrap ((i : Int) + (j : Int)) = (((i + j : Nat) : Nat) : Int) := by rw [IntKind.wrap_u64]; omega
    have hsh : Value.int .u64 (((i : Int) + (j : Int)) / 2 ^ 1) = Value.int .u64 (m : Int) := by congr 1; omega
    have hw2 : IntKind.i64.wrap (((m : Nat) : Nat) : Int) = (m : Int) := by rw [IntKind.wrap_i64]; omega
    by_cases hc : b.id < id
    · have hcv : cmpI b.id id = -1 := by unfold cmpI; rw [if_pos hc]
      rw [hcv] at cb
      repeat' (first
       | refine WPl.nil ?_ | refine WPq.then ?_ | refine WPq.thenR ?_ | refine WPq.thenE ?_ | refine WPq.blockN ?_ | refine WPq.blockR ?_ | refine WPq.blockE ?_ | refine WPq.blockO rfl ?_ | refine WPc.seq ?_ | refine WPc.block ?_ | refine WPc.ret ?_ | refine WPc.exit ?_ | refine WPc.skip ?_ | refine WPc.region ?_
       | (refine isCond ?_; first | refine WPc.cT ?_ | refine WPc.cF ?_ | (refine WPc.cQ (fun hc => ?_) (fun hc => ?_) <;> try first | exact prA | (exfalso; first | omega)))
       | (refine isD 17 ?_; refine WPl.rdX (ReadR.binE rfl rfl BinR.lss (congrArg Value.bool (decide_eq_true hlt'))) ?_)
       | (refine isD 20 ?_; refine WPl.rdX (ReadR.binE rfl rfl (BinR.addI (by omega) (by omega)) rfl) ?_)
       | (refine isD 22 ?_; refine WPl.rdX (ReadR.binE rfl rfl (BinR.shrK (n := 1) rfl (by decide)) hsh) ?_)
       | (refine isD 27 ?_; refine WPl.rdX (ReadR.indexE (i := m) rfl rfl hasA hml) ?_)
       | (refine isD 28 ?_; refine WPl.rdX (ReadR.loadES (cs := bkC b) hbc (by omega) rfl hasA) ?_)
       | (refine isD 30 ?_; refine WPl.cFV [ag (bkC b), .int .i64 id] [] cb ?_)
       | (refine isD 31 ?_; refine WPl.rdX (ReadR.binE rfl rfl BinR.lss (congrArg Value.bool (decide_eq_true (show (-1 : Int) < 0 by omega)))) ?_)
       | (refine isOp ?_; first | refine WPl.rd ?_ | refine WPl.sk ?_ | refine WPl.rdB ?_)
       | (show WPl _ _ _ _ _ _ _ (⟨_, .indexAddr _ _ _, _, _, _, _⟩ :: _) _; refine WPl.rdX (ReadR.indexE rfl rfl hasA (by first | assumption | omega)) ?_)
       | (show WPl _ _ _ _ _ _ _ (⟨_, .fieldAddr _ _ _, _, _, _, _⟩ :: _) _; refine WPl.rdX (ReadR.fieldE rfl hasA (by first | assumption | omega)) ?_)
       | (show WPl _ _ _ _ _ _ _ (⟨_, .load _ _, _, _, _, _⟩ :: _) _; first | refine WPl.rdX (ReadR.loadE rfl hasA (by assumption)) ?_ | refine WPl.rdX (ReadR.loadES (by assumption) (by first | assumption | omega) rfl hasA) ?_)
       | (show WPl _ _ _ _ _ _ _ (⟨_, .slice _ _ _ _ _, _, _, _, _⟩ :: _) _; first | refine WPl.rdX (ReadR.sliceH rfl rfl hasA (by omega)) ?_ | refine WPl.rdX (ReadR.sliceL rfl rfl hasA (by omega)) ?_ | refine WPl.rdX (ReadR.sliceLH rfl rfl rfl hasA (by omega) (by omega)) ?_)
       | (refine WPl.spQ (fun hc => ?_) (fun hc => ?_) <;> try first | exact prA | (exfalso; first | omega))
       | fail)
      refine WPq.rnd (m + 1, j) ⟨by dsimp only; omega, hj, fun k c hk hc' => ?_, h2⟩ (by dsimp only; omega)
      dsimp only at hk
      by_cases hkm' : k = m
      · subst hkm'; rw [hb] at hc'; cases hc'; exact hc
      · exact Int.lt_trans (srt_lt hs hc' hb (by omega)) hc
    · have hcv : ¬ cmpI b.id id < 0 := by unfold cmpI; rw [if_neg hc]; split <;> omega
      repeat' (first
       | refine WPl.nil ?_ | refine WPq.then ?_ | refine WPq.thenR ?_ | refine WPq.thenE ?_ | refine WPq.blockN ?_ | refine WPq.blockR ?_ | refine WPq.blockE ?_ | refine WPq.blockO rfl ?_ | refine WPc.seq ?_ | refine WPc.block ?_ | refine WPc.ret ?_ | refine WPc.exit ?_ | refine WPc.skip ?_ | refine WPc.region ?_
       | (refine isCond ?_; first | refine WPc.cT ?_ | refine WPc.cF ?_ | (refine WPc.cQ (fun hc => ?_) (fun hc => ?_) <;> try first | exact prA | (exfalso; first | omega)))
       | (refine isD 17 ?_; refine WPl.rdX (ReadR.binE rfl rfl BinR.lss (congrArg Value.bool (decide_eq_true hlt'))) ?_)
       | (refine isD 20 ?_; refine WPl.rdX (ReadR.binE rfl rfl (BinR.addI (by omega) (by omega)) rfl) ?_)
       | (refine isD 22 ?_; refine WPl.rdX (ReadR.binE rfl rfl (BinR.shrK (n := 1) rfl (by decide)) hsh) ?_)
       | (refine isD 27 ?_; refine WPl.rdX (ReadR.indexE (i := m) rfl rfl hasA hml) ?_)
       | (refine isD 28 ?_; refine WPl.rdX (ReadR.loadES (cs := bkC b) hbc (by omega) rfl hasA) ?_)
       | (refine isD 30 ?_; refine WPl.cFV [ag (bkC b), .int .i64 id] [] cb ?_)
       | (refine isD 31 ?_; refine WPl.rdX (ReadR.binE rfl rfl BinR.lss (congrArg Value.bool (decide_eq_false hcv))) ?_)
       | (refine isOp ?_; first | refine WPl.rd ?_ | refine WPl.sk ?_ | refine WPl.rdB ?_)
       | (show WPl _ _ _ _ _ _ _ (⟨_, .indexAddr _ _ _, _, _, _, _⟩ :: _) _; refine WPl.rdX (ReadR.indexE rfl rfl hasA (by first | assumption | omega)) ?_)
       | (show WPl _ _ _ _ _ _ _ (⟨_, .fieldAddr _ _ _, _, _, _, _⟩ :: _) _; refine WPl.rdX (ReadR.fieldE rfl hasA (by first | assumption | omega)) ?_)
       | (show WPl _ _ _ _ _ _ _ (⟨_, .load _ _, _, _, _, _⟩ :: _) _; first | refine WPl.rdX (ReadR.loadE rfl hasA (by assumption)) ?_ | refine WPl.rdX (ReadR.loadES (by assumption) (by first | assumption | omega) rfl hasA) ?_)
       | (show WPl _ _ _ _ _ _ _ (⟨_, .slice _ _ _ _ _, _, _, _, _⟩ :: _) _; first | refine WPl.rdX (ReadR.sliceH rfl rfl hasA (by omega)) ?_ | refine WPl.rdX (ReadR.sliceL rfl rfl hasA (by omega)) ?_ | refine WPl.rdX (ReadR.sliceLH rfl rfl rfl hasA (by omega) (by omega)) ?_)
       | (refine WPl.spQ (fun hc => ?_) (fun hc => ?_) <;> try first | exact prA | (exfalso; first | omega))
       | fail)
      refine WPq.rnd (i, m) ⟨by dsimp only; omega, by dsimp only; omega, h1, fun k c hk hc' => ?_⟩ (by dsimp only; omega)
      dsimp only at hk
      by_cases hkm' : k = m
      · subst hkm'; rw [hb] at hc'; cases hc'; exact hc
      · have := srt_lt hs hb hc' (by omega)
        omega
  · have hij' : i = j := by omega
    subst hij'
    have hlt' : ¬ (i : Int) < (i : Int) := by omega
    have hlb := lb_of hj h1 h2
    have hha := has_at hs h1 h2
    rw [hlb, hha]
    by_cases hil : i < l.length
    · obtain ⟨b, hb⟩ : ∃ b, l[i]? = some b := ⟨_, List.getElem?_eq_getElem hil⟩
      have hbc := bks_at hb
      have cb := cF b
      have hil' : (i : Int) < (l.length : Int) := by omega
      rw [hb]
      dsimp only
      have hz : decide (cmpI b.id id = 0) = decide (b.id = id) := by
        rw [decide_eq_decide]
        unfold cmpI
        split
        · omega
        · split <;> omega
      repeat' (first
       | refine WPl.nil ?_ | refine WPq.then ?_ | refine WPq.thenR ?_ | refine WPq.thenE ?_ | refine WPq.blockN ?_ | refine WPq.blockR ?_ | refine WPq.blockE ?_ | refine WPq.blockO rfl ?_ | refine WPc.seq ?_ | refine WPc.block ?_ | refine WPc.ret ?_ | refine WPc.exit ?_ | refine WPc.skip ?_ | refine WPc.region ?_
       | (refine isCond ?_; first | refine WPc.cT ?_ | refine WPc.cF ?_ | (refine WPc.cQ (fun hc => ?_) (fun hc => ?_) <;> try first | exact prA | (exfalso; first | omega)))
       | (refine isD 17 ?_; refine WPl.rdX (ReadR.binE rfl rfl BinR.lss (congrArg Value.bool (decide_eq_false hlt'))) ?_)
       | (refine isD 38 ?_; refine WPl.rdX (ReadR.binE rfl rfl BinR.lss (congrArg Value.bool (decide_eq_true hil'))) ?_)
       | (refine isD 43 ?_; refine WPl.rdX (ReadR.indexE (i := i) rfl rfl hasA hil) ?_)
       | (refine isD 44 ?_; refine WPl.rdX (ReadR.loadES (cs := bkC b) hbc (by omega) rfl hasA) ?_)
       | (refine isD 46 ?_; refine WPl.cFV [ag (bkC b), .int .i64 id] [] cb ?_)
       | (refine isD 47 ?_; refine WPl.rdX (ReadR.binE rfl rfl BinR.eql (congrArg Value.bool hz)) ?_)
       | (refine isOp ?_; first | refine WPl.rd ?_ | refine WPl.sk ?_ | refine WPl.rdB ?_)
       | (show WPl _ _ _ _ _ _ _ (⟨_, .indexAddr _ _ _, _, _, _, _⟩ :: _) _; refine WPl.rdX (ReadR.indexE rfl rfl hasA (by first | assumption | omega)) ?_)
       | (show WPl _ _ _ _ _ _ _ (⟨_, .fieldAddr _ _ _, _, _, _, _⟩ :: _) _; refine WPl.rdX (ReadR.fieldE rfl hasA (by first | assumption | omega)) ?_)
       | (show WPl _ _ _ _ _ _ _ (⟨_, .load _ _, _, _, _, _⟩ :: _) _; first | refine WPl.rdX (ReadR.loadE rfl hasA (by assumption)) ?_ | refine WPl.rdX (ReadR.loadES (by assumption) (by first | assumption | omega) rfl hasA) ?_)
       | (show WPl _ _ _ _ _ _ _ (⟨_, .slice _ _ _ _ _, _, _, _, _⟩ :: _) _; first | refine WPl.rdX (ReadR.sliceH rfl rfl hasA (by omega)) ?_ | refine WPl.rdX (ReadR.sliceL rfl rfl hasA (by omega)) ?_ | refine WPl.rdX (ReadR.sliceLH rfl rfl rfl hasA (by omega) (by omega)) ?_)
       | (refine WPl.spQ (fun hc => ?_) (fun hc => ?_) <;> try first | exact prA | (exfalso; first | omega))
       | fail)
      exact WPq.dV
    · have hil' : ¬ (i : Int) < (l.length : Int) := by omega
      rw [List.getElem?_eq_none (by omega)]
      dsimp only
      repeat' (first
       | refine WPl.nil ?_ | refine WPq.then ?_ | refine WPq.thenR ?_ | refine WPq.thenE ?_ | refine WPq.blockN ?_ | refine WPq.blockR ?_ | refine WPq.blockE ?_ | refine WPq.blockO rfl ?_ | refine WPc.seq ?_ | refine WPc.block ?_ | refine WPc.ret ?_ | refine WPc.exit ?_ | refine WPc.skip ?_ | refine WPc.region ?_
       | (refine isCond ?_; first | refine WPc.cT ?_ | refine WPc.cF ?_ | (refine WPc.cQ (fun hc => ?_) (fun hc => ?_) <;> try first | exact prA | (exfalso; first | omega)))
       | (refine isD 17 ?_; refine WPl.rdX (ReadR.binE rfl rfl BinR.lss (congrArg Value.bool (decide_eq_false hlt'))) ?_)
       | (refine isD 38 ?_; refine WPl.rdX (ReadR.binE rfl rfl BinR.lss (congrArg Value.bool (decide_eq_false hil'))) ?_)
       | (refine isOp ?_; first | refine WPl.rd ?_ | refine WPl.sk ?_ | refine WPl.rdB ?_)
       | (show WPl _ _ _ _ _ _ _ (⟨_, .indexAddr _ _ _, _, _, _, _⟩ :: _) _; refine WPl.rdX (ReadR.indexE rfl rfl hasA (by first | assumption | omega)) ?_)
       | (show WPl _ _ _ _ _ _ _ (⟨_, .fieldAddr _ _ _, _, _, _, _⟩ :: _) _; refine WPl.rdX (ReadR.fieldE rfl hasA (by first | assumption | omega)) ?_)
       | (show WPl _ _ _ _ _ _ _ (⟨_, .load _ _, _, _, _, _⟩ :: _) _; first | refine WPl.rdX (ReadR.loadE rfl hasA (by assumption)) ?_ | refine WPl.rdX (ReadR.loadES (by assumption) (by first | assumption | omega) rfl hasA) ?_)
       | (show WPl _ _ _ _ _ _ _ (⟨_, .slice _ _ _ _ _, _, _, _, _⟩ :: _) _; first | refine WPl.rdX (ReadR.sliceH rfl rfl hasA (by omega)) ?_ | refine WPl.rdX (ReadR.sliceL rfl rfl hasA (by omega)) ?_ | refine WPl.rdX (ReadR.sliceLH rfl rfl rfl hasA (by omega) (by omega)) ?_)
       | (refine WPl.spQ (fun hc => ?_) (fun hc => ?_) <;> try first | exact prA | (exfalso; first | omega))
       | fail)
      exact WPq.dV
section
variable (g : Nat) (s : Sh) (v : Value) (l : List Bk)
theorem gat_t (id : Int) (hs : SrtB l) (hl : l.length ≤ 1000) : Triple Try.prog 24 #[.pointer (some ⟨g, 0, none⟩), .int .i64 id] [rbx g 33 (shC s v), rdN v l.length (bks l)] (RVal (.tuple #[.int .i64 (lbB l id : Int), .bool (hasB l id)])) := by
  have c11 := gbs_t v l id hs hl _ rfl
  have hal := s.ad.len
  refine Triple.enter Try.func24 rfl Try.ntmps24 rfl (fun W => ?_)
  dsimp only [argsF, Nat.reduceAdd]
  repeat' (first
   | refine WPl.nil ?_ | refine WPq.then ?_ | refine WPq.thenR ?_ | refine WPq.thenE ?_ | refine WPq.blockN ?_ | refine WPq.blockR ?_ | refine WPq.blockE ?_ | refine WPq.blockO rfl ?_ | refine WPc.seq ?_ | refine WPc.block ?_ | refine WPc.ret ?_ | refine WPc.exit ?_ | refine WPc.skip ?_ | refine WPc.region ?_
   | (refine isCond ?_; first | refine WPc.cT ?_ | refine WPc.cF ?_ | (refine WPc.cQ (fun hc => ?_) (fun hc => ?_) <;> try exact prA))
   | (refine isD 9 ?_; refine WPl.rdX (ReadR.loadO memA rfl rfl) ?_)
   | (refine isC 11 ?_; refine WPl.cV (c11) ?_)
   | (refine isOp ?_; first | refine WPl.rd ?_ | refine WPl.sk ?_ | refine WPl.rdB ?_)
   | (show WPl _ _ _ _ _ _ _ (⟨_, .indexAddr _ _ _, _, _, _, _⟩ :: _) _; refine WPl.rdX (ReadR.indexE rfl rfl hasA (by first | assumption | omega)) ?_)
   | (show WPl _ _ _ _ _ _ _ (⟨_, .fieldAddr _ _ _, _, _, _, _⟩ :: _) _; refine WPl.rdX (ReadR.fieldE rfl hasA (by first | assumption | omega)) ?_)
   | (show WPl _ _ _ _ _ _ _ (⟨_, .load _ _, _, _, _, _⟩ :: _) _; first | refine WPl.rdX (ReadR.loadE rfl hasA (by assumption)) ?_ | refine WPl.rdX (ReadR.loadES (by assumption) (by first | assumption | omega) rfl hasA) ?_)
   | (show WPl _ _ _ _ _ _ _ (⟨_, .slice _ _ _ _ _, _, _, _, _⟩ :: _) _; first | refine WPl.rdX (ReadR.sliceH rfl rfl hasA (by omega)) ?_ | refine WPl.rdX (ReadR.sliceL rfl rfl hasA (by omega)) ?_ | refine WPl.rdX (ReadR.sliceLH rfl rfl rfl hasA (by omega) (by omega)) ?_)
   | (refine WPl.spQ (fun hc => ?_) (fun hc => ?_) <;> try exact prA)
   | fail)
  exact WPq.dV
end
end Go.Proofs.Ytpjfkomicehinaa
