/- Layer 21 (health): which backends are up, and down, behind any reports. -/
import Derived.Test.YtncgponcedkihaaHu
import Derived.Test.YtncgponcedkihaaHj
import Derived.Test.YtncgponcedkihaaJn
namespace Go.Proofs.Ytncgponcedkihaa
open Go.RowKit
set_option linter.unusedSimpArgs false
set_option linter.unusedVariables false
set_option maxRecDepth 20000
set_option maxHeartbeats 4000000
attribute [local irreducible] WPc WPl WPq ReadR OpT BinR HasS bx rdN rowN Take Takes Prov Triple ResF BuildP Done ag Int.decLt Int.decLe Int.instDecidableEq
instance repElt : EltN Try.prog 117 3 := ⟨by kernel_rfl⟩
def fixR (x : Rp) : Rp := if x.2.2 < 0 ∨ x.2.2 > 3 then (x.1, x.2.1, 0) else x
def rcs (l : List Rp) : List Value := (l.map fun x => flat (repC x)).flatten
theorem rcs_len {l : List Rp} : (rcs l).length = l.length * 3 := rows_len repC_len
theorem rcs_at {l : List Rp} {i : Nat} {x : Rp} (hx : l[i]? = some x) : (rcs l)[i * 3 + 0]? = some (.int .i64 x.1) ∧ (rcs l)[i * 3 + 1]? = some (.int .i64 x.2.1) ∧ (rcs l)[i * 3 + 2]? = some (.int .i64 x.2.2) := by
  unfold rcs
  exact ⟨rows_at repC_len hx (by omega) rfl, rows_at repC_len hx (by omega) rfl, rows_at repC_len hx (by omega) rfl⟩
theorem rcs_drop {l : List Rp} {i : Nat} {x : Rp} (hx : l[i]? = some x) : ((rcs l).drop (i * 3)).take 3 = flat (repC x) := by
  unfold rcs; exact rows_drop (c := repC) repC_len hx
theorem rcs_one {l : List Rp} : ∀ u ∈ rcs l, u.oneCell' = true := fun u hu => by
  unfold rcs at hu
  obtain ⟨L, hL, hu⟩ := List.mem_flatten.1 hu
  obtain ⟨c, _, rfl⟩ := List.mem_map.1 hL
  simp [flat] at hu
  rcases hu with rfl | rfl | rfl <;> rfl
theorem rcs_app {A B : List Rp} : rcs A ++ rcs B = rcs (A ++ B) := by unfold rcs; rw [List.map_append, List.flatten_append]
theorem rcs_sub {l : List Rp} {k j : Nat} (h : k + j ≤ l.length) : ((rcs l).drop (k * 3)).take (j * 3) = rcs ((l.drop k).take j) := by
  unfold rcs; exact rows_sub repC_len l k j h
theorem rcs_set {l : List Rp} {i : Nat} {x : Rp} (hx : l[i]? = some x) : (rcs l).set (i * 3 + 2) (.int .i64 0) = rcs (l.set i (x.1, x.2.1, 0)) := by
  unfold rcs; exact rows_set (f := fun x => flat (repC x)) (x := x) (y := (x.1, x.2.1, 0)) repC_len rfl (by omega) hx
theorem fix_in {x : Rp} : 0 ≤ (fixR x).2.2 ∧ (fixR x).2.2 ≤ 3 := by
  unfold fixR
  split
  · simp
  · omega
theorem fix_fst {x : Rp} : (fixR x).1 = x.1 ∧ (fixR x).2.1 = x.2.1 := by
  unfold fixR
  split <;> exact ⟨rfl, rfl⟩
def PlI (rise fall : Int) (own : List Rp) (L : HL) : Prop := ∀ s b, in64 s → in64 b → mget whoM L (s, b) = (!(rUp rise fall s b own).1, (rUp rise fall s b own).2)
section
variable {rise fall : Int} {own : List Rp} {L : HL}
theorem rUp1_other {s b : Int} {st : Bool × Int} {x : Rp} (h : x.2.2 ≠ 3) (hn : ¬ (x.1 = s ∧ x.2.1 = b)) : rUp1 rise fall s b st x = st := by
  unfold rUp1
  rw [if_pos]
  by_cases h1 : x.1 = s
  · exact .inr ⟨h, fun h2 => hn ⟨h1, h2⟩⟩
  · exact .inl h1
theorem play_rep (hlen : own.length ≤ 1000) (hI : PlI rise fall own L) {x : Rp} (hx : x.2.2 = 0 ∨ x.2.2 = 1) (h1 : in64 x.1) (h2 : in64 x.2.1) :
    ∃ st, stepS rise fall (decide (x.2.2 = 1)) (mget whoM L (x.1, x.2.1)) = (st, !((rUp rise fall x.1 x.2.1 own).1 == (rUp rise fall x.1 x.2.1 (own ++ [x])).1)) ∧ PlI rise fall (own ++ [x]) (mput L (x.1, x.2.1) st) := by
  have hm := hI _ _ h1 h2
  have hrow := rUp_row (rise := rise) (fall := fall) (s := x.1) (b := x.2.1) (l := own)
  obtain ⟨⟨up, row⟩, hu⟩ : ∃ u, u = rUp rise fall x.1 x.2.1 own := ⟨_, rfl⟩
  rw [← hu] at hm hrow
  dsimp only at hm hrow
  have hw : IntKind.i64.wrap (row + 1) = row + 1 := wrapK (by simp only [kmin]; omega) (by simp only [kmax]; omega)
  have hs : rUp rise fall x.1 x.2.1 (own ++ [x]) = rUp1 rise fall x.1 x.2.1 (up, row) x := by rw [rUp_snoc, ← hu]
  have hsame : ∀ st, st = (!(rUp1 rise fall x.1 x.2.1 (up, row) x).1, (rUp1 rise fall x.1 x.2.1 (up, row) x).2) → PlI rise fall (own ++ [x]) (mput L (x.1, x.2.1) st) := fun st hst s b hs64 hb64 => by
    rw [mget_put]
    by_cases hk : (x.1, x.2.1) = (s, b)
    · rw [if_pos hk]
      cases hk
      rw [hs, hst]
    · rw [if_neg hk, rUp_snoc, rUp1_other (by omega) (fun h => hk (by rw [h.1, h.2]))]
      exact hI s b hs64 hb64
  rw [hm, hs, ← hu]
  refine ⟨_, ?_, hsame _ rfl⟩
  have e1 : rUp1 rise fall x.1 x.2.1 (up, row) x = if decide (x.2.2 = 1) = up then (up, 0) else if (up = true ∧ fall ≤ row + 1) ∨ (up = false ∧ rise ≤ row + 1) then (!up, 0) else (up, row + 1) := by
    unfold rUp1
    rw [if_neg (by simp), if_neg (by omega)]
  rw [e1]
  unfold stepS
  dsimp only
  rw [hw]
  generalize decide (x.2.2 = 1) = q
  cases q <;> cases up <;> simp
  all_goals (split <;> simp)
theorem play_forget (hI : PlI rise fall own L) (hn : (L.map (·.1)).Nodup) {x : Rp} (hx : x.2.2 = 2) : PlI rise fall (own ++ [x]) (mdel L (x.1, x.2.1)) := fun s b hs hb => by
  have hd : mget whoM (mdel L (x.1, x.2.1)) (s, b) = if (x.1, x.2.1) = (s, b) then (false, 0) else mget whoM L (s, b) := by
    rw [mget_of, mfind_del hn]
    split <;> rfl
  rw [hd, rUp_snoc]
  by_cases hk : (x.1, x.2.1) = (s, b)
  · rw [if_pos hk]
    cases hk
    unfold rUp1
    rw [if_neg (by simp), if_pos (by omega)]
    rfl
  · rw [if_neg hk, rUp1_other (by omega) (fun h => hk (by rw [h.1, h.2]))]
    exact hI s b hs hb
theorem play_clear (hI : PlI rise fall own L) {L' : HL} {x : Rp} (hx : x.2.2 = 3) (hL : ∀ k, mfind L' k = if k.1 = x.1 then none else mfind L k) : PlI rise fall (own ++ [x]) L' := fun s b hs hb => by
  have hd : mget whoM L' (s, b) = if s = x.1 then (false, 0) else mget whoM L (s, b) := by
    rw [mget_of, hL]
    dsimp only
    split <;> rfl
  rw [hd, rUp_snoc]
  by_cases hk : s = x.1
  · rw [if_pos hk]
    unfold rUp1
    rw [if_neg (by simp [hx, hk]), if_pos (by omega)]
    rfl
  · rw [if_neg hk]
    unfold rUp1
    rw [if_pos (.inl (Ne.symm hk))]
    exact hI s b hs hb
theorem play_down (hI : PlI rise fall own L) {s b : Int} (hs : in64 s) (hb : in64 b) : (rUp rise fall s b own).1 = false ↔ ∃ row, mfind L (s, b) = some (true, row) := by
  have h := hI s b hs hb
  rw [mget_of] at h
  cases hf : mfind L (s, b) with
  | none =>
    rw [hf] at h
    have h1 := congrArg Prod.fst h
    simp [whoM] at h1
    simp [h1]
  | some st =>
    rw [hf] at h
    have h1 := congrArg Prod.fst h
    simp at h1
    obtain ⟨d, row⟩ := st
    dsimp only at h1
    subst h1
    simp
end
theorem countP_step {o : List Int} {k : Int} (hk : k ∈ o) : o.countP (fun b => decide (b < k)) + 1 ≤ o.countP (fun b => decide (b < k + 1)) := by
  induction o with
  | nil => cases hk
  | cons a o ih =>
    rw [List.countP_cons, List.countP_cons]
    rcases List.mem_cons.1 hk with rfl | h
    · have h1 : o.countP (fun b => decide (b < k)) ≤ o.countP (fun b => decide (b < k + 1)) := List.countP_mono_left (fun x _ h => by simp at h ⊢; omega)
      simp
      rw [if_pos (by omega)]
      omega
    · have := ih h
      by_cases h1 : a < k
      · simp [h1, show a < k + 1 by omega]; omega
      · by_cases h2 : a < k + 1
        · simp [h1, h2]; omega
        · simp [h1, h2]; omega
theorem countP_le' {o : List Int} {k k' : Int} (h : k ≤ k') : o.countP (fun b => decide (b < k)) ≤ o.countP (fun b => decide (b < k')) := List.countP_mono_left (fun x _ h1 => by simp at h1 ⊢; omega)
theorem hnew0_t (r f : Int) (h : ¬ ((1 ≤ r ∧ r ≤ 100) ∧ 1 ≤ f ∧ f ≤ 100)) : Triple Try.prog 48 #[.int .i64 r, .int .i64 f] [] (RVal (.tuple #[.pointer none, .int .i64 1])) := by
  have c1 := hgood_t r
  have c2 := hgood_t f
  by_cases h1 : 1 ≤ r ∧ r ≤ 100
  · rw [decide_eq_true h1] at c1
    rw [decide_eq_false (fun h2 => h ⟨h1, h2⟩)] at c2
    refine Triple.enter Try.func48 rfl Try.ntmps48 rfl (fun W => ?_)
    dsimp only [argsF, Nat.reduceAdd]
    repeat' (first
     | refine WPl.nil ?_ | refine WPq.then ?_ | refine WPq.thenR ?_ | refine WPq.thenE ?_ | refine WPq.blockN ?_ | refine WPq.blockR ?_ | refine WPq.blockE ?_ | refine WPq.blockO rfl ?_ | refine WPc.seq ?_ | refine WPc.block ?_ | refine WPc.ret ?_ | refine WPc.exit ?_ | refine WPc.skip ?_ | refine WPc.region ?_
     | (refine isCond ?_; first | refine WPc.cT ?_ | refine WPc.cF ?_ | (refine WPc.cQ (fun hc => ?_) (fun hc => ?_) <;> try exact prA))
     | (refine isC 7 ?_; refine WPl.cV (c1) ?_)
     | (refine isC 11 ?_; refine WPl.cV (c2) ?_)
     | (refine isOp ?_; first | refine WPl.rd ?_ | refine WPl.sk ?_ | refine WPl.rdB ?_)
     | (refine isBx ?_; refine WPl.nw fun g => ?_)
     | (show WPl _ _ _ _ _ _ _ (⟨_, .indexAddr _ _ _, _, _, _, _⟩ :: _) _; refine WPl.rdX (ReadR.indexE rfl rfl hasA (by first | assumption | omega)) ?_)
     | (show WPl _ _ _ _ _ _ _ (⟨_, .fieldAddr _ _ _, _, _, _, _⟩ :: _) _; refine WPl.rdX (ReadR.fieldE rfl hasA (by first | assumption | omega)) ?_)
     | (show WPl _ _ _ _ _ _ _ (⟨_, .load _ _, _, _, _, _⟩ :: _) _; first | refine WPl.rdX (ReadR.loadE rfl hasA (by assumption)) ?_ | refine WPl.rdX (ReadR.loadES (by assumption) (by first | assumption | omega) rfl hasA) ?_)
     | (show WPl _ _ _ _ _ _ _ (⟨_, .slice _ _ _ _ _, _, _, _, _⟩ :: _) _; first | refine WPl.rdX (ReadR.sliceH rfl rfl hasA (by omega)) ?_ | refine WPl.rdX (ReadR.sliceL rfl rfl hasA (by omega)) ?_ | refine WPl.rdX (ReadR.sliceLH rfl rfl rfl hasA (by omega) (by omega)) ?_)
     | (refine WPl.spQ (fun hc => ?_) (fun hc => ?_) <;> try exact prA)
     | fail)
    exact WPq.dV
  · rw [decide_eq_false h1] at c1
    refine Triple.enter Try.func48 rfl Try.ntmps48 rfl (fun W => ?_)
    dsimp only [argsF, Nat.reduceAdd]
    repeat' (first
     | refine WPl.nil ?_ | refine WPq.then ?_ | refine WPq.thenR ?_ | refine WPq.thenE ?_ | refine WPq.blockN ?_ | refine WPq.blockR ?_ | refine WPq.blockE ?_ | refine WPq.blockO rfl ?_ | refine WPc.seq ?_ | refine WPc.block ?_ | refine WPc.ret ?_ | refine WPc.exit ?_ | refine WPc.skip ?_ | refine WPc.region ?_
     | (refine isCond ?_; first | refine WPc.cT ?_ | refine WPc.cF ?_ | (refine WPc.cQ (fun hc => ?_) (fun hc => ?_) <;> try exact prA))
     | (refine isC 7 ?_; refine WPl.cV (c1) ?_)
     | (refine isC 11 ?_; refine WPl.cV (c2) ?_)
     | (refine isOp ?_; first | refine WPl.rd ?_ | refine WPl.sk ?_ | refine WPl.rdB ?_)
     | (refine isBx ?_; refine WPl.nw fun g => ?_)
     | (show WPl _ _ _ _ _ _ _ (⟨_, .indexAddr _ _ _, _, _, _, _⟩ :: _) _; refine WPl.rdX (ReadR.indexE rfl rfl hasA (by first | assumption | omega)) ?_)
     | (show WPl _ _ _ _ _ _ _ (⟨_, .fieldAddr _ _ _, _, _, _, _⟩ :: _) _; refine WPl.rdX (ReadR.fieldE rfl hasA (by first | assumption | omega)) ?_)
     | (show WPl _ _ _ _ _ _ _ (⟨_, .load _ _, _, _, _, _⟩ :: _) _; first | refine WPl.rdX (ReadR.loadE rfl hasA (by assumption)) ?_ | refine WPl.rdX (ReadR.loadES (by assumption) (by first | assumption | omega) rfl hasA) ?_)
     | (show WPl _ _ _ _ _ _ _ (⟨_, .slice _ _ _ _ _, _, _, _, _⟩ :: _) _; first | refine WPl.rdX (ReadR.sliceH rfl rfl hasA (by omega)) ?_ | refine WPl.rdX (ReadR.sliceL rfl rfl hasA (by omega)) ?_ | refine WPl.rdX (ReadR.sliceLH rfl rfl rfl hasA (by omega) (by omega)) ?_)
     | (refine WPl.spQ (fun hc => ?_) (fun hc => ?_) <;> try exact prA)
     | fail)
    exact WPq.dV
end Go.Proofs.Ytncgponcedkihaa
