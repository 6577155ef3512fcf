/- Layer 38 (topk): a client is counted where another one goes: told as one. -/
import Derived.Test.YtncgponcedkihaaKh
import Derived.Test.YtncgponcedkihaaPy
import Derived.Test.YtncgponcedkihaaOpP
namespace Go.Proofs.Ytncgponcedkihaa
open Go.RowKit
set_option linter.unusedSimpArgs false
set_option linter.unusedVariables false
set_option maxRecDepth 20000
set_option maxHeartbeats 4000000
attribute [local irreducible] WPc WPl WPq ReadR OpT BinR HasS bx rdN rowN Take Takes Prov Triple ResF BuildP Done ag Int.decLt Int.decLe Int.instDecidableEq
open Go.Lib (compareInt)
noncomputable def lz (L : TL) : Hy := Classical.epsilon (isLeast L)
theorem lz_eq {L : TL} {g : Hy} (hn : (L.map (·.1)).Nodup) (ht : TI L) (h : isLeast L g) : g = lz L := by
  have h2 : isLeast L (lz L) := Classical.epsilon_spec (p := isLeast L) ⟨g, h⟩
  generalize lz L = g2 at h2
  obtain ⟨⟨x, hx, rfl⟩, a2⟩ := h
  obtain ⟨⟨z, hz, rfl⟩, b2⟩ := h2
  have q1 := a2 z hz
  have q2 := b2 x hx
  have f := TC.least.flip x.2 z.2
  have f2 := TC.least.flip z.2 x.2
  have h0 : leastC x.2 z.2 = 0 := by omega
  unfold leastC at h0
  by_cases h1 : compareInt x.2.c z.2.c ≠ 0
  · rw [if_pos h1] at h0; exact absurd h0 h1
  · rw [if_neg h1] at h0
    have hp := pf_zero (pfO_sign.2.1 h0)
    have hk : x.1 = z.1 := by rw [← ht x hx, ← ht z hz, hp]
    obtain ⟨i, hi⟩ := List.getElem?_of_mem hx
    obtain ⟨j, hj⟩ := List.getElem?_of_mem hz
    have e1 : (L.map (·.1))[i]? = some x.1 := by rw [List.getElem?_map, hi]; rfl
    have e2 : (L.map (·.1))[j]? = some x.1 := by rw [List.getElem?_map, hj, hk]; rfl
    have hij : i = j := (List.getElem?_inj (List.getElem?_eq_some_iff.1 e1).1 hn).1 (e1.trans e2.symm)
    subst hij
    rw [hi] at hj
    cases hj
    rfl
theorem lz_least {L : TL} (hne : L ≠ []) : isLeast L (lz L) := by
  apply Classical.epsilon_spec (p := isLeast L)
  have key : ∀ L : TL, L ≠ [] → ∃ g, isLeast L g := by
    intro L
    induction L with
    | nil => intro h; exact absurd rfl h
    | cons x L ih =>
      intro _
      cases L with
      | nil => exact ⟨x.2, by simpa using least_one (z := x)⟩
      | cons z M =>
        obtain ⟨g, hg⟩ := ih (by simp)
        have hp : ((z :: M) ++ [x]).Perm (x :: z :: M) := List.perm_append_comm
        by_cases h1 : leastC x.2 g < 0
        · exact ⟨x.2, isLeast_perm hp ((least_step hg).1 h1)⟩
        · exact ⟨g, isLeast_perm hp ((least_step hg).2 h1)⟩
  exact key L hne
theorem taddGoneT_t (gT m : Nat) (most all : Int) (L : TL) (p : Pf) (n : Int) (hp : in64 p.2) (hn : n ≠ 0) (hb : mhas L p = false) (hm : ¬ (L.length : Int) < most) (hne : L ≠ []) (hw : ∀ x ∈ L, in64 x.1.2) (hnd : (L.map (·.1)).Nodup) (ht : TI L) :
    Triple Try.prog 38 #[hPt gT, ag (pfc p), .int .u64 n] [bx gT 155 (txc most m all), mp hyM m L] (RTurns (resV []) [bx gT 155 (txc most m (wU (all + n))), mp hyM m (mput (mdel L (lz L).p) p ⟨p, wU ((lz L).c + n), (lz L).c⟩)]) := by
  have h := taddGone_t gT m most all L p n hp hn hb hm hne (fun g hg => by
    obtain ⟨⟨x, hx, rfl⟩, _⟩ := hg
    rw [ht x hx]; exact hw x hx)
  refine Triple.mono h ?_
  rintro v Γ' ⟨g, hg, rfl, rfl⟩
  rw [lz_eq hnd ht hg]
  exact ⟨rfl, rfl⟩
/-- The clients that come. -/
def ccs (l : List (Pf × Int)) : List Value := (l.map fun x => flat (cnC x)).flatten
theorem cnC_len (x : Pf × Int) : (flat (cnC x)).length = 19 := by simp [flat_eq, x.1.1.len, u8s_length]
theorem ccs_len {l : List (Pf × Int)} : (ccs l).length = l.length * 19 := rows_len cnC_len
theorem cn_flat (x : Pf × Int) : flat (cnC x) = flat (pfc x.1) ++ [.int .u64 x.2] := by simp [flat_eq]
theorem pfc_len' (p : Pf) : (flat (pfc p)).length = 18 := by simp [flat_eq, p.1.len, u8s_length]
theorem ccs_p {l : List (Pf × Int)} {i : Nat} {x : Pf × Int} (h : l[i]? = some x) : ((ccs l).drop (i * 19 + 0)).take 18 = flat (pfc x.1) := by
  have h1 := rows_drop (c := cnC) cnC_len h
  have h2 := congrArg (List.take 18) h1
  rw [List.take_take, show min 18 19 = 18 from rfl] at h2
  unfold ccs
  rw [Nat.add_zero, h2, cn_flat, List.take_append_of_le_length (by rw [pfc_len']; exact Nat.le_refl _), List.take_of_length_le (by rw [pfc_len']; exact Nat.le_refl _)]
theorem ccs_n {l : List (Pf × Int)} {i : Nat} {x : Pf × Int} (h : l[i]? = some x) : (ccs l)[i * 19 + 18]? = some (.int .u64 x.2) := by
  unfold ccs
  exact rows_at (c := cnC) cnC_len h (by omega) (by rw [cn_flat, List.getElem?_append_right (by rw [pfc_len']; omega), pfc_len']; rfl)
theorem hys_c {l : List Hy} {i : Nat} {h : Hy} (hx : l[i]? = some h) : (hys l)[i * 20 + 18]? = some (.int .u64 h.c) := by
  unfold hys
  refine rows_at (c := hyc) hyc_len hx (by omega) ?_
  have e : flat (hyc h) = flat (pfc h.p) ++ [.int .u64 h.c, .int .u64 h.o] := by simp [flat_eq]
  rw [e, List.getElem?_append_right (by rw [pfc_len']; omega), pfc_len']; rfl
theorem wU_small {a : Int} (h0 : 0 ≤ a) (h1 : a < 18446744073709551616) : wU a = a := by
  unfold wU
  rw [IntKind.wrap_u64]; omega
end Go.Proofs.Ytncgponcedkihaa
