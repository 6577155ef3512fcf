/- Layer 13 (ipfour): plain facts of what is written: it is read, spoilt, cut. -/
import Derived.Test.YteofjhjhaaafjaaIw
namespace Go.Proofs.Yteofjhjhaaafjaa
open Go.RowKit
set_option linter.unusedSimpArgs false
set_option linter.unusedVariables false
set_option maxRecDepth 20000
set_option maxHeartbeats 4000000
attribute [local irreducible] WPc WPl WPq ReadR OpT BinR HasS bx rdN rowN Take Takes Prov Triple ResF BuildP Done ag Int.decLt Int.decLe Int.instDecidableEq

theorem four_of {l : List UInt8} (h : l.length = 4) : ∃ a b c d, l = [a, b, c, d] := by
  match l, h with
  | [a, b, c, d], _ => exact ⟨a, b, c, d, rfl⟩
theorem u8_nat (n : Nat) (h : n < 256) : (UInt8.ofNat n).toNat = n := by rw [u8_of]; omega
/-- The weight of a place in the sum. -/
def wgt (k : Nat) : Nat := if k % 2 = 0 then 256 else 1
theorem wsum_two (l : List UInt8) (a b : UInt8) : wsum true (a :: b :: l) = 256 * a.toNat + b.toNat + wsum true l := by simp [wsum]; omega
theorem wsum_set : ∀ (b : Bool) (l : List UInt8) (k : Nat) (c : UInt8), k < l.length → wsum b (l.set k c) + (if b = decide (k % 2 = 0) then 256 else 1) * (l.getD k 0).toNat = wsum b l + (if b = decide (k % 2 = 0) then 256 else 1) * c.toNat := by
  intro b l
  induction l generalizing b with
  | nil => intro k c h; simp at h
  | cons x l ih =>
    intro k c h
    cases k with
    | zero => cases b <;> simp [wsum] <;> omega
    | succ k =>
      have := ih (!b) k c (by simpa using h)
      have e : ((!b) = decide (k % 2 = 0)) ↔ (b = decide ((k + 1) % 2 = 0)) := by
        by_cases hk : k % 2 = 0
        · have : ¬ (k + 1) % 2 = 0 := by omega
          cases b <;> simp [hk, this] <;> omega
        · have : (k + 1) % 2 = 0 := by omega
          cases b <;> simp [hk, this] <;> omega
      simp only [e] at this
      simp only [List.set_cons_succ, List.getD_cons_succ]
      cases b <;> simp only [wsum, Bool.not_true, Bool.not_false] at this ⊢ <;> omega
theorem csum_set {l : List UInt8} {k : Nat} {c : UInt8} (hk : k < l.length) (h : csum l = 0) (hne : c ≠ l.getD k 0) : csum (l.set k c) ≠ 0 := by
  intro h'
  have h1 := csum_zero.1 h
  have h2 := csum_zero.1 h'
  have e := wsum_set true l k c hk
  have b1 := c.toNat_lt
  have b2 := (l.getD k 0).toNat_lt
  have hn : c.toNat ≠ (l.getD k 0).toNat := fun h => hne (UInt8.toNat_inj.1 h)
  split at e <;> omega
theorem fpkt_form {h : Hd} (h1 : h.src.six = false) (h2 : h.dst.six = false) (d : List UInt8) :
    ∃ a b c e f g i j x y, h.src.bytes = [a, b, c, e] ∧ h.dst.bytes = [f, g, i, j] ∧ x = UInt8.ofNat ((20 + d.length) / 256) ∧ y = UInt8.ofNat (20 + d.length) ∧
      fpre h d.length = [69, 0, x, y, 0, 0, 0, 0, h.hops, h.proto, 0, 0, a, b, c, e, f, g, i, j] ∧
      fpkt h d = [69, 0, x, y, 0, 0, 0, 0, h.hops, h.proto, UInt8.ofNat (csum (fpre h d.length) / 256), UInt8.ofNat (csum (fpre h d.length)), a, b, c, e, f, g, i, j] ++ d := by
  have a1 := h.src.bytes_len
  have a2 := h.dst.bytes_len
  rw [h1, if_neg (by decide)] at a1
  rw [h2, if_neg (by decide)] at a2
  obtain ⟨a, b, c, e, hs⟩ := four_of a1
  obtain ⟨f, g, i, j, hd⟩ := four_of a2
  have hp : fpre h d.length = [69, 0, UInt8.ofNat ((20 + d.length) / 256), UInt8.ofNat (20 + d.length), 0, 0, 0, 0, h.hops, h.proto, 0, 0, a, b, c, e, f, g, i, j] := by
    unfold fpre
    rw [hs, hd, be2]
    simp [nbs]
  refine ⟨a, b, c, e, f, g, i, j, _, _, hs, hd, rfl, rfl, hp, ?_⟩
  unfold fpkt
  rw [be2]
  generalize csum (fpre h d.length) = s
  rw [hp]
  simp [over]
theorem fpkt_sum {h : Hd} (h1 : h.src.six = false) (h2 : h.dst.six = false) (d : List UInt8) : csum (seg (fpkt h d) 0 20) = 0 := by
  obtain ⟨a, b, c, e, f, g, i, j, x, y, hs, hd, hx, hy, hp, hf⟩ := fpkt_form h1 h2 d
  rw [hf, show seg ([69, 0, x, y, 0, 0, 0, 0, h.hops, h.proto, UInt8.ofNat (csum (fpre h d.length) / 256), UInt8.ofNat (csum (fpre h d.length)), a, b, c, e, f, g, i, j] ++ d) 0 20 = [69, 0, x, y, 0, 0, 0, 0, h.hops, h.proto, UInt8.ofNat (csum (fpre h d.length) / 256), UInt8.ofNat (csum (fpre h d.length)), a, b, c, e, f, g, i, j] from rfl]
  have hle := csum_le (fpre h d.length)
  have c1 := u8_nat (csum (fpre h d.length) / 256) (by omega)
  have c2 := u8_of (csum (fpre h d.length))
  have hc : csum (fpre h d.length) = 65535 - fold (wsum true (fpre h d.length)) := rfl
  have hf1 := fold_le (wsum true (fpre h d.length))
  have hf2 := fold_mod (wsum true (fpre h d.length))
  have hw : wsum true (fpre h d.length) = 256 * 69 + 0 + (256 * x.toNat + y.toNat + (256 * h.hops.toNat + h.proto.toNat + (256 * a.toNat + b.toNat + (256 * c.toNat + e.toNat + (256 * f.toNat + g.toNat + (256 * i.toNat + j.toNat)))))) := by
    rw [hp]; simp only [wsum_two]; simp [wsum]
  refine csum_zero.2 ?_
  simp only [wsum_two]
  rw [c1, c2]
  simp only [wsum]
  have z0 : (0 : UInt8).toNat = 0 := rfl
  have z1 : (69 : UInt8).toNat = 69 := rfl
  rw [z0, z1]
  omega
theorem fwerr_zero {h : Hd} {n : Nat} (he : fwerr h n = 0) : fwBad h = false ∧ n ≤ 2028 := by
  unfold fwerr at he
  cases hb : fwBad h with
  | true => rw [hb] at he; simp at he
  | false =>
    rw [hb] at he
    refine ⟨rfl, ?_⟩
    simp only [Bool.false_eq_true, if_false] at he
    split at he <;> omega
/-- What is known of the bytes that are written. -/
theorem fpkt_read {h : Hd} {d : List UInt8} (he : fwerr h d.length = 0) : (fpkt h d).length = 20 + d.length ∧ byteN (fpkt h d) 0 = 69 ∧ ihl (fpkt h d) = 20 ∧ val (seg (fpkt h d) 2 2) = 20 + d.length ∧ csum (seg (fpkt h d) 0 20) = 0 ∧ byteN (fpkt h d) 8 = h.hops.toNat ∧ byteN (fpkt h d) 6 = 0 ∧ h.hops.toNat ≠ 0 ∧ d.length ≤ 2028 := by
  obtain ⟨hb, hl⟩ := fwerr_zero he
  obtain ⟨b1, b2, b3, b4, b5, b6, b7⟩ := fwBad_no hb
  have hs := fpkt_sum b4 b5 d
  obtain ⟨a, b, c, e, f, g, i, j, x, y, hs1, hd1, hx, hy, hp, hf⟩ := fpkt_form b4 b5 d
  have hlen : (fpkt h d).length = 20 + d.length := by rw [hf, List.length_append]; rfl
  have h0 : byteN (fpkt h d) 0 = 69 := by rw [hf]; rfl
  refine ⟨hlen, h0, by unfold ihl; rw [h0], ?_, hs, by rw [hf]; rfl, by rw [hf]; rfl, by omega, hl⟩
  rw [val_seg2 (by omega)]
  have e1 : byteN (fpkt h d) 2 = x.toNat := by rw [hf]; rfl
  have e2 : byteN (fpkt h d) (2 + 1) = y.toNat := by rw [hf]; rfl
  rw [e1, e2, hx, hy, u8_nat _ (by omega), u8_of]
  omega
theorem ferr_pkt {h : Hd} {d : List UInt8} (he : fwerr h d.length = 0) : ferr (fpkt h d) = 0 := by
  obtain ⟨h1, h2, h3, h4, h5, h6, h7, h8, h9⟩ := fpkt_read he
  unfold ferr
  rw [h3]
  repeat' (first | omega | split)
theorem ferr_cut {h : Hd} {d : List UInt8} (he : fwerr h d.length = 0) {m : Nat} (hm : m < (fpkt h d).length) : ferr ((fpkt h d).take m) = 9 := by
  obtain ⟨h1, h2, h3, h4, h5, h6, h7, h8, h9⟩ := fpkt_read he
  have hl : ((fpkt h d).take m).length = m := by rw [List.length_take]; omega
  by_cases hm2 : m < 20
  · unfold ferr; rw [hl]; repeat' (first | omega | split)
  · have e0 : byteN ((fpkt h d).take m) 0 = byteN (fpkt h d) 0 := by unfold byteN; simp [List.getD_eq_getElem?_getD, List.getElem?_take]; rw [if_pos (by omega)]
    have e2 : seg ((fpkt h d).take m) 2 2 = seg (fpkt h d) 2 2 := by
      unfold seg; rw [List.drop_take, List.take_take, Nat.min_eq_left (by omega)]
    have e3 : ihl ((fpkt h d).take m) = 20 := by unfold ihl; rw [e0, h2]
    unfold ferr
    rw [hl, e0, e2, e3]
    repeat' (first | omega | split)
theorem ferr_long {h : Hd} {d : List UInt8} (he : fwerr h d.length = 0) (hd : d.length ≤ 2000) (x : UInt8) : ferr (fpkt h d ++ [x]) = 10 := by
  obtain ⟨h1, h2, h3, h4, h5, h6, h7, h8, h9⟩ := fpkt_read he
  have hl : (fpkt h d ++ [x]).length = 21 + d.length := by rw [List.length_append, h1]; simp; omega
  have e0 : byteN (fpkt h d ++ [x]) 0 = byteN (fpkt h d) 0 := by unfold byteN; rw [List.getD_eq_getElem?_getD, List.getElem?_append_left (by omega), ← List.getD_eq_getElem?_getD]
  have e2 : seg (fpkt h d ++ [x]) 2 2 = seg (fpkt h d) 2 2 := by
    unfold seg; rw [List.drop_append_of_le_length (by omega), List.take_append_of_le_length (by simp; omega)]
  have e3 : ihl (fpkt h d ++ [x]) = 20 := by unfold ihl; rw [e0, h2]
  unfold ferr
  rw [hl, e0, e2, e3]
  repeat' (first | omega | split)
theorem ferr_spoilt {h : Hd} {d : List UInt8} (he : fwerr h d.length = 0) (hd : d.length ≤ 3) {k : Nat} (hk : k < 20) (c : UInt8) : ferr ((fpkt h d).set k c) = 0 ↔ c = (fpkt h d).getD k 0 := by
  obtain ⟨h1, h2, h3, h4, h5, h6, h7, h8, h9⟩ := fpkt_read he
  constructor
  · intro hz
    apply Classical.byContradiction
    intro hne
    obtain ⟨g1, g2, g3, g4, g5, g6, g7, g8, g9⟩ := ferr_zero hz
    have hl : ((fpkt h d).set k c).length = 20 + d.length := by rw [List.length_set, h1]
    have key : ihl ((fpkt h d).set k c) = 20 := by
      by_cases hk0 : k = 0
      · subst hk0
        have : byteN ((fpkt h d).set 0 c) 0 = c.toNat := by unfold byteN; rw [List.getD_eq_getElem?_getD, List.getElem?_set_self (by omega)]; rfl
        unfold ihl at g4 g5 ⊢
        rw [this] at g3 g4 g5 ⊢
        omega
      · have : byteN ((fpkt h d).set k c) 0 = byteN (fpkt h d) 0 := by unfold byteN; rw [List.getD_eq_getElem?_getD, List.getElem?_set_ne hk0, ← List.getD_eq_getElem?_getD]
        unfold ihl; rw [this, h2]
    rw [key] at g7
    have e : seg ((fpkt h d).set k c) 0 20 = (seg (fpkt h d) 0 20).set k c := by unfold seg; rw [List.drop_zero, List.drop_zero, List.take_set]
    rw [e] at g7
    refine csum_set (by rw [seg_length (by omega)]; exact hk) h5 ?_ g7
    intro hc
    apply hne
    rw [hc]
    simp [seg, List.getD_eq_getElem?_getD, List.getElem?_take, hk]
  · rintro rfl
    have : (fpkt h d).set k ((fpkt h d).getD k 0) = fpkt h d := by
      apply List.ext_getElem (by simp)
      intro i h1 h2
      rw [List.getElem_set]
      split
      · rename_i e; subst e; rw [List.getD_eq_getElem?_getD, List.getElem?_eq_getElem h2]; rfl
      · rfl
    rw [this]
    exact ferr_pkt he
theorem BinR.addB {P : Program} {T : TypeId} {a b : UInt8} : BinR P .add T (.int .u8 ((a.toNat : Nat) : Int)) (.int .u8 ((b.toNat : Nat) : Int)) (.int .u8 (((a + b).toNat : Nat) : Int)) := BinR.addW.of (by rw [IntKind.wrap_u8, UInt8.toNat_add]; congr 1)
theorem u8_add_eq {a b : UInt8} : a + b = a ↔ ((b.toNat : Nat) : Int) = 0 := by
  have h1 := a.toNat_lt
  have h2 := b.toNat_lt
  rw [← UInt8.toNat_inj, UInt8.toNat_add]
  omega
end Go.Proofs.Yteofjhjhaaafjaa
