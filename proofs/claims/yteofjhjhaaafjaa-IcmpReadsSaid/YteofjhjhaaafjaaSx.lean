/- Layer 15 (seg): plain facts of what is written: it is read, spoilt, of others. -/
import Derived.Test.YteofjhjhaaafjaaSw
namespace Go.Proofs.Yteofjhjhaaafjaa
open Go.RowKit
set_option linter.unusedSimpArgs false
set_option linter.unusedVariables false
set_option maxRecDepth 20000
set_option maxHeartbeats 4000000
attribute [local irreducible] WPc WPl WPq ReadR OpT BinR HasS bx rdN rowN Take Takes Prov Triple ResF BuildP Done ag Int.decLt Int.decLe Int.instDecidableEq

theorem over_cons (x : UInt8) (l n : List UInt8) (k : Nat) : over (x :: l) (k + 1) n = x :: over l k n := by
  unfold over
  rw [List.take_succ_cons, List.cons_append, show k + 1 + n.length = (k + n.length) + 1 by omega, List.drop_succ_cons]
theorem over2 (a b : UInt8) : ∀ (l : List UInt8) (k : Nat), k + 2 ≤ l.length → over l k [a, b] = (l.set k a).set (k + 1) b
  | x :: y :: l, 0, _ => by simp [over]
  | x :: l, k + 1, h => by
    rw [over_cons, over2 a b l k (by simpa using h)]
    rfl
  | [], 0, h => by simp at h
  | [x], 0, h => by simp at h
theorem getD_set_ne {l : List UInt8} {i j : Nat} (c : UInt8) (h : i ≠ j) : (l.set i c).getD j 0 = l.getD j 0 := by
  rw [List.getD_eq_getElem?_getD, List.getElem?_set_ne h, ← List.getD_eq_getElem?_getD]
theorem getD_app {p l : List UInt8} {j : Nat} : (p ++ l).getD (p.length + j) 0 = l.getD j 0 := by
  rw [List.getD_eq_getElem?_getD, List.getElem?_append_right (by omega), Nat.add_sub_cancel_left, ← List.getD_eq_getElem?_getD]
theorem set_app {p l : List UInt8} {j : Nat} (c : UInt8) : p ++ l.set j c = (p ++ l).set (p.length + j) c := by
  rw [List.set_append_right _ _ (by omega), Nat.add_sub_cancel_left]
theorem sum_zero {p l : List UInt8} {k n : Nat} (hk : k + 2 ≤ l.length) (hp : (p.length + k) % 2 = 0) (h0 : l.getD k 0 = 0) (h1 : l.getD (k + 1) 0 = 0)
    (hn : n = 65535 - fold (wsum true (p ++ l)) ∨ (n = 65535 ∧ fold (wsum true (p ++ l)) = 65535)) : csum (p ++ over l k (be n 2)) = 0 := by
  have hf := fold_le (wsum true (p ++ l))
  have hm := fold_mod (wsum true (p ++ l))
  have hz := fold_zero (n := wsum true (p ++ l))
  rw [be2, over2 _ _ l k hk, set_app, set_app]
  have e1 := wsum_set true (p ++ l) (p.length + k) (UInt8.ofNat (n / 256)) (by rw [List.length_append]; omega)
  have e2 := wsum_set true ((p ++ l).set (p.length + k) (UInt8.ofNat (n / 256))) (p.length + (k + 1)) (UInt8.ofNat n) (by rw [List.length_set, List.length_append]; omega)
  rw [getD_set_ne _ (by omega), getD_app, h1, if_neg (by simp; omega)] at e2
  rw [getD_app, h0, if_pos (by simp; exact hp)] at e1
  rw [u8_nat _ (by omega)] at e1
  rw [u8_of] at e2
  have z0 : (0 : UInt8).toNat = 0 := rfl
  rw [z0] at e1 e2
  refine csum_zero.2 ?_
  omega
theorem psu_even (h : Hd) (n : Nat) : (psu h n).length % 2 = 0 := by
  have a1 := h.src.bytes_len
  have a2 := h.dst.bytes_len
  unfold psu
  split <;> simp [be_length, nbs, a1, a2] <;> split <;> split <;> omega
theorem sumN_or (h : Hd) (l : List UInt8) : sumN h l = 65535 - fold (wsum true (psu h l.length ++ l)) ∨ (sumN h l = 65535 ∧ fold (wsum true (psu h l.length ++ l)) = 65535) := by
  have hf := fold_le (wsum true (psu h l.length ++ l))
  unfold sumN csum
  split <;> omega
theorem summ_zero {h : Hd} {l : List UInt8} {k : Nat} (hk : k + 2 ≤ l.length) (hp : k % 2 = 0) (h0 : l.getD k 0 = 0) (h1 : l.getD (k + 1) 0 = 0) : csum (psu h l.length ++ summ h l k) = 0 :=
  sum_zero hk (by have := psu_even h l.length; omega) h0 h1 (sumN_or h l)
theorem swE_zero {h : Hd} {s : Sg} {n : Nat} (he : swE h s n = 0) : (h.proto.toNat = 6 ∨ h.proto.toNat = 17) ∧ swBad h s = false ∧ n ≤ 1900 := by
  unfold swE at he
  repeat' (split at he)
  all_goals first | omega | (cases he; done) | skip
  rename_i h1 h2 h3
  exact ⟨by omega, by simpa using h2, by omega⟩
theorem u16_bytes {x : Nat} (hx : x < 65536) (h0 : x ≠ 0) (l : List UInt8) (k : Nat) (h1 : l.getD k 0 = UInt8.ofNat (x / 256)) (h2 : l.getD (k + 1) 0 = UInt8.ofNat x) (hk : k + 2 ≤ l.length) : val (seg l k 2) = x := by
  rw [val_seg2 hk]
  unfold byteN
  rw [h1, h2, u8_nat _ (by omega), u8_of]
  omega
/-- What is written, byte for byte: TCP. -/
theorem swT_form (h : Hd) (s : Sg) (d : List UInt8) : ∃ a b, summ h (swT s d) 16 = [UInt8.ofNat (s.src / 256), UInt8.ofNat s.src, UInt8.ofNat (s.dst / 256), UInt8.ofNat s.dst, 0, 0, 0, 0, 0, 0, 0, 0, 80, s.flags, 0, 0, a, b, 0, 0] ++ d ∧
    swT s d = [UInt8.ofNat (s.src / 256), UInt8.ofNat s.src, UInt8.ofNat (s.dst / 256), UInt8.ofNat s.dst, 0, 0, 0, 0, 0, 0, 0, 0, 80, s.flags, 0, 0, 0, 0, 0, 0] ++ d := by
  have hf : swT s d = [UInt8.ofNat (s.src / 256), UInt8.ofNat s.src, UInt8.ofNat (s.dst / 256), UInt8.ofNat s.dst, 0, 0, 0, 0, 0, 0, 0, 0, 80, s.flags, 0, 0, 0, 0, 0, 0] ++ d := by
    unfold swT
    rw [be2, be2]
    simp [nbs, List.replicate]
  refine ⟨UInt8.ofNat (sumN h (swT s d) / 256), UInt8.ofNat (sumN h (swT s d)), ?_, hf⟩
  unfold summ
  rw [be2]
  generalize sumN h (swT s d) = m
  rw [hf]
  simp [over]
theorem swU_form (h : Hd) (s : Sg) (d : List UInt8) : summ h (swU s d) 6 = [UInt8.ofNat (s.src / 256), UInt8.ofNat s.src, UInt8.ofNat (s.dst / 256), UInt8.ofNat s.dst, UInt8.ofNat ((8 + d.length) / 256), UInt8.ofNat (8 + d.length), UInt8.ofNat (sumN h (swU s d) / 256), UInt8.ofNat (sumN h (swU s d))] ++ d ∧
    swU s d = [UInt8.ofNat (s.src / 256), UInt8.ofNat s.src, UInt8.ofNat (s.dst / 256), UInt8.ofNat s.dst, UInt8.ofNat ((8 + d.length) / 256), UInt8.ofNat (8 + d.length), 0, 0] ++ d := by
  have hf : swU s d = [UInt8.ofNat (s.src / 256), UInt8.ofNat s.src, UInt8.ofNat (s.dst / 256), UInt8.ofNat s.dst, UInt8.ofNat ((8 + d.length) / 256), UInt8.ofNat (8 + d.length), 0, 0] ++ d := by
    unfold swU
    rw [be2, be2, be2]
    simp [nbs]
  refine ⟨?_, hf⟩
  unfold summ
  rw [be2]
  generalize sumN h (swU s d) = m
  rw [hf]
  simp [over]
/-- What is known of a segment that was written with a sum. -/
theorem swL_read {h : Hd} {s : Sg} {d : List UInt8} (he : swE h s d.length = 0) (hs1 : s.src < 65536) (hs2 : s.dst < 65536) (hz : s.zero = false) :
    ∃ n, (swL h s d).length = n + d.length ∧ (n = 8 ∨ n = 20) ∧ csum (psu h (swL h s d).length ++ swL h s d) = 0 ∧
      (∀ h' : Hd, h'.proto = h.proto → sgE0 h' (swL h s d) = (if sgood h' (swL h s d) then 0 else 5)) ∧ pz (swL h s d) = false := by
  obtain ⟨hpr, hb, hl⟩ := swE_zero he
  obtain ⟨b1, b2, b3, b4, b5, b6⟩ := swBad_no hb
  by_cases h6 : h.proto.toNat = 6
  · have hL : swL h s d = summ h (swT s d) 16 := by unfold swL; rw [if_pos he, if_pos h6]
    obtain ⟨x, y, hf, hf0⟩ := swT_form h s d
    have hlen : (summ h (swT s d) 16).length = 20 + d.length := by rw [hf, List.length_append]; rfl
    have hlen0 : (swT s d).length = 20 + d.length := by rw [hf0, List.length_append]; rfl
    have hc : csum (psu h (summ h (swT s d) 16).length ++ summ h (swT s d) 16) = 0 := by
      rw [hlen, ← hlen0]
      exact summ_zero (by omega) rfl (by rw [hf0]; rfl) (by rw [hf0]; rfl)
    have p0 := u16_bytes hs1 (by omega) (summ h (swT s d) 16) 0 (by rw [hf]; rfl) (by rw [hf]; rfl) (by omega)
    have p2 := u16_bytes hs2 (by omega) (summ h (swT s d) 16) 2 (by rw [hf]; rfl) (by rw [hf]; rfl) (by omega)
    have h12 : byteN (summ h (swT s d) 16) 12 = 80 := by rw [hf]; rfl
    refine ⟨20, by rw [hL, hlen], .inr rfl, by rw [hL]; exact hc, ?_, ?_⟩
    · intro h' hp'
      rw [hL]
      unfold sgE0 tcpE tN
      rw [hp', if_pos h6, h12, if_neg (by omega), if_neg (by omega), if_neg (by omega)]
      cases sgood h' (summ h (swT s d) 16) <;> rfl
    · rw [hL]; unfold pz; rw [p0, p2]; simp; omega
  · have h17 : h.proto.toNat = 17 := by omega
    have hL : swL h s d = summ h (swU s d) 6 := by unfold swL; rw [if_pos he, if_neg h6, if_neg (by rw [hz]; simp)]
    obtain ⟨hf, hf0⟩ := swU_form h s d
    have hlen : (summ h (swU s d) 6).length = 8 + d.length := by rw [hf, List.length_append]; rfl
    have hlen0 : (swU s d).length = 8 + d.length := by rw [hf0, List.length_append]; rfl
    have hc : csum (psu h (summ h (swU s d) 6).length ++ summ h (swU s d) 6) = 0 := by
      rw [hlen, ← hlen0]
      exact summ_zero (by omega) rfl (by rw [hf0]; rfl) (by rw [hf0]; rfl)
    have p0 := u16_bytes hs1 (by omega) (summ h (swU s d) 6) 0 (by rw [hf]; rfl) (by rw [hf]; rfl) (by omega)
    have p2 := u16_bytes hs2 (by omega) (summ h (swU s d) 6) 2 (by rw [hf]; rfl) (by rw [hf]; rfl) (by omega)
    have p4 := u16_bytes (x := 8 + d.length) (by omega) (by omega) (summ h (swU s d) 6) 4 (by rw [hf]; rfl) (by rw [hf]; rfl) (by omega)
    have hsn := sumN_le h (swU s d)
    have hs0 : sumN h (swU s d) ≠ 0 := by
      unfold sumN
      split
      · omega
      · rename_i hh; intro h0; exact hh ⟨h0, h17⟩
    have p6 := u16_bytes (x := sumN h (swU s d)) (by omega) hs0 (summ h (swU s d) 6) 6 (by rw [hf]; rfl) (by rw [hf]; rfl) (by omega)
    refine ⟨8, by rw [hL, hlen], .inl rfl, by rw [hL]; exact hc, ?_, ?_⟩
    · intro h' hp'
      rw [hL]
      unfold sgE0 udpE
      rw [hp', if_neg h6, if_pos h17, p4, p6, if_neg (by omega), if_neg (by omega), if_neg (by omega), if_neg (by omega), if_neg (fun hh => hs0 hh.1)]
      cases sgood h' (summ h (swU s d) 6) <;> simp [hs0]
    · rw [hL]; unfold pz; rw [p0, p2]; simp; omega
theorem seg_spoilt {h : Hd} {s : Sg} {d : List UInt8} (he : swE h s d.length = 0) (hs1 : s.src < 65536) (hs2 : s.dst < 65536) (hz : s.zero = false) {k : Nat} (hk : k < (swL h s d).length) (c : UInt8) :
    sgE h ((swL h s d).set k c) = 0 ↔ (c = (swL h s d).getD k 0 ∨ (sgR h ((swL h s d).set k c)).zero = true) := by
  obtain ⟨n, hn, hn2, hc, hE, hp⟩ := swL_read he hs1 hs2 hz
  by_cases hcc : c = (swL h s d).getD k 0
  · have hse : (swL h s d).set k c = swL h s d := by
      rw [hcc]
      apply List.ext_getElem (by simp)
      intro i h1 h2
      rw [List.getElem_set]
      split
      · rename_i e; subst e; rw [List.getD_eq_getElem?_getD, List.getElem?_eq_getElem h2]; rfl
      · rfl
    rw [hse]
    refine ⟨fun _ => .inl hcc, fun _ => ?_⟩
    have hg : sgood h (swL h s d) = true := by unfold sgood; exact decide_eq_true hc
    unfold sgE
    rw [hE h rfl, hg, if_pos rfl, if_pos rfl, hp]; rfl
  · have hb : sgood h ((swL h s d).set k c) = false := by
      unfold sgood
      rw [List.length_set, set_app]
      exact decide_eq_false (csum_set (by rw [List.length_append]; omega) hc (by rw [getD_app]; exact hcc))
    constructor
    · intro h0
      refine .inr ?_
      have hR : sgR h ((swL h s d).set k c) = (sg0 h ((swL h s d).set k c)).at ((swL h s d).set k c) := by unfold sgR; rw [if_pos h0]
      have h00 : sgE0 h ((swL h s d).set k c) = 0 := by
        apply Classical.byContradiction
        intro hh
        unfold sgE at h0
        rw [if_neg hh] at h0
        exact hh h0
      rw [hR]
      unfold sgE0 at h00
      unfold sg0
      split at h00
      · have := (tcpE_zero h00).2.2.2
        rw [hb] at this; cases this
      · rename_i h6
        rw [if_neg h6]
        split at h00
        · rcases (udpE_zero h00).2.2 with hh | hh
          · show decide _ = true; exact decide_eq_true hh.1
          · rw [hb] at hh; cases hh.2
        · cases h00
    · rintro (h0 | h0)
      · exact absurd h0 hcc
      · apply Classical.byContradiction
        intro hh
        have hR : sgR h ((swL h s d).set k c) = Sg.none := by unfold sgR; rw [if_neg hh]
        rw [hR] at h0; cases h0
end Go.Proofs.Yteofjhjhaaafjaa
