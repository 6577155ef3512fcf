/- Layer 16 (pkt): a packet that was built is read; spoilt, it is none: plain facts. -/
import Derived.Test.YteofjhjhaaafjaaPb
import Derived.Test.YteofjhjhaaafjaaSx
import Derived.Test.YteofjhjhaaafjaaIpsixL
namespace Go.Proofs.Yteofjhjhaaafjaa
open Go.RowKit
set_option linter.unusedSimpArgs false
set_option linter.unusedVariables false
set_option maxRecDepth 20000
set_option maxHeartbeats 4000000
attribute [local irreducible] WPc WPl WPq ReadR OpT BinR HasS bx rdN rowN Take Takes Prov Triple ResF BuildP Done ag Int.decLt Int.decLe Int.instDecidableEq

theorem seg_set_out {l : List UInt8} {k i n : Nat} (c : UInt8) (h : k < i ∨ i + n ≤ k) : seg (l.set k c) i n = seg l i n := by
  unfold seg
  rw [List.drop_set]
  split
  · rfl
  · rw [List.take_set, List.set_eq_of_length_le]
    simp; omega
theorem seg_set_in {l : List UInt8} {k i n : Nat} (c : UInt8) (h : i ≤ k) : seg (l.set k c) i n = (seg l i n).set (k - i) c := by
  unfold seg
  rw [List.drop_set, if_neg (by omega), List.take_set]
theorem byteN_set_ne {l : List UInt8} {i k : Nat} (c : UInt8) (h : k ≠ i) : byteN (l.set k c) i = byteN l i := by
  unfold byteN; rw [getD_set_ne c h]
theorem byteN_set_self {l : List UInt8} {k : Nat} (c : UInt8) (h : k < l.length) : byteN (l.set k c) k = c.toNat := by
  unfold byteN; rw [List.getD_eq_getElem?_getD, List.getElem?_set_self h]; rfl
theorem set_self {l : List UInt8} {k : Nat} : l.set k (l.getD k 0) = l := by
  apply List.ext_getElem (by simp)
  intro i h1 h2
  rw [List.getElem_set]
  split
  · rename_i e; subst e; rw [List.getD_eq_getElem?_getD, List.getElem?_eq_getElem h2]; rfl
  · rfl
theorem ofA_four {a : Adr} (h : a.six = false) (hg : a.good = true) : ofA a.bytes = a := by
  have hl := a.len
  have hb : a.bytes = seg a.b 12 4 := by unfold Adr.bytes; rw [h]; rfl
  have hsl : (seg a.b 12 4).length = 4 := by rw [seg_length (by omega)]
  have hg2 : seg a.b 0 12 = List.replicate 12 0 := by
    unfold Adr.good at hg; rw [h] at hg; simpa using hg
  rw [hb]
  unfold ofA
  rw [dif_neg (by omega), dif_pos hsl]
  refine Adr.ext h.symm ?_
  show over (List.replicate 16 0) 12 (seg a.b 12 4) = a.b
  have e1 : a.b = seg a.b 0 12 ++ seg a.b 12 4 := by
    unfold seg
    rw [List.drop_zero, List.take_of_length_le (l := a.b.drop 12) (by simp; omega), List.take_append_drop]
  conv => rhs; rw [e1, hg2]
  unfold over
  rw [hsl]
  simp
theorem ofA_six {a : Adr} (h : a.six = true) : ofA a.b = a := by
  have hl := a.len
  unfold ofA
  rw [dif_pos hl]
  exact Adr.ext h.symm rfl
theorem pk_of {b s : List UInt8} {H : Hd} (hE : phE b = 0) (hH : phH b = H) (hp : H.part = false) (hs : pkS b = s) : pkE b = sgE H s ∧ (pkE b = 0 → pkR b = pkOf H (sgR H s)) := by
  have h1 : pkE b = sgE H s := by unfold pkE; rw [if_neg (by rw [hE]; simp), hH, hp, hs]; rfl
  refine ⟨h1, fun h0 => ?_⟩
  unfold pkR
  rw [if_pos h0, hH, hs]
theorem sgE_zero {h : Hd} {b : List UInt8} (h0 : sgE h b = 0) : sgE0 h b = 0 := by
  apply Classical.byContradiction
  intro hh
  unfold sgE at h0
  rw [if_neg hh] at h0
  exact hh h0
theorem sg_zero {h : Hd} {b : List UInt8} (h0 : sgE h b = 0) (hb : sgood h b = false) : (sgR h b).zero = true := by
  have h00 := sgE_zero h0
  have hR : sgR h b = (sg0 h b).at b := by unfold sgR; rw [if_pos h0]
  rw [hR]
  unfold sgE0 at h00
  unfold sg0
  split at h00
  · have := (tcpE_zero h00).2.2.2
    rw [hb] at this; cases this
  · rename_i h6
    rw [if_neg h6]
    split at h00
    · rcases (udpE_zero h00).2.2 with hh | hh
      · show decide _ = true; exact decide_eq_true hh.1
      · rw [hb] at hh; cases hh.2
    · cases h00
theorem pk_zero {b : List UInt8} (h0 : pkE b = 0) : phE b = 0 ∧ (phH b).part = false ∧ sgE (phH b) (pkS b) = 0 ∧ pkR b = pkOf (phH b) (sgR (phH b) (pkS b)) := by
  have h1 : phE b = 0 := by
    apply Classical.byContradiction
    intro hh
    unfold pkE at h0
    rw [if_pos hh] at h0
    exact hh h0
  have h2 : (phH b).part = false := by
    cases hp : (phH b).part with
    | false => rfl
    | true => unfold pkE at h0; rw [if_neg (by rw [h1]; simp), hp, if_pos rfl] at h0; cases h0
  refine ⟨h1, h2, ?_, ?_⟩
  · unfold pkE at h0; rw [if_neg (by rw [h1]; simp), h2] at h0; exact h0
  · unfold pkR; rw [if_pos h0]
/-- What is known of a segment that was built, for any head of the same proto: with its own addresses, and with others. -/
theorem par_len (b : Bool) : ∀ l : List UInt8, par b l = if l.length % 2 = 0 then b else !b
  | [] => rfl
  | [x] => rfl
  | x :: y :: l => by
    have := par_len b l
    show par (!!b) l = _
    rw [Bool.not_not, this]
    simp only [List.length_cons, Nat.add_mod_right, show l.length + 1 + 1 = l.length + 2 from rfl]
theorem wsum_even (l m : List UInt8) (h : l.length % 2 = 0) : wsum true (l ++ m) = wsum true l + wsum true m := by rw [wsum_append, par_len, if_pos h]
theorem psu_four {h : Hd} (hs : h.six = false) (n : Nat) (hn : n < 65536) (X : List UInt8) : wsum true (psu h n ++ X) = wsum true ([h.src.bytes, h.dst.bytes].flatten ++ nbs [0, (h.proto.toNat : Nat)]) + n + wsum true X := by
  have a1 := h.src.bytes_len
  have a2 := h.dst.bytes_len
  have hev := psu_even h n
  have hn1 := u8_nat (n / 256) (by omega)
  have hn2 := u8_of n
  rw [wsum_even _ _ hev]
  unfold psu at hev ⊢
  rw [hs, if_neg (by decide), be2] at hev ⊢
  rw [wsum_even _ [_, _] (by simp only [List.length_append, List.length_cons, List.length_nil] at hev ⊢; omega)]
  simp only [wsum, Bool.not_true, if_true, Bool.false_eq_true, if_false, hn1, hn2]
  omega
theorem fhead_pkt {h : Hd} {d : List UInt8} (he : fwerr h d.length = 0) : fhead (fpkt h d) = ⟨h.six, h.proto, 20, h.src, h.dst, false, h.hops⟩ := by
  obtain ⟨hb, hl⟩ := fwerr_zero he
  obtain ⟨b1, b2, b3, b4, b5, b6, b7⟩ := fwBad_no hb
  obtain ⟨a, b, c, e, f, g, i, j, x, y, hs, hd, hx, hy, hp, hf⟩ := fpkt_form b4 b5 d
  have e1 : seg (fpkt h d) 12 4 = h.src.bytes := by rw [hf, hs]; rfl
  have e2 : seg (fpkt h d) 16 4 = h.dst.bytes := by rw [hf, hd]; rfl
  have e3 : seg (fpkt h d) 6 2 = [0, 0] := by rw [hf]; rfl
  have e4 : (fpkt h d).getD 9 0 = h.proto := by rw [hf]; rfl
  have e5 : (fpkt h d).getD 8 0 = h.hops := by rw [hf]; rfl
  have e6 := (fpkt_read he).2.2.1
  unfold fhead
  rw [e1, e2, e3, e4, e5, e6, ofA_four b4 b6, ofA_four b5 b7, b1]
  rfl
theorem seg_fpkt {h : Hd} {d : List UInt8} (he : fwerr h d.length = 0) : seg (fpkt h d) 20 d.length = d := by
  obtain ⟨hb, hl⟩ := fwerr_zero he
  obtain ⟨b1, b2, b3, b4, b5, b6, b7⟩ := fwBad_no hb
  obtain ⟨a, b, c, e, f, g, i, j, x, y, hs, hd, hx, hy, hp, hf⟩ := fpkt_form b4 b5 d
  rw [hf]
  show d.take d.length = d
  exact List.take_length
theorem getD_fpkt {h : Hd} {d : List UInt8} (he : fwerr h d.length = 0) (k : Nat) : (fpkt h d).getD (20 + k) 0 = d.getD k 0 := by
  obtain ⟨hb, hl⟩ := fwerr_zero he
  obtain ⟨b1, b2, b3, b4, b5, b6, b7⟩ := fwBad_no hb
  obtain ⟨a, b, c, e, f, g, i, j, x, y, hs, hd, hx, hy, hp, hf⟩ := fpkt_form b4 b5 d
  rw [hf]
  exact getD_app (p := [69, 0, x, y, 0, 0, 0, 0, h.hops, h.proto, UInt8.ofNat (csum (fpre h d.length) / 256), UInt8.ofNat (csum (fpre h d.length)), a, b, c, e, f, g, i, j])
/-- The head of one that was spoilt behind its head. -/
theorem four_behind {h : Hd} {d : List UInt8} (he : fwerr h d.length = 0) {k : Nat} (hk : 20 ≤ k) (c : UInt8) :
    phE ((fpkt h d).set k c) = 0 ∧ phH ((fpkt h d).set k c) = ⟨h.six, h.proto, 20, h.src, h.dst, false, h.hops⟩ ∧ pkS ((fpkt h d).set k c) = d.set (k - 20) c := by
  obtain ⟨h1, h2, h3, h4, h5, h6, h7, h8, h9⟩ := fpkt_read he
  have n0 : byteN ((fpkt h d).set k c) 0 = 69 := by rw [byteN_set_ne c (by omega), h2]
  have i0 : ihl ((fpkt h d).set k c) = 20 := by unfold ihl; rw [n0]
  have hE : ferr ((fpkt h d).set k c) = 0 := by
    unfold ferr
    rw [List.length_set, i0, n0, byteN_set_ne c (by omega), byteN_set_ne c (by omega), seg_set_out c (by omega), seg_set_out c (by omega)]
    repeat' (first | omega | split)
  have hH : fread ((fpkt h d).set k c) = ⟨h.six, h.proto, 20, h.src, h.dst, false, h.hops⟩ := by
    rw [← fhead_pkt he]
    unfold fread
    rw [if_pos hE]
    unfold fhead
    rw [i0, h3, seg_set_out c (by omega), seg_set_out c (by omega), seg_set_out c (by omega), getD_set_ne c (by omega), getD_set_ne c (by omega)]
  have p1 : phE ((fpkt h d).set k c) = 0 := by unfold phE; rw [List.length_set, if_neg (by omega), n0, if_pos (by rfl)]; exact hE
  have p2 : phH ((fpkt h d).set k c) = ⟨h.six, h.proto, 20, h.src, h.dst, false, h.hops⟩ := by unfold phH; rw [List.length_set, if_neg (by omega), n0, if_pos (by rfl)]; exact hH
  refine ⟨p1, p2, ?_⟩
  unfold pkS
  rw [p2]
  show seg ((fpkt h d).set k c) 20 (((fpkt h d).set k c).length - 20) = _
  rw [seg_set_in c hk, List.length_set, h1, show 20 + d.length - 20 = d.length by omega, seg_fpkt he]
/-- One that was spoilt in its head. -/
theorem four_ahead {h : Hd} {d : List UInt8} (he : fwerr h d.length = 0) (hc0 : csum (psu h d.length ++ d) = 0) {k : Nat} (hk : k < 20) (c : UInt8) (hne : c ≠ (fpkt h d).getD k 0) (h0 : pkE ((fpkt h d).set k c) = 0) : (pkR ((fpkt h d).set k c)).sg.zero = true := by
  obtain ⟨h1, h2, h3, h4, h5, h6, h7, h8, h9⟩ := fpkt_read he
  obtain ⟨hb, hl⟩ := fwerr_zero he
  obtain ⟨b1, b2, b3, b4, b5, b6, b7⟩ := fwBad_no hb
  obtain ⟨z1, z2, z3, z4⟩ := pk_zero h0
  have hE : ferr ((fpkt h d).set k c) = 0 ∧ phH ((fpkt h d).set k c) = fread ((fpkt h d).set k c) := by
    unfold phE at z1
    unfold phH
    rw [List.length_set, if_neg (by omega)] at z1 ⊢
    by_cases v4 : byteN ((fpkt h d).set k c) 0 / 16 = 4
    · rw [if_pos v4] at z1 ⊢
      exact ⟨z1, rfl⟩
    · rw [if_neg v4] at z1 ⊢
      exfalso
      have k0 : k = 0 := by
        apply Classical.byContradiction
        intro k0
        rw [byteN_set_ne c k0, h2] at v4
        omega
      split at z1
      · have z0 : xerr0 ((fpkt h d).set k c) = 0 := by
          apply Classical.byContradiction
          intro hh
          unfold xerr at z1
          rw [if_neg hh] at z1
          exact hh z1
        have := (xerr0_zero z0).2.2.2.2
        rw [byteN_set_ne c (by omega)] at this
        obtain ⟨a, b, c', e, f, g, i, j, x, y, hs, hd, hx, hy, hp, hf⟩ := fpkt_form b4 b5 d
        apply this
        rw [hf]; rfl
      · cases z1
  obtain ⟨hE, hH⟩ := hE
  obtain ⟨g1, g2, g3, g4, g5, g6, g7, g8, g9⟩ := ferr_zero hE
  rw [List.length_set] at g1 g2 g5
  by_cases hi : ihl ((fpkt h d).set k c) = 20
  · exfalso
    rw [hi] at g7
    rw [seg_set_in c (by omega), Nat.sub_zero] at g7
    refine csum_set (by rw [seg_length (by omega)]; exact hk) h5 ?_ g7
    intro hc
    apply hne
    rw [hc]
    simp [seg, List.getD_eq_getElem?_getD, List.getElem?_take, hk]
  · have k0 : k = 0 := by
      apply Classical.byContradiction
      intro k0
      apply hi
      unfold ihl; rw [byteN_set_ne c k0, h2]
    subst k0
    have bc := byteN_set_self (l := fpkt h d) (k := 0) c (by omega)
    obtain ⟨j, hj⟩ : ∃ j : Nat, ihl ((fpkt h d).set 0 c) = 20 + 4 * j := ⟨(ihl ((fpkt h d).set 0 c) - 20) / 4, by unfold ihl at g4 ⊢; omega⟩
    have hcj : c.toNat = 69 + j := by unfold ihl at hj g4; rw [bc] at hj g3 g4; omega
    have hj10 : j ≤ 10 := by have := ihl_lt ((fpkt h d).set 0 c); omega
    have hj0 : 0 < j := by omega
    rw [hj] at g5 g7
    have hjd : 4 * j ≤ d.length := by omega
    have hLs : seg (fpkt h d) 0 (20 + 4 * j) = seg (fpkt h d) 0 20 ++ d.take (4 * j) := by
      obtain ⟨a, b, c', e, f, g, i, j', x, y, hs, hd, hx, hy, hp, hf⟩ := fpkt_form b4 b5 d
      rw [hf]
      unfold seg
      rw [List.drop_zero, List.take_add]
      rfl
    rw [seg_set_in c (by omega), Nat.sub_zero, hLs] at g7
    have w1 := (csum_zero.1 g7).1
    have w2 := wsum_set true (seg (fpkt h d) 0 20 ++ d.take (4 * j)) 0 c (by simp; rw [seg_length (by omega)]; omega)
    have gd : (seg (fpkt h d) 0 20 ++ d.take (4 * j)).getD 0 0 = (fpkt h d).getD 0 0 := by
      obtain ⟨a, b, c', e, f, g, i, j', x, y, hs, hd, hx, hy, hp, hf⟩ := fpkt_form b4 b5 d
      rw [hf]; rfl
    have b0 : ((fpkt h d).getD 0 0).toNat = 69 := h2
    rw [gd, b0, if_pos (by rfl), wsum_even _ _ (by rw [seg_length (by omega)])] at w2
    have w3 := (csum_zero.1 h5).1
    have w4 := (csum_zero.1 hc0).1
    have hS : pkS ((fpkt h d).set 0 c) = d.drop (4 * j) := by
      unfold pkS
      rw [hH]
      unfold fread
      rw [if_pos hE]
      show seg ((fpkt h d).set 0 c) (ihl ((fpkt h d).set 0 c) : Int).toNat (((fpkt h d).set 0 c).length - (ihl ((fpkt h d).set 0 c) : Int).toNat) = _
      rw [hj, Int.toNat_natCast, seg_set_out c (by omega), List.length_set, h1]
      obtain ⟨a, b, c', e, f, g, i, j', x, y, hs, hd, hx, hy, hp, hf⟩ := fpkt_form b4 b5 d
      rw [hf]
      have e : ∀ X : List UInt8, X.length = 20 → seg (X ++ d) (20 + 4 * j) (20 + d.length - (20 + 4 * j)) = d.drop (4 * j) := fun X hX => by
        unfold seg
        rw [List.drop_append, List.drop_of_length_le (by omega), hX, List.nil_append, show 20 + 4 * j - 20 = 4 * j by omega, List.take_of_length_le (by simp; omega)]
      exact e _ rfl
    rw [z4]
    show (sgR _ _).zero = true
    refine sg_zero z3 ?_
    rw [hS]
    have hpsu : ∀ n, psu (phH ((fpkt h d).set 0 c)) n = psu h n := by
      intro n
      have q := fhead_pkt he
      rw [hH]
      unfold fread
      rw [if_pos hE]
      unfold fhead at q ⊢
      rw [seg_set_out c (by omega), seg_set_out c (by omega), getD_set_ne c (by omega)]
      simp only [Hd.mk.injEq] at q
      obtain ⟨q1, q2, q3, q4, q5, q6, q7⟩ := q
      unfold psu
      simp only [q2, q4, q5, b1]
    unfold sgood
    rw [hpsu, List.length_drop]
    refine decide_eq_false fun hz => ?_
    have w5 := (csum_zero.1 hz).1
    rw [psu_four b1 _ (by omega)] at w4 w5
    have w6 := wsum_even (d.take (4 * j)) (d.drop (4 * j)) (by rw [List.length_take]; omega)
    rw [List.take_append_drop] at w6
    omega
end Go.Proofs.Yteofjhjhaaafjaa
