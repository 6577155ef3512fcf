/- Layer 16 (pkt): a packet that was built is read; spoilt, it is none: plain law. -/
import Derived.Test.YteofjhjhaaafjaaPs
namespace Go.Proofs.Yteofjhjhaaafjaa
open Go.RowKit
set_option linter.unusedSimpArgs false
set_option linter.unusedVariables false
set_option maxRecDepth 20000
set_option maxHeartbeats 4000000
attribute [local irreducible] WPc WPl WPq ReadR OpT BinR HasS bx rdN rowN Take Takes Prov Triple ResF BuildP Done ag Int.decLt Int.decLe Int.instDecidableEq

theorem seg_add (l : List UInt8) (i n m : Nat) : seg l i (n + m) = seg l i n ++ seg l (i + n) m := by
  unfold seg
  rw [List.take_add, List.drop_drop]
theorem ofA_bytes6 {l : List UInt8} (h : l.length = 16) : (ofA l).bytes = l := by
  unfold ofA
  rw [dif_pos h]
  rfl
abbrev Hd.put (h : Hd) (p : Int) : Hd := ⟨h.six, h.proto, p, h.src, h.dst, false, h.hops⟩
theorem swL_put (h : Hd) (p : Int) (s : Sg) (d : List UInt8) : swL (h.put p) s d = swL h s d := rfl
theorem six_set {h : Hd} {d : List UInt8} (he : xwerr h d.length = 0) {k : Nat} (hk : 8 ≤ k) (c : UInt8) :
    phE ((xpkt h d).set k c) = 0 ∧ phH ((xpkt h d).set k c) = ⟨h.six, h.proto, 40, ofA (seg ((xpkt h d).set k c) 8 16), ofA (seg ((xpkt h d).set k c) 24 16), false, h.hops⟩ ∧ pkS ((xpkt h d).set k c) = seg ((xpkt h d).set k c) 40 d.length := by
  obtain ⟨h1, h2, h3, h4, h5, h6⟩ := xpkt_read he
  obtain ⟨hb, hl⟩ := xwerr_zero he
  obtain ⟨b1, b2, b3, b4, b5, b6⟩ := xwBad_no hb
  have n0 : byteN ((xpkt h d).set k c) 0 = 96 := by rw [byteN_set_ne c (by omega), h2]
  have hf := xpkt_form he
  have e6 : ((xpkt h d).set k c).getD 6 0 = h.proto := by rw [getD_set_ne c (by omega), hf]; rfl
  have e7 : ((xpkt h d).set k c).getD 7 0 = h.hops := by rw [getD_set_ne c (by omega), hf]; rfl
  have hE0 : xerr0 ((xpkt h d).set k c) = 0 := by
    unfold xerr0
    rw [List.length_set, n0, byteN_set_ne c (by omega), seg_set_out c (by omega)]
    repeat' (first | omega | split)
  have hxs : xs0 ((xpkt h d).set k c) = ⟨h.proto, 40, false⟩ := by unfold xs0; rw [e6]
  have hall : xall ((xpkt h d).set k c) 8 (xs0 ((xpkt h d).set k c)) = (0, ⟨h.proto, 40, false⟩) := by rw [xall_no (by rw [hxs]; exact b6), hxs]
  have hE : xerr ((xpkt h d).set k c) = 0 := by unfold xerr; rw [if_pos hE0, hall]
  have hH : xread ((xpkt h d).set k c) = ⟨h.six, h.proto, 40, ofA (seg ((xpkt h d).set k c) 8 16), ofA (seg ((xpkt h d).set k c) 24 16), false, h.hops⟩ := by
    unfold xread
    rw [if_pos hE, hall]
    unfold xhead
    rw [e7, b1]
    rfl
  have p1 : phE ((xpkt h d).set k c) = 0 := by unfold phE; rw [List.length_set, if_neg (by omega), n0, if_neg (by decide), if_pos (by rfl)]; exact hE
  have p2 : phH ((xpkt h d).set k c) = ⟨h.six, h.proto, 40, ofA (seg ((xpkt h d).set k c) 8 16), ofA (seg ((xpkt h d).set k c) 24 16), false, h.hops⟩ := by unfold phH; rw [List.length_set, if_neg (by omega), n0, if_neg (by decide), if_pos (by rfl)]; exact hH
  refine ⟨p1, p2, ?_⟩
  unfold pkS
  rw [p2]
  show seg ((xpkt h d).set k c) 40 (((xpkt h d).set k c).length - 40) = _
  rw [List.length_set, h1, show 40 + d.length - 40 = d.length by omega]
theorem six_segs {h : Hd} {d : List UInt8} (he : xwerr h d.length = 0) : seg (xpkt h d) 8 16 = h.src.b ∧ seg (xpkt h d) 24 16 = h.dst.b ∧ seg (xpkt h d) 40 d.length = d ∧ ∀ k, (xpkt h d).getD (40 + k) 0 = d.getD k 0 := by
  have hf := xpkt_form he
  have l1 := h.src.len
  have l2 := h.dst.len
  rw [hf]
  refine ⟨?_, ?_, ?_, ?_⟩
  · show (h.src.b ++ (h.dst.b ++ d)).take 16 = _
    rw [List.take_append_of_le_length (by omega), List.take_of_length_le (by omega)]
  · show ((h.src.b ++ (h.dst.b ++ d)).drop 16).take 16 = _
    rw [List.drop_append_of_le_length (by omega), List.drop_of_length_le (by omega), List.nil_append, List.take_append_of_le_length (by omega), List.take_of_length_le (by omega)]
  · show ((h.src.b ++ (h.dst.b ++ d)).drop 32).take d.length = _
    rw [← List.append_assoc, List.drop_append, List.drop_of_length_le (by simp; omega)]
    simp [l1, l2]
  · intro k
    have := getD_app (p := [96, 0, 0, 0, UInt8.ofNat (d.length / 256), UInt8.ofNat d.length, h.proto, h.hops] ++ (h.src.b ++ h.dst.b)) (l := d) (j := k)
    rw [show ([96, 0, 0, 0, UInt8.ofNat (d.length / 256), UInt8.ofNat d.length, h.proto, h.hops] ++ (h.src.b ++ h.dst.b)).length = 40 by simp [l1, l2]] at this
    rw [← this]
    congr 1
    simp
theorem six_behind {h : Hd} {d : List UInt8} (he : xwerr h d.length = 0) {k : Nat} (hk : 40 ≤ k) (c : UInt8) :
    phE ((xpkt h d).set k c) = 0 ∧ phH ((xpkt h d).set k c) = h.put 40 ∧ pkS ((xpkt h d).set k c) = d.set (k - 40) c := by
  obtain ⟨hb, hl⟩ := xwerr_zero he
  obtain ⟨b1, b2, b3, b4, b5, b6⟩ := xwBad_no hb
  obtain ⟨p1, p2, p3⟩ := six_set he (show 8 ≤ k by omega) c
  obtain ⟨s1, s2, s3, s4⟩ := six_segs he
  refine ⟨p1, ?_, ?_⟩
  · rw [p2, seg_set_out c (by omega), seg_set_out c (by omega), s1, s2, ofA_six b4, ofA_six b5]
  · rw [p3, seg_set_in c hk, s3]
theorem six_ahead {h : Hd} {d : List UInt8} (he : xwerr h d.length = 0) (hc0 : csum (psu h d.length ++ d) = 0) {k : Nat} (hk : 8 ≤ k) (hk2 : k < 40) (c : UInt8) (hne : c ≠ (xpkt h d).getD k 0) :
    pkS ((xpkt h d).set k c) = d ∧ sgood (phH ((xpkt h d).set k c)) d = false := by
  obtain ⟨h1, h2, h3, h4, h5, h6⟩ := xpkt_read he
  obtain ⟨hb, hl⟩ := xwerr_zero he
  obtain ⟨b1, b2, b3, b4, b5, b6⟩ := xwBad_no hb
  obtain ⟨p1, p2, p3⟩ := six_set he hk c
  obtain ⟨s1, s2, s3, s4⟩ := six_segs he
  refine ⟨by rw [p3, seg_set_out c (by omega), s3], ?_⟩
  have hL : (seg (xpkt h d) 8 32).length = 32 := by rw [seg_length (by omega)]
  have hp : psu h d.length = seg (xpkt h d) 8 32 ++ (be d.length 4 ++ nbs [0, 0, 0, (h.proto.toNat : Nat)]) := by
    rw [show (32 : Nat) = 16 + 16 from rfl, seg_add, s1, show 8 + 16 = 24 from rfl, s2]
    unfold psu
    rw [if_pos b1]
    simp [Adr.bytes, b4, b5]
  have hq : psu (phH ((xpkt h d).set k c)) d.length = (psu h d.length).set (k - 8) c := by
    rw [hp, List.set_append_left _ _ (by omega), ← seg_set_in c hk, show (32 : Nat) = 16 + 16 from rfl, seg_add, p2]
    unfold psu
    dsimp only
    rw [if_pos b1, ofA_bytes6 (by rw [seg_len, List.length_set]; omega), ofA_bytes6 (by rw [seg_len, List.length_set]; omega)]
    simp
  unfold sgood
  rw [hq, ← List.set_append_left _ _ (by rw [hp, List.length_append]; omega)]
  refine decide_eq_false (csum_set (by rw [List.length_append, hp, List.length_append]; omega) hc0 ?_)
  intro hc
  apply hne
  rw [hc, hp, List.append_assoc, List.getD_eq_getElem?_getD, List.getElem?_append_left (by omega)]
  unfold seg
  rw [List.getElem?_take, if_pos (by omega), List.getElem?_drop, List.getD_eq_getElem?_getD, show 8 + (k - 8) = k by omega]
/-- A packet that was built is read. -/
theorem pk_ok {f : Fl} {flags hops : UInt8} {d : List UInt8} (h1 : f.sp < 65536) (h2 : f.dp < 65536) (hd : d.length ≤ 100) (he : pbE f flags hops d = 0) :
    28 ≤ (pbL f flags hops d).length ∧ (pbL f flags hops d).length ≤ 200 ∧ pkE (pbL f flags hops d) = 0 ∧
    ∀ k c, k < (pbL f flags hops d).length → c ≠ (pbL f flags hops d).getD k 0 → pkE ((pbL f flags hops d).set k c) = 0 → (f.src.six = true ∧ (k < 4 ∨ k = 6 ∨ k = 7)) ∨ (pkR ((pbL f flags hops d).set k c)).sg.zero = true := by
  have e1 : swE (pbH f hops) (pbS f flags) d.length = 0 := by
    apply Classical.byContradiction
    intro hh
    unfold pbE at he
    rw [if_pos hh] at he
    exact hh he
  have hfs : (pbH f hops).six = f.src.six := rfl
  obtain ⟨n, hn, hn2, hc, hE, hp⟩ := swL_read e1 h1 h2 rfl
  have sp := fun p k hk c => seg_spoilt (h := (pbH f hops).put p) (k := k) e1 h1 h2 rfl hk c
  simp only [swL_put] at sp
  unfold pbE at he
  rw [if_neg (by rw [e1]; simp)] at he
  have hL : pbL f flags hops d = if f.src.six then xwL (pbH f hops) (pbB f flags hops d) else fwL (pbH f hops) (pbB f flags hops d) := by unfold pbL; rw [if_neg (by rw [e1]; simp)]
  unfold pbB at he hL
  generalize pbH f hops = h at *
  generalize swL h (pbS f flags) d = B at *
  rw [hL]
  have sp0 := fun p => (sp p 0 (by omega) (B.getD 0 0)).2 (.inl rfl)
  simp only [set_self] at sp0
  cases hs : f.src.six with
  | false =>
    rw [hs] at he hfs
    simp only [Bool.false_eq_true, if_false] at he ⊢
    have hw : fwL h B = fpkt h B := by unfold fwL; rw [if_pos he]
    rw [hw]
    have hl := (fpkt_read he).1
    obtain ⟨p1, p2, p3⟩ := four_behind he (k := 20) (by omega) ((fpkt h B).getD 20 0)
    rw [set_self] at p1 p2 p3
    rw [getD_fpkt he 0, set_self] at p3
    refine ⟨by omega, by omega, by rw [(pk_of p1 p2 rfl p3).1]; exact sp0 20, ?_⟩
    intro k c hk hne h0
    by_cases hk2 : k < 20
    · exact .inr (four_ahead he hc hk2 c hne h0)
    · obtain ⟨q1, q2, q3⟩ := four_behind he (k := k) (by omega) c
      obtain ⟨r1, r2⟩ := pk_of q1 q2 rfl q3
      have r2 := r2 h0
      rw [r1] at h0
      rcases (sp 20 (k - 20) (by omega) c).1 h0 with t | t
      · exfalso
        apply hne
        rw [t, ← getD_fpkt he (k - 20), show 20 + (k - 20) = k by omega]
      · right; rw [r2]; exact t
  | true =>
    rw [hs] at he hfs
    simp only [if_true] at he ⊢
    have hw : xwL h B = xpkt h B := by unfold xwL; rw [if_pos he]
    rw [hw]
    obtain ⟨hl, x2, x3, x4, x5, x6⟩ := xpkt_read he
    obtain ⟨s1, s2, s3, s4⟩ := six_segs he
    obtain ⟨p1, p2, p3⟩ := six_behind he (k := 40) (by omega) ((xpkt h B).getD 40 0)
    rw [set_self] at p1 p2 p3
    rw [s4 0, set_self] at p3
    refine ⟨by omega, by omega, by rw [(pk_of p1 p2 rfl p3).1]; exact sp0 40, ?_⟩
    intro k c hk hne h0
    by_cases hk2 : k < 8
    · by_cases hk3 : k = 4 ∨ k = 5
      · exfalso
        obtain ⟨z1, z2, z3, z4⟩ := pk_zero h0
        have n0 : byteN ((xpkt h B).set k c) 0 = 96 := by rw [byteN_set_ne c (by omega), x2]
        unfold phE at z1
        rw [List.length_set, if_neg (by omega), n0, if_neg (by decide), if_pos (by rfl)] at z1
        have z0 : xerr0 ((xpkt h B).set k c) = 0 := by
          apply Classical.byContradiction
          intro hh
          unfold xerr at z1
          rw [if_neg hh] at z1
          exact hh z1
        have v1 := (xerr0_zero z0).2.2.2.1
        rw [List.length_set, hl, val_seg2 (by rw [List.length_set]; omega)] at v1
        rw [val_seg2 (by omega)] at x3
        have bc := byteN_set_self (l := xpkt h B) (k := k) c hk
        simp only [Nat.reduceAdd] at v1 x3
        have hcc : c.toNat ≠ byteN (xpkt h B) k := fun t => hne (UInt8.toNat_inj.1 t)
        have bl := byteN_lt (xpkt h B) 4
        have bl2 := byteN_lt (xpkt h B) 5
        rcases hk3 with rfl | rfl
        · rw [bc, byteN_set_ne c (by omega)] at v1
          omega
        · rw [bc, byteN_set_ne c (by omega)] at v1
          omega
      · left; exact ⟨trivial, by omega⟩
    · by_cases hk3 : k < 40
      · exfalso
        obtain ⟨t1, t2⟩ := six_ahead he hc (by omega) hk3 c hne
        obtain ⟨z1, z2, z3, z4⟩ := pk_zero h0
        rw [t1] at z3
        have z5 := sgE_zero z3
        obtain ⟨q1, q2, q3⟩ := six_set he (show 8 ≤ k by omega) c
        rw [hE _ (by rw [q2]), t2] at z5
        cases z5
      · obtain ⟨q1, q2, q3⟩ := six_behind he (k := k) (by omega) c
        obtain ⟨r1, r2⟩ := pk_of q1 q2 rfl q3
        have r2 := r2 h0
        rw [r1] at h0
        rcases (sp 40 (k - 40) (by omega) c).1 h0 with t | t
        · exfalso
          apply hne
          rw [t, ← s4 (k - 40), show 40 + (k - 40) = k by omega]
        · right; rw [r2]; exact t
end Go.Proofs.Yteofjhjhaaafjaa
