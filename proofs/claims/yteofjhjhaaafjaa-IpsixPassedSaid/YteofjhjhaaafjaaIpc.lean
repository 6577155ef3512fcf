/- Layer 14 (ipsix): a chain of heads between: plain facts. -/
import Derived.Test.YteofjhjhaaafjaaIpsixL
namespace Go.Proofs.Yteofjhjhaaafjaa
open Go.RowKit
set_option linter.unusedSimpArgs false
set_option linter.unusedVariables false
set_option maxRecDepth 20000
set_option maxHeartbeats 4000000
attribute [local irreducible] WPc WPl WPq ReadR OpT BinR HasS bx rdN rowN Take Takes Prov Triple ResF BuildP Done ag Int.decLt Int.decLe Int.instDecidableEq

/-- The heads of a chain, of which the last one tells what is carried. -/
def chain (c : UInt8) : List UInt8 → List UInt8
  | [] => []
  | z :: zs => ((if zs = [] then c else 60) :: UInt8.ofNat (z.toNat % 4) :: List.replicate (6 + 8 * (z.toNat % 4)) 0) ++ chain c zs
theorem chain_len_le (c : UInt8) : ∀ zs : List UInt8, (chain c zs).length ≤ 32 * zs.length
  | [] => by simp [chain]
  | z :: zs => by have := chain_len_le c zs; simp [chain]; omega
theorem btw_60 : btw 60 = true := by decide +kernel
theorem xall_chain (c : UInt8) (hc : btw c = false) (b dat : List UInt8) : ∀ (zs : List UInt8) (m pos : Nat), pos ≤ b.length → b.drop pos = chain c zs ++ dat →
    (zs.length ≤ m → xall b m ⟨if zs = [] then c else 60, pos, false⟩ = (0, ⟨c, pos + (chain c zs).length, false⟩)) ∧
    (m < zs.length → (xall b m ⟨if zs = [] then c else 60, pos, false⟩).1 = 10)
  | [], m, pos, hp, hd => by
    refine ⟨fun _ => ?_, fun h => by simp at h⟩
    rw [if_pos rfl, xall_no hc]
    simp [chain]
  | z :: zs, 0, pos, hp, hd => by
    refine ⟨fun h => by simp at h, fun _ => ?_⟩
    rw [if_neg (by simp), xall_end btw_60]
  | z :: zs, m + 1, pos, hp, hd => by
    have hlen : b.length - pos = (chain c (z :: zs) ++ dat).length := by rw [← hd, List.length_drop]
    have hcl : (chain c (z :: zs)).length = 8 + 8 * (z.toNat % 4) + (chain c zs).length := by simp [chain]; omega
    have hseg : seg b pos (b.length - pos) = chain c (z :: zs) ++ dat := by unfold seg; rw [hd, hlen, List.take_length]
    have h1 : byteN (seg b pos (b.length - pos)) 1 = z.toNat % 4 := by
      rw [hseg]; unfold byteN chain; simp [u8_of]; omega
    have h0 : (seg b pos (b.length - pos)).getD 0 0 = if zs = [] then c else 60 := by rw [hseg]; unfold chain; rfl
    have hsz : xsize b ⟨60, pos, false⟩ = 8 + 8 * (z.toNat % 4) := by
      unfold xsize; rw [if_neg (show ¬ (60 : UInt8).toNat = 44 by decide)]; simp only [h1]
    have hbad : xbad b ⟨60, pos, false⟩ = false := by
      unfold xbad; rw [hsz]; simp only [hseg, List.length_append, hcl, Bool.or_eq_false_iff, decide_eq_false_iff_not]; omega
    have hnx : xnext b ⟨60, pos, false⟩ = ⟨if zs = [] then c else 60, pos + (8 + 8 * (z.toNat % 4)), false⟩ := by
      unfold xnext xpart; rw [hsz, if_neg (show ¬ (60 : UInt8).toNat = 44 by decide)]; simp only [h0]
    rw [if_neg (by simp), xall_next btw_60 (fun h => absurd h.1 (show ¬ (60 : UInt8).toNat = 0 by decide)) hbad, hnx]
    have hlen2 : (chain c (z :: zs) ++ dat).length = 8 + 8 * (z.toNat % 4) + (chain c zs).length + dat.length := by rw [List.length_append, hcl]
    obtain ⟨i1, i2⟩ := xall_chain c hc b dat zs m (pos + (8 + 8 * (z.toNat % 4))) (by omega) (by
      rw [← List.drop_drop, hd]
      rw [show chain c (z :: zs) = ((if zs = [] then c else 60) :: UInt8.ofNat (z.toNat % 4) :: List.replicate (6 + 8 * (z.toNat % 4)) 0) ++ chain c zs from rfl]
      rw [List.append_assoc, List.drop_append_of_le_length (by simp; omega), List.drop_of_length_le (by simp; omega), List.nil_append])
    refine ⟨fun h => ?_, fun h => i2 (by simpa using h)⟩
    rw [i1 (by simpa using h), hcl, Nat.add_assoc]
theorem block_set (q : Nat) (a c : UInt8) : (((List.replicate (8 + 8 * q) (0 : UInt8)).set 0 a).set 1 c) = a :: c :: List.replicate (6 + 8 * q) 0 := by
  rw [show 8 + 8 * q = (6 + 8 * q) + 1 + 1 by omega, List.replicate_succ, List.replicate_succ]; rfl
theorem block_set0 (q : Nat) (a c d : UInt8) : ((((List.replicate (8 + 8 * q) (0 : UInt8)).set 0 a).set 1 c).set 0 d) = d :: c :: List.replicate (6 + 8 * q) 0 := by
  rw [block_set]; rfl
/-- What is known of a chain that is carried. -/
theorem passed_read {h : Hd} {d : List UInt8} {c : UInt8} {zs dat : List UInt8} (he : xwerr h d.length = 0) (hd : d = chain c zs ++ dat) (hc : btw c = false) (L : List UInt8) (hL : L = (xpkt h d).set 6 (if zs = [] then c else 60)) :
    (zs.length ≤ 8 → xerr L = 0 ∧ xread L = ⟨true, c, ((40 + (chain c zs).length : Nat) : Int), h.src, h.dst, false, h.hops⟩) ∧ (8 < zs.length → xerr L = 10 ∧ xread L = Hd.none) := by
  obtain ⟨h1, h2, h3, h4, h5, h6⟩ := xpkt_read he
  obtain ⟨hb, hl⟩ := xwerr_zero he
  obtain ⟨b1, b2, b3, b4, b5, b6⟩ := xwBad_no hb
  have hf := xpkt_form he
  have l1 := h.src.len
  have l2 := h.dst.len
  have hform : L = [96, 0, 0, 0, UInt8.ofNat (d.length / 256), UInt8.ofNat d.length, if zs = [] then c else 60, h.hops] ++ (h.src.b ++ (h.dst.b ++ d)) := by rw [hL, hf]; rfl
  have hlen : L.length = 40 + d.length := by rw [hL, List.length_set, h1]
  have e0 : byteN L 0 = 96 := by rw [hform]; rfl
  have e7 : byteN L 7 = h.hops.toNat := by rw [hform]; rfl
  have e4 : val (seg L 4 2) = d.length := by
    rw [val_seg2 (by omega)]
    have e1 : byteN L 4 = (UInt8.ofNat (d.length / 256)).toNat := by rw [hform]; rfl
    have e2 : byteN L (4 + 1) = (UInt8.ofNat d.length).toNat := by rw [hform]; rfl
    rw [e1, e2, u8_nat _ (by omega), u8_of]
    omega
  have key : xerr0 L = 0 := by
    unfold xerr0
    rw [hlen, e0, e4, e7]
    repeat' (first | omega | split)
  have hs : xs0 L = ⟨if zs = [] then c else 60, 40, false⟩ := by unfold xs0; rw [hform]; rfl
  have hdrop : L.drop 40 = chain c zs ++ dat := by
    rw [hform, ← List.append_assoc, ← List.append_assoc, List.drop_append_of_le_length (by simp [l1, l2]), List.drop_of_length_le (by simp [l1, l2]), List.nil_append, hd]
  have hsrc : ofA (seg L 8 16) = h.src := by
    have : seg L 8 16 = h.src.b := by
      rw [hform]; unfold seg
      rw [List.drop_append_of_le_length (by simp), List.drop_of_length_le (by simp), List.nil_append, List.take_append_of_le_length (by omega), List.take_of_length_le (by omega)]
    rw [this]
    unfold ofA
    rw [dif_pos l1]
    exact Adr.ext b4.symm rfl
  have hdst : ofA (seg L 24 16) = h.dst := by
    have : seg L 24 16 = h.dst.b := by
      rw [hform]; unfold seg
      rw [← List.append_assoc, List.drop_append_of_le_length (by simp [l1]), List.drop_of_length_le (by simp [l1]), List.nil_append, List.take_append_of_le_length (by omega), List.take_of_length_le (by omega)]
    rw [this]
    unfold ofA
    rw [dif_pos l2]
    exact Adr.ext b5.symm rfl
  obtain ⟨i1, i2⟩ := xall_chain c hc L dat zs 8 40 (by omega) hdrop
  constructor
  · intro hz
    have hx : xerr L = 0 := by unfold xerr; rw [if_pos key, hs, i1 hz]
    refine ⟨hx, ?_⟩
    unfold xread
    rw [if_pos hx, hs, i1 hz]
    unfold xhead
    rw [hsrc, hdst]
    have : L.getD 7 0 = h.hops := by rw [hform]; rfl
    rw [this]
  · intro hz
    have hx : xerr L = 10 := by unfold xerr; rw [if_pos key, hs, i2 hz]
    refine ⟨hx, ?_⟩
    unfold xread
    rw [if_neg (by rw [hx]; omega)]
end Go.Proofs.Yteofjhjhaaafjaa
