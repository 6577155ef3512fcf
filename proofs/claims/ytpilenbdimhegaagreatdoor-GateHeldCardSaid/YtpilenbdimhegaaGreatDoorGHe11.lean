/- What the row of gateHeld_card_holds needs: part 11. -/
import Derived.Test.YtpilenbdimhegaaGreatDoorGHe10
import Derived.Test.YtpilenbdimhegaaGreatDoorGHe8
import Derived.Test.YtpilenbdimhegaaGreatDoorRows
import Derived.ProofKit
import Derived.OpenShut
/- Layer 42 (gate): what becomes of any packet at a gate of no rules: contracts. -/
namespace Go.Proofs.YtpilenbdimhegaaGreatDoor
set_option linter.unusedVariables false
set_option linter.unusedSimpArgs false
/-- The two clients. -/
def pz0 (k : Bool) : Pf := (if k then ⟨true, List.replicate 16 0, by simp⟩ else Adr.zero, 0)
theorem client0_t (gG gB gT gJ : Nat) (f : Fl) : Triple Tryz.prog 34 #[hG gG, ag (flc f)] [rbx gG 96 (gtc gB gT gJ nilS 0 0)] (RVal (ag (pfxc (pz0 f.src.six)))) := by
  have h := client_t gG gB gT gJ nilS 0 0 f (by omega) (by omega) (by omega) (by omega)
  have e : (if f.src.six then (0 : Int) else 0) = 0 := by split <;> rfl
  rw [e, (mask0 f.src).1, (mask0 f.src).2] at h
  exact h
theorem mput_one {L : TL} {p : Pf} {vd : Hy} : (mput L p vd).length ≤ L.length + 1 := by
  rw [mput_len]
  split <;> omega
theorem taddG (gT mT : Nat) (all : Int) (tl : TL) (p : Pf) (hp : in64 p.2) (hl : tl.length < 200) : ∃ (all' : Int) (tl' : TL), Triple Tryz.prog 36 #[hPt gT, ag (pfxc p), .int .u64 1] [bx gT 137 (txc 200 mT all), mp hyM mT tl] (RTurns (resV []) [bx gT 137 (txc 200 mT all'), mp hyM mT tl']) ∧ tl'.length ≤ tl.length + 1 := by
  by_cases hb : mhas tl p = true
  · exact ⟨_, _, taddIs_t gT mT 200 all tl p 1 hp (by omega) _ rfl hb, mput_one⟩
  · exact ⟨_, _, taddNew_t gT mT 200 all tl p 1 hp (by omega) (by simpa using hb) (by omega), mput_one⟩
def RPassG (gG gB mB gT mT gJ mJ : Nat) (per burst : Int) (clients n now : Nat) (D : List Cl) (b : List UInt8) : Value → List Asn → Prop := fun v Γ =>
  ∃ (s : GBS) (all' : Int) (tl' : TL) (L' : List PJ) (D' : List Cl), Γ = gst gG gB mB gT mT gJ mJ 0 0 per burst (clients : Int) s all' tl' L' ∧ BkI burst clients s.1 s.2.1 s.2.2 ∧ s.1.map (·.2) = D' ∧ JOk now (n + 1) L' ∧ tl'.length ≤ n + 1 ∧
    ((∃ (what err : Int) (out : Value), what ≠ 4 ∧ what ≠ 5 ∧ out.oneCell' = true ∧ v = ag (psC what out 0 err) ∧ D' = D) ∨
     (∃ (r : Bool) (out : Value), takeD per burst clients D (pz0 (decide (byteN b 0 / 16 = 6))) 1 now = (D', r) ∧ out.oneCell' = true ∧ v = ag (psC (if r then 5 else 4) out 0 0) ∧ (byteN b 0 / 16 = 4 ∨ byteN b 0 / 16 = 6) ∧ b.length ≠ 0))
open Go.RowKit
set_option linter.unusedSimpArgs false
set_option linter.unusedVariables false
set_option maxRecDepth 20000
set_option maxHeartbeats 4000000
attribute [local irreducible] WPc WPl WPq ReadR OpT BinR HasS bx rdN rowN Take Takes Prov Triple ResF BuildP Done ag Int.decLt Int.decLe Int.instDecidableEq
attribute [local irreducible] mp gbag jes pool pickG pkE pkR ferr fhead maskA maskN mput takeD pz0
section
variable (gG gB mB gT mT gJ mJ : Nat) (per burst : Int) (clients : Nat) (hbk : BOk per burst clients) (s0 : GBS) (hI : BkI burst clients s0.1 s0.2.1 s0.2.2) (D : List Cl) (hD : s0.1.map (·.2) = D)
variable (all : Int) (tl : TL) (L : List PJ) (n now : Nat) (hn : now ≤ 18446744073709551615) (hn9 : n ≤ 190) (hL : JOk now n L) (htl : tl.length ≤ n) (v : Value) (hv : v.oneCell' = true) (b : List UInt8) (hl : b.length ≤ 100000)
include hbk hI hD hn hn9 hL htl hv hl
theorem passG_t : Triple Tryz.prog 10 #[hG gG, v, .int .u64 (now : Int)] ([rb v b] ++ gst gG gB mB gT mT gJ mJ 0 0 per burst (clients : Int) s0 all tl L)
    (RPassG gG gB mB gT mT gJ mJ per burst clients n now D b) := by
  obtain ⟨l0, M0, f0⟩ := s0
  dsimp only at hI hD
  have hn0 : Value.bool (!decide ((0 : Int) = 0)) = .bool false := by rw [decide_eq_true rfl]; rfl
  by_cases h4 : b.length ≠ 0 ∧ byteN b 0 / 16 = 4
  · have c22 := whG_t gG gB gT gJ mJ nilS 0 0 L n now hn (by omega) hL v b hl h4.1 h4.2
    refine Triple.enter Tryz.func10 rfl Tryz.ntmps10 rfl (fun W => ?_)
    dsimp only [argsF, Nat.reduceAdd]
    refine WPc.nilRowN 58 40 ?_
    repeat' (first
     | refine WPl.nil ?_ | refine WPq.then ?_ | refine WPc.seq ?_ | refine WPc.skip ?_ | refine WPc.region ?_
     | (refine isCond ?_; first | refine WPc.cT ?_ | refine WPc.cF ?_ | (refine WPc.cQ (fun hc => ?_) (fun hc => ?_) <;> try exact prA))
     | (refine isD 16 ?_; refine WPl.rdX (readP) ?_)
     | (refine isC 22 ?_; refine WPl.cO (c22) (fun v Γ1 hR => ?_) ?_; rotate_left; exact fpA; skip; (try dsimp only [putF, List.cons_append, List.nil_append]))
     | (refine isOp ?_; first | refine WPl.rd ?_ | refine WPl.sk ?_ | refine WPl.rdB ?_)
     | (refine isAl ?_; refine WPl.nw fun g => ?_)
     | fail)
    rcases hR with ⟨L', hJ', ⟨what, err, w4, w5, rfl, rfl⟩ | ⟨s, w, hs, hwl, hw0, hw4, rfl, rfl⟩⟩
    · (try dsimp only [putF, List.cons_append, List.nil_append])
      repeat' (first
       | refine WPl.nil ?_ | refine WPq.then ?_ | refine WPq.thenR ?_ | refine WPc.seq ?_ | refine WPc.ret ?_ | refine WPc.region ?_
       | (refine isCond ?_; first | refine WPc.cT ?_ | refine WPc.cF ?_ | (refine WPc.cQ (fun hc => ?_) (fun hc => ?_) <;> try exact prA))
       | (refine isOp ?_; first | refine WPl.rd ?_ | refine WPl.sk ?_ | refine WPl.rdB ?_)
       | (refine isAl ?_; refine WPl.nw fun g => ?_)
       | (refine isSt ?_; first | refine WPl.st1 ?_ | refine WPl.stA ?_ | refine WPl.stEB ?_ | refine WPl.stRB ?_)
       | fail)
      exact WPq.dX (vs := [ag (psC what nilS 0 err)]) (gst gG gB mB gT mT gJ mJ 0 0 per burst (clients : Int) (l0, M0, f0) all tl L') ⟨(l0, M0, f0), all, tl, L', D, rfl, hI, hD, hJ', by omega, .inl ⟨what, err, nilS, w4, w5, rfl, rfl, rfl⟩⟩ (ho := ownsG42)
    · (try dsimp only [putF, List.cons_append, List.nil_append])
      obtain ⟨X, hX⟩ : ∃ X, pkR w = X := ⟨_, rfl⟩
      have c31 := fun u => parse_t u w (by omega)
      simp only [pkVal] at c31
      rw [hX] at c31
      have k1 := X.hd.src.len
      have k2 := X.hd.dst.len
      have k3 := X.fl.src.len
      have k4 := X.fl.dst.len
      by_cases hpE : pkE w = 0
      · rw [hpE] at c31
        have hsx : X.fl.src.six = decide (byteN b 0 / 16 = 6) ∧ (byteN b 0 / 16 = 4 ∨ byteN b 0 / 16 = 6) ∧ b.length ≠ 0 := by
          have h := src_kind hpE
          rw [hX] at h
          exact ⟨by rw [h.2.1, hw4, h4.2], .inl h4.2, h4.1⟩
        have c45 := firstN_t X.fl
        have c57 := client0_t gG gB gT gJ X.fl
        rw [hsx.1] at c57
        obtain ⟨p, hp⟩ : ∃ p, p = pz0 (decide (byteN b 0 / 16 = 6)) := ⟨_, rfl⟩
        have hp64 : in64 p.2 := by rw [hp]; exact ⟨by unfold pz0; omega, by unfold pz0; omega⟩
        rw [← hp] at c57
        have k5 := p.1.len
        obtain ⟨D', r, ht⟩ : ∃ D' r, takeD per burst clients D p 1 now = (D', r) := ⟨_, _, rfl⟩
        have c64 := take_c per burst clients hbk gB mB hI hD p 1 (now : Int) hp64 (by omega) (by omega) ht
        have hv64 : ∀ v Γ', RBk gB mB per burst clients D' (.bool r) v Γ' → v = .bool r ∧ ∃ s : GBS, Γ' = [bx gB 134 (bkc (hdO none s.1) (lsO none s.1) per burst (clients : Int) mB), mp prM mB s.2.1, pool 150 s.2.2] ∧ (BkI burst clients s.1 s.2.1 s.2.2 ∧ s.1.map (·.2) = D') := fun v Γ' h => by
          obtain ⟨L', M', f', h1, h2, h3, h4⟩ := h
          exact ⟨h1, (L', M', f'), h2, h3, h4⟩
        obtain ⟨all', tl', c72, htl'⟩ := taddG gT mT all tl p hp64 (by omega)
        clear hX hpE
        repeat' (first
         | refine WPl.nil ?_ | refine WPq.then ?_ | refine WPc.seq ?_ | refine WPc.skip ?_ | refine WPc.region ?_
         | (refine isReg 9 ?_; refine WPc.drA [([], [43, 44]), ([0], [39, 43, 44]), ([0, 1], [39, 40, 43, 44]), ([0, 1, 2], [39, 40, 41, 43, 44]), ([], [39, 40, 41, 42]), ([4], [39, 40, 41, 42, 43]), ([0, 1, 2, 3, 4, 5], [39, 40, 41, 42, 43, 44]), ([0, 1, 2, 3, 4, 5, 6], [39, 40, 41, 42, 43, 44, 45]), ([0, 1, 2, 3, 4, 5, 6, 7], [38, 39, 40, 41, 42, 43, 44, 45, 47]), ([0, 1, 2, 3, 4, 5, 6, 7], [12, 38, 39, 40, 41, 42, 43, 44, 45, 46]), ([0, 1, 2, 3, 4, 5, 6, 7, 8], [38, 39, 40, 41, 42, 43, 44, 45, 46, 47]), ([0, 1, 2, 3, 4, 5, 6, 7, 8, 9, 10], [12, 38, 39, 40, 41, 42, 43, 44, 45, 46, 47])] [] (Γx := []) ?_; dsimp only [prev0, List.length_nil, List.length_cons])
         | (refine gAny ?_; first | (refine gC 45 ?_; refine RGl.vl (fun e hk => OpT.callN (c45)) ?_) | (refine gOp ?_; first | refine RGl.rdA ?_ | refine RGl.rdX (fun e hk => by (try dsimp only [bndR, ensR, oksR, fcutR, List.append_nil, List.nil_append, List.cons_append, List.append_assoc] at hk ⊢); exact readB) ?_) | (refine RGl.fin (fun e hk => ?_); (try dsimp only [bndA, ensAR, oksA, List.append_nil, List.nil_append, List.cons_append, List.append_assoc] at hk ⊢); (repeat (obtain ⟨hk1, hk⟩ := hk))) | fail)
         | (refine isCond ?_; first | refine WPc.cT ?_ | refine WPc.cF ?_ | (refine WPc.cQ (fun hc => ?_) (fun hc => ?_) <;> try exact prA))
         | (refine isC 31 ?_; refine WPl.cV ((c31 _)) ?_)
         | (show WPl _ _ _ _ _ _ _ (⟨_, .store 51 (.tmp 10) _, _, _, _, _⟩ :: _) _; refine WPl.stA (new := pkc X) ?_ (ht := by kernel_rfl))
         | (refine isD 35 ?_; refine WPl.rdX (ReadR.binE rfl rfl BinR.neq hn0) ?_)
         | (refine isC 57 ?_; refine WPl.cV (c57) ?_ (hΔ := provsX))
         | (refine isOp ?_; first | refine WPl.rd ?_ | refine WPl.sk ?_ | refine WPl.rdB ?_)
         | (refine isAl ?_; refine WPl.nw fun g => ?_)
         | (refine isSt ?_; first | refine WPl.st1 ?_ | refine WPl.stA ?_ | refine WPl.stEB ?_ | refine WPl.stRB ?_)
         | fail)
        cases r with
        | false =>
          repeat' (first
           | refine WPl.nil ?_ | refine WPq.then ?_ | refine WPq.thenR ?_ | refine WPc.seq ?_ | refine WPc.ret ?_ | refine WPc.region ?_
           | (refine isReg 13 ?_; refine WPc.drA [([8, 9, 10], [62, 63]), ([0, 8, 9, 10], [58, 62, 63]), ([0, 1, 8, 9, 10], [58, 59, 62, 63]), ([0, 1, 2, 8, 9, 10], [58, 59, 60, 62, 63]), ([8, 9, 10], [58, 59, 60, 61, 63]), ([8, 9, 10], [58, 59, 60, 61, 62]), ([0, 1, 2, 3, 4, 5, 8, 9, 10], [58, 59, 60, 61, 62, 63]), ([0, 1, 2, 3, 4, 5, 6, 8, 9, 10], [58, 59, 60, 61, 62, 63, 64])] [(8, 6), (9, 6), (10, 6), (8, 0), (8, 1), (8, 2), (8, 3), (8, 4), (8, 5), (9, 0), (9, 1), (9, 2), (9, 3), (9, 4), (9, 5), (10, 0), (10, 1), (10, 2), (10, 3), (10, 4), (10, 5)] (Γx := [bx gB 134 (bkc (hdO none l0) (lsO none l0) per burst (clients : Int) mB), mp prM mB M0, pool 150 f0]) (hox := ownsP) ?_; dsimp only [prev0, List.length_nil, List.length_cons])
           | (refine gAny ?_; first | (refine gC 64 ?_; refine RGl.relG (.bool false) (fun s : GBS => [bx gB 134 (bkc (hdO none s.1) (lsO none s.1) per burst (clients : Int) mB), mp prM mB s.2.1, pool 150 s.2.2]) (fun s => BkI burst clients s.1 s.2.1 s.2.2 ∧ s.1.map (·.2) = D') (hv64) (fun e hk => by (try dsimp only [bndR, ensR, oksR, fcutR, List.append_nil, List.nil_append, List.cons_append, List.append_assoc] at hk ⊢); exact OpT.callTs (c64)) ?_) | (refine gOp ?_; first | refine RGl.rdA ?_ | refine RGl.rdX (fun e hk => by (try dsimp only [bndR, ensR, oksR, fcutR, List.append_nil, List.nil_append, List.cons_append, List.append_assoc] at hk ⊢); exact readB) ?_) | (refine RGl.fin (fun e hk => ?_); (try dsimp only [bndA, ensAR, oksA, List.append_nil, List.nil_append, List.cons_append, List.append_assoc] at hk ⊢); (repeat (obtain ⟨hk1, hk⟩ := hk))) | fail)
           | (refine isCond ?_; first | refine WPc.cT ?_ | refine WPc.cF ?_ | (refine WPc.cQ (fun hc => ?_) (fun hc => ?_) <;> try exact prA))
           | (refine isOp ?_; first | refine WPl.rd ?_ | refine WPl.sk ?_ | refine WPl.rdB ?_)
           | (refine isSt ?_; first | refine WPl.st1 ?_ | refine WPl.stA ?_ | refine WPl.stEB ?_ | refine WPl.stRB ?_)
           | fail)
          (try dsimp only [Nat.reduceAdd])
          have hA : (fun s : GBS => BkI burst clients s.1 s.2.1 s.2.2 ∧ s.1.map (·.2) = D') (pickG (fun s : GBS => [bx gB 134 (bkc (hdO none s.1) (lsO none s.1) per burst (clients : Int) mB), mp prM mB s.2.1, pool 150 s.2.2]) (fun s : GBS => BkI burst clients s.1 s.2.1 s.2.2 ∧ s.1.map (·.2) = D') (e 6).2) := by assumption
          generalize pickG (fun s : GBS => [bx gB 134 (bkc (hdO none s.1) (lsO none s.1) per burst (clients : Int) mB), mp prM mB s.2.1, pool 150 s.2.2]) (fun s : GBS => BkI burst clients s.1 s.2.1 s.2.2 ∧ s.1.map (·.2) = D') (e 6).2 = T at *
          exact WPq.dX (vs := [ag (psC 4 nilS 0 0)]) (gst gG gB mB gT mT gJ mJ 0 0 per burst (clients : Int) T all tl L') ⟨T, all, tl, L', D', rfl, hA.1, hA.2, hJ', by omega, .inr ⟨false, nilS, by rw [← hp]; exact ht, rfl, rfl, hsx.2.1, hsx.2.2⟩⟩ (ho := ownsG42)
        | true =>
          repeat' (first
           | refine WPq.then ?_ | refine WPc.seq ?_ | refine WPc.skip ?_
           | (refine isReg 13 ?_; refine WPc.drA [([8, 9, 10], [62, 63]), ([0, 8, 9, 10], [58, 62, 63]), ([0, 1, 8, 9, 10], [58, 59, 62, 63]), ([0, 1, 2, 8, 9, 10], [58, 59, 60, 62, 63]), ([8, 9, 10], [58, 59, 60, 61, 63]), ([8, 9, 10], [58, 59, 60, 61, 62]), ([0, 1, 2, 3, 4, 5, 8, 9, 10], [58, 59, 60, 61, 62, 63]), ([0, 1, 2, 3, 4, 5, 6, 8, 9, 10], [58, 59, 60, 61, 62, 63, 64])] [(8, 6), (9, 6), (10, 6), (8, 0), (8, 1), (8, 2), (8, 3), (8, 4), (8, 5), (9, 0), (9, 1), (9, 2), (9, 3), (9, 4), (9, 5), (10, 0), (10, 1), (10, 2), (10, 3), (10, 4), (10, 5)] (Γx := [bx gB 134 (bkc (hdO none l0) (lsO none l0) per burst (clients : Int) mB), mp prM mB M0, pool 150 f0]) (hox := ownsP) ?_; dsimp only [prev0, List.length_nil, List.length_cons])
           | (refine gAny ?_; first | (refine gC 64 ?_; refine RGl.relG (.bool true) (fun s : GBS => [bx gB 134 (bkc (hdO none s.1) (lsO none s.1) per burst (clients : Int) mB), mp prM mB s.2.1, pool 150 s.2.2]) (fun s => BkI burst clients s.1 s.2.1 s.2.2 ∧ s.1.map (·.2) = D') (hv64) (fun e hk => by (try dsimp only [bndR, ensR, oksR, fcutR, List.append_nil, List.nil_append, List.cons_append, List.append_assoc] at hk ⊢); exact OpT.callTs (c64)) ?_) | (refine gOp ?_; first | refine RGl.rdA ?_ | refine RGl.rdX (fun e hk => by (try dsimp only [bndR, ensR, oksR, fcutR, List.append_nil, List.nil_append, List.cons_append, List.append_assoc] at hk ⊢); exact readB) ?_) | (refine RGl.fin (fun e hk => ?_); (try dsimp only [bndA, ensAR, oksA, List.append_nil, List.nil_append, List.cons_append, List.append_assoc] at hk ⊢); (repeat (obtain ⟨hk1, hk⟩ := hk))) | fail)
           | (refine isCond ?_; first | refine WPc.cT ?_ | refine WPc.cF ?_ | (refine WPc.cQ (fun hc => ?_) (fun hc => ?_) <;> try exact prA))
           | fail)
          (try dsimp only [Nat.reduceAdd])
          have hA : (fun s : GBS => BkI burst clients s.1 s.2.1 s.2.2 ∧ s.1.map (·.2) = D') (pickG (fun s : GBS => [bx gB 134 (bkc (hdO none s.1) (lsO none s.1) per burst (clients : Int) mB), mp prM mB s.2.1, pool 150 s.2.2]) (fun s : GBS => BkI burst clients s.1 s.2.1 s.2.2 ∧ s.1.map (·.2) = D') (e 6).2) := by assumption
          generalize pickG (fun s : GBS => [bx gB 134 (bkc (hdO none s.1) (lsO none s.1) per burst (clients : Int) mB), mp prM mB s.2.1, pool 150 s.2.2]) (fun s : GBS => BkI burst clients s.1 s.2.1 s.2.2 ∧ s.1.map (·.2) = D') (e 6).2 = T at *
          have c74 := clone_t s w (by omega)
          repeat' (first
           | refine WPl.nil ?_ | refine WPq.then ?_ | refine WPc.seq ?_ | refine WPc.ret ?_ | refine WPc.region ?_
           | (refine isReg 15 ?_; refine WPc.drA [([6, 7], [71]), ([0, 6, 7], [67, 71]), ([0, 1, 6, 7], [67, 68, 71]), ([0, 1, 2, 6, 7], [67, 68, 69, 71]), ([6, 7], [67, 68, 69, 70]), ([0, 1, 2, 3, 4, 6, 7], [67, 68, 69, 70, 71])] [(6, 5), (7, 5), (6, 0), (6, 1), (6, 2), (6, 3), (6, 4), (7, 0), (7, 1), (7, 2), (7, 3), (7, 4)] (Γx := [bx gT 137 (txc 200 mT all), mp hyM mT tl]) (hox := ownsA) ?_; dsimp only [prev0, List.length_nil, List.length_cons])
           | (refine gAny ?_; first | (refine gC 72 ?_; refine RGl.turns (fun e hk => by (try dsimp only [bndR, ensR, oksR, fcutR, List.append_nil, List.nil_append, List.cons_append, List.append_assoc] at hk ⊢); exact OpT.callTs (c72)) ?_) | (refine gOp ?_; first | refine RGl.rdA ?_ | refine RGl.rdX (fun e hk => by (try dsimp only [bndR, ensR, oksR, fcutR, List.append_nil, List.nil_append, List.cons_append, List.append_assoc] at hk ⊢); exact readB) ?_) | (refine RGl.fin (fun e hk => ?_); (try dsimp only [bndA, ensAR, oksA, List.append_nil, List.nil_append, List.cons_append, List.append_assoc] at hk ⊢); (repeat (obtain ⟨hk1, hk⟩ := hk))) | fail)
           | (refine isC 74 ?_; refine WPl.cR (c74) fun v74 hv74 => ?_)
           | (refine isOp ?_; first | refine WPl.rd ?_ | refine WPl.sk ?_ | refine WPl.rdB ?_)
           | (refine isSt ?_; first | refine WPl.st1 ?_ | refine WPl.stA ?_ | refine WPl.stEB ?_ | refine WPl.stRB ?_)
           | fail)
          exact WPq.dX (vs := [ag (psC 5 v74 0 0)]) (gst gG gB mB gT mT gJ mJ 0 0 per burst (clients : Int) T all' tl' L') ⟨T, all', tl', L', D', rfl, hA.1, hA.2, hJ', by omega, .inr ⟨true, v74, by rw [← hp]; exact ht, hv74, rfl, hsx.2.1, hsx.2.2⟩⟩ (ho := ownsG42)
      · obtain ⟨e, he⟩ : ∃ e, e = pkE w := ⟨_, rfl⟩
        rw [← he] at c31 hpE
        repeat' (first
         | refine WPl.nil ?_ | refine WPq.then ?_ | refine WPq.thenR ?_ | refine WPc.seq ?_ | refine WPc.ret ?_ | refine WPc.skip ?_ | refine WPc.region ?_
         | (refine isCond ?_; first | refine WPc.cT ?_ | refine WPc.cF ?_ | (refine WPc.cQ (fun hc => ?_) (fun hc => ?_) <;> try exact prA))
         | (refine isC 31 ?_; refine WPl.cV ((c31 _)) ?_)
         | (show WPl _ _ _ _ _ _ _ (⟨_, .store 51 (.tmp 10) _, _, _, _, _⟩ :: _) _; refine WPl.stA (new := pkc X) ?_ (ht := by kernel_rfl))
         | (refine isD 35 ?_; refine WPl.rdX (ReadR.binE rfl rfl BinR.neq (congrArg (fun q => Value.bool (!q)) (decide_eq_false hpE))) ?_)
         | (refine isOp ?_; first | refine WPl.rd ?_ | refine WPl.sk ?_ | refine WPl.rdB ?_)
         | (refine isAl ?_; refine WPl.nw fun g => ?_)
         | (refine isSt ?_; first | refine WPl.st1 ?_ | refine WPl.stA ?_ | refine WPl.stEB ?_ | refine WPl.stRB ?_)
         | fail)
        exact WPq.dX (vs := [ag (psC 2 nilS 0 e)]) (gst gG gB mB gT mT gJ mJ 0 0 per burst (clients : Int) (l0, M0, f0) all tl L') ⟨(l0, M0, f0), all, tl, L', D, rfl, hI, hD, hJ', by omega, .inl ⟨2, e, nilS, by omega, by omega, rfl, rfl, rfl⟩⟩ (ho := ownsG42)
  · have c22 := wh0_t gG v (.int .u64 (now : Int)) b (by
      by_cases h0 : b.length = 0
      · exact .inl h0
      · exact .inr fun h => h4 ⟨h0, h⟩) hv
    have hJ' := hL.mono (Nat.le_refl now) (Nat.le_succ n)
    refine Triple.enter Tryz.func10 rfl Tryz.ntmps10 rfl (fun W => ?_)
    dsimp only [argsF, Nat.reduceAdd]
    refine WPc.nilRowN 58 40 ?_
    repeat' (first
     | refine WPl.nil ?_ | refine WPq.then ?_ | refine WPc.seq ?_ | refine WPc.skip ?_ | refine WPc.region ?_
     | (refine isCond ?_; first | refine WPc.cT ?_ | refine WPc.cF ?_ | (refine WPc.cQ (fun hc => ?_) (fun hc => ?_) <;> try exact prA))
     | (refine isD 16 ?_; refine WPl.rdX (readP) ?_)
     | (refine isC 22 ?_; refine WPl.cV (c22) ?_)
     | (refine isOp ?_; first | refine WPl.rd ?_ | refine WPl.sk ?_ | refine WPl.rdB ?_)
     | (refine isAl ?_; refine WPl.nw fun g => ?_)
     | (refine isSt ?_; first | refine WPl.st1 ?_ | refine WPl.stA ?_ | refine WPl.stEB ?_ | refine WPl.stRB ?_)
     | fail)
    obtain ⟨X, hX⟩ : ∃ X, pkR b = X := ⟨_, rfl⟩
    have c31 := fun u => parse_t u b (by omega)
    simp only [pkVal] at c31
    rw [hX] at c31
    have k1 := X.hd.src.len
    have k2 := X.hd.dst.len
    have k3 := X.fl.src.len
    have k4 := X.fl.dst.len
    by_cases hpE : pkE b = 0
    · rw [hpE] at c31
      have hsx : X.fl.src.six = decide (byteN b 0 / 16 = 6) ∧ (byteN b 0 / 16 = 4 ∨ byteN b 0 / 16 = 6) ∧ b.length ≠ 0 := by
        have h := src_kind hpE
        rw [hX] at h
        exact ⟨h.2.1, h.2.2, h.1⟩
      have c45 := firstN_t X.fl
      have c57 := client0_t gG gB gT gJ X.fl
      rw [hsx.1] at c57
      obtain ⟨p, hp⟩ : ∃ p, p = pz0 (decide (byteN b 0 / 16 = 6)) := ⟨_, rfl⟩
      have hp64 : in64 p.2 := by rw [hp]; exact ⟨by unfold pz0; omega, by unfold pz0; omega⟩
      rw [← hp] at c57
      have k5 := p.1.len
      obtain ⟨D', r, ht⟩ : ∃ D' r, takeD per burst clients D p 1 now = (D', r) := ⟨_, _, rfl⟩
      have c64 := take_c per burst clients hbk gB mB hI hD p 1 (now : Int) hp64 (by omega) (by omega) ht
      have hv64 : ∀ v Γ', RBk gB mB per burst clients D' (.bool r) v Γ' → v = .bool r ∧ ∃ s : GBS, Γ' = [bx gB 134 (bkc (hdO none s.1) (lsO none s.1) per burst (clients : Int) mB), mp prM mB s.2.1, pool 150 s.2.2] ∧ (BkI burst clients s.1 s.2.1 s.2.2 ∧ s.1.map (·.2) = D') := fun v Γ' h => by
        obtain ⟨L', M', f', h1, h2, h3, h4⟩ := h
        exact ⟨h1, (L', M', f'), h2, h3, h4⟩
      obtain ⟨all', tl', c72, htl'⟩ := taddG gT mT all tl p hp64 (by omega)
      clear hX hpE
      repeat' (first
       | refine WPl.nil ?_ | refine WPq.then ?_ | refine WPc.seq ?_ | refine WPc.skip ?_ | refine WPc.region ?_
       | (refine isReg 9 ?_; refine WPc.drA [([], [43, 44]), ([0], [39, 43, 44]), ([0, 1], [39, 40, 43, 44]), ([0, 1, 2], [39, 40, 41, 43, 44]), ([], [39, 40, 41, 42]), ([4], [39, 40, 41, 42, 43]), ([0, 1, 2, 3, 4, 5], [39, 40, 41, 42, 43, 44]), ([0, 1, 2, 3, 4, 5, 6], [39, 40, 41, 42, 43, 44, 45]), ([0, 1, 2, 3, 4, 5, 6, 7], [38, 39, 40, 41, 42, 43, 44, 45, 47]), ([0, 1, 2, 3, 4, 5, 6, 7], [12, 38, 39, 40, 41, 42, 43, 44, 45, 46]), ([0, 1, 2, 3, 4, 5, 6, 7, 8], [38, 39, 40, 41, 42, 43, 44, 45, 46, 47]), ([0, 1, 2, 3, 4, 5, 6, 7, 8, 9, 10], [12, 38, 39, 40, 41, 42, 43, 44, 45, 46, 47])] [] (Γx := []) ?_; dsimp only [prev0, List.length_nil, List.length_cons])
       | (refine gAny ?_; first | (refine gC 45 ?_; refine RGl.vl (fun e hk => OpT.callN (c45)) ?_) | (refine gOp ?_; first | refine RGl.rdA ?_ | refine RGl.rdX (fun e hk => by (try dsimp only [bndR, ensR, oksR, fcutR, List.append_nil, List.nil_append, List.cons_append, List.append_assoc] at hk ⊢); exact readB) ?_) | (refine RGl.fin (fun e hk => ?_); (try dsimp only [bndA, ensAR, oksA, List.append_nil, List.nil_append, List.cons_append, List.append_assoc] at hk ⊢); (repeat (obtain ⟨hk1, hk⟩ := hk))) | fail)
       | (refine isCond ?_; first | refine WPc.cT ?_ | refine WPc.cF ?_ | (refine WPc.cQ (fun hc => ?_) (fun hc => ?_) <;> try exact prA))
       | (refine isC 31 ?_; refine WPl.cV ((c31 _)) ?_)
       | (show WPl _ _ _ _ _ _ _ (⟨_, .store 51 (.tmp 10) _, _, _, _, _⟩ :: _) _; refine WPl.stA (new := pkc X) ?_ (ht := by kernel_rfl))
       | (refine isD 35 ?_; refine WPl.rdX (ReadR.binE rfl rfl BinR.neq hn0) ?_)
       | (refine isC 57 ?_; refine WPl.cV (c57) ?_ (hΔ := provsX))
       | (refine isOp ?_; first | refine WPl.rd ?_ | refine WPl.sk ?_ | refine WPl.rdB ?_)
       | (refine isAl ?_; refine WPl.nw fun g => ?_)
       | (refine isSt ?_; first | refine WPl.st1 ?_ | refine WPl.stA ?_ | refine WPl.stEB ?_ | refine WPl.stRB ?_)
       | fail)
      cases r with
      | false =>
        repeat' (first
         | refine WPl.nil ?_ | refine WPq.then ?_ | refine WPq.thenR ?_ | refine WPc.seq ?_ | refine WPc.ret ?_ | refine WPc.region ?_
         | (refine isReg 13 ?_; refine WPc.drA [([8, 9, 10], [62, 63]), ([0, 8, 9, 10], [58, 62, 63]), ([0, 1, 8, 9, 10], [58, 59, 62, 63]), ([0, 1, 2, 8, 9, 10], [58, 59, 60, 62, 63]), ([8, 9, 10], [58, 59, 60, 61, 63]), ([8, 9, 10], [58, 59, 60, 61, 62]), ([0, 1, 2, 3, 4, 5, 8, 9, 10], [58, 59, 60, 61, 62, 63]), ([0, 1, 2, 3, 4, 5, 6, 8, 9, 10], [58, 59, 60, 61, 62, 63, 64])] [(8, 6), (9, 6), (10, 6), (8, 0), (8, 1), (8, 2), (8, 3), (8, 4), (8, 5), (9, 0), (9, 1), (9, 2), (9, 3), (9, 4), (9, 5), (10, 0), (10, 1), (10, 2), (10, 3), (10, 4), (10, 5)] (Γx := [bx gB 134 (bkc (hdO none l0) (lsO none l0) per burst (clients : Int) mB), mp prM mB M0, pool 150 f0]) (hox := ownsP) ?_; dsimp only [prev0, List.length_nil, List.length_cons])
         | (refine gAny ?_; first | (refine gC 64 ?_; refine RGl.relG (.bool false) (fun s : GBS => [bx gB 134 (bkc (hdO none s.1) (lsO none s.1) per burst (clients : Int) mB), mp prM mB s.2.1, pool 150 s.2.2]) (fun s => BkI burst clients s.1 s.2.1 s.2.2 ∧ s.1.map (·.2) = D') (hv64) (fun e hk => by (try dsimp only [bndR, ensR, oksR, fcutR, List.append_nil, List.nil_append, List.cons_append, List.append_assoc] at hk ⊢); exact OpT.callTs (c64)) ?_) | (refine gOp ?_; first | refine RGl.rdA ?_ | refine RGl.rdX (fun e hk => by (try dsimp only [bndR, ensR, oksR, fcutR, List.append_nil, List.nil_append, List.cons_append, List.append_assoc] at hk ⊢); exact readB) ?_) | (refine RGl.fin (fun e hk => ?_); (try dsimp only [bndA, ensAR, oksA, List.append_nil, List.nil_append, List.cons_append, List.append_assoc] at hk ⊢); (repeat (obtain ⟨hk1, hk⟩ := hk))) | fail)
         | (refine isCond ?_; first | refine WPc.cT ?_ | refine WPc.cF ?_ | (refine WPc.cQ (fun hc => ?_) (fun hc => ?_) <;> try exact prA))
         | (refine isOp ?_; first | refine WPl.rd ?_ | refine WPl.sk ?_ | refine WPl.rdB ?_)
         | (refine isSt ?_; first | refine WPl.st1 ?_ | refine WPl.stA ?_ | refine WPl.stEB ?_ | refine WPl.stRB ?_)
         | fail)
        (try dsimp only [Nat.reduceAdd])
        have hA : (fun s : GBS => BkI burst clients s.1 s.2.1 s.2.2 ∧ s.1.map (·.2) = D') (pickG (fun s : GBS => [bx gB 134 (bkc (hdO none s.1) (lsO none s.1) per burst (clients : Int) mB), mp prM mB s.2.1, pool 150 s.2.2]) (fun s : GBS => BkI burst clients s.1 s.2.1 s.2.2 ∧ s.1.map (·.2) = D') (e 6).2) := by assumption
        generalize pickG (fun s : GBS => [bx gB 134 (bkc (hdO none s.1) (lsO none s.1) per burst (clients : Int) mB), mp prM mB s.2.1, pool 150 s.2.2]) (fun s : GBS => BkI burst clients s.1 s.2.1 s.2.2 ∧ s.1.map (·.2) = D') (e 6).2 = T at *
        exact WPq.dX (vs := [ag (psC 4 nilS 0 0)]) (gst gG gB mB gT mT gJ mJ 0 0 per burst (clients : Int) T all tl L) ⟨T, all, tl, L, D', rfl, hA.1, hA.2, hJ', by omega, .inr ⟨false, nilS, by rw [← hp]; exact ht, rfl, rfl, hsx.2.1, hsx.2.2⟩⟩ (ho := ownsG42)
      | true =>
        repeat' (first
         | refine WPq.then ?_ | refine WPc.seq ?_ | refine WPc.skip ?_
         | (refine isReg 13 ?_; refine WPc.drA [([8, 9, 10], [62, 63]), ([0, 8, 9, 10], [58, 62, 63]), ([0, 1, 8, 9, 10], [58, 59, 62, 63]), ([0, 1, 2, 8, 9, 10], [58, 59, 60, 62, 63]), ([8, 9, 10], [58, 59, 60, 61, 63]), ([8, 9, 10], [58, 59, 60, 61, 62]), ([0, 1, 2, 3, 4, 5, 8, 9, 10], [58, 59, 60, 61, 62, 63]), ([0, 1, 2, 3, 4, 5, 6, 8, 9, 10], [58, 59, 60, 61, 62, 63, 64])] [(8, 6), (9, 6), (10, 6), (8, 0), (8, 1), (8, 2), (8, 3), (8, 4), (8, 5), (9, 0), (9, 1), (9, 2), (9, 3), (9, 4), (9, 5), (10, 0), (10, 1), (10, 2), (10, 3), (10, 4), (10, 5)] (Γx := [bx gB 134 (bkc (hdO none l0) (lsO none l0) per burst (clients : Int) mB), mp prM mB M0, pool 150 f0]) (hox := ownsP) ?_; dsimp only [prev0, List.length_nil, List.length_cons])
         | (refine gAny ?_; first | (refine gC 64 ?_; refine RGl.relG (.bool true) (fun s : GBS => [bx gB 134 (bkc (hdO none s.1) (lsO none s.1) per burst (clients : Int) mB), mp prM mB s.2.1, pool 150 s.2.2]) (fun s => BkI burst clients s.1 s.2.1 s.2.2 ∧ s.1.map (·.2) = D') (hv64) (fun e hk => by (try dsimp only [bndR, ensR, oksR, fcutR, List.append_nil, List.nil_append, List.cons_append, List.append_assoc] at hk ⊢); exact OpT.callTs (c64)) ?_) | (refine gOp ?_; first | refine RGl.rdA ?_ | refine RGl.rdX (fun e hk => by (try dsimp only [bndR, ensR, oksR, fcutR, List.append_nil, List.nil_append, List.cons_append, List.append_assoc] at hk ⊢); exact readB) ?_) | (refine RGl.fin (fun e hk => ?_); (try dsimp only [bndA, ensAR, oksA, List.append_nil, List.nil_append, List.cons_append, List.append_assoc] at hk ⊢); (repeat (obtain ⟨hk1, hk⟩ := hk))) | fail)
         | (refine isCond ?_; first | refine WPc.cT ?_ | refine WPc.cF ?_ | (refine WPc.cQ (fun hc => ?_) (fun hc => ?_) <;> try exact prA))
         | fail)
        (try dsimp only [Nat.reduceAdd])
        have hA : (fun s : GBS => BkI burst clients s.1 s.2.1 s.2.2 ∧ s.1.map (·.2) = D') (pickG (fun s : GBS => [bx gB 134 (bkc (hdO none s.1) (lsO none s.1) per burst (clients : Int) mB), mp prM mB s.2.1, pool 150 s.2.2]) (fun s : GBS => BkI burst clients s.1 s.2.1 s.2.2 ∧ s.1.map (·.2) = D') (e 6).2) := by assumption
        generalize pickG (fun s : GBS => [bx gB 134 (bkc (hdO none s.1) (lsO none s.1) per burst (clients : Int) mB), mp prM mB s.2.1, pool 150 s.2.2]) (fun s : GBS => BkI burst clients s.1 s.2.1 s.2.2 ∧ s.1.map (·.2) = D') (e 6).2 = T at *
        have c74 := clone_t v b (by omega)
        repeat' (first
         | refine WPl.nil ?_ | refine WPq.then ?_ | refine WPc.seq ?_ | refine WPc.ret ?_ | refine WPc.region ?_
         | (refine isReg 15 ?_; refine WPc.drA [([6, 7], [71]), ([0, 6, 7], [67, 71]), ([0, 1, 6, 7], [67, 68, 71]), ([0, 1, 2, 6, 7], [67, 68, 69, 71]), ([6, 7], [67, 68, 69, 70]), ([0, 1, 2, 3, 4, 6, 7], [67, 68, 69, 70, 71])] [(6, 5), (7, 5), (6, 0), (6, 1), (6, 2), (6, 3), (6, 4), (7, 0), (7, 1), (7, 2), (7, 3), (7, 4)] (Γx := [bx gT 137 (txc 200 mT all), mp hyM mT tl]) (hox := ownsA) ?_; dsimp only [prev0, List.length_nil, List.length_cons])
         | (refine gAny ?_; first | (refine gC 72 ?_; refine RGl.turns (fun e hk => by (try dsimp only [bndR, ensR, oksR, fcutR, List.append_nil, List.nil_append, List.cons_append, List.append_assoc] at hk ⊢); exact OpT.callTs (c72)) ?_) | (refine gOp ?_; first | refine RGl.rdA ?_ | refine RGl.rdX (fun e hk => by (try dsimp only [bndR, ensR, oksR, fcutR, List.append_nil, List.nil_append, List.cons_append, List.append_assoc] at hk ⊢); exact readB) ?_) | (refine RGl.fin (fun e hk => ?_); (try dsimp only [bndA, ensAR, oksA, List.append_nil, List.nil_append, List.cons_append, List.append_assoc] at hk ⊢); (repeat (obtain ⟨hk1, hk⟩ := hk))) | fail)
         | (refine isC 74 ?_; refine WPl.cR (c74) fun v74 hv74 => ?_)
         | (refine isOp ?_; first | refine WPl.rd ?_ | refine WPl.sk ?_ | refine WPl.rdB ?_)
         | (refine isSt ?_; first | refine WPl.st1 ?_ | refine WPl.stA ?_ | refine WPl.stEB ?_ | refine WPl.stRB ?_)
         | fail)
        exact WPq.dX (vs := [ag (psC 5 v74 0 0)]) (gst gG gB mB gT mT gJ mJ 0 0 per burst (clients : Int) T all' tl' L) ⟨T, all', tl', L, D', rfl, hA.1, hA.2, hJ', by omega, .inr ⟨true, v74, by rw [← hp]; exact ht, hv74, rfl, hsx.2.1, hsx.2.2⟩⟩ (ho := ownsG42)
    · obtain ⟨e, he⟩ : ∃ e, e = pkE b := ⟨_, rfl⟩
      rw [← he] at c31 hpE
      repeat' (first
       | refine WPl.nil ?_ | refine WPq.then ?_ | refine WPq.thenR ?_ | refine WPc.seq ?_ | refine WPc.ret ?_ | refine WPc.region ?_
       | (refine isCond ?_; first | refine WPc.cT ?_ | refine WPc.cF ?_ | (refine WPc.cQ (fun hc => ?_) (fun hc => ?_) <;> try exact prA))
       | (refine isC 31 ?_; refine WPl.cV ((c31 _)) ?_)
       | (show WPl _ _ _ _ _ _ _ (⟨_, .store 51 (.tmp 10) _, _, _, _, _⟩ :: _) _; refine WPl.stA (new := pkc X) ?_ (ht := by kernel_rfl))
       | (refine isD 35 ?_; refine WPl.rdX (ReadR.binE rfl rfl BinR.neq (congrArg (fun q => Value.bool (!q)) (decide_eq_false hpE))) ?_)
       | (refine isOp ?_; first | refine WPl.rd ?_ | refine WPl.sk ?_ | refine WPl.rdB ?_)
       | (refine isAl ?_; refine WPl.nw fun g => ?_)
       | (refine isSt ?_; first | refine WPl.st1 ?_ | refine WPl.stA ?_ | refine WPl.stEB ?_ | refine WPl.stRB ?_)
       | fail)
      exact WPq.dX (vs := [ag (psC 2 nilS 0 e)]) (gst gG gB mB gT mT gJ mJ 0 0 per burst (clients : Int) (l0, M0, f0) all tl L) ⟨(l0, M0, f0), all, tl, L, D, rfl, hI, hD, hJ', by omega, .inl ⟨2, e, nilS, by omega, by omega, rfl, rfl, rfl⟩⟩ (ho := ownsG42)
end
end Go.Proofs.YtpilenbdimhegaaGreatDoor
/- Layer 42 (gate): what two clients take: the plain law. -/
namespace Go.Proofs.YtpilenbdimhegaaGreatDoor
open Go.RowKit
set_option linter.unusedSimpArgs false
set_option linter.unusedVariables false
section
variable {P B : Int} {C : Nat} {D : List Cl} {now now' : Int} {p q : Pf} {went first : Int} {began : Bool}
/-- What is known of one client. -/
def clI (P B : Int) (D : List Cl) (now : Int) (p : Pf) (went first : Int) (began : Bool) : Prop :=
  0 ≤ went ∧ ((began = false ∧ went = 0 ∧ ∀ c ∈ D, c.p ≠ p) ∨ (began = true ∧ ∃ c ∈ D, c.p = p ∧ c.at' ≤ now ∧ 0 ≤ first ∧ first ≤ c.at' ∧ 0 ≤ c.tok ∧ c.tok ≤ B ∧ went + c.tok ≤ B + (c.at' - first) * P))
theorem kept_new (h : ∀ c ∈ D, c.p ≠ p) (hl : D.length < C) : keptD B C D p now = (⟨p, B, now⟩, D) := by
  have : D.find? (fun c => decide (c.p = p)) = none := List.find?_eq_none.2 fun c hc => by simpa using h c hc
  unfold keptD
  rw [this]
  simp only
  rw [if_neg (by omega)]
theorem kept_old {c : Cl} (hk : D.Pairwise fun a b => a.p ≠ b.p) (hc : c ∈ D) (hp : c.p = p) : keptD B C D p now = (c, D.eraseP (fun c => decide (c.p = p))) := by
  have key : ∀ D : List Cl, D.Pairwise (fun a b => a.p ≠ b.p) → c ∈ D → D.find? (fun c => decide (c.p = p)) = some c := by
    intro D
    induction D with
    | nil => intro _ h; cases h
    | cons d D ih =>
      intro hk hc
      rw [List.pairwise_cons] at hk
      rw [List.find?_cons]
      by_cases e : d.p = p
      · rcases List.mem_cons.1 hc with rfl | hc
        · simp [e]
        · exact absurd (e.trans hp.symm) (hk.1 c hc)
      · rcases List.mem_cons.1 hc with rfl | hc
        · exact absurd hp e
        · simp [e, ih hk.2 hc]
  unfold keptD
  rw [key D hk hc]
theorem full_up {c : Cl} (hP : 0 ≤ P) (h0 : 0 ≤ c.tok) (h1 : c.tok ≤ B) (hn : c.at' ≤ now) : 0 ≤ full P B c now ∧ full P B c now ≤ B ∧ full P B c now ≤ c.tok + (now - c.at') * P := by
  have hl := full_le (now := now) h0 h1 hP
  refine ⟨hl.1, hl.2, ?_⟩
  have : 0 ≤ (now - c.at') * P := Int.mul_nonneg (by omega) hP
  unfold full
  split <;> omega
theorem erase_keys {q : Pf} {c : Cl} (hq : q ≠ p) (hc : c ∈ D) (hcq : c.p = q) : c ∈ D.eraseP (fun c => decide (c.p = p)) := by
  induction D with
  | nil => cases hc
  | cons d D ih =>
    rw [List.eraseP_cons]
    by_cases e : d.p = p
    · simp only [e, decide_true, if_true]
      rcases List.mem_cons.1 hc with rfl | hc
      · exact absurd (hcq.symm.trans e) hq
      · exact hc
    · simp only [e, decide_false, Bool.false_eq_true, if_false]
      rcases List.mem_cons.1 hc with rfl | hc
      · exact List.mem_cons_self ..
      · exact List.mem_cons_of_mem _ (ih hc)
/-- The client that is asked. -/
theorem cl_own (hP : 0 ≤ P) (hB : 1 ≤ B) (hn : now ≤ now') (h0 : 0 ≤ now') (hk : D.Pairwise fun a b => a.p ≠ b.p) (hl : D.length < C) (h : clI P B D now p went first began) {D' : List Cl} {r : Bool} (ht : takeD P B C D p 1 now' = (D', r)) :
    clI P B D' now' p (if r then went + 1 else went) (if began then first else now') true ∧ (if r then went + 1 else went) ≤ B + (now' - (if began then first else now')) * P ∧ 0 ≤ (if began then first else now') ∧ (if began then first else now') ≤ now' := by
  obtain ⟨hw, ⟨rfl, rfl, hno⟩ | ⟨rfl, c, hc, hcp, hat, hf0, hf1, ht0, ht1, hsum⟩⟩ := h
  · unfold takeD at ht
    rw [kept_new hno hl] at ht
    have hfull : full P B ⟨p, B, now'⟩ now' = B := by unfold full; rw [if_pos (.inl (Int.le_refl _))]
    simp only [hfull] at ht
    rw [if_pos ⟨by omega, by omega⟩, decide_eq_true (show (0 : Int) ≤ 1 ∧ (1 : Int) ≤ B by omega)] at ht
    obtain ⟨rfl, rfl⟩ := Prod.mk.inj ht
    have e : (now' - now') * P = 0 := by rw [Int.sub_self, Int.zero_mul]
    have em : max now' now' = now' := by omega
    simp only [if_true, Bool.false_eq_true, if_false]
    refine ⟨⟨by omega, .inr ⟨rfl, _, List.mem_cons_self .., rfl, ?_, h0, ?_, ?_, ?_, ?_⟩⟩, by rw [e]; omega, h0, by omega⟩
    · dsimp only; omega
    · dsimp only; omega
    · dsimp only; omega
    · dsimp only; omega
    · dsimp only; rw [em, e]; omega
  · have hk' := kept_old (B := B) (C := C) (now := now') hk hc hcp
    unfold takeD at ht
    rw [hk'] at ht
    simp only at ht
    have hat' : c.at' ≤ now' := by omega
    have em : max c.at' now' = now' := by omega
    obtain ⟨f0, f1, f2⟩ := full_up (now := now') hP ht0 ht1 hat'
    have e : (now' - first) * P = (c.at' - first) * P + (now' - c.at') * P := by rw [← Int.add_mul]; congr 1; omega
    obtain ⟨T, hT⟩ : ∃ T, full P B c now' = T := ⟨_, rfl⟩
    rw [hT] at ht f0 f1 f2
    rw [em] at ht
    obtain ⟨rfl, rfl⟩ := Prod.mk.inj ht
    simp only [if_true]
    by_cases hg : (0 : Int) ≤ 1 ∧ 1 ≤ T
    · simp only [if_pos hg, decide_eq_true hg, if_true]
      refine ⟨⟨by omega, .inr ⟨rfl, _, List.mem_cons_self .., hcp, ?_, hf0, ?_, ?_, ?_, ?_⟩⟩, by omega, by omega, by omega⟩ <;> dsimp only <;> omega
    · simp only [if_neg hg, decide_eq_false hg, Bool.false_eq_true, if_false]
      refine ⟨⟨by omega, .inr ⟨rfl, _, List.mem_cons_self .., hcp, ?_, hf0, ?_, ?_, ?_, ?_⟩⟩, by omega, by omega, by omega⟩ <;> dsimp only <;> omega
/-- Another one. -/
theorem cl_other (hq : q ≠ p) (hn : now ≤ now') (hk : D.Pairwise fun a b => a.p ≠ b.p) (hl : D.length < C) (h : clI P B D now q went first began) {n : Int} {D' : List Cl} {r : Bool} (ht : takeD P B C D p n now' = (D', r)) : clI P B D' now' q went first began := by
  have hD : ∃ x : Cl, x.p = p ∧ ((D' = x :: D) ∨ (D' = x :: D.eraseP (fun c => decide (c.p = p)))) := by
    by_cases hex : ∃ c ∈ D, c.p = p
    · obtain ⟨c, hc, hcp⟩ := hex
      unfold takeD at ht
      rw [kept_old hk hc hcp] at ht
      obtain ⟨rfl, -⟩ := Prod.mk.inj ht
      refine ⟨_, ?_, .inr rfl⟩; exact hcp
    · unfold takeD at ht
      rw [kept_new (fun c hc e => hex ⟨c, hc, e⟩) hl] at ht
      obtain ⟨rfl, -⟩ := Prod.mk.inj ht
      refine ⟨_, ?_, .inl rfl⟩; rfl
  obtain ⟨x, hxp, hD⟩ := hD
  obtain ⟨hw, ⟨rfl, rfl, hno⟩ | ⟨rfl, c, hc, hcp, hat, hrest⟩⟩ := h
  · refine ⟨hw, .inl ⟨rfl, rfl, fun c hc => ?_⟩⟩
    rcases hD with rfl | rfl
    · rcases List.mem_cons.1 hc with rfl | hc
      · rw [hxp]; exact hq.symm
      · exact hno c hc
    · rcases List.mem_cons.1 hc with rfl | hc
      · rw [hxp]; exact hq.symm
      · exact hno c (List.mem_of_mem_eraseP hc)
  · refine ⟨hw, .inr ⟨rfl, c, ?_, hcp, by omega, hrest⟩⟩
    rcases hD with rfl | rfl
    · exact List.mem_cons_of_mem _ hc
    · exact List.mem_cons_of_mem _ (erase_keys hq hc hcp)
/-- Clients are two at most. -/
theorem two_len {a b : Pf} (hk : D.Pairwise fun x y => x.p ≠ y.p) (h : ∀ c ∈ D, c.p = a ∨ c.p = b) : D.length ≤ 2 := by
  match D, hk, h with
  | [], _, _ => simp
  | [_], _, _ => simp
  | [_, _], _, _ => simp
  | x :: y :: z :: D, hk, h =>
    exfalso
    have hx := h x (by simp)
    have hy := h y (by simp)
    have hz := h z (by simp)
    simp only [List.pairwise_cons, List.mem_cons, forall_eq_or_imp] at hk
    obtain ⟨⟨h1, h2, _⟩, ⟨h3, _⟩, _⟩ := hk
    rcases hx with hx | hx <;> rcases hy with hy | hy <;> rcases hz with hz | hz <;> simp_all
theorem take_keys {n : Int} {D' : List Cl} {r : Bool} {a b : Pf} (hp : p = a ∨ p = b) (hk : D.Pairwise fun a b => a.p ≠ b.p) (hl : D.length < C) (h : ∀ c ∈ D, c.p = a ∨ c.p = b) (ht : takeD P B C D p n now' = (D', r)) : ∀ c ∈ D', c.p = a ∨ c.p = b := by
  by_cases hex : ∃ c ∈ D, c.p = p
  · obtain ⟨c, hc, hcp⟩ := hex
    unfold takeD at ht
    rw [kept_old hk hc hcp] at ht
    obtain ⟨rfl, -⟩ := Prod.mk.inj ht
    intro x hx
    rcases List.mem_cons.1 hx with rfl | hx
    · exact h c hc
    · exact h x (List.mem_of_mem_eraseP hx)
  · unfold takeD at ht
    rw [kept_new (fun c hc e => hex ⟨c, hc, e⟩) hl] at ht
    obtain ⟨rfl, -⟩ := Prod.mk.inj ht
    intro x hx
    rcases List.mem_cons.1 hx with rfl | hx
    · exact hp
    · exact h x hx
end
end Go.Proofs.YtpilenbdimhegaaGreatDoor
/- Layer 42 (gate): the statement's own packet goes on, and the next one is held; GateNone returns true. -/
namespace Go.Proofs.YtpilenbdimhegaaGreatDoor
open Go.RowKit
set_option linter.unusedSimpArgs false
set_option linter.unusedVariables false
set_option maxRecDepth 20000
set_option maxHeartbeats 4000000
attribute [local irreducible] WPc WPl WPq ReadR OpT BinR HasS bx rdN rowN Take Takes Prov Triple ResF BuildP Done ag Int.decLt Int.decLe Int.instDecidableEq
def p42 : Pf := (Adr.zero, 24)
def x42 : Pk := ⟨⟨false, 17, 20, Adr.zero, Adr.zero, false, 9⟩, ⟨5, 6, 0, 6, false, 8⟩, f16⟩
theorem e42 : pkE (pbL f16 0 9 [7]) = 0 ∧ ferr (pbL f16 0 9 [7]) = 0 ∧ (fhead (pbL f16 0 9 [7])).part = false ∧ byteN (pbL f16 0 9 [7]) 0 / 16 = 4 := by decide +kernel
theorem r42 : pkR (pbL f16 0 9 [7]) = x42 := by kernel_rfl
theorem m42 : p42 = (maskA x42.fl.src (if x42.fl.src.six then 64 else 24), maskN x42.fl.src (if x42.fl.src.six then 64 else 24)) := by decide +kernel
theorem t42 : takeD 0 1 1 [] p42 1 0 = ([⟨p42, 0, 0⟩], true) ∧ takeD 0 1 1 [⟨p42, 0, 0⟩] p42 1 0 = ([⟨p42, 0, 0⟩], false) := ⟨by kernel_rfl, by kernel_rfl⟩
attribute [local irreducible] mp gbag jes pool pkE pkR ferr fhead maskA maskN mput takeD pbL pbE p42 x42
theorem lives42_t : Triple Tryz.prog 9 #[] [] (RVal (.bool true)) := by
  have hbk : BOk 0 1 1 := ⟨by omega, by omega, by omega, by omega, by omega, by omega⟩
  have c9 := gnew_t 0 1 1 hbk 24 64 (by omega) (by omega) (by omega) (by omega)
  have c13 := some_t
  have hl := h16_len
  have c15 := fun v => rbuild_t f16 0 9 v [7] (by decide) (by decide) (by decide)
  rw [h16_err] at c15
  obtain ⟨e1, e2, e3, e4⟩ := e42
  obtain ⟨t1, t2⟩ := t42
  have h64 : in64 p42.2 := by with_unfolding_all (unfold in64 p42; dsimp only; omega)
  have l16a := f16.src.len
  have l16b := f16.dst.len
  have r0 := r42
  have m0 := m42
  generalize pbL f16 0 9 [7] = B at *
  refine Triple.enter Tryz.func9 rfl Tryz.ntmps9 rfl (fun W => ?_)
  dsimp only [argsF, Nat.reduceAdd]
  refine WPc.nilRowN 58 40 ?_
  repeat' (first
   | refine WPl.nil ?_ | refine WPq.then ?_ | refine WPq.thenR ?_ | refine WPq.thenE ?_ | refine WPq.blockN ?_ | refine WPq.blockR ?_ | refine WPq.blockE ?_ | refine WPq.blockO rfl ?_ | refine WPc.seq ?_ | refine WPc.block ?_ | refine WPc.ret ?_ | refine WPc.exit ?_ | refine WPc.skip ?_ | refine WPc.region ?_
   | (refine isCond ?_; first | refine WPc.cT ?_ | refine WPc.cF ?_ | (refine WPc.cQ (fun hc => ?_) (fun hc => ?_) <;> try exact prA))
   | (refine isLit ?_; refine WPl.lit fun v hv => ?_)
   | (refine isC 13 ?_; refine WPl.cV (c13) ?_)
   | (refine isD 8 ?_; refine WPl.rdX (ReadR.build (cs' := rtc 0 1 1) buildA) ?_)
   | (refine isC 9 ?_; refine WPl.cX c9 fun v9 Γ1 hR => ?_; obtain ⟨gG, gB, mB, f, gT, mT, gJ, mJ, rfl, rfl, hI⟩ := hR; (try dsimp only [putF, List.cons_append, List.nil_append]))
   | (refine isC 15 ?_; refine WPl.cR2 ((c15 _)) fun v15 hv15 => ?_)
   | (refine isC 20 ?_; refine WPl.cO ((passO_t gG gB mB gT mT gJ mJ 24 64 (by omega) (by omega) (by omega) (by omega) 0 1 1 hbk ([], [], f) hI [] [⟨p42, 0, 0⟩] rfl 0 [] [] 0 (by omega) (fun _ h => by cases h) (fun _ h => by cases h) (Nat.zero_le _) v15 B (by omega) (by omega) e4 e2 e3 x42 e1 r0 p42 m0 h64 (wU (0 + 1)) (mput [] p42 ⟨p42, wU (0 + 1), 0⟩) (taddNew_t gT mT 200 0 [] p42 1 h64 (by omega) rfl (by show ((0 : Nat) : Int) < 200; omega)) t1)) (fun v Γ1 hR => ?_) ?_; rotate_left; exact fpA; obtain ⟨w, hw, rfl, s1, rfl, hI1, hD1⟩ := hR; (try dsimp only [putF, List.cons_append, List.nil_append]))
   | (refine isC 23 ?_; refine WPl.cO ((passH_t gG gB mB gT mT gJ mJ 24 64 (by omega) (by omega) (by omega) (by omega) 0 1 1 hbk s1 hI1 [⟨p42, 0, 0⟩] [⟨p42, 0, 0⟩] hD1 (wU (0 + 1)) (mput [] p42 ⟨p42, wU (0 + 1), 0⟩) [] 0 (by omega) (fun _ h => by cases h) (fun _ h => by cases h) (Nat.zero_le _) v15 B (by omega) (by omega) e4 e2 e3 x42 e1 r0 p42 m0 h64 t2)) (fun v Γ1 hR => ?_) ?_; rotate_left; exact fpA; obtain ⟨rfl, s2, rfl, hI2, hD2⟩ := hR; (try dsimp only [putF, List.cons_append, List.nil_append]))
   | (refine isD 26 ?_; refine WPl.rdX (ReadR.binE rfl rfl BinR.eql (congrArg Value.bool (decide_eq_true rfl))) ?_)
   | (refine isD 29 ?_; refine WPl.rdX (ReadR.binE rfl rfl BinR.eql (congrArg Value.bool (decide_eq_true rfl))) ?_)
   | (refine isD 34 ?_; refine WPl.rdX (ReadR.str rfl rfl rfl hasA) ?_)
   | (refine isD 36 ?_; refine WPl.rdX (ReadR.str rfl rfl rfl hasA) ?_)
   | (refine isD 37 ?_; refine WPl.rdX (ReadR.binE rfl rfl BinR.strUE (congrArg Value.bool (decide_eq_true rfl))) ?_)
   | (refine isD 42 ?_; refine WPl.rdX (ReadR.binE rfl rfl BinR.eql (congrArg Value.bool (decide_eq_true rfl))) ?_)
   | (refine isOp ?_; first | refine WPl.rd ?_ | refine WPl.sk ?_ | refine WPl.rdB ?_)
   | (refine isAl ?_; refine WPl.nw fun g => ?_)
   | (refine isSt ?_; first | refine WPl.st1 ?_ | refine WPl.stA ?_ | refine WPl.stEB ?_ | refine WPl.stRB ?_)
   | (show WPl _ _ _ _ _ _ _ (⟨_, .indexAddr _ _ _, _, _, _, _⟩ :: _) _; refine WPl.rdX (ReadR.indexE rfl rfl hasA (by first | assumption | omega)) ?_)
   | (show WPl _ _ _ _ _ _ _ (⟨_, .fieldAddr _ _ _, _, _, _, _⟩ :: _) _; refine WPl.rdX (ReadR.fieldE rfl hasA (by first | assumption | omega)) ?_)
   | (show WPl _ _ _ _ _ _ _ (⟨_, .load _ _, _, _, _, _⟩ :: _) _; first | refine WPl.rdX (ReadR.loadE rfl hasA (by assumption)) ?_ | refine WPl.rdX (ReadR.loadES (by assumption) (by first | assumption | omega) rfl hasA) ?_)
   | (show WPl _ _ _ _ _ _ _ (⟨_, .slice _ _ _ _ _, _, _, _, _⟩ :: _) _; first | refine WPl.rdX (ReadR.sliceH rfl rfl hasA (by omega)) ?_ | refine WPl.rdX (ReadR.sliceL rfl rfl hasA (by omega)) ?_ | refine WPl.rdX (ReadR.sliceLH rfl rfl rfl hasA (by omega) (by omega)) ?_)
   | (refine WPl.spQ (fun hc => ?_) (fun hc => ?_) <;> try exact prA)
   | fail)
  all_goals try (first | exact WPq.dTp | exact WPq.dTs | exact WPq.dV | exact WPq.dR | exact WPq.dR2 | exact WPq.dH | exact WPq.dBH | exact WPq.dT)
end Go.Proofs.YtpilenbdimhegaaGreatDoor
/- Layer 42 (gate): a list of acts, and their bytes. -/
namespace Go.Proofs.YtpilenbdimhegaaGreatDoor
set_option linter.unusedVariables false
set_option linter.unusedSimpArgs false
def gas (R : List GA) : List Value := (R.map fun r => flat (gaC r)).flatten
theorem gaC_len (r : GA) : (flat (gaC r)).length = 43 := by
  have l1 := r.f.src.len
  have l2 := r.f.dst.len
  simp [flat_eq, l1, l2]
theorem gas_len (R : List GA) : (gas R).length = R.length * 43 := rows_len gaC_len
theorem gas_at {R : List GA} {i : Nat} {r : GA} (h : R[i]? = some r) : ((gas R).drop (i * 43)).take 43 = flat (gaC r) := rows_drop gaC_len h
theorem gas_mo {R : List GA} {i : Nat} {r : GA} (h : R[i]? = some r) : (gas R)[i * 43 + 42]? = some (.int .u8 ((r.more.toNat : Nat) : Int)) := by
  refine rows_at (c := gaC) gaC_len h (by omega) ?_
  have l1 := r.f.src.len
  have l2 := r.f.dst.len
  simp [flat_eq, l1, l2, List.getElem?_append, List.getElem?_cons]
/-- The acts' bytes, to be read. -/
def rdG (R : List GA) : Asn where
  own := false
  fp := fun g => ∃ r ∈ R, (rb r.v r.d).fp g
  holds := fun w => ∀ r ∈ R, (rb r.v r.d).holds w
  lt := fun w h g hg => by
    obtain ⟨r, hr, hg⟩ := hg
    exact (rb r.v r.d).lt w (h r hr) g hg
  loc := fun w w' h hl r hr => (rb r.v r.d).loc w w' (h r hr) fun g hg => hl g ⟨r, hr, hg⟩
theorem Prov.rdG {Γ : List Asn} {R : List GA} (h : Go.Proofs.YtpilenbdimhegaaGreatDoor.rdG R ∈ Γ) : Prov Γ (Go.Proofs.YtpilenbdimhegaaGreatDoor.rdG R) := ⟨rfl, fun w hw => hw _ h⟩
theorem Prov.rdG1 {Γ : List Asn} {R : List GA} {r : GA} (h : Go.Proofs.YtpilenbdimhegaaGreatDoor.rdG R ∈ Γ) (hr : r ∈ R) : Prov Γ (rb r.v r.d) := ⟨rfl, fun w hw => hw _ h _ hr⟩
/-- What is known of an act. -/
def gaW (r : GA) : Prop := r.f.sp < 65536 ∧ r.f.dp < 65536 ∧ r.v.oneCell' = true
theorem rpAt_len (b : List UInt8) (id z i : Nat) (hb : b.length ≤ 1000) : (rpAt b id z i).length ≤ 100000 := by
  have h1 : ∀ X id w, (rpL X id w).length = X.length := fun X id w => by unfold rpL rpB rpA; simp only [List.length_set]
  unfold rpAt
  rw [h1]
  unfold rpX
  rw [List.length_append]
  have h2 : ∀ (l : List UInt8) k n, (seg l k n).length ≤ l.length := fun l k n => by unfold seg; simp; omega
  have h3 := h2 b 0 20
  have h4 := h2 (seg b 20 (b.length - 20)) (i * z) (rpEnd (b.length - 20) z i - i * z)
  have h5 := h2 b 20 (b.length - 20)
  omega
theorem gaB_len (x : GA) : (gaB x).length ≤ 100000 := by
  have hd : (x.d.take 100).length ≤ 100 := List.length_take_le _ _
  have hl : (gaP x).length ≤ 1000 := pbL_len _ _ _ _ (by omega)
  unfold gaB
  split
  · omega
  · split
    · omega
    · split
      · exact rpAt_len _ _ _ _ hl
      · omega
end Go.Proofs.YtpilenbdimhegaaGreatDoor
/- Layer 42 (gate): what is known of a gate, round after round: the plain law. -/
namespace Go.Proofs.YtpilenbdimhegaaGreatDoor
set_option linter.unusedVariables false
set_option linter.unusedSimpArgs false
structure HI (pn bn : Nat) (i now : Nat) (s : GBS) (tl : TL) (L : List PJ) (w0 w1 f0 f1 : Int) (b0 b1 : Bool) : Prop where
  i60 : i ≤ 60
  nw : now ≤ 3 * i
  bk : BkI (bn : Int) 3 s.1 s.2.1 s.2.2
  ks : ∀ c ∈ s.1.map (·.2), c.p = pz0 false ∨ c.p = pz0 true
  jo : JOk now i L
  tk : tl.length ≤ i
  c0 : clI (pn : Int) (bn : Int) (s.1.map (·.2)) (now : Int) (pz0 false) w0 f0 b0
  c1 : clI (pn : Int) (bn : Int) (s.1.map (·.2)) (now : Int) (pz0 true) w1 f1 b1
  r0 : 0 ≤ w0 ∧ w0 ≤ i ∧ 0 ≤ f0 ∧ f0 ≤ now
  r1 : 0 ≤ w1 ∧ w1 ≤ i ∧ 0 ≤ f1 ∧ f1 ≤ now
theorem pz0_ne : pz0 false ≠ pz0 true := fun h => by
  have := congrArg (fun p : Pf => p.1.six) h
  simp [pz0, Adr.zero] at this
theorem clI.mono {P B : Int} {D : List Cl} {now now' : Int} {p : Pf} {w f : Int} {b : Bool} (h : clI P B D now p w f b) (hn : now ≤ now') : clI P B D now' p w f b := by
  obtain ⟨h0, h1 | ⟨hb, c, hc, hp, ha, hr⟩⟩ := h
  · exact ⟨h0, .inl h1⟩
  · exact ⟨h0, .inr ⟨hb, c, hc, hp, Int.le_trans ha hn, hr⟩⟩
theorem bk_pw {burst : Int} {n : Nat} {L : List Nd} {M : List (Pf × Option Nat)} {f : Nat → Option Ch} (h : BkI burst n L M f) : (L.map (·.2)).Pairwise fun a b => a.p ≠ b.p := List.pairwise_map.2 h.keys
variable {pn bn i now now' : Nat} {s s' : GBS} {tl tl' : TL} {L L' : List PJ} {w0 w1 f0 f1 : Int} {b0 b1 : Bool}
theorem HI.skip (h : HI pn bn i now s tl L w0 w1 f0 f1 b0 b1) (hi : i + 1 ≤ 60) (h1 : now ≤ now') (h2 : now' ≤ 3 * (i + 1)) (hb : BkI (bn : Int) 3 s'.1 s'.2.1 s'.2.2) (hs : s'.1.map (·.2) = s.1.map (·.2)) (hj : JOk now' (i + 1) L') (ht : tl'.length ≤ i + 1) :
    HI pn bn (i + 1) now' s' tl' L' w0 w1 f0 f1 b0 b1 :=
  ⟨hi, h2, hb, by rw [hs]; exact h.ks, hj, ht, by rw [hs]; exact h.c0.mono (by omega), by rw [hs]; exact h.c1.mono (by omega), by have := h.r0; omega, by have := h.r1; omega⟩
theorem HI.len (h : HI pn bn i now s tl L w0 w1 f0 f1 b0 b1) : (s.1.map (·.2)).length < 3 := Nat.lt_succ_of_le (two_len (bk_pw h.bk) h.ks)
theorem HI.take0 (hbn : 1 ≤ bn) (h : HI pn bn i now s tl L w0 w1 f0 f1 b0 b1) (hi : i + 1 ≤ 60) (h1 : now ≤ now') (h2 : now' ≤ 3 * (i + 1)) (hb : BkI (bn : Int) 3 s'.1 s'.2.1 s'.2.2) (hj : JOk now' (i + 1) L') (ht : tl'.length ≤ i + 1) {r : Bool}
    (hk : takeD (pn : Int) (bn : Int) 3 (s.1.map (·.2)) (pz0 false) 1 (now' : Int) = (s'.1.map (·.2), r)) :
    HI pn bn (i + 1) now' s' tl' L' (if r then w0 + 1 else w0) w1 (if b0 then f0 else now') f1 true b1 ∧ (if r then w0 + 1 else w0) ≤ (bn : Int) + ((now' : Int) - (if b0 then f0 else now')) * pn := by
  have ho := cl_own (by omega) (by omega) (show (now : Int) ≤ (now' : Int) by omega) (by omega) (bk_pw h.bk) h.len h.c0 hk
  have hx := cl_other (q := pz0 true) (fun e => pz0_ne e.symm) (show (now : Int) ≤ (now' : Int) by omega) (bk_pw h.bk) h.len h.c1 hk
  have hks := take_keys (a := pz0 false) (b := pz0 true) (.inl rfl) (bk_pw h.bk) h.len h.ks hk
  have r0 := h.r0
  have r1 := h.r1
  exact ⟨⟨hi, h2, hb, hks, hj, ht, ho.1, hx, ⟨by split <;> omega, by split <;> omega, ho.2.2.1, ho.2.2.2⟩, by omega⟩, ho.2.1⟩
theorem HI.take1 (hbn : 1 ≤ bn) (h : HI pn bn i now s tl L w0 w1 f0 f1 b0 b1) (hi : i + 1 ≤ 60) (h1 : now ≤ now') (h2 : now' ≤ 3 * (i + 1)) (hb : BkI (bn : Int) 3 s'.1 s'.2.1 s'.2.2) (hj : JOk now' (i + 1) L') (ht : tl'.length ≤ i + 1) {r : Bool}
    (hk : takeD (pn : Int) (bn : Int) 3 (s.1.map (·.2)) (pz0 true) 1 (now' : Int) = (s'.1.map (·.2), r)) :
    HI pn bn (i + 1) now' s' tl' L' w0 (if r then w1 + 1 else w1) f0 (if b1 then f1 else now') b0 true ∧ (if r then w1 + 1 else w1) ≤ (bn : Int) + ((now' : Int) - (if b1 then f1 else now')) * pn := by
  have ho := cl_own (by omega) (by omega) (show (now : Int) ≤ (now' : Int) by omega) (by omega) (bk_pw h.bk) h.len h.c1 hk
  have hx := cl_other (q := pz0 false) pz0_ne (show (now : Int) ≤ (now' : Int) by omega) (bk_pw h.bk) h.len h.c0 hk
  have hks := take_keys (a := pz0 false) (b := pz0 true) (.inr rfl) (bk_pw h.bk) h.len h.ks hk
  have r0 := h.r0
  have r1 := h.r1
  exact ⟨⟨hi, h2, hb, hks, hj, ht, hx, ho.1, by omega, ⟨by split <;> omega, by split <;> omega, ho.2.2.1, ho.2.2.2⟩⟩, ho.2.1⟩
end Go.Proofs.YtpilenbdimhegaaGreatDoor
/- Layer 42 (gate): GateHeld: the walk. -/
namespace Go.Proofs.YtpilenbdimhegaaGreatDoor
set_option linter.unusedVariables false
set_option linter.unusedSimpArgs false
structure GHS where
  i : Nat
  now : Nat
  s : GBS
  all : Int
  tl : TL
  L : List PJ
  w0 : Int
  w1 : Int
  f0 : Int
  f1 : Int
  b0 : Bool
  b1 : Bool
theorem mul_few {a p : Int} (h0 : 0 ≤ a) (h1 : a ≤ 1000) (h2 : 0 ≤ p) (h3 : p ≤ 10) : 0 ≤ a * p ∧ a * p ≤ 10000 :=
  ⟨Int.mul_nonneg h0 h2, Int.le_trans (Int.mul_le_mul h1 h3 h2 (by omega)) (by decide)⟩
instance : ArrI Tryz.prog 60 2 32 := ⟨by kernel_rfl⟩
instance : ArrI Tryz.prog 61 2 4 := ⟨by kernel_rfl⟩
instance (priority := 100000) : ZeroI Tryz.prog 60 [(1, [.int .u64 0]), (1, [.int .u64 0])] := ⟨by kernel_rfl, .one1 rfl (.one1 rfl .nil)⟩
instance (priority := 100000) : ZeroI Tryz.prog 61 [(1, [.bool false]), (1, [.bool false])] := ⟨by kernel_rfl, .one1 rfl (.one1 rfl .nil)⟩
instance : TyI Tryz.prog 60 true 2 := ⟨by kernel_rfl, by kernel_rfl⟩
instance : TyI Tryz.prog 61 true 2 := ⟨by kernel_rfl, by kernel_rfl⟩
open Go.RowKit
set_option linter.unusedSimpArgs false
set_option linter.unusedVariables false
set_option maxRecDepth 20000
set_option maxHeartbeats 4000000
attribute [local irreducible] WPc WPl WPq ReadR OpT BinR HasS bx rdN rowN Take Takes Prov Triple ResF BuildP Done ag Int.decLt Int.decLe Int.instDecidableEq
attribute [local irreducible] mp gbag jes pool pickG pkE pkR ferr fhead maskA maskN mput takeD pz0 gas rdG gaB
theorem held_t (P B : UInt8) (va : Value) (R : List GA) (hR : ∀ r ∈ R, gaW r) : Triple Tryz.prog 4 #[.int .u8 ((P.toNat : Nat) : Int), .int .u8 ((B.toNat : Nat) : Int), va] [rdN va R.length (gas R), rdG R] (RVal (.bool true)) := by
  have hlen2 := gas_len R
  have hP := P.toNat_lt
  have hB := B.toNat_lt
  obtain ⟨pn, hpn⟩ : ∃ pn, pn = P.toNat % 5 := ⟨_, rfl⟩
  obtain ⟨bn, hbn⟩ : ∃ bn, bn = 1 + B.toNat % 9 := ⟨_, rfl⟩
  have hbk : BOk (pn : Int) (bn : Int) 3 := ⟨by omega, by omega, by omega, by omega, by omega, by omega⟩
  have c25 := gnew_t (pn : Int) (bn : Int) 3 hbk 0 0 (by omega) (by omega) (by omega) (by omega)
  have e18 : ((P.toNat : Nat) : Int) % 5 = (pn : Int) := by omega
  have e21 : ((B.toNat : Nat) : Int) % 9 = ((bn - 1 : Nat) : Int) := by omega
  have e23 : (1 : Int) + ((bn - 1 : Nat) : Int) = (bn : Int) := by omega
  have hn0 : Value.bool (!decide ((0 : Int) = 0)) = .bool false := by rw [decide_eq_true rfl]; rfl
  refine Triple.enter Tryz.func4 rfl Tryz.ntmps4 rfl (fun W => ?_)
  dsimp only [argsF, Nat.reduceAdd]
  repeat' (first
   | refine WPl.nil ?_ | refine WPq.then ?_ | refine WPc.seq ?_ | refine WPc.block ?_ | refine WPc.skip ?_ | refine WPc.region ?_
   | (refine isCond ?_; first | refine WPc.cT ?_ | refine WPc.cF ?_ | (refine WPc.cQ (fun hc => ?_) (fun hc => ?_) <;> try exact prA))
   | (refine isD 18 ?_; refine WPl.rdX (ReadR.binE rfl rfl (BinR.remK (by omega) (by omega)) (congrArg (Value.int .u8) e18)) ?_)
   | (refine isD 19 ?_; refine WPl.rdX (ReadR.conv rfl (wrapK (by simp only [kmin]; omega) (by simp only [kmax]; omega))) ?_)
   | (refine isD 21 ?_; refine WPl.rdX (ReadR.binE rfl rfl (BinR.remK (by omega) (by omega)) (congrArg (Value.int .u8) e21)) ?_)
   | (refine isD 22 ?_; refine WPl.rdX (ReadR.conv rfl (wrapK (by simp only [kmin]; omega) (by simp only [kmax]; omega))) ?_)
   | (refine isD 23 ?_; refine WPl.rdX (ReadR.binE rfl rfl (BinR.addI (by omega) (by omega)) (congrArg (Value.int .i64) e23)) ?_)
   | (refine isD 24 ?_; refine WPl.rdX (ReadR.build (cs' := rtc (pn : Int) (bn : Int) 3) buildA) ?_)
   | (refine isC 25 ?_; refine WPl.cX c25 fun v25 Γ1 hR => ?_; obtain ⟨gG, gB, mB, f, gT, mT, gJ, mJ, rfl, rfl, hI⟩ := hR; (try dsimp only [putF, List.cons_append, List.nil_append]))
   | (refine isD 29 ?_; refine WPl.rdX (readP) ?_)
   | (refine isD 32 ?_; refine WPl.rdX (ReadR.binE rfl rfl BinR.neq hn0) ?_)
   | (refine isD 34 ?_; refine WPl.rdX (ReadR.buildZ) ?_)
   | (refine isD 35 ?_; refine WPl.rdX (ReadR.buildZ) ?_)
   | (refine isD 36 ?_; refine WPl.rdX (ReadR.buildZ) ?_)
   | (refine isD 10 ?_; first | (refine isAl ?_; refine WPl.nw fun g10 => ?_) | (refine isBx ?_; refine WPl.nw fun g10 => ?_))
   | (refine isD 11 ?_; first | (refine isAl ?_; refine WPl.nw fun g11 => ?_) | (refine isBx ?_; refine WPl.nw fun g11 => ?_))
   | (refine isD 12 ?_; first | (refine isAl ?_; refine WPl.nw fun g12 => ?_) | (refine isBx ?_; refine WPl.nw fun g12 => ?_))
   | (refine isOp ?_; first | refine WPl.rd ?_ | refine WPl.sk ?_ | refine WPl.rdB ?_)
   | (refine isSt ?_; first | refine WPl.st1 ?_ | refine WPl.stA ?_ | refine WPl.stEB ?_ | refine WPl.stRB ?_)
   | fail)
  have hI0 : HI pn bn 0 0 ([], [], f) [] [] 0 0 0 0 false false := ⟨by omega, by omega, hI, by simp, ⟨by simp, by simp⟩, by simp, ⟨by omega, .inl ⟨rfl, rfl, by simp⟩⟩, ⟨by omega, .inl ⟨rfl, rfl, by simp⟩⟩, by omega, by omega⟩
  first | refine WPc.loop (σ := GHS) (fun st => st.i ≤ R.length ∧ HI pn bn st.i st.now st.s st.tl st.L st.w0 st.w1 st.f0 st.f1 st.b0 st.b1) (fun st => [bx g10 60 [(1, [.int .u64 st.w0]), (1, [.int .u64 st.w1])], bx g11 60 [(1, [.int .u64 st.f0]), (1, [.int .u64 st.f1])], bx g12 61 [(1, [.bool st.b0]), (1, [.bool st.b1])], bx gG 96 (gtc gB gT gJ nilS 0 0), bx gB 134 (bkc (hdO none st.s.1) (lsO none st.s.1) (pn : Int) (bn : Int) (3 : Nat) mB), mp prM mB st.s.2.1, pool 150 st.s.2.2, bx gT 137 (txc 200 mT st.all), mp hyM mT st.tl, bx gJ 140 (jbc mJ), mp kyM mJ (jes st.L), gbag jrow st.L, rdN va R.length (gas R), rdG R]) (fun st => [(0, .int .u8 ((P.toNat : Nat) : Int)), (1, .int .u8 ((B.toNat : Nat) : Int)), (2, va), (7, hG gG), (9, .int .u64 (st.now : Int)), (10, hG g10), (11, hG g11), (12, hG g12), (13, .int .i64 (st.i : Int))]) (fun st => R.length - st.i) (⟨0, 0, ([], [], f), 0, [], [], 0, 0, 0, 0, false, false⟩) ?_ takesA frsA (fun st km hx hk => ?_)
  · exact ⟨Nat.zero_le _, hI0⟩
  obtain ⟨i, now, S, al, tl, L, w0, w1, f0, f1, b0, b1⟩ := st
  obtain ⟨hi, h⟩ := hx
  dsimp only at hi h hk ⊢
  have hi60 := h.i60
  have hnw := h.nw
  by_cases hout : ¬ (i < R.length ∧ i < 60)
  · by_cases hiR : i < R.length
    · have hi6 : i = 60 := by omega
      repeat' (first
       | refine WPl.nil ?_ | refine WPq.then ?_ | refine WPq.thenE ?_ | refine WPq.blockE ?_ | refine WPc.seq ?_ | refine WPc.ret ?_ | refine WPc.exit ?_ | refine WPc.region ?_
       | (refine isCond ?_; first | refine WPc.cT ?_ | refine WPc.cF ?_ | (refine WPc.cQ (fun hc => ?_) (fun hc => ?_) <;> try exact prA))
       | (refine isD 40 ?_; refine WPl.rdX (ReadR.binE rfl rfl BinR.lss (congrArg Value.bool (decide_eq_true (show (i : Int) < (R.length : Int) by omega)))) ?_)
       | (refine isD 43 ?_; refine WPl.rdX (ReadR.binE rfl rfl BinR.lss (congrArg Value.bool (decide_eq_false (show ¬ (i : Int) < 60 by omega)))) ?_)
       | (refine isC 126 ?_; refine WPl.cV (lives42_t) ?_)
       | (refine isOp ?_; first | refine WPl.rd ?_ | refine WPl.sk ?_ | refine WPl.rdB ?_)
       | fail)
      exact WPq.dV
    · skip
      repeat' (first
       | refine WPl.nil ?_ | refine WPq.then ?_ | refine WPq.thenE ?_ | refine WPq.blockE ?_ | refine WPc.seq ?_ | refine WPc.ret ?_ | refine WPc.exit ?_ | refine WPc.region ?_
       | (refine isCond ?_; first | refine WPc.cT ?_ | refine WPc.cF ?_ | (refine WPc.cQ (fun hc => ?_) (fun hc => ?_) <;> try exact prA))
       | (refine isD 40 ?_; refine WPl.rdX (ReadR.binE rfl rfl BinR.lss (congrArg Value.bool (decide_eq_false (show ¬ (i : Int) < (R.length : Int) by omega)))) ?_)
       | (refine isC 126 ?_; refine WPl.cV (lives42_t) ?_)
       | (refine isOp ?_; first | refine WPl.rd ?_ | refine WPl.sk ?_ | refine WPl.rdB ?_)
       | fail)
      exact WPq.dV
  have hin : i < R.length ∧ i < 60 := Decidable.of_not_not hout
  obtain ⟨x, hx⟩ : ∃ x, R[i]? = some x := ⟨_, List.getElem?_eq_getElem hin.1⟩
  have hmem := List.mem_of_getElem? hx
  have hat := gas_at hx
  have hmo := gas_mo hx
  obtain ⟨x1, x2, x3⟩ := hR x hmem
  have hxm := x.more.toNat_lt
  have e53 : ((x.more.toNat : Nat) : Int) % 4 = ((x.more.toNat % 4 : Nat) : Int) := by omega
  obtain ⟨now', hnow'⟩ : ∃ now', now' = now + x.more.toNat % 4 := ⟨_, rfl⟩
  have e55 : (now : Int) + ((x.more.toNat % 4 : Nat) : Int) = (now' : Int) := by omega
  have n1 : now ≤ now' := by omega
  have n2 : now' ≤ 3 * (i + 1) := by omega
  have c61 := gbytes_t x x1 x2 x3
  have hbl := gaB_len x
  obtain ⟨b, hb⟩ : ∃ b, b = gaB x := ⟨_, rfl⟩
  rw [← hb] at c61 hbl
  have lx1 := x.f.src.len
  have lx2 := x.f.dst.len
  have c63 := fun v (hv : v.oneCell' = true) => passG_t gG gB mB gT mT gJ mJ (pn : Int) (bn : Int) 3 hbk S h.bk (S.1.map (·.2)) rfl al tl L i now' (by omega) (by omega) (h.jo.mono n1 (Nat.le_refl i)) h.tk v hv b hbl
  repeat' (first
   | refine WPl.nil ?_ | refine WPq.then ?_ | refine WPc.seq ?_ | refine WPc.block ?_ | refine WPc.skip ?_ | refine WPc.region ?_
   | (refine isCond ?_; first | refine WPc.cT ?_ | refine WPc.cF ?_ | (refine WPc.cQ (fun hc => ?_) (fun hc => ?_) <;> try exact prA))
   | (refine isD 40 ?_; refine WPl.rdX (ReadR.binE rfl rfl BinR.lss (congrArg Value.bool (decide_eq_true (show (i : Int) < (R.length : Int) by omega)))) ?_)
   | (refine isD 43 ?_; refine WPl.rdX (ReadR.binE rfl rfl BinR.lss (congrArg Value.bool (decide_eq_true (show (i : Int) < 60 by omega)))) ?_)
   | (refine isD 50 ?_; refine WPl.rdX (ReadR.indexE (i := i) rfl rfl hasA (by omega)) ?_)
   | (refine isD 51 ?_; refine WPl.rdX (ReadR.fieldE rfl hasA (by omega)) ?_)
   | (refine isD 52 ?_; refine WPl.rdX (ReadR.loadE rfl hasA hmo) ?_)
   | (refine isD 53 ?_; refine WPl.rdX (ReadR.binE rfl rfl (BinR.remK (by omega) (by omega)) (congrArg (Value.int .u8) e53)) ?_)
   | (refine isD 54 ?_; refine WPl.rdX (ReadR.conv rfl (wrapK (by simp only [kmin]; omega) (by simp only [kmax]; omega))) ?_)
   | (refine isD 55 ?_; refine WPl.rdX (ReadR.binE rfl rfl (BinR.addU (by omega) (by omega)) (congrArg (Value.int .u64) e55)) ?_)
   | (refine isD 59 ?_; refine WPl.rdX (ReadR.indexE (i := i) rfl rfl hasA (by omega)) ?_)
   | (refine isD 60 ?_; refine WPl.rdX (ReadR.loadES (cs := gaC x) hat (by omega) rfl hasA) ?_)
   | (refine isC 61 ?_; refine WPl.cR c61 (fun v61 hv61 => ?_) (hΔ := Provs.cons (Prov.rdG1 memA hmem) Provs.nil))
   | (refine isC 63 ?_; refine WPl.cO ((c63 _ hv61)) (fun v Γ1 hR => ?_) ?_; rotate_left; exact fpA; skip; (try dsimp only [putF, List.cons_append, List.nil_append]))
   | (refine isOp ?_; first | refine WPl.rd ?_ | refine WPl.sk ?_ | refine WPl.rdB ?_)
   | (refine isAl ?_; refine WPl.nw fun g => ?_)
   | fail)
  rcases hR with ⟨s', all', tl', L', D', rfl, hB', hD', hJ', htl', ⟨what, err, out, q4, q5, ho, rfl, rfl⟩ | ⟨r, out, ht, ho, rfl, hnib, hb0⟩⟩
  · (try dsimp only [putF, List.cons_append, List.nil_append])
    repeat' (first
     | refine WPl.nil ?_ | refine WPq.then ?_ | refine WPq.thenE ?_ | refine WPq.blockE ?_ | refine WPc.seq ?_ | refine WPc.exit ?_ | refine WPc.region ?_
     | (refine isCond ?_; first | refine WPc.cT ?_ | refine WPc.cF ?_ | (refine WPc.cQ (fun hc => ?_) (fun hc => ?_) <;> try exact prA))
     | (refine isD 66 ?_; refine WPl.rdX (ReadR.binE rfl rfl BinR.neq (congrArg (fun q => Value.bool (!q)) (decide_eq_false q5))) ?_)
     | (refine isD 70 ?_; refine WPl.rdX (ReadR.binE rfl rfl BinR.neq (congrArg (fun q => Value.bool (!q)) (decide_eq_false q4))) ?_)
     | (refine isOp ?_; first | refine WPl.rd ?_ | refine WPl.sk ?_ | refine WPl.rdB ?_)
     | (refine isSt ?_; first | refine WPl.st1 ?_ | refine WPl.stA ?_ | refine WPl.stEB ?_ | refine WPl.stRB ?_)
     | fail)
    exact WPq.rnd (⟨i + 1, now', s', all', tl', L', w0, w1, f0, f1, b0, b1⟩ : GHS) ⟨by dsimp only; omega, h.skip (by omega) n1 n2 hB' hD' hJ' htl'⟩ (by dsimp only; omega)
  · (try dsimp only [putF, List.cons_append, List.nil_append])
    subst hD'
    have hb86 : (u8s b)[0]? = some (.int .u8 ((byteN b 0 : Nat) : Int)) := by
      cases b with
      | nil => exact absurd rfl hb0
      | cons c r => rfl
    have hbt := byteN_lt b 0
    have e87 : ((byteN b 0 : Nat) : Int) / 16 = ((byteN b 0 / 16 : Nat) : Int) := by omega
    rcases hnib with h4 | h6
    · rw [show decide (byteN b 0 / 16 = 6) = false from decide_eq_false (by omega)] at ht
      cases r with
      | false =>
        cases b0 with
        | false =>
          have hT := h.take0 (by omega) (by omega) n1 n2 hB' hJ' htl' ht
          simp only [if_true, Bool.false_eq_true, if_false] at hT
          obtain ⟨hH, hle⟩ := hT
          have hr := hH.r0
          have hr0 := h.r0
          have hm := mul_few (a := (now' : Int) - (now' : Int)) (p := (pn : Int)) (by omega) (by omega) (by omega) (by omega)
          obtain ⟨pr, hpr⟩ : ∃ pr, ((now' : Int) - (now' : Int)) * (pn : Int) = pr := ⟨_, rfl⟩
          rw [hpr] at hle hm
          repeat' (first
           | refine WPl.nil ?_ | refine WPq.then ?_ | refine WPq.blockN ?_ | refine WPc.seq ?_ | refine WPc.skip ?_ | refine WPc.region ?_
           | (refine isReg 19 ?_; refine WPc.drA [([], [110, 111, 112, 113, 114, 115, 116, 117, 118, 119, 120, 121, 122, 123, 124]), ([0], [107, 110, 111, 112, 113, 114, 115, 116, 117, 118, 119, 120, 121, 122, 123, 124]), ([0, 1], [107, 108, 110, 111, 112, 113, 114, 115, 116, 117, 118, 119, 120, 121, 122, 123, 124]), ([], [107, 108, 109, 115, 116, 117, 118, 119, 120, 121, 122, 123]), ([3], [107, 108, 109, 110, 115, 116, 117, 118, 119, 120, 121, 122, 123]), ([3, 4], [107, 108, 109, 110, 111, 115, 116, 117, 118, 119, 120, 121, 122, 123]), ([3, 4, 5], [107, 108, 109, 110, 111, 112, 115, 116, 117, 118, 119, 120, 121, 122, 123]), ([3, 4, 5, 6], [107, 108, 109, 110, 111, 112, 113, 115, 116, 117, 118, 119, 120, 121, 122, 123]), ([], [107, 108, 109, 110, 111, 112, 113, 114, 116, 117, 118, 120, 121, 122]), ([], [107, 108, 109, 110, 111, 112, 113, 114, 115, 120, 121, 122]), ([9], [107, 108, 109, 110, 111, 112, 113, 114, 115, 116, 120, 121, 122]), ([9, 10], [107, 108, 109, 110, 111, 112, 113, 114, 115, 116, 117, 120, 121, 122]), ([8, 9, 10, 11], [107, 108, 109, 110, 111, 112, 113, 114, 115, 116, 117, 118, 120, 121, 122]), ([], [107, 108, 109, 110, 111, 112, 113, 114, 115, 116, 117, 118, 119]), ([13], [107, 108, 109, 110, 111, 112, 113, 114, 115, 116, 117, 118, 119, 120]), ([13, 14], [107, 108, 109, 110, 111, 112, 113, 114, 115, 116, 117, 118, 119, 120, 121]), ([8, 9, 10, 11, 12, 13, 14, 15], [107, 108, 109, 110, 111, 112, 113, 114, 115, 116, 117, 118, 119, 120, 121, 122]), ([3, 4, 5, 6, 7, 8, 9, 10, 11, 12, 13, 14, 15, 16], [107, 108, 109, 110, 111, 112, 113, 114, 115, 116, 117, 118, 119, 120, 121, 122, 123]), ([0, 1, 2, 3, 4, 5, 6, 7, 8, 9, 10, 11, 12, 13, 14, 15, 16, 17], [107, 108, 109, 110, 111, 112, 113, 114, 115, 116, 117, 118, 119, 120, 121, 122, 123, 124])] [] (Γx := []) ?_; dsimp only [prev0, List.length_nil, List.length_cons])
           | (refine gAny ?_; first | (refine gD 108 ?_; refine RGl.rdX (fun e hk => by (try dsimp only [bndR, ensR, oksR, fcutR, List.append_nil, List.nil_append, List.cons_append, List.append_assoc] at hk ⊢); exact ReadR.indexR (i := 0) rfl rfl (by omega)) ?_) | (refine gD 111 ?_; refine RGl.rdX (fun e hk => by (try dsimp only [bndR, ensR, oksR, fcutR, List.append_nil, List.nil_append, List.cons_append, List.append_assoc] at hk ⊢); exact ReadR.binE rfl rfl (BinR.remK (by omega) (by omega)) (congrArg (Value.int .u8) e21)) ?_) | (refine gD 112 ?_; refine RGl.rdX (fun e hk => by (try dsimp only [bndR, ensR, oksR, fcutR, List.append_nil, List.nil_append, List.cons_append, List.append_assoc] at hk ⊢); exact ReadR.conv rfl (wrapK (by simp only [kmin]; omega) (by simp only [kmax]; omega))) ?_) | (refine gD 113 ?_; refine RGl.rdX (fun e hk => by (try dsimp only [bndR, ensR, oksR, fcutR, List.append_nil, List.nil_append, List.cons_append, List.append_assoc] at hk ⊢); exact ReadR.binE rfl rfl (BinR.addI (by omega) (by omega)) (congrArg (Value.int .i64) e23)) ?_) | (refine gD 114 ?_; refine RGl.rdX (fun e hk => by (try dsimp only [bndR, ensR, oksR, fcutR, List.append_nil, List.nil_append, List.cons_append, List.append_assoc] at hk ⊢); exact ReadR.conv rfl (wrapK (by simp only [kmin]; omega) (by simp only [kmax]; omega))) ?_) | (refine gD 117 ?_; refine RGl.rdX (fun e hk => by (try dsimp only [bndR, ensR, oksR, fcutR, List.append_nil, List.nil_append, List.cons_append, List.append_assoc] at hk ⊢); exact ReadR.indexR (i := 0) rfl rfl (by omega)) ?_) | (refine gD 119 ?_; refine RGl.rdX (fun e hk => by (try dsimp only [bndR, ensR, oksR, fcutR, List.append_nil, List.nil_append, List.cons_append, List.append_assoc] at hk ⊢); exact ReadR.binE rfl rfl (BinR.subU (by omega) (by omega)) rfl) ?_) | (refine gD 121 ?_; refine RGl.rdX (fun e hk => by (try dsimp only [bndR, ensR, oksR, fcutR, List.append_nil, List.nil_append, List.cons_append, List.append_assoc] at hk ⊢); exact ReadR.binE rfl rfl (BinR.remK (by omega) (by omega)) (congrArg (Value.int .u8) e18)) ?_) | (refine gD 122 ?_; refine RGl.rdX (fun e hk => by (try dsimp only [bndR, ensR, oksR, fcutR, List.append_nil, List.nil_append, List.cons_append, List.append_assoc] at hk ⊢); exact ReadR.conv rfl (wrapK (by simp only [kmin]; omega) (by simp only [kmax]; omega))) ?_) | (refine gD 123 ?_; refine RGl.rdX (fun e hk => by (try dsimp only [bndR, ensR, oksR, fcutR, List.append_nil, List.nil_append, List.cons_append, List.append_assoc] at hk ⊢); exact ReadR.binE rfl rfl (BinR.mulT hpr (by simp only [kmin]; omega) (by simp only [kmax]; omega)) rfl) ?_) | (refine gD 124 ?_; refine RGl.rdX (fun e hk => by (try dsimp only [bndR, ensR, oksR, fcutR, List.append_nil, List.nil_append, List.cons_append, List.append_assoc] at hk ⊢); exact ReadR.binE rfl rfl (BinR.addU (by omega) (by omega)) rfl) ?_) | (refine gD 125 ?_; refine RGl.rdX (fun e hk => by (try dsimp only [bndR, ensR, oksR, fcutR, List.append_nil, List.nil_append, List.cons_append, List.append_assoc] at hk ⊢); exact ReadR.binE rfl rfl BinR.gtr (congrArg Value.bool (decide_eq_false (show ¬ (bn : Int) + pr < w0 by omega)))) ?_) | (refine gOp ?_; first | refine RGl.rdA ?_ | refine RGl.rdX (fun e hk => by (try dsimp only [bndR, ensR, oksR, fcutR, List.append_nil, List.nil_append, List.cons_append, List.append_assoc] at hk ⊢); exact readB) ?_) | (refine RGl.fin (fun e hk => ?_); (try dsimp only [bndA, ensAR, oksA, List.append_nil, List.nil_append, List.cons_append, List.append_assoc] at hk ⊢); (repeat (obtain ⟨hk1, hk⟩ := hk))) | fail)
           | (refine isCond ?_; first | refine WPc.cT ?_ | refine WPc.cF ?_ | (refine WPc.cQ (fun hc => ?_) (fun hc => ?_) <;> try exact prA))
           | (refine isD 66 ?_; refine WPl.rdX (ReadR.binE rfl rfl BinR.neq (congrArg (fun q => Value.bool (!q)) (decide_eq_false (show ¬ (4 : Int) = 5 by omega)))) ?_)
           | (refine isD 70 ?_; refine WPl.rdX (ReadR.binE rfl rfl BinR.neq (congrArg (fun q => Value.bool (!q)) (decide_eq_true rfl))) ?_)
           | (refine isD 74 ?_; refine WPl.rdX (ReadR.indexE (i := i) rfl rfl hasA (by omega)) ?_)
           | (refine isD 75 ?_; refine WPl.rdX (ReadR.loadES (cs := gaC x) hat (by omega) rfl hasA) ?_)
           | (refine isC 76 ?_; refine WPl.cR c61 (fun v76 hv76 => ?_) (hΔ := Provs.cons (Prov.rdG1 memA hmem) Provs.nil))
           | (refine isD 78 ?_; refine WPl.rdX (ReadR.binE rfl rfl BinR.gtr (congrArg Value.bool (decide_eq_true (show (0 : Int) < (b.length : Int) by omega)))) ?_)
           | (refine isD 82 ?_; refine WPl.rdX (ReadR.indexE (i := i) rfl rfl hasA (by omega)) ?_)
           | (refine isD 83 ?_; refine WPl.rdX (ReadR.loadES (cs := gaC x) hat (by omega) rfl hasA) ?_)
           | (refine isC 84 ?_; refine WPl.cR c61 (fun v84 hv84 => ?_) (hΔ := Provs.cons (Prov.rdG1 memA hmem) Provs.nil))
           | (refine isD 85 ?_; refine WPl.rdX (ReadR.indexE1 (i := 0) rfl rfl hasA (by omega)) ?_)
           | (refine isD 86 ?_; refine WPl.rdX (ReadR.loadE rfl hasA hb86) ?_)
           | (refine isD 88 ?_; refine WPl.rdX (ReadR.binE rfl rfl BinR.eql (congrArg Value.bool (decide_eq_false (show ¬ ((byteN b 0 / 16 : Nat) : Int) = 6 by omega)))) ?_)
           | (refine isD 91 ?_; refine WPl.rdX (ReadR.indexR (i := 0) rfl rfl (by omega)) ?_)
           | (refine isD 97 ?_; refine WPl.rdX (ReadR.indexR (i := 0) rfl rfl (by omega)) ?_)
           | (refine isD 98 ?_; refine WPl.rdX (ReadR.indexR (i := 0) rfl rfl (by omega)) ?_)
           | (refine isD 101 ?_; refine WPl.rdX (ReadR.binE rfl rfl BinR.eql (congrArg Value.bool (decide_eq_false (show ¬ (4 : Int) = 5 by omega)))) ?_)
           | (refine isOp ?_; first | refine WPl.rd ?_ | refine WPl.sk ?_ | refine WPl.rdB ?_)
           | (refine isSt ?_; first | refine WPl.st1 ?_ | refine WPl.stA ?_ | refine WPl.stEB ?_ | refine WPl.stRB ?_)
           | fail)
          (try dsimp only [Nat.reduceAdd])
          exact WPq.rnd (⟨i + 1, now', s', all', tl', L', w0, w1, (now' : Int), f1, true, b1⟩ : GHS) ⟨by dsimp only; omega, hH⟩ (by dsimp only; omega)
        | true =>
          have hT := h.take0 (by omega) (by omega) n1 n2 hB' hJ' htl' ht
          simp only [if_true, Bool.false_eq_true, if_false] at hT
          obtain ⟨hH, hle⟩ := hT
          have hr := hH.r0
          have hr0 := h.r0
          have hm := mul_few (a := (now' : Int) - f0) (p := (pn : Int)) (by omega) (by omega) (by omega) (by omega)
          obtain ⟨pr, hpr⟩ : ∃ pr, ((now' : Int) - f0) * (pn : Int) = pr := ⟨_, rfl⟩
          rw [hpr] at hle hm
          repeat' (first
           | refine WPl.nil ?_ | refine WPq.then ?_ | refine WPq.blockN ?_ | refine WPc.seq ?_ | refine WPc.skip ?_ | refine WPc.region ?_
           | (refine isReg 19 ?_; refine WPc.drA [([], [110, 111, 112, 113, 114, 115, 116, 117, 118, 119, 120, 121, 122, 123, 124]), ([0], [107, 110, 111, 112, 113, 114, 115, 116, 117, 118, 119, 120, 121, 122, 123, 124]), ([0, 1], [107, 108, 110, 111, 112, 113, 114, 115, 116, 117, 118, 119, 120, 121, 122, 123, 124]), ([], [107, 108, 109, 115, 116, 117, 118, 119, 120, 121, 122, 123]), ([3], [107, 108, 109, 110, 115, 116, 117, 118, 119, 120, 121, 122, 123]), ([3, 4], [107, 108, 109, 110, 111, 115, 116, 117, 118, 119, 120, 121, 122, 123]), ([3, 4, 5], [107, 108, 109, 110, 111, 112, 115, 116, 117, 118, 119, 120, 121, 122, 123]), ([3, 4, 5, 6], [107, 108, 109, 110, 111, 112, 113, 115, 116, 117, 118, 119, 120, 121, 122, 123]), ([], [107, 108, 109, 110, 111, 112, 113, 114, 116, 117, 118, 120, 121, 122]), ([], [107, 108, 109, 110, 111, 112, 113, 114, 115, 120, 121, 122]), ([9], [107, 108, 109, 110, 111, 112, 113, 114, 115, 116, 120, 121, 122]), ([9, 10], [107, 108, 109, 110, 111, 112, 113, 114, 115, 116, 117, 120, 121, 122]), ([8, 9, 10, 11], [107, 108, 109, 110, 111, 112, 113, 114, 115, 116, 117, 118, 120, 121, 122]), ([], [107, 108, 109, 110, 111, 112, 113, 114, 115, 116, 117, 118, 119]), ([13], [107, 108, 109, 110, 111, 112, 113, 114, 115, 116, 117, 118, 119, 120]), ([13, 14], [107, 108, 109, 110, 111, 112, 113, 114, 115, 116, 117, 118, 119, 120, 121]), ([8, 9, 10, 11, 12, 13, 14, 15], [107, 108, 109, 110, 111, 112, 113, 114, 115, 116, 117, 118, 119, 120, 121, 122]), ([3, 4, 5, 6, 7, 8, 9, 10, 11, 12, 13, 14, 15, 16], [107, 108, 109, 110, 111, 112, 113, 114, 115, 116, 117, 118, 119, 120, 121, 122, 123]), ([0, 1, 2, 3, 4, 5, 6, 7, 8, 9, 10, 11, 12, 13, 14, 15, 16, 17], [107, 108, 109, 110, 111, 112, 113, 114, 115, 116, 117, 118, 119, 120, 121, 122, 123, 124])] [] (Γx := []) ?_; dsimp only [prev0, List.length_nil, List.length_cons])
           | (refine gAny ?_; first | (refine gD 108 ?_; refine RGl.rdX (fun e hk => by (try dsimp only [bndR, ensR, oksR, fcutR, List.append_nil, List.nil_append, List.cons_append, List.append_assoc] at hk ⊢); exact ReadR.indexR (i := 0) rfl rfl (by omega)) ?_) | (refine gD 111 ?_; refine RGl.rdX (fun e hk => by (try dsimp only [bndR, ensR, oksR, fcutR, List.append_nil, List.nil_append, List.cons_append, List.append_assoc] at hk ⊢); exact ReadR.binE rfl rfl (BinR.remK (by omega) (by omega)) (congrArg (Value.int .u8) e21)) ?_) | (refine gD 112 ?_; refine RGl.rdX (fun e hk => by (try dsimp only [bndR, ensR, oksR, fcutR, List.append_nil, List.nil_append, List.cons_append, List.append_assoc] at hk ⊢); exact ReadR.conv rfl (wrapK (by simp only [kmin]; omega) (by simp only [kmax]; omega))) ?_) | (refine gD 113 ?_; refine RGl.rdX (fun e hk => by (try dsimp only [bndR, ensR, oksR, fcutR, List.append_nil, List.nil_append, List.cons_append, List.append_assoc] at hk ⊢); exact ReadR.binE rfl rfl (BinR.addI (by omega) (by omega)) (congrArg (Value.int .i64) e23)) ?_) | (refine gD 114 ?_; refine RGl.rdX (fun e hk => by (try dsimp only [bndR, ensR, oksR, fcutR, List.append_nil, List.nil_append, List.cons_append, List.append_assoc] at hk ⊢); exact ReadR.conv rfl (wrapK (by simp only [kmin]; omega) (by simp only [kmax]; omega))) ?_) | (refine gD 117 ?_; refine RGl.rdX (fun e hk => by (try dsimp only [bndR, ensR, oksR, fcutR, List.append_nil, List.nil_append, List.cons_append, List.append_assoc] at hk ⊢); exact ReadR.indexR (i := 0) rfl rfl (by omega)) ?_) | (refine gD 119 ?_; refine RGl.rdX (fun e hk => by (try dsimp only [bndR, ensR, oksR, fcutR, List.append_nil, List.nil_append, List.cons_append, List.append_assoc] at hk ⊢); exact ReadR.binE rfl rfl (BinR.subU (by omega) (by omega)) rfl) ?_) | (refine gD 121 ?_; refine RGl.rdX (fun e hk => by (try dsimp only [bndR, ensR, oksR, fcutR, List.append_nil, List.nil_append, List.cons_append, List.append_assoc] at hk ⊢); exact ReadR.binE rfl rfl (BinR.remK (by omega) (by omega)) (congrArg (Value.int .u8) e18)) ?_) | (refine gD 122 ?_; refine RGl.rdX (fun e hk => by (try dsimp only [bndR, ensR, oksR, fcutR, List.append_nil, List.nil_append, List.cons_append, List.append_assoc] at hk ⊢); exact ReadR.conv rfl (wrapK (by simp only [kmin]; omega) (by simp only [kmax]; omega))) ?_) | (refine gD 123 ?_; refine RGl.rdX (fun e hk => by (try dsimp only [bndR, ensR, oksR, fcutR, List.append_nil, List.nil_append, List.cons_append, List.append_assoc] at hk ⊢); exact ReadR.binE rfl rfl (BinR.mulT hpr (by simp only [kmin]; omega) (by simp only [kmax]; omega)) rfl) ?_) | (refine gD 124 ?_; refine RGl.rdX (fun e hk => by (try dsimp only [bndR, ensR, oksR, fcutR, List.append_nil, List.nil_append, List.cons_append, List.append_assoc] at hk ⊢); exact ReadR.binE rfl rfl (BinR.addU (by omega) (by omega)) rfl) ?_) | (refine gD 125 ?_; refine RGl.rdX (fun e hk => by (try dsimp only [bndR, ensR, oksR, fcutR, List.append_nil, List.nil_append, List.cons_append, List.append_assoc] at hk ⊢); exact ReadR.binE rfl rfl BinR.gtr (congrArg Value.bool (decide_eq_false (show ¬ (bn : Int) + pr < w0 by omega)))) ?_) | (refine gOp ?_; first | refine RGl.rdA ?_ | refine RGl.rdX (fun e hk => by (try dsimp only [bndR, ensR, oksR, fcutR, List.append_nil, List.nil_append, List.cons_append, List.append_assoc] at hk ⊢); exact readB) ?_) | (refine RGl.fin (fun e hk => ?_); (try dsimp only [bndA, ensAR, oksA, List.append_nil, List.nil_append, List.cons_append, List.append_assoc] at hk ⊢); (repeat (obtain ⟨hk1, hk⟩ := hk))) | fail)
           | (refine isCond ?_; first | refine WPc.cT ?_ | refine WPc.cF ?_ | (refine WPc.cQ (fun hc => ?_) (fun hc => ?_) <;> try exact prA))
           | (refine isD 66 ?_; refine WPl.rdX (ReadR.binE rfl rfl BinR.neq (congrArg (fun q => Value.bool (!q)) (decide_eq_false (show ¬ (4 : Int) = 5 by omega)))) ?_)
           | (refine isD 70 ?_; refine WPl.rdX (ReadR.binE rfl rfl BinR.neq (congrArg (fun q => Value.bool (!q)) (decide_eq_true rfl))) ?_)
           | (refine isD 74 ?_; refine WPl.rdX (ReadR.indexE (i := i) rfl rfl hasA (by omega)) ?_)
           | (refine isD 75 ?_; refine WPl.rdX (ReadR.loadES (cs := gaC x) hat (by omega) rfl hasA) ?_)
           | (refine isC 76 ?_; refine WPl.cR c61 (fun v76 hv76 => ?_) (hΔ := Provs.cons (Prov.rdG1 memA hmem) Provs.nil))
           | (refine isD 78 ?_; refine WPl.rdX (ReadR.binE rfl rfl BinR.gtr (congrArg Value.bool (decide_eq_true (show (0 : Int) < (b.length : Int) by omega)))) ?_)
           | (refine isD 82 ?_; refine WPl.rdX (ReadR.indexE (i := i) rfl rfl hasA (by omega)) ?_)
           | (refine isD 83 ?_; refine WPl.rdX (ReadR.loadES (cs := gaC x) hat (by omega) rfl hasA) ?_)
           | (refine isC 84 ?_; refine WPl.cR c61 (fun v84 hv84 => ?_) (hΔ := Provs.cons (Prov.rdG1 memA hmem) Provs.nil))
           | (refine isD 85 ?_; refine WPl.rdX (ReadR.indexE1 (i := 0) rfl rfl hasA (by omega)) ?_)
           | (refine isD 86 ?_; refine WPl.rdX (ReadR.loadE rfl hasA hb86) ?_)
           | (refine isD 88 ?_; refine WPl.rdX (ReadR.binE rfl rfl BinR.eql (congrArg Value.bool (decide_eq_false (show ¬ ((byteN b 0 / 16 : Nat) : Int) = 6 by omega)))) ?_)
           | (refine isD 91 ?_; refine WPl.rdX (ReadR.indexR (i := 0) rfl rfl (by omega)) ?_)
           | (refine isD 101 ?_; refine WPl.rdX (ReadR.binE rfl rfl BinR.eql (congrArg Value.bool (decide_eq_false (show ¬ (4 : Int) = 5 by omega)))) ?_)
           | (refine isOp ?_; first | refine WPl.rd ?_ | refine WPl.sk ?_ | refine WPl.rdB ?_)
           | (refine isSt ?_; first | refine WPl.st1 ?_ | refine WPl.stA ?_ | refine WPl.stEB ?_ | refine WPl.stRB ?_)
           | fail)
          (try dsimp only [Nat.reduceAdd])
          exact WPq.rnd (⟨i + 1, now', s', all', tl', L', w0, w1, f0, f1, true, b1⟩ : GHS) ⟨by dsimp only; omega, hH⟩ (by dsimp only; omega)
      | true =>
        cases b0 with
        | false =>
          have hT := h.take0 (by omega) (by omega) n1 n2 hB' hJ' htl' ht
          simp only [if_true, Bool.false_eq_true, if_false] at hT
          obtain ⟨hH, hle⟩ := hT
          have hr := hH.r0
          have hr0 := h.r0
          have hm := mul_few (a := (now' : Int) - (now' : Int)) (p := (pn : Int)) (by omega) (by omega) (by omega) (by omega)
          obtain ⟨pr, hpr⟩ : ∃ pr, ((now' : Int) - (now' : Int)) * (pn : Int) = pr := ⟨_, rfl⟩
          rw [hpr] at hle hm
          repeat' (first
           | refine WPl.nil ?_ | refine WPq.then ?_ | refine WPq.blockN ?_ | refine WPc.seq ?_ | refine WPc.skip ?_ | refine WPc.region ?_
           | (refine isReg 19 ?_; refine WPc.drA [([], [110, 111, 112, 113, 114, 115, 116, 117, 118, 119, 120, 121, 122, 123, 124]), ([0], [107, 110, 111, 112, 113, 114, 115, 116, 117, 118, 119, 120, 121, 122, 123, 124]), ([0, 1], [107, 108, 110, 111, 112, 113, 114, 115, 116, 117, 118, 119, 120, 121, 122, 123, 124]), ([], [107, 108, 109, 115, 116, 117, 118, 119, 120, 121, 122, 123]), ([3], [107, 108, 109, 110, 115, 116, 117, 118, 119, 120, 121, 122, 123]), ([3, 4], [107, 108, 109, 110, 111, 115, 116, 117, 118, 119, 120, 121, 122, 123]), ([3, 4, 5], [107, 108, 109, 110, 111, 112, 115, 116, 117, 118, 119, 120, 121, 122, 123]), ([3, 4, 5, 6], [107, 108, 109, 110, 111, 112, 113, 115, 116, 117, 118, 119, 120, 121, 122, 123]), ([], [107, 108, 109, 110, 111, 112, 113, 114, 116, 117, 118, 120, 121, 122]), ([], [107, 108, 109, 110, 111, 112, 113, 114, 115, 120, 121, 122]), ([9], [107, 108, 109, 110, 111, 112, 113, 114, 115, 116, 120, 121, 122]), ([9, 10], [107, 108, 109, 110, 111, 112, 113, 114, 115, 116, 117, 120, 121, 122]), ([8, 9, 10, 11], [107, 108, 109, 110, 111, 112, 113, 114, 115, 116, 117, 118, 120, 121, 122]), ([], [107, 108, 109, 110, 111, 112, 113, 114, 115, 116, 117, 118, 119]), ([13], [107, 108, 109, 110, 111, 112, 113, 114, 115, 116, 117, 118, 119, 120]), ([13, 14], [107, 108, 109, 110, 111, 112, 113, 114, 115, 116, 117, 118, 119, 120, 121]), ([8, 9, 10, 11, 12, 13, 14, 15], [107, 108, 109, 110, 111, 112, 113, 114, 115, 116, 117, 118, 119, 120, 121, 122]), ([3, 4, 5, 6, 7, 8, 9, 10, 11, 12, 13, 14, 15, 16], [107, 108, 109, 110, 111, 112, 113, 114, 115, 116, 117, 118, 119, 120, 121, 122, 123]), ([0, 1, 2, 3, 4, 5, 6, 7, 8, 9, 10, 11, 12, 13, 14, 15, 16, 17], [107, 108, 109, 110, 111, 112, 113, 114, 115, 116, 117, 118, 119, 120, 121, 122, 123, 124])] [] (Γx := []) ?_; dsimp only [prev0, List.length_nil, List.length_cons])
           | (refine gAny ?_; first | (refine gD 108 ?_; refine RGl.rdX (fun e hk => by (try dsimp only [bndR, ensR, oksR, fcutR, List.append_nil, List.nil_append, List.cons_append, List.append_assoc] at hk ⊢); exact ReadR.indexR (i := 0) rfl rfl (by omega)) ?_) | (refine gD 111 ?_; refine RGl.rdX (fun e hk => by (try dsimp only [bndR, ensR, oksR, fcutR, List.append_nil, List.nil_append, List.cons_append, List.append_assoc] at hk ⊢); exact ReadR.binE rfl rfl (BinR.remK (by omega) (by omega)) (congrArg (Value.int .u8) e21)) ?_) | (refine gD 112 ?_; refine RGl.rdX (fun e hk => by (try dsimp only [bndR, ensR, oksR, fcutR, List.append_nil, List.nil_append, List.cons_append, List.append_assoc] at hk ⊢); exact ReadR.conv rfl (wrapK (by simp only [kmin]; omega) (by simp only [kmax]; omega))) ?_) | (refine gD 113 ?_; refine RGl.rdX (fun e hk => by (try dsimp only [bndR, ensR, oksR, fcutR, List.append_nil, List.nil_append, List.cons_append, List.append_assoc] at hk ⊢); exact ReadR.binE rfl rfl (BinR.addI (by omega) (by omega)) (congrArg (Value.int .i64) e23)) ?_) | (refine gD 114 ?_; refine RGl.rdX (fun e hk => by (try dsimp only [bndR, ensR, oksR, fcutR, List.append_nil, List.nil_append, List.cons_append, List.append_assoc] at hk ⊢); exact ReadR.conv rfl (wrapK (by simp only [kmin]; omega) (by simp only [kmax]; omega))) ?_) | (refine gD 117 ?_; refine RGl.rdX (fun e hk => by (try dsimp only [bndR, ensR, oksR, fcutR, List.append_nil, List.nil_append, List.cons_append, List.append_assoc] at hk ⊢); exact ReadR.indexR (i := 0) rfl rfl (by omega)) ?_) | (refine gD 119 ?_; refine RGl.rdX (fun e hk => by (try dsimp only [bndR, ensR, oksR, fcutR, List.append_nil, List.nil_append, List.cons_append, List.append_assoc] at hk ⊢); exact ReadR.binE rfl rfl (BinR.subU (by omega) (by omega)) rfl) ?_) | (refine gD 121 ?_; refine RGl.rdX (fun e hk => by (try dsimp only [bndR, ensR, oksR, fcutR, List.append_nil, List.nil_append, List.cons_append, List.append_assoc] at hk ⊢); exact ReadR.binE rfl rfl (BinR.remK (by omega) (by omega)) (congrArg (Value.int .u8) e18)) ?_) | (refine gD 122 ?_; refine RGl.rdX (fun e hk => by (try dsimp only [bndR, ensR, oksR, fcutR, List.append_nil, List.nil_append, List.cons_append, List.append_assoc] at hk ⊢); exact ReadR.conv rfl (wrapK (by simp only [kmin]; omega) (by simp only [kmax]; omega))) ?_) | (refine gD 123 ?_; refine RGl.rdX (fun e hk => by (try dsimp only [bndR, ensR, oksR, fcutR, List.append_nil, List.nil_append, List.cons_append, List.append_assoc] at hk ⊢); exact ReadR.binE rfl rfl (BinR.mulT hpr (by simp only [kmin]; omega) (by simp only [kmax]; omega)) rfl) ?_) | (refine gD 124 ?_; refine RGl.rdX (fun e hk => by (try dsimp only [bndR, ensR, oksR, fcutR, List.append_nil, List.nil_append, List.cons_append, List.append_assoc] at hk ⊢); exact ReadR.binE rfl rfl (BinR.addU (by omega) (by omega)) rfl) ?_) | (refine gD 125 ?_; refine RGl.rdX (fun e hk => by (try dsimp only [bndR, ensR, oksR, fcutR, List.append_nil, List.nil_append, List.cons_append, List.append_assoc] at hk ⊢); exact ReadR.binE rfl rfl BinR.gtr (congrArg Value.bool (decide_eq_false (show ¬ (bn : Int) + pr < w0 + 1 by omega)))) ?_) | (refine gOp ?_; first | refine RGl.rdA ?_ | refine RGl.rdX (fun e hk => by (try dsimp only [bndR, ensR, oksR, fcutR, List.append_nil, List.nil_append, List.cons_append, List.append_assoc] at hk ⊢); exact readB) ?_) | (refine RGl.fin (fun e hk => ?_); (try dsimp only [bndA, ensAR, oksA, List.append_nil, List.nil_append, List.cons_append, List.append_assoc] at hk ⊢); (repeat (obtain ⟨hk1, hk⟩ := hk))) | fail)
           | (refine isCond ?_; first | refine WPc.cT ?_ | refine WPc.cF ?_ | (refine WPc.cQ (fun hc => ?_) (fun hc => ?_) <;> try exact prA))
           | (refine isD 66 ?_; refine WPl.rdX (ReadR.binE rfl rfl BinR.neq (congrArg (fun q => Value.bool (!q)) (decide_eq_true rfl))) ?_)
           | (refine isD 74 ?_; refine WPl.rdX (ReadR.indexE (i := i) rfl rfl hasA (by omega)) ?_)
           | (refine isD 75 ?_; refine WPl.rdX (ReadR.loadES (cs := gaC x) hat (by omega) rfl hasA) ?_)
           | (refine isC 76 ?_; refine WPl.cR c61 (fun v76 hv76 => ?_) (hΔ := Provs.cons (Prov.rdG1 memA hmem) Provs.nil))
           | (refine isD 78 ?_; refine WPl.rdX (ReadR.binE rfl rfl BinR.gtr (congrArg Value.bool (decide_eq_true (show (0 : Int) < (b.length : Int) by omega)))) ?_)
           | (refine isD 82 ?_; refine WPl.rdX (ReadR.indexE (i := i) rfl rfl hasA (by omega)) ?_)
           | (refine isD 83 ?_; refine WPl.rdX (ReadR.loadES (cs := gaC x) hat (by omega) rfl hasA) ?_)
           | (refine isC 84 ?_; refine WPl.cR c61 (fun v84 hv84 => ?_) (hΔ := Provs.cons (Prov.rdG1 memA hmem) Provs.nil))
           | (refine isD 85 ?_; refine WPl.rdX (ReadR.indexE1 (i := 0) rfl rfl hasA (by omega)) ?_)
           | (refine isD 86 ?_; refine WPl.rdX (ReadR.loadE rfl hasA hb86) ?_)
           | (refine isD 88 ?_; refine WPl.rdX (ReadR.binE rfl rfl BinR.eql (congrArg Value.bool (decide_eq_false (show ¬ ((byteN b 0 / 16 : Nat) : Int) = 6 by omega)))) ?_)
           | (refine isD 91 ?_; refine WPl.rdX (ReadR.indexR (i := 0) rfl rfl (by omega)) ?_)
           | (refine isD 97 ?_; refine WPl.rdX (ReadR.indexR (i := 0) rfl rfl (by omega)) ?_)
           | (refine isD 98 ?_; refine WPl.rdX (ReadR.indexR (i := 0) rfl rfl (by omega)) ?_)
           | (refine isD 101 ?_; refine WPl.rdX (ReadR.binE rfl rfl BinR.eql (congrArg Value.bool (decide_eq_true rfl))) ?_)
           | (refine isD 103 ?_; refine WPl.rdX (ReadR.indexR (i := 0) rfl rfl (by omega)) ?_)
           | (refine isD 105 ?_; refine WPl.rdX (ReadR.binE rfl rfl (BinR.addU (by omega) (by omega)) rfl) ?_)
           | (refine isD 106 ?_; refine WPl.rdX (ReadR.indexR (i := 0) rfl rfl (by omega)) ?_)
           | (refine isOp ?_; first | refine WPl.rd ?_ | refine WPl.sk ?_ | refine WPl.rdB ?_)
           | (refine isSt ?_; first | refine WPl.st1 ?_ | refine WPl.stA ?_ | refine WPl.stEB ?_ | refine WPl.stRB ?_)
           | fail)
          (try dsimp only [Nat.reduceAdd])
          exact WPq.rnd (⟨i + 1, now', s', all', tl', L', w0 + 1, w1, (now' : Int), f1, true, b1⟩ : GHS) ⟨by dsimp only; omega, hH⟩ (by dsimp only; omega)
        | true =>
          have hT := h.take0 (by omega) (by omega) n1 n2 hB' hJ' htl' ht
          simp only [if_true, Bool.false_eq_true, if_false] at hT
          obtain ⟨hH, hle⟩ := hT
          have hr := hH.r0
          have hr0 := h.r0
          have hm := mul_few (a := (now' : Int) - f0) (p := (pn : Int)) (by omega) (by omega) (by omega) (by omega)
          obtain ⟨pr, hpr⟩ : ∃ pr, ((now' : Int) - f0) * (pn : Int) = pr := ⟨_, rfl⟩
          rw [hpr] at hle hm
          repeat' (first
           | refine WPl.nil ?_ | refine WPq.then ?_ | refine WPq.blockN ?_ | refine WPc.seq ?_ | refine WPc.skip ?_ | refine WPc.region ?_
           | (refine isReg 19 ?_; refine WPc.drA [([], [110, 111, 112, 113, 114, 115, 116, 117, 118, 119, 120, 121, 122, 123, 124]), ([0], [107, 110, 111, 112, 113, 114, 115, 116, 117, 118, 119, 120, 121, 122, 123, 124]), ([0, 1], [107, 108, 110, 111, 112, 113, 114, 115, 116, 117, 118, 119, 120, 121, 122, 123, 124]), ([], [107, 108, 109, 115, 116, 117, 118, 119, 120, 121, 122, 123]), ([3], [107, 108, 109, 110, 115, 116, 117, 118, 119, 120, 121, 122, 123]), ([3, 4], [107, 108, 109, 110, 111, 115, 116, 117, 118, 119, 120, 121, 122, 123]), ([3, 4, 5], [107, 108, 109, 110, 111, 112, 115, 116, 117, 118, 119, 120, 121, 122, 123]), ([3, 4, 5, 6], [107, 108, 109, 110, 111, 112, 113, 115, 116, 117, 118, 119, 120, 121, 122, 123]), ([], [107, 108, 109, 110, 111, 112, 113, 114, 116, 117, 118, 120, 121, 122]), ([], [107, 108, 109, 110, 111, 112, 113, 114, 115, 120, 121, 122]), ([9], [107, 108, 109, 110, 111, 112, 113, 114, 115, 116, 120, 121, 122]), ([9, 10], [107, 108, 109, 110, 111, 112, 113, 114, 115, 116, 117, 120, 121, 122]), ([8, 9, 10, 11], [107, 108, 109, 110, 111, 112, 113, 114, 115, 116, 117, 118, 120, 121, 122]), ([], [107, 108, 109, 110, 111, 112, 113, 114, 115, 116, 117, 118, 119]), ([13], [107, 108, 109, 110, 111, 112, 113, 114, 115, 116, 117, 118, 119, 120]), ([13, 14], [107, 108, 109, 110, 111, 112, 113, 114, 115, 116, 117, 118, 119, 120, 121]), ([8, 9, 10, 11, 12, 13, 14, 15], [107, 108, 109, 110, 111, 112, 113, 114, 115, 116, 117, 118, 119, 120, 121, 122]), ([3, 4, 5, 6, 7, 8, 9, 10, 11, 12, 13, 14, 15, 16], [107, 108, 109, 110, 111, 112, 113, 114, 115, 116, 117, 118, 119, 120, 121, 122, 123]), ([0, 1, 2, 3, 4, 5, 6, 7, 8, 9, 10, 11, 12, 13, 14, 15, 16, 17], [107, 108, 109, 110, 111, 112, 113, 114, 115, 116, 117, 118, 119, 120, 121, 122, 123, 124])] [] (Γx := []) ?_; dsimp only [prev0, List.length_nil, List.length_cons])
           | (refine gAny ?_; first | (refine gD 108 ?_; refine RGl.rdX (fun e hk => by (try dsimp only [bndR, ensR, oksR, fcutR, List.append_nil, List.nil_append, List.cons_append, List.append_assoc] at hk ⊢); exact ReadR.indexR (i := 0) rfl rfl (by omega)) ?_) | (refine gD 111 ?_; refine RGl.rdX (fun e hk => by (try dsimp only [bndR, ensR, oksR, fcutR, List.append_nil, List.nil_append, List.cons_append, List.append_assoc] at hk ⊢); exact ReadR.binE rfl rfl (BinR.remK (by omega) (by omega)) (congrArg (Value.int .u8) e21)) ?_) | (refine gD 112 ?_; refine RGl.rdX (fun e hk => by (try dsimp only [bndR, ensR, oksR, fcutR, List.append_nil, List.nil_append, List.cons_append, List.append_assoc] at hk ⊢); exact ReadR.conv rfl (wrapK (by simp only [kmin]; omega) (by simp only [kmax]; omega))) ?_) | (refine gD 113 ?_; refine RGl.rdX (fun e hk => by (try dsimp only [bndR, ensR, oksR, fcutR, List.append_nil, List.nil_append, List.cons_append, List.append_assoc] at hk ⊢); exact ReadR.binE rfl rfl (BinR.addI (by omega) (by omega)) (congrArg (Value.int .i64) e23)) ?_) | (refine gD 114 ?_; refine RGl.rdX (fun e hk => by (try dsimp only [bndR, ensR, oksR, fcutR, List.append_nil, List.nil_append, List.cons_append, List.append_assoc] at hk ⊢); exact ReadR.conv rfl (wrapK (by simp only [kmin]; omega) (by simp only [kmax]; omega))) ?_) | (refine gD 117 ?_; refine RGl.rdX (fun e hk => by (try dsimp only [bndR, ensR, oksR, fcutR, List.append_nil, List.nil_append, List.cons_append, List.append_assoc] at hk ⊢); exact ReadR.indexR (i := 0) rfl rfl (by omega)) ?_) | (refine gD 119 ?_; refine RGl.rdX (fun e hk => by (try dsimp only [bndR, ensR, oksR, fcutR, List.append_nil, List.nil_append, List.cons_append, List.append_assoc] at hk ⊢); exact ReadR.binE rfl rfl (BinR.subU (by omega) (by omega)) rfl) ?_) | (refine gD 121 ?_; refine RGl.rdX (fun e hk => by (try dsimp only [bndR, ensR, oksR, fcutR, List.append_nil, List.nil_append, List.cons_append, List.append_assoc] at hk ⊢); exact ReadR.binE rfl rfl (BinR.remK (by omega) (by omega)) (congrArg (Value.int .u8) e18)) ?_) | (refine gD 122 ?_; refine RGl.rdX (fun e hk => by (try dsimp only [bndR, ensR, oksR, fcutR, List.append_nil, List.nil_append, List.cons_append, List.append_assoc] at hk ⊢); exact ReadR.conv rfl (wrapK (by simp only [kmin]; omega) (by simp only [kmax]; omega))) ?_) | (refine gD 123 ?_; refine RGl.rdX (fun e hk => by (try dsimp only [bndR, ensR, oksR, fcutR, List.append_nil, List.nil_append, List.cons_append, List.append_assoc] at hk ⊢); exact ReadR.binE rfl rfl (BinR.mulT hpr (by simp only [kmin]; omega) (by simp only [kmax]; omega)) rfl) ?_) | (refine gD 124 ?_; refine RGl.rdX (fun e hk => by (try dsimp only [bndR, ensR, oksR, fcutR, List.append_nil, List.nil_append, List.cons_append, List.append_assoc] at hk ⊢); exact ReadR.binE rfl rfl (BinR.addU (by omega) (by omega)) rfl) ?_) | (refine gD 125 ?_; refine RGl.rdX (fun e hk => by (try dsimp only [bndR, ensR, oksR, fcutR, List.append_nil, List.nil_append, List.cons_append, List.append_assoc] at hk ⊢); exact ReadR.binE rfl rfl BinR.gtr (congrArg Value.bool (decide_eq_false (show ¬ (bn : Int) + pr < w0 + 1 by omega)))) ?_) | (refine gOp ?_; first | refine RGl.rdA ?_ | refine RGl.rdX (fun e hk => by (try dsimp only [bndR, ensR, oksR, fcutR, List.append_nil, List.nil_append, List.cons_append, List.append_assoc] at hk ⊢); exact readB) ?_) | (refine RGl.fin (fun e hk => ?_); (try dsimp only [bndA, ensAR, oksA, List.append_nil, List.nil_append, List.cons_append, List.append_assoc] at hk ⊢); (repeat (obtain ⟨hk1, hk⟩ := hk))) | fail)
           | (refine isCond ?_; first | refine WPc.cT ?_ | refine WPc.cF ?_ | (refine WPc.cQ (fun hc => ?_) (fun hc => ?_) <;> try exact prA))
           | (refine isD 66 ?_; refine WPl.rdX (ReadR.binE rfl rfl BinR.neq (congrArg (fun q => Value.bool (!q)) (decide_eq_true rfl))) ?_)
           | (refine isD 74 ?_; refine WPl.rdX (ReadR.indexE (i := i) rfl rfl hasA (by omega)) ?_)
           | (refine isD 75 ?_; refine WPl.rdX (ReadR.loadES (cs := gaC x) hat (by omega) rfl hasA) ?_)
           | (refine isC 76 ?_; refine WPl.cR c61 (fun v76 hv76 => ?_) (hΔ := Provs.cons (Prov.rdG1 memA hmem) Provs.nil))
           | (refine isD 78 ?_; refine WPl.rdX (ReadR.binE rfl rfl BinR.gtr (congrArg Value.bool (decide_eq_true (show (0 : Int) < (b.length : Int) by omega)))) ?_)
           | (refine isD 82 ?_; refine WPl.rdX (ReadR.indexE (i := i) rfl rfl hasA (by omega)) ?_)
           | (refine isD 83 ?_; refine WPl.rdX (ReadR.loadES (cs := gaC x) hat (by omega) rfl hasA) ?_)
           | (refine isC 84 ?_; refine WPl.cR c61 (fun v84 hv84 => ?_) (hΔ := Provs.cons (Prov.rdG1 memA hmem) Provs.nil))
           | (refine isD 85 ?_; refine WPl.rdX (ReadR.indexE1 (i := 0) rfl rfl hasA (by omega)) ?_)
           | (refine isD 86 ?_; refine WPl.rdX (ReadR.loadE rfl hasA hb86) ?_)
           | (refine isD 88 ?_; refine WPl.rdX (ReadR.binE rfl rfl BinR.eql (congrArg Value.bool (decide_eq_false (show ¬ ((byteN b 0 / 16 : Nat) : Int) = 6 by omega)))) ?_)
           | (refine isD 91 ?_; refine WPl.rdX (ReadR.indexR (i := 0) rfl rfl (by omega)) ?_)
           | (refine isD 101 ?_; refine WPl.rdX (ReadR.binE rfl rfl BinR.eql (congrArg Value.bool (decide_eq_true rfl))) ?_)
           | (refine isD 103 ?_; refine WPl.rdX (ReadR.indexR (i := 0) rfl rfl (by omega)) ?_)
           | (refine isD 105 ?_; refine WPl.rdX (ReadR.binE rfl rfl (BinR.addU (by omega) (by omega)) rfl) ?_)
           | (refine isD 106 ?_; refine WPl.rdX (ReadR.indexR (i := 0) rfl rfl (by omega)) ?_)
           | (refine isOp ?_; first | refine WPl.rd ?_ | refine WPl.sk ?_ | refine WPl.rdB ?_)
           | (refine isSt ?_; first | refine WPl.st1 ?_ | refine WPl.stA ?_ | refine WPl.stEB ?_ | refine WPl.stRB ?_)
           | fail)
          (try dsimp only [Nat.reduceAdd])
          exact WPq.rnd (⟨i + 1, now', s', all', tl', L', w0 + 1, w1, f0, f1, true, b1⟩ : GHS) ⟨by dsimp only; omega, hH⟩ (by dsimp only; omega)
    · rw [show decide (byteN b 0 / 16 = 6) = true from decide_eq_true h6] at ht
      cases r with
      | false =>
        cases b1 with
        | false =>
          have hT := h.take1 (by omega) (by omega) n1 n2 hB' hJ' htl' ht
          simp only [if_true, Bool.false_eq_true, if_false] at hT
          obtain ⟨hH, hle⟩ := hT
          have hr := hH.r1
          have hr0 := h.r1
          have hm := mul_few (a := (now' : Int) - (now' : Int)) (p := (pn : Int)) (by omega) (by omega) (by omega) (by omega)
          obtain ⟨pr, hpr⟩ : ∃ pr, ((now' : Int) - (now' : Int)) * (pn : Int) = pr := ⟨_, rfl⟩
          rw [hpr] at hle hm
          repeat' (first
           | refine WPl.nil ?_ | refine WPq.then ?_ | refine WPq.blockN ?_ | refine WPc.seq ?_ | refine WPc.skip ?_ | refine WPc.region ?_
           | (refine isReg 19 ?_; refine WPc.drA [([], [110, 111, 112, 113, 114, 115, 116, 117, 118, 119, 120, 121, 122, 123, 124]), ([0], [107, 110, 111, 112, 113, 114, 115, 116, 117, 118, 119, 120, 121, 122, 123, 124]), ([0, 1], [107, 108, 110, 111, 112, 113, 114, 115, 116, 117, 118, 119, 120, 121, 122, 123, 124]), ([], [107, 108, 109, 115, 116, 117, 118, 119, 120, 121, 122, 123]), ([3], [107, 108, 109, 110, 115, 116, 117, 118, 119, 120, 121, 122, 123]), ([3, 4], [107, 108, 109, 110, 111, 115, 116, 117, 118, 119, 120, 121, 122, 123]), ([3, 4, 5], [107, 108, 109, 110, 111, 112, 115, 116, 117, 118, 119, 120, 121, 122, 123]), ([3, 4, 5, 6], [107, 108, 109, 110, 111, 112, 113, 115, 116, 117, 118, 119, 120, 121, 122, 123]), ([], [107, 108, 109, 110, 111, 112, 113, 114, 116, 117, 118, 120, 121, 122]), ([], [107, 108, 109, 110, 111, 112, 113, 114, 115, 120, 121, 122]), ([9], [107, 108, 109, 110, 111, 112, 113, 114, 115, 116, 120, 121, 122]), ([9, 10], [107, 108, 109, 110, 111, 112, 113, 114, 115, 116, 117, 120, 121, 122]), ([8, 9, 10, 11], [107, 108, 109, 110, 111, 112, 113, 114, 115, 116, 117, 118, 120, 121, 122]), ([], [107, 108, 109, 110, 111, 112, 113, 114, 115, 116, 117, 118, 119]), ([13], [107, 108, 109, 110, 111, 112, 113, 114, 115, 116, 117, 118, 119, 120]), ([13, 14], [107, 108, 109, 110, 111, 112, 113, 114, 115, 116, 117, 118, 119, 120, 121]), ([8, 9, 10, 11, 12, 13, 14, 15], [107, 108, 109, 110, 111, 112, 113, 114, 115, 116, 117, 118, 119, 120, 121, 122]), ([3, 4, 5, 6, 7, 8, 9, 10, 11, 12, 13, 14, 15, 16], [107, 108, 109, 110, 111, 112, 113, 114, 115, 116, 117, 118, 119, 120, 121, 122, 123]), ([0, 1, 2, 3, 4, 5, 6, 7, 8, 9, 10, 11, 12, 13, 14, 15, 16, 17], [107, 108, 109, 110, 111, 112, 113, 114, 115, 116, 117, 118, 119, 120, 121, 122, 123, 124])] [] (Γx := []) ?_; dsimp only [prev0, List.length_nil, List.length_cons])
           | (refine gAny ?_; first | (refine gD 108 ?_; refine RGl.rdX (fun e hk => by (try dsimp only [bndR, ensR, oksR, fcutR, List.append_nil, List.nil_append, List.cons_append, List.append_assoc] at hk ⊢); exact ReadR.indexR (i := 1) rfl rfl (by omega)) ?_) | (refine gD 111 ?_; refine RGl.rdX (fun e hk => by (try dsimp only [bndR, ensR, oksR, fcutR, List.append_nil, List.nil_append, List.cons_append, List.append_assoc] at hk ⊢); exact ReadR.binE rfl rfl (BinR.remK (by omega) (by omega)) (congrArg (Value.int .u8) e21)) ?_) | (refine gD 112 ?_; refine RGl.rdX (fun e hk => by (try dsimp only [bndR, ensR, oksR, fcutR, List.append_nil, List.nil_append, List.cons_append, List.append_assoc] at hk ⊢); exact ReadR.conv rfl (wrapK (by simp only [kmin]; omega) (by simp only [kmax]; omega))) ?_) | (refine gD 113 ?_; refine RGl.rdX (fun e hk => by (try dsimp only [bndR, ensR, oksR, fcutR, List.append_nil, List.nil_append, List.cons_append, List.append_assoc] at hk ⊢); exact ReadR.binE rfl rfl (BinR.addI (by omega) (by omega)) (congrArg (Value.int .i64) e23)) ?_) | (refine gD 114 ?_; refine RGl.rdX (fun e hk => by (try dsimp only [bndR, ensR, oksR, fcutR, List.append_nil, List.nil_append, List.cons_append, List.append_assoc] at hk ⊢); exact ReadR.conv rfl (wrapK (by simp only [kmin]; omega) (by simp only [kmax]; omega))) ?_) | (refine gD 117 ?_; refine RGl.rdX (fun e hk => by (try dsimp only [bndR, ensR, oksR, fcutR, List.append_nil, List.nil_append, List.cons_append, List.append_assoc] at hk ⊢); exact ReadR.indexR (i := 1) rfl rfl (by omega)) ?_) | (refine gD 119 ?_; refine RGl.rdX (fun e hk => by (try dsimp only [bndR, ensR, oksR, fcutR, List.append_nil, List.nil_append, List.cons_append, List.append_assoc] at hk ⊢); exact ReadR.binE rfl rfl (BinR.subU (by omega) (by omega)) rfl) ?_) | (refine gD 121 ?_; refine RGl.rdX (fun e hk => by (try dsimp only [bndR, ensR, oksR, fcutR, List.append_nil, List.nil_append, List.cons_append, List.append_assoc] at hk ⊢); exact ReadR.binE rfl rfl (BinR.remK (by omega) (by omega)) (congrArg (Value.int .u8) e18)) ?_) | (refine gD 122 ?_; refine RGl.rdX (fun e hk => by (try dsimp only [bndR, ensR, oksR, fcutR, List.append_nil, List.nil_append, List.cons_append, List.append_assoc] at hk ⊢); exact ReadR.conv rfl (wrapK (by simp only [kmin]; omega) (by simp only [kmax]; omega))) ?_) | (refine gD 123 ?_; refine RGl.rdX (fun e hk => by (try dsimp only [bndR, ensR, oksR, fcutR, List.append_nil, List.nil_append, List.cons_append, List.append_assoc] at hk ⊢); exact ReadR.binE rfl rfl (BinR.mulT hpr (by simp only [kmin]; omega) (by simp only [kmax]; omega)) rfl) ?_) | (refine gD 124 ?_; refine RGl.rdX (fun e hk => by (try dsimp only [bndR, ensR, oksR, fcutR, List.append_nil, List.nil_append, List.cons_append, List.append_assoc] at hk ⊢); exact ReadR.binE rfl rfl (BinR.addU (by omega) (by omega)) rfl) ?_) | (refine gD 125 ?_; refine RGl.rdX (fun e hk => by (try dsimp only [bndR, ensR, oksR, fcutR, List.append_nil, List.nil_append, List.cons_append, List.append_assoc] at hk ⊢); exact ReadR.binE rfl rfl BinR.gtr (congrArg Value.bool (decide_eq_false (show ¬ (bn : Int) + pr < w1 by omega)))) ?_) | (refine gOp ?_; first | refine RGl.rdA ?_ | refine RGl.rdX (fun e hk => by (try dsimp only [bndR, ensR, oksR, fcutR, List.append_nil, List.nil_append, List.cons_append, List.append_assoc] at hk ⊢); exact readB) ?_) | (refine RGl.fin (fun e hk => ?_); (try dsimp only [bndA, ensAR, oksA, List.append_nil, List.nil_append, List.cons_append, List.append_assoc] at hk ⊢); (repeat (obtain ⟨hk1, hk⟩ := hk))) | fail)
           | (refine isCond ?_; first | refine WPc.cT ?_ | refine WPc.cF ?_ | (refine WPc.cQ (fun hc => ?_) (fun hc => ?_) <;> try exact prA))
           | (refine isD 66 ?_; refine WPl.rdX (ReadR.binE rfl rfl BinR.neq (congrArg (fun q => Value.bool (!q)) (decide_eq_false (show ¬ (4 : Int) = 5 by omega)))) ?_)
           | (refine isD 70 ?_; refine WPl.rdX (ReadR.binE rfl rfl BinR.neq (congrArg (fun q => Value.bool (!q)) (decide_eq_true rfl))) ?_)
           | (refine isD 74 ?_; refine WPl.rdX (ReadR.indexE (i := i) rfl rfl hasA (by omega)) ?_)
           | (refine isD 75 ?_; refine WPl.rdX (ReadR.loadES (cs := gaC x) hat (by omega) rfl hasA) ?_)
           | (refine isC 76 ?_; refine WPl.cR c61 (fun v76 hv76 => ?_) (hΔ := Provs.cons (Prov.rdG1 memA hmem) Provs.nil))
           | (refine isD 78 ?_; refine WPl.rdX (ReadR.binE rfl rfl BinR.gtr (congrArg Value.bool (decide_eq_true (show (0 : Int) < (b.length : Int) by omega)))) ?_)
           | (refine isD 82 ?_; refine WPl.rdX (ReadR.indexE (i := i) rfl rfl hasA (by omega)) ?_)
           | (refine isD 83 ?_; refine WPl.rdX (ReadR.loadES (cs := gaC x) hat (by omega) rfl hasA) ?_)
           | (refine isC 84 ?_; refine WPl.cR c61 (fun v84 hv84 => ?_) (hΔ := Provs.cons (Prov.rdG1 memA hmem) Provs.nil))
           | (refine isD 85 ?_; refine WPl.rdX (ReadR.indexE1 (i := 0) rfl rfl hasA (by omega)) ?_)
           | (refine isD 86 ?_; refine WPl.rdX (ReadR.loadE rfl hasA hb86) ?_)
           | (refine isD 88 ?_; refine WPl.rdX (ReadR.binE rfl rfl BinR.eql (congrArg Value.bool (decide_eq_true (show ((byteN b 0 / 16 : Nat) : Int) = 6 by omega)))) ?_)
           | (refine isD 91 ?_; refine WPl.rdX (ReadR.indexR (i := 1) rfl rfl (by omega)) ?_)
           | (refine isD 97 ?_; refine WPl.rdX (ReadR.indexR (i := 1) rfl rfl (by omega)) ?_)
           | (refine isD 98 ?_; refine WPl.rdX (ReadR.indexR (i := 1) rfl rfl (by omega)) ?_)
           | (refine isD 101 ?_; refine WPl.rdX (ReadR.binE rfl rfl BinR.eql (congrArg Value.bool (decide_eq_false (show ¬ (4 : Int) = 5 by omega)))) ?_)
           | (refine isOp ?_; first | refine WPl.rd ?_ | refine WPl.sk ?_ | refine WPl.rdB ?_)
           | (refine isSt ?_; first | refine WPl.st1 ?_ | refine WPl.stA ?_ | refine WPl.stEB ?_ | refine WPl.stRB ?_)
           | fail)
          (try dsimp only [Nat.reduceAdd])
          exact WPq.rnd (⟨i + 1, now', s', all', tl', L', w0, w1, f0, (now' : Int), b0, true⟩ : GHS) ⟨by dsimp only; omega, hH⟩ (by dsimp only; omega)
        | true =>
          have hT := h.take1 (by omega) (by omega) n1 n2 hB' hJ' htl' ht
          simp only [if_true, Bool.false_eq_true, if_false] at hT
          obtain ⟨hH, hle⟩ := hT
          have hr := hH.r1
          have hr0 := h.r1
          have hm := mul_few (a := (now' : Int) - f1) (p := (pn : Int)) (by omega) (by omega) (by omega) (by omega)
          obtain ⟨pr, hpr⟩ : ∃ pr, ((now' : Int) - f1) * (pn : Int) = pr := ⟨_, rfl⟩
          rw [hpr] at hle hm
          repeat' (first
           | refine WPl.nil ?_ | refine WPq.then ?_ | refine WPq.blockN ?_ | refine WPc.seq ?_ | refine WPc.skip ?_ | refine WPc.region ?_
           | (refine isReg 19 ?_; refine WPc.drA [([], [110, 111, 112, 113, 114, 115, 116, 117, 118, 119, 120, 121, 122, 123, 124]), ([0], [107, 110, 111, 112, 113, 114, 115, 116, 117, 118, 119, 120, 121, 122, 123, 124]), ([0, 1], [107, 108, 110, 111, 112, 113, 114, 115, 116, 117, 118, 119, 120, 121, 122, 123, 124]), ([], [107, 108, 109, 115, 116, 117, 118, 119, 120, 121, 122, 123]), ([3], [107, 108, 109, 110, 115, 116, 117, 118, 119, 120, 121, 122, 123]), ([3, 4], [107, 108, 109, 110, 111, 115, 116, 117, 118, 119, 120, 121, 122, 123]), ([3, 4, 5], [107, 108, 109, 110, 111, 112, 115, 116, 117, 118, 119, 120, 121, 122, 123]), ([3, 4, 5, 6], [107, 108, 109, 110, 111, 112, 113, 115, 116, 117, 118, 119, 120, 121, 122, 123]), ([], [107, 108, 109, 110, 111, 112, 113, 114, 116, 117, 118, 120, 121, 122]), ([], [107, 108, 109, 110, 111, 112, 113, 114, 115, 120, 121, 122]), ([9], [107, 108, 109, 110, 111, 112, 113, 114, 115, 116, 120, 121, 122]), ([9, 10], [107, 108, 109, 110, 111, 112, 113, 114, 115, 116, 117, 120, 121, 122]), ([8, 9, 10, 11], [107, 108, 109, 110, 111, 112, 113, 114, 115, 116, 117, 118, 120, 121, 122]), ([], [107, 108, 109, 110, 111, 112, 113, 114, 115, 116, 117, 118, 119]), ([13], [107, 108, 109, 110, 111, 112, 113, 114, 115, 116, 117, 118, 119, 120]), ([13, 14], [107, 108, 109, 110, 111, 112, 113, 114, 115, 116, 117, 118, 119, 120, 121]), ([8, 9, 10, 11, 12, 13, 14, 15], [107, 108, 109, 110, 111, 112, 113, 114, 115, 116, 117, 118, 119, 120, 121, 122]), ([3, 4, 5, 6, 7, 8, 9, 10, 11, 12, 13, 14, 15, 16], [107, 108, 109, 110, 111, 112, 113, 114, 115, 116, 117, 118, 119, 120, 121, 122, 123]), ([0, 1, 2, 3, 4, 5, 6, 7, 8, 9, 10, 11, 12, 13, 14, 15, 16, 17], [107, 108, 109, 110, 111, 112, 113, 114, 115, 116, 117, 118, 119, 120, 121, 122, 123, 124])] [] (Γx := []) ?_; dsimp only [prev0, List.length_nil, List.length_cons])
           | (refine gAny ?_; first | (refine gD 108 ?_; refine RGl.rdX (fun e hk => by (try dsimp only [bndR, ensR, oksR, fcutR, List.append_nil, List.nil_append, List.cons_append, List.append_assoc] at hk ⊢); exact ReadR.indexR (i := 1) rfl rfl (by omega)) ?_) | (refine gD 111 ?_; refine RGl.rdX (fun e hk => by (try dsimp only [bndR, ensR, oksR, fcutR, List.append_nil, List.nil_append, List.cons_append, List.append_assoc] at hk ⊢); exact ReadR.binE rfl rfl (BinR.remK (by omega) (by omega)) (congrArg (Value.int .u8) e21)) ?_) | (refine gD 112 ?_; refine RGl.rdX (fun e hk => by (try dsimp only [bndR, ensR, oksR, fcutR, List.append_nil, List.nil_append, List.cons_append, List.append_assoc] at hk ⊢); exact ReadR.conv rfl (wrapK (by simp only [kmin]; omega) (by simp only [kmax]; omega))) ?_) | (refine gD 113 ?_; refine RGl.rdX (fun e hk => by (try dsimp only [bndR, ensR, oksR, fcutR, List.append_nil, List.nil_append, List.cons_append, List.append_assoc] at hk ⊢); exact ReadR.binE rfl rfl (BinR.addI (by omega) (by omega)) (congrArg (Value.int .i64) e23)) ?_) | (refine gD 114 ?_; refine RGl.rdX (fun e hk => by (try dsimp only [bndR, ensR, oksR, fcutR, List.append_nil, List.nil_append, List.cons_append, List.append_assoc] at hk ⊢); exact ReadR.conv rfl (wrapK (by simp only [kmin]; omega) (by simp only [kmax]; omega))) ?_) | (refine gD 117 ?_; refine RGl.rdX (fun e hk => by (try dsimp only [bndR, ensR, oksR, fcutR, List.append_nil, List.nil_append, List.cons_append, List.append_assoc] at hk ⊢); exact ReadR.indexR (i := 1) rfl rfl (by omega)) ?_) | (refine gD 119 ?_; refine RGl.rdX (fun e hk => by (try dsimp only [bndR, ensR, oksR, fcutR, List.append_nil, List.nil_append, List.cons_append, List.append_assoc] at hk ⊢); exact ReadR.binE rfl rfl (BinR.subU (by omega) (by omega)) rfl) ?_) | (refine gD 121 ?_; refine RGl.rdX (fun e hk => by (try dsimp only [bndR, ensR, oksR, fcutR, List.append_nil, List.nil_append, List.cons_append, List.append_assoc] at hk ⊢); exact ReadR.binE rfl rfl (BinR.remK (by omega) (by omega)) (congrArg (Value.int .u8) e18)) ?_) | (refine gD 122 ?_; refine RGl.rdX (fun e hk => by (try dsimp only [bndR, ensR, oksR, fcutR, List.append_nil, List.nil_append, List.cons_append, List.append_assoc] at hk ⊢); exact ReadR.conv rfl (wrapK (by simp only [kmin]; omega) (by simp only [kmax]; omega))) ?_) | (refine gD 123 ?_; refine RGl.rdX (fun e hk => by (try dsimp only [bndR, ensR, oksR, fcutR, List.append_nil, List.nil_append, List.cons_append, List.append_assoc] at hk ⊢); exact ReadR.binE rfl rfl (BinR.mulT hpr (by simp only [kmin]; omega) (by simp only [kmax]; omega)) rfl) ?_) | (refine gD 124 ?_; refine RGl.rdX (fun e hk => by (try dsimp only [bndR, ensR, oksR, fcutR, List.append_nil, List.nil_append, List.cons_append, List.append_assoc] at hk ⊢); exact ReadR.binE rfl rfl (BinR.addU (by omega) (by omega)) rfl) ?_) | (refine gD 125 ?_; refine RGl.rdX (fun e hk => by (try dsimp only [bndR, ensR, oksR, fcutR, List.append_nil, List.nil_append, List.cons_append, List.append_assoc] at hk ⊢); exact ReadR.binE rfl rfl BinR.gtr (congrArg Value.bool (decide_eq_false (show ¬ (bn : Int) + pr < w1 by omega)))) ?_) | (refine gOp ?_; first | refine RGl.rdA ?_ | refine RGl.rdX (fun e hk => by (try dsimp only [bndR, ensR, oksR, fcutR, List.append_nil, List.nil_append, List.cons_append, List.append_assoc] at hk ⊢); exact readB) ?_) | (refine RGl.fin (fun e hk => ?_); (try dsimp only [bndA, ensAR, oksA, List.append_nil, List.nil_append, List.cons_append, List.append_assoc] at hk ⊢); (repeat (obtain ⟨hk1, hk⟩ := hk))) | fail)
           | (refine isCond ?_; first | refine WPc.cT ?_ | refine WPc.cF ?_ | (refine WPc.cQ (fun hc => ?_) (fun hc => ?_) <;> try exact prA))
           | (refine isD 66 ?_; refine WPl.rdX (ReadR.binE rfl rfl BinR.neq (congrArg (fun q => Value.bool (!q)) (decide_eq_false (show ¬ (4 : Int) = 5 by omega)))) ?_)
           | (refine isD 70 ?_; refine WPl.rdX (ReadR.binE rfl rfl BinR.neq (congrArg (fun q => Value.bool (!q)) (decide_eq_true rfl))) ?_)
           | (refine isD 74 ?_; refine WPl.rdX (ReadR.indexE (i := i) rfl rfl hasA (by omega)) ?_)
           | (refine isD 75 ?_; refine WPl.rdX (ReadR.loadES (cs := gaC x) hat (by omega) rfl hasA) ?_)
           | (refine isC 76 ?_; refine WPl.cR c61 (fun v76 hv76 => ?_) (hΔ := Provs.cons (Prov.rdG1 memA hmem) Provs.nil))
           | (refine isD 78 ?_; refine WPl.rdX (ReadR.binE rfl rfl BinR.gtr (congrArg Value.bool (decide_eq_true (show (0 : Int) < (b.length : Int) by omega)))) ?_)
           | (refine isD 82 ?_; refine WPl.rdX (ReadR.indexE (i := i) rfl rfl hasA (by omega)) ?_)
           | (refine isD 83 ?_; refine WPl.rdX (ReadR.loadES (cs := gaC x) hat (by omega) rfl hasA) ?_)
           | (refine isC 84 ?_; refine WPl.cR c61 (fun v84 hv84 => ?_) (hΔ := Provs.cons (Prov.rdG1 memA hmem) Provs.nil))
           | (refine isD 85 ?_; refine WPl.rdX (ReadR.indexE1 (i := 0) rfl rfl hasA (by omega)) ?_)
           | (refine isD 86 ?_; refine WPl.rdX (ReadR.loadE rfl hasA hb86) ?_)
           | (refine isD 88 ?_; refine WPl.rdX (ReadR.binE rfl rfl BinR.eql (congrArg Value.bool (decide_eq_true (show ((byteN b 0 / 16 : Nat) : Int) = 6 by omega)))) ?_)
           | (refine isD 91 ?_; refine WPl.rdX (ReadR.indexR (i := 1) rfl rfl (by omega)) ?_)
           | (refine isD 101 ?_; refine WPl.rdX (ReadR.binE rfl rfl BinR.eql (congrArg Value.bool (decide_eq_false (show ¬ (4 : Int) = 5 by omega)))) ?_)
           | (refine isOp ?_; first | refine WPl.rd ?_ | refine WPl.sk ?_ | refine WPl.rdB ?_)
           | (refine isSt ?_; first | refine WPl.st1 ?_ | refine WPl.stA ?_ | refine WPl.stEB ?_ | refine WPl.stRB ?_)
           | fail)
          (try dsimp only [Nat.reduceAdd])
          exact WPq.rnd (⟨i + 1, now', s', all', tl', L', w0, w1, f0, f1, b0, true⟩ : GHS) ⟨by dsimp only; omega, hH⟩ (by dsimp only; omega)
      | true =>
        cases b1 with
        | false =>
          have hT := h.take1 (by omega) (by omega) n1 n2 hB' hJ' htl' ht
          simp only [if_true, Bool.false_eq_true, if_false] at hT
          obtain ⟨hH, hle⟩ := hT
          have hr := hH.r1
          have hr0 := h.r1
          have hm := mul_few (a := (now' : Int) - (now' : Int)) (p := (pn : Int)) (by omega) (by omega) (by omega) (by omega)
          obtain ⟨pr, hpr⟩ : ∃ pr, ((now' : Int) - (now' : Int)) * (pn : Int) = pr := ⟨_, rfl⟩
          rw [hpr] at hle hm
          repeat' (first
           | refine WPl.nil ?_ | refine WPq.then ?_ | refine WPq.blockN ?_ | refine WPc.seq ?_ | refine WPc.skip ?_ | refine WPc.region ?_
           | (refine isReg 19 ?_; refine WPc.drA [([], [110, 111, 112, 113, 114, 115, 116, 117, 118, 119, 120, 121, 122, 123, 124]), ([0], [107, 110, 111, 112, 113, 114, 115, 116, 117, 118, 119, 120, 121, 122, 123, 124]), ([0, 1], [107, 108, 110, 111, 112, 113, 114, 115, 116, 117, 118, 119, 120, 121, 122, 123, 124]), ([], [107, 108, 109, 115, 116, 117, 118, 119, 120, 121, 122, 123]), ([3], [107, 108, 109, 110, 115, 116, 117, 118, 119, 120, 121, 122, 123]), ([3, 4], [107, 108, 109, 110, 111, 115, 116, 117, 118, 119, 120, 121, 122, 123]), ([3, 4, 5], [107, 108, 109, 110, 111, 112, 115, 116, 117, 118, 119, 120, 121, 122, 123]), ([3, 4, 5, 6], [107, 108, 109, 110, 111, 112, 113, 115, 116, 117, 118, 119, 120, 121, 122, 123]), ([], [107, 108, 109, 110, 111, 112, 113, 114, 116, 117, 118, 120, 121, 122]), ([], [107, 108, 109, 110, 111, 112, 113, 114, 115, 120, 121, 122]), ([9], [107, 108, 109, 110, 111, 112, 113, 114, 115, 116, 120, 121, 122]), ([9, 10], [107, 108, 109, 110, 111, 112, 113, 114, 115, 116, 117, 120, 121, 122]), ([8, 9, 10, 11], [107, 108, 109, 110, 111, 112, 113, 114, 115, 116, 117, 118, 120, 121, 122]), ([], [107, 108, 109, 110, 111, 112, 113, 114, 115, 116, 117, 118, 119]), ([13], [107, 108, 109, 110, 111, 112, 113, 114, 115, 116, 117, 118, 119, 120]), ([13, 14], [107, 108, 109, 110, 111, 112, 113, 114, 115, 116, 117, 118, 119, 120, 121]), ([8, 9, 10, 11, 12, 13, 14, 15], [107, 108, 109, 110, 111, 112, 113, 114, 115, 116, 117, 118, 119, 120, 121, 122]), ([3, 4, 5, 6, 7, 8, 9, 10, 11, 12, 13, 14, 15, 16], [107, 108, 109, 110, 111, 112, 113, 114, 115, 116, 117, 118, 119, 120, 121, 122, 123]), ([0, 1, 2, 3, 4, 5, 6, 7, 8, 9, 10, 11, 12, 13, 14, 15, 16, 17], [107, 108, 109, 110, 111, 112, 113, 114, 115, 116, 117, 118, 119, 120, 121, 122, 123, 124])] [] (Γx := []) ?_; dsimp only [prev0, List.length_nil, List.length_cons])
           | (refine gAny ?_; first | (refine gD 108 ?_; refine RGl.rdX (fun e hk => by (try dsimp only [bndR, ensR, oksR, fcutR, List.append_nil, List.nil_append, List.cons_append, List.append_assoc] at hk ⊢); exact ReadR.indexR (i := 1) rfl rfl (by omega)) ?_) | (refine gD 111 ?_; refine RGl.rdX (fun e hk => by (try dsimp only [bndR, ensR, oksR, fcutR, List.append_nil, List.nil_append, List.cons_append, List.append_assoc] at hk ⊢); exact ReadR.binE rfl rfl (BinR.remK (by omega) (by omega)) (congrArg (Value.int .u8) e21)) ?_) | (refine gD 112 ?_; refine RGl.rdX (fun e hk => by (try dsimp only [bndR, ensR, oksR, fcutR, List.append_nil, List.nil_append, List.cons_append, List.append_assoc] at hk ⊢); exact ReadR.conv rfl (wrapK (by simp only [kmin]; omega) (by simp only [kmax]; omega))) ?_) | (refine gD 113 ?_; refine RGl.rdX (fun e hk => by (try dsimp only [bndR, ensR, oksR, fcutR, List.append_nil, List.nil_append, List.cons_append, List.append_assoc] at hk ⊢); exact ReadR.binE rfl rfl (BinR.addI (by omega) (by omega)) (congrArg (Value.int .i64) e23)) ?_) | (refine gD 114 ?_; refine RGl.rdX (fun e hk => by (try dsimp only [bndR, ensR, oksR, fcutR, List.append_nil, List.nil_append, List.cons_append, List.append_assoc] at hk ⊢); exact ReadR.conv rfl (wrapK (by simp only [kmin]; omega) (by simp only [kmax]; omega))) ?_) | (refine gD 117 ?_; refine RGl.rdX (fun e hk => by (try dsimp only [bndR, ensR, oksR, fcutR, List.append_nil, List.nil_append, List.cons_append, List.append_assoc] at hk ⊢); exact ReadR.indexR (i := 1) rfl rfl (by omega)) ?_) | (refine gD 119 ?_; refine RGl.rdX (fun e hk => by (try dsimp only [bndR, ensR, oksR, fcutR, List.append_nil, List.nil_append, List.cons_append, List.append_assoc] at hk ⊢); exact ReadR.binE rfl rfl (BinR.subU (by omega) (by omega)) rfl) ?_) | (refine gD 121 ?_; refine RGl.rdX (fun e hk => by (try dsimp only [bndR, ensR, oksR, fcutR, List.append_nil, List.nil_append, List.cons_append, List.append_assoc] at hk ⊢); exact ReadR.binE rfl rfl (BinR.remK (by omega) (by omega)) (congrArg (Value.int .u8) e18)) ?_) | (refine gD 122 ?_; refine RGl.rdX (fun e hk => by (try dsimp only [bndR, ensR, oksR, fcutR, List.append_nil, List.nil_append, List.cons_append, List.append_assoc] at hk ⊢); exact ReadR.conv rfl (wrapK (by simp only [kmin]; omega) (by simp only [kmax]; omega))) ?_) | (refine gD 123 ?_; refine RGl.rdX (fun e hk => by (try dsimp only [bndR, ensR, oksR, fcutR, List.append_nil, List.nil_append, List.cons_append, List.append_assoc] at hk ⊢); exact ReadR.binE rfl rfl (BinR.mulT hpr (by simp only [kmin]; omega) (by simp only [kmax]; omega)) rfl) ?_) | (refine gD 124 ?_; refine RGl.rdX (fun e hk => by (try dsimp only [bndR, ensR, oksR, fcutR, List.append_nil, List.nil_append, List.cons_append, List.append_assoc] at hk ⊢); exact ReadR.binE rfl rfl (BinR.addU (by omega) (by omega)) rfl) ?_) | (refine gD 125 ?_; refine RGl.rdX (fun e hk => by (try dsimp only [bndR, ensR, oksR, fcutR, List.append_nil, List.nil_append, List.cons_append, List.append_assoc] at hk ⊢); exact ReadR.binE rfl rfl BinR.gtr (congrArg Value.bool (decide_eq_false (show ¬ (bn : Int) + pr < w1 + 1 by omega)))) ?_) | (refine gOp ?_; first | refine RGl.rdA ?_ | refine RGl.rdX (fun e hk => by (try dsimp only [bndR, ensR, oksR, fcutR, List.append_nil, List.nil_append, List.cons_append, List.append_assoc] at hk ⊢); exact readB) ?_) | (refine RGl.fin (fun e hk => ?_); (try dsimp only [bndA, ensAR, oksA, List.append_nil, List.nil_append, List.cons_append, List.append_assoc] at hk ⊢); (repeat (obtain ⟨hk1, hk⟩ := hk))) | fail)
           | (refine isCond ?_; first | refine WPc.cT ?_ | refine WPc.cF ?_ | (refine WPc.cQ (fun hc => ?_) (fun hc => ?_) <;> try exact prA))
           | (refine isD 66 ?_; refine WPl.rdX (ReadR.binE rfl rfl BinR.neq (congrArg (fun q => Value.bool (!q)) (decide_eq_true rfl))) ?_)
           | (refine isD 74 ?_; refine WPl.rdX (ReadR.indexE (i := i) rfl rfl hasA (by omega)) ?_)
           | (refine isD 75 ?_; refine WPl.rdX (ReadR.loadES (cs := gaC x) hat (by omega) rfl hasA) ?_)
           | (refine isC 76 ?_; refine WPl.cR c61 (fun v76 hv76 => ?_) (hΔ := Provs.cons (Prov.rdG1 memA hmem) Provs.nil))
           | (refine isD 78 ?_; refine WPl.rdX (ReadR.binE rfl rfl BinR.gtr (congrArg Value.bool (decide_eq_true (show (0 : Int) < (b.length : Int) by omega)))) ?_)
           | (refine isD 82 ?_; refine WPl.rdX (ReadR.indexE (i := i) rfl rfl hasA (by omega)) ?_)
           | (refine isD 83 ?_; refine WPl.rdX (ReadR.loadES (cs := gaC x) hat (by omega) rfl hasA) ?_)
           | (refine isC 84 ?_; refine WPl.cR c61 (fun v84 hv84 => ?_) (hΔ := Provs.cons (Prov.rdG1 memA hmem) Provs.nil))
           | (refine isD 85 ?_; refine WPl.rdX (ReadR.indexE1 (i := 0) rfl rfl hasA (by omega)) ?_)
           | (refine isD 86 ?_; refine WPl.rdX (ReadR.loadE rfl hasA hb86) ?_)
           | (refine isD 88 ?_; refine WPl.rdX (ReadR.binE rfl rfl BinR.eql (congrArg Value.bool (decide_eq_true (show ((byteN b 0 / 16 : Nat) : Int) = 6 by omega)))) ?_)
           | (refine isD 91 ?_; refine WPl.rdX (ReadR.indexR (i := 1) rfl rfl (by omega)) ?_)
           | (refine isD 97 ?_; refine WPl.rdX (ReadR.indexR (i := 1) rfl rfl (by omega)) ?_)
           | (refine isD 98 ?_; refine WPl.rdX (ReadR.indexR (i := 1) rfl rfl (by omega)) ?_)
           | (refine isD 101 ?_; refine WPl.rdX (ReadR.binE rfl rfl BinR.eql (congrArg Value.bool (decide_eq_true rfl))) ?_)
           | (refine isD 103 ?_; refine WPl.rdX (ReadR.indexR (i := 1) rfl rfl (by omega)) ?_)
           | (refine isD 105 ?_; refine WPl.rdX (ReadR.binE rfl rfl (BinR.addU (by omega) (by omega)) rfl) ?_)
           | (refine isD 106 ?_; refine WPl.rdX (ReadR.indexR (i := 1) rfl rfl (by omega)) ?_)
           | (refine isOp ?_; first | refine WPl.rd ?_ | refine WPl.sk ?_ | refine WPl.rdB ?_)
           | (refine isSt ?_; first | refine WPl.st1 ?_ | refine WPl.stA ?_ | refine WPl.stEB ?_ | refine WPl.stRB ?_)
           | fail)
          (try dsimp only [Nat.reduceAdd])
          exact WPq.rnd (⟨i + 1, now', s', all', tl', L', w0, w1 + 1, f0, (now' : Int), b0, true⟩ : GHS) ⟨by dsimp only; omega, hH⟩ (by dsimp only; omega)
        | true =>
          have hT := h.take1 (by omega) (by omega) n1 n2 hB' hJ' htl' ht
          simp only [if_true, Bool.false_eq_true, if_false] at hT
          obtain ⟨hH, hle⟩ := hT
          have hr := hH.r1
          have hr0 := h.r1
          have hm := mul_few (a := (now' : Int) - f1) (p := (pn : Int)) (by omega) (by omega) (by omega) (by omega)
          obtain ⟨pr, hpr⟩ : ∃ pr, ((now' : Int) - f1) * (pn : Int) = pr := ⟨_, rfl⟩
          rw [hpr] at hle hm
          repeat' (first
           | refine WPl.nil ?_ | refine WPq.then ?_ | refine WPq.blockN ?_ | refine WPc.seq ?_ | refine WPc.skip ?_ | refine WPc.region ?_
           | (refine isReg 19 ?_; refine WPc.drA [([], [110, 111, 112, 113, 114, 115, 116, 117, 118, 119, 120, 121, 122, 123, 124]), ([0], [107, 110, 111, 112, 113, 114, 115, 116, 117, 118, 119, 120, 121, 122, 123, 124]), ([0, 1], [107, 108, 110, 111, 112, 113, 114, 115, 116, 117, 118, 119, 120, 121, 122, 123, 124]), ([], [107, 108, 109, 115, 116, 117, 118, 119, 120, 121, 122, 123]), ([3], [107, 108, 109, 110, 115, 116, 117, 118, 119, 120, 121, 122, 123]), ([3, 4], [107, 108, 109, 110, 111, 115, 116, 117, 118, 119, 120, 121, 122, 123]), ([3, 4, 5], [107, 108, 109, 110, 111, 112, 115, 116, 117, 118, 119, 120, 121, 122, 123]), ([3, 4, 5, 6], [107, 108, 109, 110, 111, 112, 113, 115, 116, 117, 118, 119, 120, 121, 122, 123]), ([], [107, 108, 109, 110, 111, 112, 113, 114, 116, 117, 118, 120, 121, 122]), ([], [107, 108, 109, 110, 111, 112, 113, 114, 115, 120, 121, 122]), ([9], [107, 108, 109, 110, 111, 112, 113, 114, 115, 116, 120, 121, 122]), ([9, 10], [107, 108, 109, 110, 111, 112, 113, 114, 115, 116, 117, 120, 121, 122]), ([8, 9, 10, 11], [107, 108, 109, 110, 111, 112, 113, 114, 115, 116, 117, 118, 120, 121, 122]), ([], [107, 108, 109, 110, 111, 112, 113, 114, 115, 116, 117, 118, 119]), ([13], [107, 108, 109, 110, 111, 112, 113, 114, 115, 116, 117, 118, 119, 120]), ([13, 14], [107, 108, 109, 110, 111, 112, 113, 114, 115, 116, 117, 118, 119, 120, 121]), ([8, 9, 10, 11, 12, 13, 14, 15], [107, 108, 109, 110, 111, 112, 113, 114, 115, 116, 117, 118, 119, 120, 121, 122]), ([3, 4, 5, 6, 7, 8, 9, 10, 11, 12, 13, 14, 15, 16], [107, 108, 109, 110, 111, 112, 113, 114, 115, 116, 117, 118, 119, 120, 121, 122, 123]), ([0, 1, 2, 3, 4, 5, 6, 7, 8, 9, 10, 11, 12, 13, 14, 15, 16, 17], [107, 108, 109, 110, 111, 112, 113, 114, 115, 116, 117, 118, 119, 120, 121, 122, 123, 124])] [] (Γx := []) ?_; dsimp only [prev0, List.length_nil, List.length_cons])
           | (refine gAny ?_; first | (refine gD 108 ?_; refine RGl.rdX (fun e hk => by (try dsimp only [bndR, ensR, oksR, fcutR, List.append_nil, List.nil_append, List.cons_append, List.append_assoc] at hk ⊢); exact ReadR.indexR (i := 1) rfl rfl (by omega)) ?_) | (refine gD 111 ?_; refine RGl.rdX (fun e hk => by (try dsimp only [bndR, ensR, oksR, fcutR, List.append_nil, List.nil_append, List.cons_append, List.append_assoc] at hk ⊢); exact ReadR.binE rfl rfl (BinR.remK (by omega) (by omega)) (congrArg (Value.int .u8) e21)) ?_) | (refine gD 112 ?_; refine RGl.rdX (fun e hk => by (try dsimp only [bndR, ensR, oksR, fcutR, List.append_nil, List.nil_append, List.cons_append, List.append_assoc] at hk ⊢); exact ReadR.conv rfl (wrapK (by simp only [kmin]; omega) (by simp only [kmax]; omega))) ?_) | (refine gD 113 ?_; refine RGl.rdX (fun e hk => by (try dsimp only [bndR, ensR, oksR, fcutR, List.append_nil, List.nil_append, List.cons_append, List.append_assoc] at hk ⊢); exact ReadR.binE rfl rfl (BinR.addI (by omega) (by omega)) (congrArg (Value.int .i64) e23)) ?_) | (refine gD 114 ?_; refine RGl.rdX (fun e hk => by (try dsimp only [bndR, ensR, oksR, fcutR, List.append_nil, List.nil_append, List.cons_append, List.append_assoc] at hk ⊢); exact ReadR.conv rfl (wrapK (by simp only [kmin]; omega) (by simp only [kmax]; omega))) ?_) | (refine gD 117 ?_; refine RGl.rdX (fun e hk => by (try dsimp only [bndR, ensR, oksR, fcutR, List.append_nil, List.nil_append, List.cons_append, List.append_assoc] at hk ⊢); exact ReadR.indexR (i := 1) rfl rfl (by omega)) ?_) | (refine gD 119 ?_; refine RGl.rdX (fun e hk => by (try dsimp only [bndR, ensR, oksR, fcutR, List.append_nil, List.nil_append, List.cons_append, List.append_assoc] at hk ⊢); exact ReadR.binE rfl rfl (BinR.subU (by omega) (by omega)) rfl) ?_) | (refine gD 121 ?_; refine RGl.rdX (fun e hk => by (try dsimp only [bndR, ensR, oksR, fcutR, List.append_nil, List.nil_append, List.cons_append, List.append_assoc] at hk ⊢); exact ReadR.binE rfl rfl (BinR.remK (by omega) (by omega)) (congrArg (Value.int .u8) e18)) ?_) | (refine gD 122 ?_; refine RGl.rdX (fun e hk => by (try dsimp only [bndR, ensR, oksR, fcutR, List.append_nil, List.nil_append, List.cons_append, List.append_assoc] at hk ⊢); exact ReadR.conv rfl (wrapK (by simp only [kmin]; omega) (by simp only [kmax]; omega))) ?_) | (refine gD 123 ?_; refine RGl.rdX (fun e hk => by (try dsimp only [bndR, ensR, oksR, fcutR, List.append_nil, List.nil_append, List.cons_append, List.append_assoc] at hk ⊢); exact ReadR.binE rfl rfl (BinR.mulT hpr (by simp only [kmin]; omega) (by simp only [kmax]; omega)) rfl) ?_) | (refine gD 124 ?_; refine RGl.rdX (fun e hk => by (try dsimp only [bndR, ensR, oksR, fcutR, List.append_nil, List.nil_append, List.cons_append, List.append_assoc] at hk ⊢); exact ReadR.binE rfl rfl (BinR.addU (by omega) (by omega)) rfl) ?_) | (refine gD 125 ?_; refine RGl.rdX (fun e hk => by (try dsimp only [bndR, ensR, oksR, fcutR, List.append_nil, List.nil_append, List.cons_append, List.append_assoc] at hk ⊢); exact ReadR.binE rfl rfl BinR.gtr (congrArg Value.bool (decide_eq_false (show ¬ (bn : Int) + pr < w1 + 1 by omega)))) ?_) | (refine gOp ?_; first | refine RGl.rdA ?_ | refine RGl.rdX (fun e hk => by (try dsimp only [bndR, ensR, oksR, fcutR, List.append_nil, List.nil_append, List.cons_append, List.append_assoc] at hk ⊢); exact readB) ?_) | (refine RGl.fin (fun e hk => ?_); (try dsimp only [bndA, ensAR, oksA, List.append_nil, List.nil_append, List.cons_append, List.append_assoc] at hk ⊢); (repeat (obtain ⟨hk1, hk⟩ := hk))) | fail)
           | (refine isCond ?_; first | refine WPc.cT ?_ | refine WPc.cF ?_ | (refine WPc.cQ (fun hc => ?_) (fun hc => ?_) <;> try exact prA))
           | (refine isD 66 ?_; refine WPl.rdX (ReadR.binE rfl rfl BinR.neq (congrArg (fun q => Value.bool (!q)) (decide_eq_true rfl))) ?_)
           | (refine isD 74 ?_; refine WPl.rdX (ReadR.indexE (i := i) rfl rfl hasA (by omega)) ?_)
           | (refine isD 75 ?_; refine WPl.rdX (ReadR.loadES (cs := gaC x) hat (by omega) rfl hasA) ?_)
           | (refine isC 76 ?_; refine WPl.cR c61 (fun v76 hv76 => ?_) (hΔ := Provs.cons (Prov.rdG1 memA hmem) Provs.nil))
           | (refine isD 78 ?_; refine WPl.rdX (ReadR.binE rfl rfl BinR.gtr (congrArg Value.bool (decide_eq_true (show (0 : Int) < (b.length : Int) by omega)))) ?_)
           | (refine isD 82 ?_; refine WPl.rdX (ReadR.indexE (i := i) rfl rfl hasA (by omega)) ?_)
           | (refine isD 83 ?_; refine WPl.rdX (ReadR.loadES (cs := gaC x) hat (by omega) rfl hasA) ?_)
           | (refine isC 84 ?_; refine WPl.cR c61 (fun v84 hv84 => ?_) (hΔ := Provs.cons (Prov.rdG1 memA hmem) Provs.nil))
           | (refine isD 85 ?_; refine WPl.rdX (ReadR.indexE1 (i := 0) rfl rfl hasA (by omega)) ?_)
           | (refine isD 86 ?_; refine WPl.rdX (ReadR.loadE rfl hasA hb86) ?_)
           | (refine isD 88 ?_; refine WPl.rdX (ReadR.binE rfl rfl BinR.eql (congrArg Value.bool (decide_eq_true (show ((byteN b 0 / 16 : Nat) : Int) = 6 by omega)))) ?_)
           | (refine isD 91 ?_; refine WPl.rdX (ReadR.indexR (i := 1) rfl rfl (by omega)) ?_)
           | (refine isD 101 ?_; refine WPl.rdX (ReadR.binE rfl rfl BinR.eql (congrArg Value.bool (decide_eq_true rfl))) ?_)
           | (refine isD 103 ?_; refine WPl.rdX (ReadR.indexR (i := 1) rfl rfl (by omega)) ?_)
           | (refine isD 105 ?_; refine WPl.rdX (ReadR.binE rfl rfl (BinR.addU (by omega) (by omega)) rfl) ?_)
           | (refine isD 106 ?_; refine WPl.rdX (ReadR.indexR (i := 1) rfl rfl (by omega)) ?_)
           | (refine isOp ?_; first | refine WPl.rd ?_ | refine WPl.sk ?_ | refine WPl.rdB ?_)
           | (refine isSt ?_; first | refine WPl.st1 ?_ | refine WPl.stA ?_ | refine WPl.stEB ?_ | refine WPl.stRB ?_)
           | fail)
          (try dsimp only [Nat.reduceAdd])
          exact WPq.rnd (⟨i + 1, now', s', all', tl', L', w0, w1 + 1, f0, f1, b0, true⟩ : GHS) ⟨by dsimp only; omega, hH⟩ (by dsimp only; omega)
end Go.Proofs.YtpilenbdimhegaaGreatDoor
/- A list of packets that come (law 42), opened. -/
namespace Go.Proofs.YtpilenbdimhegaaGreatDoor
open Go.ChangeShapes Go.WideShapes Go.ChangeAt Go.RowKit
set_option linter.unusedVariables false
section
variable {H : Type} {enc : TypeId × Value → H} {P : Program} {W : World}
theorem open_gas {v : Value} {d : DataW H} {p : List MemPlace} {base : Nat} {t e : TypeId} (ht : P.underlying t = some (.slice e)) (hk : flatV P 8 e = some gaKs) (hc : P.cellsOf e = 43) (hval : Value.okWide P W .any base t v)
    (h : DataW.Trod enc P W 0 (fun _ => true) true t v d p) : ∃ R : List GA, (rdN v R.length (gas R)).holds W ∧ (rdG R).holds W ∧ ∀ r ∈ R, gaW r := by
  obtain ⟨l, h1, h2⟩ := open_listV (q := fun r : GA => gaW r ∧ (rb r.v r.d).holds W) gaC (fun es he => by
    obtain ⟨x, h1, h2, h3, h4, h5⟩ := fits_ga he
    exact ⟨x, h1, ⟨h2, h3, h4⟩, h5⟩) 8 ht hk hc (by decide) hval h
  exact ⟨l, h1, fun r hr => (h2 r hr).2, fun r hr => (h2 r hr).1⟩
end
end Go.Proofs.YtpilenbdimhegaaGreatDoor
/- Closed facts of the program, each once. -/
namespace Go.Proofs.YtpilenbdimhegaaGreatDoor
open Go.ChangeShapes Go.WideShapes Go.ChangeAt Go.RowKit
theorem Tryz.enters : Tryz.prog.mayEnter = true := by kernel_rfl
theorem Tryz.lifts : (Rows.gateNoneRow.lifted == Tryz.prog.liftsFinal) = true := by kernel_rfl
theorem Tryz.made : (Tryz.prog.make == some Rows.gateNoneRow.make) = true := by kernel_rfl
theorem lifts_of {x} (h : Rows.gateNoneRow.lifted = x) : (x == Tryz.prog.liftsFinal) = true := h ▸ Tryz.lifts
theorem made_of {x} (h : Rows.gateNoneRow.make = x) : (Tryz.prog.make == some x) = true := h ▸ Tryz.made
end Go.Proofs.YtpilenbdimhegaaGreatDoor
