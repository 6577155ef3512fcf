/- Layer 21 (health): what lives; what is reported of others. -/
import Derived.Test.YtnkhcdmkkcpheaaHf
namespace Go.Proofs.Ytnkhcdmkkcpheaa
open Go.RowKit
set_option linter.unusedSimpArgs false
set_option linter.unusedVariables false
set_option maxRecDepth 20000
set_option maxHeartbeats 4000000
attribute [local irreducible] WPc WPl WPq ReadR OpT BinR HasS bx rdN rowN Take Takes Prov Triple ResF BuildP Done ag Int.decLt Int.decLe Int.instDecidableEq
theorem mget_nil {k : Int × Int} : mget whoM [] k = (false, 0) := rfl
theorem mget_same {L : HL} {k : Int × Int} {s : Bool × Int} : mget whoM (mput L k s) k = s := by rw [mget_put, if_pos rfl]
theorem i64_1 : in64 1 := by unfold in64; omega
theorem i64_2 : in64 2 := by unfold in64; omega
abbrev repC (x : Int × Int × Int) : Ch := [(1, [.int .i64 x.1]), (1, [.int .i64 x.2.1]), (1, [.int .i64 x.2.2])]
theorem repC_len (x : Int × Int × Int) : (flat (repC x)).length = 3 := rfl
attribute [local irreducible] mput mget mfind
theorem hlives_t : Triple Try.prog 20 #[] [] (RVal (.bool true)) := by
  have c0 := hnew_t 1 2 (by omega) (by omega)
  obtain ⟨L1, h1⟩ : ∃ L1, L1 = mput ([] : HL) (1, 2) (false, 1) := ⟨_, rfl⟩
  have c1 := fun gh m => hreport_t gh m 1 2 1 2 false [] (false, 1) false (by rw [mget_nil]; decide +kernel) i64_1 i64_2
  have e1 : mget whoM L1 (1, 2) = (false, 1) := by rw [h1, mget_same]
  rw [← h1] at c1
  obtain ⟨L2, h2⟩ : ∃ L2, L2 = mput L1 (1, 2) (true, 0) := ⟨_, rfl⟩
  have c2 := fun gh m => hreport_t gh m 1 2 1 2 false L1 (true, 0) true (by rw [e1]; decide +kernel) i64_1 i64_2
  have e2 : mget whoM L2 (1, 2) = (true, 0) := by rw [h2, mget_same]
  rw [← h2] at c2
  obtain ⟨L3, h3⟩ : ∃ L3, L3 = mput L2 (1, 2) (false, 0) := ⟨_, rfl⟩
  have c3 := fun gh m => hup_t gh m 1 2 1 2 L2 i64_1 i64_2
  rw [e2] at c3
  have c4 := fun gh m => hreport_t gh m 1 2 1 2 true L2 (false, 0) true (by rw [e2]; decide +kernel) i64_1 i64_2
  have e3 : mget whoM L3 (1, 2) = (false, 0) := by rw [h3, mget_same]
  rw [← h3] at c4
  have c5 := fun gh m => hup_t gh m 1 2 1 2 L3 i64_1 i64_2
  rw [e3] at c5
  clear h1 h2 h3 e1 e2 e3
  refine Triple.enter Try.func20 rfl Try.ntmps20 rfl (fun W => ?_)
  dsimp only [argsF, Nat.reduceAdd]
  repeat' (first
   | refine WPl.nil ?_ | refine WPq.then ?_ | refine WPq.thenR ?_ | refine WPq.thenE ?_ | refine WPq.blockN ?_ | refine WPq.blockR ?_ | refine WPq.blockE ?_ | refine WPq.blockO rfl ?_ | refine WPc.seq ?_ | refine WPc.block ?_ | refine WPc.ret ?_ | refine WPc.exit ?_ | refine WPc.skip ?_ | refine WPc.region ?_
   | (refine isCond ?_; first | refine WPc.cT ?_ | refine WPc.cF ?_ | (refine WPc.cQ (fun hc => ?_) (fun hc => ?_) <;> try exact prA))
   | (refine isC 7 ?_; refine WPl.cXs (c0) fun v Γ1 hR => ?_; obtain ⟨gh, m, rfl, rfl⟩ := hR; (try dsimp only [putF, List.cons_append, List.nil_append]))
   | (refine isC 11 ?_; refine WPl.cTs (c1 _ _) ?_; (try dsimp only [putF, List.cons_append, List.nil_append]))
   | (refine isC 13 ?_; refine WPl.cTs (c2 _ _) ?_; (try dsimp only [putF, List.cons_append, List.nil_append]))
   | (refine isC 15 ?_; refine WPl.cTs (c3 _ _) ?_; (try dsimp only [putF, List.cons_append, List.nil_append]))
   | (refine isC 31 ?_; refine WPl.cTs (c4 _ _) ?_; (try dsimp only [putF, List.cons_append, List.nil_append]))
   | (refine isC 35 ?_; refine WPl.cTs (c5 _ _) ?_; (try dsimp only [putF, List.cons_append, List.nil_append]))
   | (refine isOp ?_; first | refine WPl.rd ?_ | refine WPl.sk ?_ | refine WPl.rdB ?_)
   | (refine WPl.spQ (fun hc => ?_) (fun hc => ?_) <;> try exact prA)
   | fail)
  all_goals try (first | exact WPq.dTs | exact WPq.dV | exact WPq.dR | exact WPq.dR2 | exact WPq.dH | exact WPq.dBH | exact WPq.dT)
theorem healthApart_t (vr : Value) (l : List (Int × Int × Int)) (s b : Int) (hl : ∀ x ∈ l, in64 x.1 ∧ in64 x.2.1 ∧ in64 x.2.2) (hs : in64 s) (hb : in64 b) :
    Triple Try.prog 3 #[vr, .int .i64 s, .int .i64 b] [rdN vr l.length (l.map fun x => flat (repC x)).flatten] (RVal (.bool true)) := by
  have c0 := hnew_t 2 2 (by omega) (by omega)
  have hlive := hlives_t
  obtain ⟨C, hC⟩ : ∃ C, C = (l.map fun x => flat (repC x)).flatten := ⟨_, rfl⟩
  have hCl : C.length = l.length * 3 := by rw [hC]; exact rows_len repC_len
  have hat : ∀ i x, l[i]? = some x → C[i * 3 + 0]? = some (.int .i64 x.1) ∧ C[i * 3 + 1]? = some (.int .i64 x.2.1) ∧ C[i * 3 + 2]? = some (.int .i64 x.2.2) := fun i x hx => by
    rw [hC]
    exact ⟨rows_at repC_len hx (by omega) rfl, rows_at repC_len hx (by omega) rfl, rows_at repC_len hx (by omega) rfl⟩
  rw [← hC]
  clear hC
  refine Triple.enter Try.func3 rfl Try.ntmps3 rfl (fun W => ?_)
  dsimp only [argsF, Nat.reduceAdd]
  repeat' (first
   | refine WPl.nil ?_ | refine WPq.then ?_ | refine WPq.thenR ?_ | refine WPq.thenE ?_ | refine WPq.blockN ?_ | refine WPq.blockR ?_ | refine WPq.blockE ?_ | refine WPq.blockO rfl ?_ | refine WPc.seq ?_ | refine WPc.block ?_ | refine WPc.ret ?_ | refine WPc.exit ?_ | refine WPc.skip ?_ | refine WPc.region ?_
   | (refine isReg 8 ?_; refine WPc.drA [([], [45, 46, 47, 48, 49, 50, 51, 52, 53, 54, 55, 56, 57, 58, 59, 60]), ([], [44, 46, 50, 51, 52, 53, 54, 55, 56, 57, 58, 59, 60]), ([], [44, 45, 50, 51, 52, 53, 54, 55, 56, 57, 58, 59, 60]), ([1, 2], [44, 45, 46, 50, 51, 52, 53, 54, 55, 56, 57, 58, 59, 60]), ([1, 2, 3], [44, 45, 46, 47, 50, 51, 52, 53, 54, 55, 56, 57, 58, 59, 60]), ([1, 2, 3, 4], [44, 45, 46, 47, 48, 50, 51, 52, 53, 54, 55, 56, 57, 58, 59, 60]), ([], [44, 45, 46, 47, 48, 49, 51, 55, 56, 57, 58, 59, 60]), ([], [44, 45, 46, 47, 48, 49, 50, 55, 56, 57, 58, 59, 60]), ([6, 7], [44, 45, 46, 47, 48, 49, 50, 51, 55, 56, 57, 58, 59, 60]), ([6, 7, 8], [44, 45, 46, 47, 48, 49, 50, 51, 52, 55, 56, 57, 58, 59, 60]), ([6, 7, 8, 9], [44, 45, 46, 47, 48, 49, 50, 51, 52, 53, 55, 56, 57, 58, 59, 60]), ([], [44, 45, 46, 47, 48, 49, 50, 51, 52, 53, 54, 56]), ([], [44, 45, 46, 47, 48, 49, 50, 51, 52, 53, 54, 55]), ([11, 12], [44, 45, 46, 47, 48, 49, 50, 51, 52, 53, 54, 55, 56]), ([11, 12, 13], [44, 45, 46, 47, 48, 49, 50, 51, 52, 53, 54, 55, 56, 57]), ([11, 12, 13, 14], [44, 45, 46, 47, 48, 49, 50, 51, 52, 53, 54, 55, 56, 57, 58]), ([11, 12, 13, 14, 15], [44, 45, 46, 47, 48, 49, 50, 51, 52, 53, 54, 55, 56, 57, 58, 59]), ([0, 1, 2, 3, 4, 5, 6, 7, 8, 9, 10, 11, 12, 13, 14, 15, 16], [44, 45, 46, 47, 48, 49, 50, 51, 52, 53, 54, 55, 56, 57, 58, 59, 60])] [] (Γx := []) ?_; dsimp only [prev0, List.length_nil, List.length_cons])
   | (refine gAny ?_; first | (refine gD 21 ?_; refine RGl.rdX (fun e hk => by (try dsimp only [bndR, ensR, oksR, fcutR, List.append_nil, List.nil_append, List.cons_append, List.append_assoc] at hk ⊢); exact readP) ?_) | (refine gD 24 ?_; refine RGl.rdX (fun e hk => by (try dsimp only [bndR, ensR, oksR, fcutR, List.append_nil, List.nil_append, List.cons_append, List.append_assoc] at hk ⊢); exact readP) ?_) | (refine gOp ?_; first | refine RGl.rdA ?_ | refine RGl.rdX (fun e hk => by (try dsimp only [bndR, ensR, oksR, fcutR, List.append_nil, List.nil_append, List.cons_append, List.append_assoc] at hk ⊢); exact readB) ?_) | (refine RGl.fin (fun e hk => ?_); (try dsimp only [bndA, ensAR, oksA, List.append_nil, List.nil_append, List.cons_append, List.append_assoc] at hk ⊢); (repeat (obtain ⟨hk1, hk⟩ := hk))) | fail)
   | (refine isCond ?_; first | refine WPc.cT ?_ | refine WPc.cF ?_ | (refine WPc.cQ (fun hc => ?_) (fun hc => ?_) <;> try exact prA))
   | (refine isC 13 ?_; refine WPl.cXs (c0) fun v Γ1 hR => ?_; obtain ⟨ga, ma, rfl, rfl⟩ := hR; (try dsimp only [putF, List.cons_append, List.nil_append]))
   | (refine isC 17 ?_; refine WPl.cXs (c0) fun v Γ1 hR => ?_; obtain ⟨gb, mb, rfl, rfl⟩ := hR; (try dsimp only [putF, List.cons_append, List.nil_append]))
   | (refine isD 21 ?_; refine WPl.rdX (readP) ?_)
   | (refine isD 24 ?_; refine WPl.rdX (readP) ?_)
   | (refine isOp ?_; first | refine WPl.rd ?_ | refine WPl.sk ?_ | refine WPl.rdB ?_)
   | (refine WPl.spQ (fun hc => ?_) (fun hc => ?_) <;> try exact prA)
   | fail)
  first | refine WPc.loop (σ := Nat × HL × HL) (fun st => st.1 ≤ 60 ∧ mget whoM st.2.1 (s, b) = mget whoM st.2.2 (s, b)) (fun st => [rdN vr l.length C, bx ga 131 (hbc 2 2 ma), mp whoM ma st.2.1, bx gb 131 (hbc 2 2 mb), mp whoM mb st.2.2]) (fun st => [(0, vr), (1, .int .i64 s), (2, .int .i64 b), (7, hP ga), (9, hP gb), (11, .int .i64 st.1)]) (fun st => 60 - st.1) ((0, [], [])) ?_ takesA frsA (fun st km hx hk => ?_)
  · exact ⟨Nat.zero_le _, rfl⟩
  obtain ⟨i, la, lb⟩ := st
  obtain ⟨hi, he⟩ := hx
  dsimp only at hi he hk ⊢
  by_cases hin : i < l.length ∧ i < 60
  · obtain ⟨hil, hi60⟩ := hin
    obtain ⟨x, hx⟩ : ∃ x, l[i]? = some x := ⟨_, List.getElem?_eq_getElem hil⟩
    obtain ⟨x0, x1, x2⟩ := x
    obtain ⟨a0, a1, a2⟩ := hat i _ hx
    obtain ⟨b0, b1, b2⟩ := hl _ (List.mem_of_getElem? hx)
    dsimp only at a0 a1 a2 b0 b1 b2
    have hlt : i * 3 < C.length := by omega
    obtain ⟨q, hq⟩ : ∃ q, q = decide (x2 = 1) := ⟨_, rfl⟩
    obtain ⟨⟨sa, ra⟩, hsa⟩ : ∃ p, stepS 2 2 q (mget whoM la (x0, x1)) = p := ⟨_, rfl⟩
    have c1 := hreport_t ga ma 2 2 x0 x1 q la sa ra hsa b0 b1
    by_cases hsb : x0 = s ∧ x1 = b
    · obtain ⟨rfl, rfl⟩ := hsb
      have c2 := hreport_t gb mb 2 2 x0 x1 q lb sa ra (by rw [← he]; exact hsa) hs hb
      have he' : mget whoM (mput la (x0, x1) sa) (x0, x1) = mget whoM (mput lb (x0, x1) sa) (x0, x1) := by rw [mget_same, mget_same]
      repeat' (first
       | refine WPl.nil ?_ | refine WPq.then ?_ | refine WPq.thenR ?_ | refine WPq.thenE ?_ | refine WPq.blockN ?_ | refine WPq.blockR ?_ | refine WPq.blockE ?_ | refine WPq.blockO rfl ?_ | refine WPc.seq ?_ | refine WPc.block ?_ | refine WPc.ret ?_ | refine WPc.exit ?_ | refine WPc.skip ?_ | refine WPc.region ?_
       | (refine isReg 8 ?_; refine WPc.drA [([18, 19], [45, 46, 47, 48, 49, 50, 51, 52, 53, 54, 55, 56, 57, 58, 59, 60]), ([18, 19], [44, 46, 50, 51, 52, 53, 54, 55, 56, 57, 58, 59, 60]), ([18, 19], [44, 45, 50, 51, 52, 53, 54, 55, 56, 57, 58, 59, 60]), ([1, 2, 18, 19], [44, 45, 46, 50, 51, 52, 53, 54, 55, 56, 57, 58, 59, 60]), ([1, 2, 3, 18, 19], [44, 45, 46, 47, 50, 51, 52, 53, 54, 55, 56, 57, 58, 59, 60]), ([1, 2, 3, 4, 18, 19], [44, 45, 46, 47, 48, 50, 51, 52, 53, 54, 55, 56, 57, 58, 59, 60]), ([18, 19], [44, 45, 46, 47, 48, 49, 51, 55, 56, 57, 58, 59, 60]), ([18, 19], [44, 45, 46, 47, 48, 49, 50, 55, 56, 57, 58, 59, 60]), ([6, 7, 18, 19], [44, 45, 46, 47, 48, 49, 50, 51, 55, 56, 57, 58, 59, 60]), ([6, 7, 8, 18, 19], [44, 45, 46, 47, 48, 49, 50, 51, 52, 55, 56, 57, 58, 59, 60]), ([6, 7, 8, 9, 18, 19], [44, 45, 46, 47, 48, 49, 50, 51, 52, 53, 55, 56, 57, 58, 59, 60]), ([18, 19], [44, 45, 46, 47, 48, 49, 50, 51, 52, 53, 54, 56]), ([18, 19], [44, 45, 46, 47, 48, 49, 50, 51, 52, 53, 54, 55]), ([11, 12, 18, 19], [44, 45, 46, 47, 48, 49, 50, 51, 52, 53, 54, 55, 56]), ([11, 12, 13, 18, 19], [44, 45, 46, 47, 48, 49, 50, 51, 52, 53, 54, 55, 56, 57]), ([11, 12, 13, 14, 18, 19], [44, 45, 46, 47, 48, 49, 50, 51, 52, 53, 54, 55, 56, 57, 58]), ([11, 12, 13, 14, 15, 18, 19], [44, 45, 46, 47, 48, 49, 50, 51, 52, 53, 54, 55, 56, 57, 58, 59]), ([0, 1, 2, 3, 4, 5, 6, 7, 8, 9, 10, 11, 12, 13, 14, 15, 16, 18, 19], [44, 45, 46, 47, 48, 49, 50, 51, 52, 53, 54, 55, 56, 57, 58, 59, 60])] [(18, 17), (19, 17), (18, 0), (18, 1), (18, 2), (18, 3), (18, 4), (18, 5), (18, 6), (18, 7), (18, 8), (18, 9), (18, 10), (18, 11), (18, 12), (18, 13), (18, 14), (18, 15), (18, 16), (19, 0), (19, 1), (19, 2), (19, 3), (19, 4), (19, 5), (19, 6), (19, 7), (19, 8), (19, 9), (19, 10), (19, 11), (19, 12), (19, 13), (19, 14), (19, 15), (19, 16)] (Γx := [bx ga 131 (hbc 2 2 ma), mp whoM ma la]) (hox := ownsA) ?_; dsimp only [prev0, List.length_nil, List.length_cons])
       | (refine gAny ?_; first | (refine gC 61 ?_; refine RGl.turns (fun e hk => by (try dsimp only [bndR, ensR, oksR, fcutR, List.append_nil, List.nil_append, List.cons_append, List.append_assoc] at hk ⊢); exact OpT.callTs (c1)) ?_) | (refine gC 87 ?_; refine RGl.turns (fun e hk => by (try dsimp only [bndR, ensR, oksR, fcutR, List.append_nil, List.nil_append, List.cons_append, List.append_assoc] at hk ⊢); exact OpT.callTs (c2)) ?_) | (refine gD 47 ?_; refine RGl.rdX (fun e hk => by (try dsimp only [bndR, ensR, oksR, fcutR, List.append_nil, List.nil_append, List.cons_append, List.append_assoc] at hk ⊢); exact ReadR.indexE (i := i) rfl rfl hasA hil) ?_) | (refine gD 48 ?_; refine RGl.rdX (fun e hk => by (try dsimp only [bndR, ensR, oksR, fcutR, List.append_nil, List.nil_append, List.cons_append, List.append_assoc] at hk ⊢); exact ReadR.fieldE rfl hasA hlt) ?_) | (refine gD 49 ?_; refine RGl.rdX (fun e hk => by (try dsimp only [bndR, ensR, oksR, fcutR, List.append_nil, List.nil_append, List.cons_append, List.append_assoc] at hk ⊢); exact ReadR.loadE rfl hasA a0) ?_) | (refine gD 52 ?_; refine RGl.rdX (fun e hk => by (try dsimp only [bndR, ensR, oksR, fcutR, List.append_nil, List.nil_append, List.cons_append, List.append_assoc] at hk ⊢); exact ReadR.indexE (i := i) rfl rfl hasA hil) ?_) | (refine gD 53 ?_; refine RGl.rdX (fun e hk => by (try dsimp only [bndR, ensR, oksR, fcutR, List.append_nil, List.nil_append, List.cons_append, List.append_assoc] at hk ⊢); exact ReadR.fieldE rfl hasA hlt) ?_) | (refine gD 54 ?_; refine RGl.rdX (fun e hk => by (try dsimp only [bndR, ensR, oksR, fcutR, List.append_nil, List.nil_append, List.cons_append, List.append_assoc] at hk ⊢); exact ReadR.loadE rfl hasA a1) ?_) | (refine gD 57 ?_; refine RGl.rdX (fun e hk => by (try dsimp only [bndR, ensR, oksR, fcutR, List.append_nil, List.nil_append, List.cons_append, List.append_assoc] at hk ⊢); exact ReadR.indexE (i := i) rfl rfl hasA hil) ?_) | (refine gD 58 ?_; refine RGl.rdX (fun e hk => by (try dsimp only [bndR, ensR, oksR, fcutR, List.append_nil, List.nil_append, List.cons_append, List.append_assoc] at hk ⊢); exact ReadR.fieldE rfl hasA hlt) ?_) | (refine gD 59 ?_; refine RGl.rdX (fun e hk => by (try dsimp only [bndR, ensR, oksR, fcutR, List.append_nil, List.nil_append, List.cons_append, List.append_assoc] at hk ⊢); exact ReadR.loadE rfl hasA a2) ?_) | (refine gD 60 ?_; refine RGl.rdX (fun e hk => by (try dsimp only [bndR, ensR, oksR, fcutR, List.append_nil, List.nil_append, List.cons_append, List.append_assoc] at hk ⊢); exact ReadR.binE rfl rfl BinR.eql (congrArg Value.bool hq.symm)) ?_) | (refine gD 64 ?_; refine RGl.rdX (fun e hk => by (try dsimp only [bndR, ensR, oksR, fcutR, List.append_nil, List.nil_append, List.cons_append, List.append_assoc] at hk ⊢); exact ReadR.indexE (i := i) rfl rfl hasA hil) ?_) | (refine gD 65 ?_; refine RGl.rdX (fun e hk => by (try dsimp only [bndR, ensR, oksR, fcutR, List.append_nil, List.nil_append, List.cons_append, List.append_assoc] at hk ⊢); exact ReadR.fieldE rfl hasA hlt) ?_) | (refine gD 66 ?_; refine RGl.rdX (fun e hk => by (try dsimp only [bndR, ensR, oksR, fcutR, List.append_nil, List.nil_append, List.cons_append, List.append_assoc] at hk ⊢); exact ReadR.loadE rfl hasA a0) ?_) | (refine gD 72 ?_; refine RGl.rdX (fun e hk => by (try dsimp only [bndR, ensR, oksR, fcutR, List.append_nil, List.nil_append, List.cons_append, List.append_assoc] at hk ⊢); exact ReadR.indexE (i := i) rfl rfl hasA hil) ?_) | (refine gD 73 ?_; refine RGl.rdX (fun e hk => by (try dsimp only [bndR, ensR, oksR, fcutR, List.append_nil, List.nil_append, List.cons_append, List.append_assoc] at hk ⊢); exact ReadR.fieldE rfl hasA hlt) ?_) | (refine gD 74 ?_; refine RGl.rdX (fun e hk => by (try dsimp only [bndR, ensR, oksR, fcutR, List.append_nil, List.nil_append, List.cons_append, List.append_assoc] at hk ⊢); exact ReadR.loadE rfl hasA a1) ?_) | (refine gD 83 ?_; refine RGl.rdX (fun e hk => by (try dsimp only [bndR, ensR, oksR, fcutR, List.append_nil, List.nil_append, List.cons_append, List.append_assoc] at hk ⊢); exact ReadR.indexE (i := i) rfl rfl hasA hil) ?_) | (refine gD 84 ?_; refine RGl.rdX (fun e hk => by (try dsimp only [bndR, ensR, oksR, fcutR, List.append_nil, List.nil_append, List.cons_append, List.append_assoc] at hk ⊢); exact ReadR.fieldE rfl hasA hlt) ?_) | (refine gD 85 ?_; refine RGl.rdX (fun e hk => by (try dsimp only [bndR, ensR, oksR, fcutR, List.append_nil, List.nil_append, List.cons_append, List.append_assoc] at hk ⊢); exact ReadR.loadE rfl hasA a2) ?_) | (refine gD 86 ?_; refine RGl.rdX (fun e hk => by (try dsimp only [bndR, ensR, oksR, fcutR, List.append_nil, List.nil_append, List.cons_append, List.append_assoc] at hk ⊢); exact ReadR.binE rfl rfl BinR.eql (congrArg Value.bool hq.symm)) ?_) | (refine gOp ?_; first | refine RGl.rdA ?_ | refine RGl.rdX (fun e hk => by (try dsimp only [bndR, ensR, oksR, fcutR, List.append_nil, List.nil_append, List.cons_append, List.append_assoc] at hk ⊢); exact readB) ?_) | (refine RGl.fin (fun e hk => ?_); (try dsimp only [bndA, ensAR, oksA, List.append_nil, List.nil_append, List.cons_append, List.append_assoc] at hk ⊢); (repeat (obtain ⟨hk1, hk⟩ := hk))) | fail)
       | (refine isCond ?_; first | refine WPc.cT ?_ | refine WPc.cF ?_ | (refine WPc.cQ (fun hc => ?_) (fun hc => ?_) <;> try exact prA))
       | (refine isD 47 ?_; refine WPl.rdX (ReadR.indexE (i := i) rfl rfl hasA hil) ?_)
       | (refine isD 48 ?_; refine WPl.rdX (ReadR.fieldE rfl hasA hlt) ?_)
       | (refine isD 49 ?_; refine WPl.rdX (ReadR.loadE rfl hasA a0) ?_)
       | (refine isD 52 ?_; refine WPl.rdX (ReadR.indexE (i := i) rfl rfl hasA hil) ?_)
       | (refine isD 53 ?_; refine WPl.rdX (ReadR.fieldE rfl hasA hlt) ?_)
       | (refine isD 54 ?_; refine WPl.rdX (ReadR.loadE rfl hasA a1) ?_)
       | (refine isD 57 ?_; refine WPl.rdX (ReadR.indexE (i := i) rfl rfl hasA hil) ?_)
       | (refine isD 58 ?_; refine WPl.rdX (ReadR.fieldE rfl hasA hlt) ?_)
       | (refine isD 59 ?_; refine WPl.rdX (ReadR.loadE rfl hasA a2) ?_)
       | (refine isD 60 ?_; refine WPl.rdX (ReadR.binE rfl rfl BinR.eql (congrArg Value.bool hq.symm)) ?_)
       | (refine isD 64 ?_; refine WPl.rdX (ReadR.indexE (i := i) rfl rfl hasA hil) ?_)
       | (refine isD 65 ?_; refine WPl.rdX (ReadR.fieldE rfl hasA hlt) ?_)
       | (refine isD 66 ?_; refine WPl.rdX (ReadR.loadE rfl hasA a0) ?_)
       | (refine isD 72 ?_; refine WPl.rdX (ReadR.indexE (i := i) rfl rfl hasA hil) ?_)
       | (refine isD 73 ?_; refine WPl.rdX (ReadR.fieldE rfl hasA hlt) ?_)
       | (refine isD 74 ?_; refine WPl.rdX (ReadR.loadE rfl hasA a1) ?_)
       | (refine isD 83 ?_; refine WPl.rdX (ReadR.indexE (i := i) rfl rfl hasA hil) ?_)
       | (refine isD 84 ?_; refine WPl.rdX (ReadR.fieldE rfl hasA hlt) ?_)
       | (refine isD 85 ?_; refine WPl.rdX (ReadR.loadE rfl hasA a2) ?_)
       | (refine isD 86 ?_; refine WPl.rdX (ReadR.binE rfl rfl BinR.eql (congrArg Value.bool hq.symm)) ?_)
       | (refine isC 61 ?_; refine WPl.cTs (c1) ?_; (try dsimp only [putF, List.cons_append, List.nil_append]))
       | (refine isC 87 ?_; refine WPl.cTs (c2) ?_; (try dsimp only [putF, List.cons_append, List.nil_append]))
       | (refine isOp ?_; first | refine WPl.rd ?_ | refine WPl.sk ?_ | refine WPl.rdB ?_)
       | (refine WPl.spQ (fun hc => ?_) (fun hc => ?_) <;> try exact prA)
       | fail)
      exact WPq.rnd (i + 1, mput la (x0, x1) sa, mput lb (x0, x1) sa) ⟨by omega, he'⟩ (by dsimp only; omega)
    · have he' : mget whoM (mput la (x0, x1) sa) (s, b) = mget whoM lb (s, b) := by rw [mget_put, if_neg (by intro h; cases h; exact hsb ⟨rfl, rfl⟩)]; exact he
      repeat' (first
       | refine WPl.nil ?_ | refine WPq.then ?_ | refine WPq.thenR ?_ | refine WPq.thenE ?_ | refine WPq.blockN ?_ | refine WPq.blockR ?_ | refine WPq.blockE ?_ | refine WPq.blockO rfl ?_ | refine WPc.seq ?_ | refine WPc.block ?_ | refine WPc.ret ?_ | refine WPc.exit ?_ | refine WPc.skip ?_ | refine WPc.region ?_
       | (refine isReg 8 ?_; refine WPc.drA [([18, 19], [45, 46, 47, 48, 49, 50, 51, 52, 53, 54, 55, 56, 57, 58, 59, 60]), ([18, 19], [44, 46, 50, 51, 52, 53, 54, 55, 56, 57, 58, 59, 60]), ([18, 19], [44, 45, 50, 51, 52, 53, 54, 55, 56, 57, 58, 59, 60]), ([1, 2, 18, 19], [44, 45, 46, 50, 51, 52, 53, 54, 55, 56, 57, 58, 59, 60]), ([1, 2, 3, 18, 19], [44, 45, 46, 47, 50, 51, 52, 53, 54, 55, 56, 57, 58, 59, 60]), ([1, 2, 3, 4, 18, 19], [44, 45, 46, 47, 48, 50, 51, 52, 53, 54, 55, 56, 57, 58, 59, 60]), ([18, 19], [44, 45, 46, 47, 48, 49, 51, 55, 56, 57, 58, 59, 60]), ([18, 19], [44, 45, 46, 47, 48, 49, 50, 55, 56, 57, 58, 59, 60]), ([6, 7, 18, 19], [44, 45, 46, 47, 48, 49, 50, 51, 55, 56, 57, 58, 59, 60]), ([6, 7, 8, 18, 19], [44, 45, 46, 47, 48, 49, 50, 51, 52, 55, 56, 57, 58, 59, 60]), ([6, 7, 8, 9, 18, 19], [44, 45, 46, 47, 48, 49, 50, 51, 52, 53, 55, 56, 57, 58, 59, 60]), ([18, 19], [44, 45, 46, 47, 48, 49, 50, 51, 52, 53, 54, 56]), ([18, 19], [44, 45, 46, 47, 48, 49, 50, 51, 52, 53, 54, 55]), ([11, 12, 18, 19], [44, 45, 46, 47, 48, 49, 50, 51, 52, 53, 54, 55, 56]), ([11, 12, 13, 18, 19], [44, 45, 46, 47, 48, 49, 50, 51, 52, 53, 54, 55, 56, 57]), ([11, 12, 13, 14, 18, 19], [44, 45, 46, 47, 48, 49, 50, 51, 52, 53, 54, 55, 56, 57, 58]), ([11, 12, 13, 14, 15, 18, 19], [44, 45, 46, 47, 48, 49, 50, 51, 52, 53, 54, 55, 56, 57, 58, 59]), ([0, 1, 2, 3, 4, 5, 6, 7, 8, 9, 10, 11, 12, 13, 14, 15, 16, 18, 19], [44, 45, 46, 47, 48, 49, 50, 51, 52, 53, 54, 55, 56, 57, 58, 59, 60])] [(18, 17), (19, 17), (18, 0), (18, 1), (18, 2), (18, 3), (18, 4), (18, 5), (18, 6), (18, 7), (18, 8), (18, 9), (18, 10), (18, 11), (18, 12), (18, 13), (18, 14), (18, 15), (18, 16), (19, 0), (19, 1), (19, 2), (19, 3), (19, 4), (19, 5), (19, 6), (19, 7), (19, 8), (19, 9), (19, 10), (19, 11), (19, 12), (19, 13), (19, 14), (19, 15), (19, 16)] (Γx := [bx ga 131 (hbc 2 2 ma), mp whoM ma la]) (hox := ownsA) ?_; dsimp only [prev0, List.length_nil, List.length_cons])
       | (refine gAny ?_; first | (refine gC 61 ?_; refine RGl.turns (fun e hk => by (try dsimp only [bndR, ensR, oksR, fcutR, List.append_nil, List.nil_append, List.cons_append, List.append_assoc] at hk ⊢); exact OpT.callTs (c1)) ?_) | (refine gD 47 ?_; refine RGl.rdX (fun e hk => by (try dsimp only [bndR, ensR, oksR, fcutR, List.append_nil, List.nil_append, List.cons_append, List.append_assoc] at hk ⊢); exact ReadR.indexE (i := i) rfl rfl hasA hil) ?_) | (refine gD 48 ?_; refine RGl.rdX (fun e hk => by (try dsimp only [bndR, ensR, oksR, fcutR, List.append_nil, List.nil_append, List.cons_append, List.append_assoc] at hk ⊢); exact ReadR.fieldE rfl hasA hlt) ?_) | (refine gD 49 ?_; refine RGl.rdX (fun e hk => by (try dsimp only [bndR, ensR, oksR, fcutR, List.append_nil, List.nil_append, List.cons_append, List.append_assoc] at hk ⊢); exact ReadR.loadE rfl hasA a0) ?_) | (refine gD 52 ?_; refine RGl.rdX (fun e hk => by (try dsimp only [bndR, ensR, oksR, fcutR, List.append_nil, List.nil_append, List.cons_append, List.append_assoc] at hk ⊢); exact ReadR.indexE (i := i) rfl rfl hasA hil) ?_) | (refine gD 53 ?_; refine RGl.rdX (fun e hk => by (try dsimp only [bndR, ensR, oksR, fcutR, List.append_nil, List.nil_append, List.cons_append, List.append_assoc] at hk ⊢); exact ReadR.fieldE rfl hasA hlt) ?_) | (refine gD 54 ?_; refine RGl.rdX (fun e hk => by (try dsimp only [bndR, ensR, oksR, fcutR, List.append_nil, List.nil_append, List.cons_append, List.append_assoc] at hk ⊢); exact ReadR.loadE rfl hasA a1) ?_) | (refine gD 57 ?_; refine RGl.rdX (fun e hk => by (try dsimp only [bndR, ensR, oksR, fcutR, List.append_nil, List.nil_append, List.cons_append, List.append_assoc] at hk ⊢); exact ReadR.indexE (i := i) rfl rfl hasA hil) ?_) | (refine gD 58 ?_; refine RGl.rdX (fun e hk => by (try dsimp only [bndR, ensR, oksR, fcutR, List.append_nil, List.nil_append, List.cons_append, List.append_assoc] at hk ⊢); exact ReadR.fieldE rfl hasA hlt) ?_) | (refine gD 59 ?_; refine RGl.rdX (fun e hk => by (try dsimp only [bndR, ensR, oksR, fcutR, List.append_nil, List.nil_append, List.cons_append, List.append_assoc] at hk ⊢); exact ReadR.loadE rfl hasA a2) ?_) | (refine gD 60 ?_; refine RGl.rdX (fun e hk => by (try dsimp only [bndR, ensR, oksR, fcutR, List.append_nil, List.nil_append, List.cons_append, List.append_assoc] at hk ⊢); exact ReadR.binE rfl rfl BinR.eql (congrArg Value.bool hq.symm)) ?_) | (refine gD 64 ?_; refine RGl.rdX (fun e hk => by (try dsimp only [bndR, ensR, oksR, fcutR, List.append_nil, List.nil_append, List.cons_append, List.append_assoc] at hk ⊢); exact ReadR.indexE (i := i) rfl rfl hasA hil) ?_) | (refine gD 65 ?_; refine RGl.rdX (fun e hk => by (try dsimp only [bndR, ensR, oksR, fcutR, List.append_nil, List.nil_append, List.cons_append, List.append_assoc] at hk ⊢); exact ReadR.fieldE rfl hasA hlt) ?_) | (refine gD 66 ?_; refine RGl.rdX (fun e hk => by (try dsimp only [bndR, ensR, oksR, fcutR, List.append_nil, List.nil_append, List.cons_append, List.append_assoc] at hk ⊢); exact ReadR.loadE rfl hasA a0) ?_) | (refine gD 72 ?_; refine RGl.rdX (fun e hk => by (try dsimp only [bndR, ensR, oksR, fcutR, List.append_nil, List.nil_append, List.cons_append, List.append_assoc] at hk ⊢); exact ReadR.indexE (i := i) rfl rfl hasA hil) ?_) | (refine gD 73 ?_; refine RGl.rdX (fun e hk => by (try dsimp only [bndR, ensR, oksR, fcutR, List.append_nil, List.nil_append, List.cons_append, List.append_assoc] at hk ⊢); exact ReadR.fieldE rfl hasA hlt) ?_) | (refine gD 74 ?_; refine RGl.rdX (fun e hk => by (try dsimp only [bndR, ensR, oksR, fcutR, List.append_nil, List.nil_append, List.cons_append, List.append_assoc] at hk ⊢); exact ReadR.loadE rfl hasA a1) ?_) | (refine gD 83 ?_; refine RGl.rdX (fun e hk => by (try dsimp only [bndR, ensR, oksR, fcutR, List.append_nil, List.nil_append, List.cons_append, List.append_assoc] at hk ⊢); exact ReadR.indexE (i := i) rfl rfl hasA hil) ?_) | (refine gD 84 ?_; refine RGl.rdX (fun e hk => by (try dsimp only [bndR, ensR, oksR, fcutR, List.append_nil, List.nil_append, List.cons_append, List.append_assoc] at hk ⊢); exact ReadR.fieldE rfl hasA hlt) ?_) | (refine gD 85 ?_; refine RGl.rdX (fun e hk => by (try dsimp only [bndR, ensR, oksR, fcutR, List.append_nil, List.nil_append, List.cons_append, List.append_assoc] at hk ⊢); exact ReadR.loadE rfl hasA a2) ?_) | (refine gD 86 ?_; refine RGl.rdX (fun e hk => by (try dsimp only [bndR, ensR, oksR, fcutR, List.append_nil, List.nil_append, List.cons_append, List.append_assoc] at hk ⊢); exact ReadR.binE rfl rfl BinR.eql (congrArg Value.bool hq.symm)) ?_) | (refine gOp ?_; first | refine RGl.rdA ?_ | refine RGl.rdX (fun e hk => by (try dsimp only [bndR, ensR, oksR, fcutR, List.append_nil, List.nil_append, List.cons_append, List.append_assoc] at hk ⊢); exact readB) ?_) | (refine RGl.fin (fun e hk => ?_); (try dsimp only [bndA, ensAR, oksA, List.append_nil, List.nil_append, List.cons_append, List.append_assoc] at hk ⊢); (repeat (obtain ⟨hk1, hk⟩ := hk))) | fail)
       | (refine isCond ?_; first | refine WPc.cT ?_ | refine WPc.cF ?_ | (refine WPc.cQ (fun hc => ?_) (fun hc => ?_) <;> try exact prA))
       | (refine isD 47 ?_; refine WPl.rdX (ReadR.indexE (i := i) rfl rfl hasA hil) ?_)
       | (refine isD 48 ?_; refine WPl.rdX (ReadR.fieldE rfl hasA hlt) ?_)
       | (refine isD 49 ?_; refine WPl.rdX (ReadR.loadE rfl hasA a0) ?_)
       | (refine isD 52 ?_; refine WPl.rdX (ReadR.indexE (i := i) rfl rfl hasA hil) ?_)
       | (refine isD 53 ?_; refine WPl.rdX (ReadR.fieldE rfl hasA hlt) ?_)
       | (refine isD 54 ?_; refine WPl.rdX (ReadR.loadE rfl hasA a1) ?_)
       | (refine isD 57 ?_; refine WPl.rdX (ReadR.indexE (i := i) rfl rfl hasA hil) ?_)
       | (refine isD 58 ?_; refine WPl.rdX (ReadR.fieldE rfl hasA hlt) ?_)
       | (refine isD 59 ?_; refine WPl.rdX (ReadR.loadE rfl hasA a2) ?_)
       | (refine isD 60 ?_; refine WPl.rdX (ReadR.binE rfl rfl BinR.eql (congrArg Value.bool hq.symm)) ?_)
       | (refine isD 64 ?_; refine WPl.rdX (ReadR.indexE (i := i) rfl rfl hasA hil) ?_)
       | (refine isD 65 ?_; refine WPl.rdX (ReadR.fieldE rfl hasA hlt) ?_)
       | (refine isD 66 ?_; refine WPl.rdX (ReadR.loadE rfl hasA a0) ?_)
       | (refine isD 72 ?_; refine WPl.rdX (ReadR.indexE (i := i) rfl rfl hasA hil) ?_)
       | (refine isD 73 ?_; refine WPl.rdX (ReadR.fieldE rfl hasA hlt) ?_)
       | (refine isD 74 ?_; refine WPl.rdX (ReadR.loadE rfl hasA a1) ?_)
       | (refine isD 83 ?_; refine WPl.rdX (ReadR.indexE (i := i) rfl rfl hasA hil) ?_)
       | (refine isD 84 ?_; refine WPl.rdX (ReadR.fieldE rfl hasA hlt) ?_)
       | (refine isD 85 ?_; refine WPl.rdX (ReadR.loadE rfl hasA a2) ?_)
       | (refine isD 86 ?_; refine WPl.rdX (ReadR.binE rfl rfl BinR.eql (congrArg Value.bool hq.symm)) ?_)
       | (refine isC 61 ?_; refine WPl.cTs (c1) ?_; (try dsimp only [putF, List.cons_append, List.nil_append]))
       | (refine isOp ?_; first | refine WPl.rd ?_ | refine WPl.sk ?_ | refine WPl.rdB ?_)
       | (refine WPl.spQ (fun hc => ?_) (fun hc => ?_) <;> try exact prA)
       | fail)
      all_goals first | exact WPq.rnd (i + 1, mput la (x0, x1) sa, lb) ⟨by omega, he'⟩ (by dsimp only; omega) | (exfalso; exact hsb ⟨by assumption, by assumption⟩)
  · obtain ⟨sa, hsa⟩ : ∃ sa, sa = mget whoM la (s, b) := ⟨_, rfl⟩
    have c1 := hup_t ga ma 2 2 s b la hs hb
    have c2 := hup_t gb mb 2 2 s b lb hs hb
    rw [← hsa] at c1 he
    rw [← he] at c2
    obtain ⟨q, hq⟩ : ∃ q, q = !sa.1 := ⟨_, rfl⟩
    rw [← hq] at c1 c2
    repeat' (first
     | refine WPl.nil ?_ | refine WPq.then ?_ | refine WPq.thenR ?_ | refine WPq.thenE ?_ | refine WPq.blockN ?_ | refine WPq.blockR ?_ | refine WPq.blockE ?_ | refine WPq.blockO rfl ?_ | refine WPc.seq ?_ | refine WPc.block ?_ | refine WPc.ret ?_ | refine WPc.exit ?_ | refine WPc.skip ?_ | refine WPc.region ?_
     | (refine isReg 8 ?_; refine WPc.drA [([], [45, 46, 47, 48, 49, 50, 51, 52, 53, 54, 55, 56, 57, 58, 59, 60]), ([], [44, 46, 50, 51, 52, 53, 54, 55, 56, 57, 58, 59, 60]), ([], [44, 45, 50, 51, 52, 53, 54, 55, 56, 57, 58, 59, 60]), ([1, 2], [44, 45, 46, 50, 51, 52, 53, 54, 55, 56, 57, 58, 59, 60]), ([1, 2, 3], [44, 45, 46, 47, 50, 51, 52, 53, 54, 55, 56, 57, 58, 59, 60]), ([1, 2, 3, 4], [44, 45, 46, 47, 48, 50, 51, 52, 53, 54, 55, 56, 57, 58, 59, 60]), ([], [44, 45, 46, 47, 48, 49, 51, 55, 56, 57, 58, 59, 60]), ([], [44, 45, 46, 47, 48, 49, 50, 55, 56, 57, 58, 59, 60]), ([6, 7], [44, 45, 46, 47, 48, 49, 50, 51, 55, 56, 57, 58, 59, 60]), ([6, 7, 8], [44, 45, 46, 47, 48, 49, 50, 51, 52, 55, 56, 57, 58, 59, 60]), ([6, 7, 8, 9], [44, 45, 46, 47, 48, 49, 50, 51, 52, 53, 55, 56, 57, 58, 59, 60]), ([], [44, 45, 46, 47, 48, 49, 50, 51, 52, 53, 54, 56]), ([], [44, 45, 46, 47, 48, 49, 50, 51, 52, 53, 54, 55]), ([11, 12], [44, 45, 46, 47, 48, 49, 50, 51, 52, 53, 54, 55, 56]), ([11, 12, 13], [44, 45, 46, 47, 48, 49, 50, 51, 52, 53, 54, 55, 56, 57]), ([11, 12, 13, 14], [44, 45, 46, 47, 48, 49, 50, 51, 52, 53, 54, 55, 56, 57, 58]), ([11, 12, 13, 14, 15], [44, 45, 46, 47, 48, 49, 50, 51, 52, 53, 54, 55, 56, 57, 58, 59]), ([0, 1, 2, 3, 4, 5, 6, 7, 8, 9, 10, 11, 12, 13, 14, 15, 16], [44, 45, 46, 47, 48, 49, 50, 51, 52, 53, 54, 55, 56, 57, 58, 59, 60])] [] (Γx := []) ?_; dsimp only [prev0, List.length_nil, List.length_cons])
     | (refine gAny ?_; first | (refine gC 91 ?_; refine RGl.turns (fun e hk => by (try dsimp only [bndR, ensR, oksR, fcutR, List.append_nil, List.nil_append, List.cons_append, List.append_assoc] at hk ⊢); exact OpT.callTs (c1)) ?_) | (refine gC 95 ?_; refine RGl.turns (fun e hk => by (try dsimp only [bndR, ensR, oksR, fcutR, List.append_nil, List.nil_append, List.cons_append, List.append_assoc] at hk ⊢); exact OpT.callTs (c2)) ?_) | (refine gC 98 ?_; refine RGl.vl (fun e hk => OpT.callN (hlive)) ?_) | (refine gD 96 ?_; refine RGl.rdX (fun e hk => by (try dsimp only [bndR, ensR, oksR, fcutR, List.append_nil, List.nil_append, List.cons_append, List.append_assoc] at hk ⊢); exact ReadR.binE rfl rfl (BinR.eqlB (by kernel_rfl)) (congrArg Value.bool (beq_self_eq_true q))) ?_) | (refine gOp ?_; first | refine RGl.rdA ?_ | refine RGl.rdX (fun e hk => by (try dsimp only [bndR, ensR, oksR, fcutR, List.append_nil, List.nil_append, List.cons_append, List.append_assoc] at hk ⊢); exact readB) ?_) | (refine RGl.fin (fun e hk => ?_); (try dsimp only [bndA, ensAR, oksA, List.append_nil, List.nil_append, List.cons_append, List.append_assoc] at hk ⊢); (repeat (obtain ⟨hk1, hk⟩ := hk))) | fail)
     | (refine isCond ?_; first | refine WPc.cT ?_ | refine WPc.cF ?_ | (refine WPc.cQ (fun hc => ?_) (fun hc => ?_) <;> try exact prA))
     | (refine isC 91 ?_; refine WPl.cTs (c1) ?_; (try dsimp only [putF, List.cons_append, List.nil_append]))
     | (refine isC 95 ?_; refine WPl.cTs (c2) ?_; (try dsimp only [putF, List.cons_append, List.nil_append]))
     | (refine isC 98 ?_; refine WPl.cV (hlive) ?_)
     | (refine isD 96 ?_; refine WPl.rdX (ReadR.binE rfl rfl (BinR.eqlB (by kernel_rfl)) (congrArg Value.bool (beq_self_eq_true q))) ?_)
     | (refine isOp ?_; first | refine WPl.rd ?_ | refine WPl.sk ?_ | refine WPl.rdB ?_)
     | (refine WPl.spQ (fun hc => ?_) (fun hc => ?_) <;> try exact prA)
     | fail)
    all_goals try (first | exact WPq.dTs | exact WPq.dV | exact WPq.dR | exact WPq.dR2 | exact WPq.dH | exact WPq.dBH | exact WPq.dT)
end Go.Proofs.Ytnkhcdmkkcpheaa
