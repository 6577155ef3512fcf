/- Layer 33 (bucket): no more clients than may be. -/
import Derived.Test.YtncgponcedkihaaBo
namespace Go.Proofs.Ytncgponcedkihaa
open Go.RowKit
set_option linter.unusedSimpArgs false
set_option linter.unusedVariables false
set_option maxRecDepth 20000
set_option maxHeartbeats 4000000
attribute [local irreducible] WPc WPl WPq ReadR OpT BinR HasS bx rdN rowN Take Takes Prov Triple ResF BuildP Done ag Int.decLt Int.decLe Int.instDecidableEq
/-! ### Which go on -/
theorem keptD_p {burst : Int} {n : Nat} {D : List Cl} {p : Pf} {now : Int} : (keptD burst n D p now).1.p = p := by
  unfold keptD
  cases h : D.find? (fun c => decide (c.p = p)) with
  | none => rfl
  | some c => simpa using List.find?_some h
theorem keptD_pre {burst : Int} {n : Nat} {D : List Cl} {p : Pf} {now : Int} (hn : (D.map (·.p)).Nodup) : (keptD burst n D p now).2.map (·.p) <+: (D.map (·.p)).filter (fun q => !decide (q = p)) := by
  unfold keptD
  cases h : D.find? (fun c => decide (c.p = p)) with
  | none =>
    have hno : ∀ c ∈ D, c.p ≠ p := fun c hc => by simpa using List.find?_eq_none.1 h c hc
    have : (D.map (·.p)).filter (fun q => !decide (q = p)) = D.map (·.p) := by
      rw [List.filter_eq_self]
      intro q hq
      obtain ⟨c, hc, rfl⟩ := List.mem_map.1 hq
      simpa using hno c hc
    rw [this]
    dsimp only
    split
    · rw [List.map_dropLast]; exact List.dropLast_prefix _
    · exact List.prefix_rfl
  | some c =>
    dsimp only
    obtain ⟨h1, A, B, rfl, h2⟩ := List.find?_eq_some_iff_append.1 h
    have hc : c.p = p := by simpa using h1
    have hA : ∀ x ∈ A, x.p ≠ p := fun x hx => by simpa using h2 x hx
    rw [List.eraseP_append_right _ (by intro x hx; simpa using hA x hx)]
    simp only [List.eraseP_cons, hc, decide_true, cond_true]
    rw [List.map_append, List.map_cons, List.nodup_append, List.nodup_cons] at hn
    have hB : ∀ x ∈ B, x.p ≠ p := fun x hx e => hn.2.1.1 (by rw [hc, ← e]; exact List.mem_map.2 ⟨x, hx, rfl⟩)
    have e1 : ((A ++ c :: B).map (·.p)).filter (fun q => !decide (q = p)) = (A ++ B).map (·.p) := by
      rw [List.map_append, List.map_cons, List.filter_append, List.filter_cons, List.map_append]
      simp only [hc, decide_true, Bool.not_true, Bool.false_eq_true, if_false]
      congr 1
      · rw [List.filter_eq_self]; intro q hq; obtain ⟨x, hx, rfl⟩ := List.mem_map.1 hq; simpa using hA x hx
      · rw [List.filter_eq_self]; intro q hq; obtain ⟨x, hx, rfl⟩ := List.mem_map.1 hq; simpa using hB x hx
    rw [e1]
    exact List.prefix_rfl
theorem filter_at {α : Type} {P : α → Bool} : ∀ {l : List α} {j : Nat} {a : α}, l[j]? = some a → P a = true → (l.filter P)[((l.take j).filter P).length]? = some a
  | [], j, a, h, _ => by simp at h
  | b :: l, 0, a, h, hp => by
    simp only [List.getElem?_cons_zero, Option.some.injEq] at h
    subst h
    simp [List.filter_cons, hp]
  | b :: l, j + 1, a, h, hp => by
    simp only [List.getElem?_cons_succ] at h
    have ih := filter_at h hp
    rw [List.take_succ_cons, List.filter_cons, List.filter_cons]
    by_cases hb : P b = true
    · rw [if_pos hb, if_pos hb, List.length_cons, List.getElem?_cons_succ]; exact ih
    · rw [if_neg hb, if_neg hb]; exact ih
theorem take_filter {α : Type} {P : α → Bool} {l : List α} {j : Nat} {a : α} (h : l[j]? = some a) : ((l.take (j + 1)).filter P).length = ((l.take j).filter P).length + if P a then 1 else 0 := by
  have : l.take (j + 1) = l.take j ++ [a] := by
    have hj := (List.getElem?_eq_some_iff.1 h)
    rw [List.take_add_one, h]; rfl
  rw [this, List.filter_append, List.length_append, List.filter_cons]
  split <;> rfl
attribute [local irreducible] pool fset lnk mp mget mfind mput mdel pfs
structure FSt where
  i : Nat
  L : List Nd
  M : List (Pf × Option Nat)
  f : Nat → Option Ch
theorem pfs_at {L : List Nd} {i : Nat} {c : Nd} (h : L[i]? = some c) : ((pfs L).drop (i * 18)).take 18 = flat (pfc c.2.p) := by
  unfold pfs; exact rows_drop (c := fun c : Nd => pfc c.2.p) (fun c => pfc_len c.2.p) h
theorem few_facts {L1 : List Nd} {h0 : Cl} {K2 : List Cl} {p : Pf} {ps : List Pf} (hD : L1.map (·.2) = h0 :: K2) (h0p : h0.p = p) (hpre : K2.map (·.p) <+: ps.filter (fun q => !decide (q = p))) :
    (∃ c, L1[0]? = some c ∧ c.2.p = p) ∧ ∀ k q, k + 1 < L1.length → (ps.filter (fun q => !decide (q = p)))[k]? = some q → ∃ c, L1[k + 1]? = some c ∧ c.2.p = q := by
  obtain ⟨t, ht⟩ := hpre
  have hat : ∀ j : Nat, (L1.map (·.2))[j]? = (h0 :: K2)[j]? := fun j => by rw [hD]
  refine ⟨?_, fun k q hk hq => ?_⟩
  · have := hat 0
    rw [List.getElem?_map] at this
    cases h : L1[0]? with
    | none => rw [h] at this; cases this
    | some c =>
      rw [h] at this
      simp only [Option.map_some, List.getElem?_cons_zero, Option.some.injEq] at this
      exact ⟨c, rfl, by rw [this]; exact h0p⟩
  · have h1 : L1[k + 1]? = some L1[k + 1] := List.getElem?_eq_getElem hk
    have := hat (k + 1)
    rw [List.getElem?_map, h1, List.getElem?_cons_succ] at this
    have hl := (List.getElem?_eq_some_iff.1 this.symm).1
    rw [← ht, List.getElem?_append_left (by simpa using hl), List.getElem?_map, ← this] at hq
    simp only [Option.map_some, Option.some.injEq] at hq
    exact ⟨_, h1, hq⟩
theorem bucketFew_t (cu : UInt8) (vr : Value) (l : List Pf) (hl : ∀ p ∈ l, in64 p.2) :
    Triple Try.prog 4 #[.int .u8 ((cu.toNat : Nat) : Int), vr] [rdN vr l.length (l.map fun p => flat (pfc p)).flatten] (RVal (.bool true)) := by
  have hlive := blives_t
  have hcu := cu.toNat_lt
  obtain ⟨n, hn⟩ : ∃ n : Nat, n = 1 + cu.toNat % 10 := ⟨_, rfl⟩
  have hN : 1 + ((cu.toNat : Nat) : Int) % 10 = ((n : Nat) : Int) := by omega
  have hb : BOk 1 9 n := ⟨by omega, by omega, by omega, by omega, by omega, by omega⟩
  have hn10 : n ≤ 10 := by omega
  have c0 := bnew_c 1 9 n hb
  obtain ⟨C, hC⟩ : ∃ C, C = (l.map fun p => flat (pfc p)).flatten := ⟨_, rfl⟩
  have hCl : C.length = l.length * 18 := by rw [hC]; exact rows_len pfc_len
  have hat : ∀ i p, l[i]? = some p → (C.drop (i * 18)).take 18 = flat (pfc p) := fun i p hx => by rw [hC]; exact rows_drop pfc_len hx
  rw [← hC]
  clear hC hn
  refine Triple.enter Try.func4 rfl Try.ntmps4 rfl (fun W => ?_)
  dsimp only [argsF, Nat.reduceAdd]
  repeat' (first
   | refine WPl.nil ?_ | refine WPq.then ?_ | refine WPq.thenR ?_ | refine WPq.thenE ?_ | refine WPq.blockN ?_ | refine WPq.blockR ?_ | refine WPq.blockE ?_ | refine WPq.blockO rfl ?_ | refine WPc.seq ?_ | refine WPc.block ?_ | refine WPc.ret ?_ | refine WPc.exit ?_ | refine WPc.skip ?_ | refine WPc.region ?_
   | (refine isReg 11 ?_; refine WPc.drA [([], [51]), ([0], [49, 51]), ([], [49, 50]), ([0, 1, 2], [49, 50, 51]), ([0, 1, 2, 3], [49, 50, 51, 52]), ([0, 1, 2, 3, 4], [49, 50, 51, 52, 53]), ([0, 1, 2, 3, 4, 5], [49, 50, 51, 52, 53, 54]), ([0, 1, 2, 3, 4, 5, 6], [49, 50, 51, 52, 53, 54, 55]), ([0, 1, 2, 3, 4, 5, 6, 7], [49, 50, 51, 52, 53, 54, 55, 56]), ([0, 1, 2, 3, 4, 5, 6, 7, 8], [49, 50, 51, 52, 53, 54, 55, 56, 57]), ([0, 1, 2, 3, 4, 5, 6, 7, 8, 9], [49, 50, 51, 52, 53, 54, 55, 56, 57, 58, 62, 63, 64, 65]), ([0, 1, 2, 3, 4, 5, 6, 7, 8, 9, 10], [49, 50, 51, 52, 53, 54, 55, 56, 57, 58, 59, 62, 63, 64, 65]), ([0, 1, 2, 3, 4, 5, 6, 7, 8, 9, 10, 11], [49, 50, 51, 52, 53, 54, 55, 56, 57, 58, 59, 60, 62, 63, 64, 65]), ([0, 1, 2, 3, 4, 5, 6, 7, 8, 9], [49, 50, 51, 52, 53, 54, 55, 56, 57, 58, 59, 60, 61, 63]), ([0, 1, 2, 3, 4, 5, 6, 7, 8, 9], [49, 50, 51, 52, 53, 54, 55, 56, 57, 58, 59, 60, 61, 62]), ([0, 1, 2, 3, 4, 5, 6, 7, 8, 9, 13, 14], [49, 50, 51, 52, 53, 54, 55, 56, 57, 58, 59, 60, 61, 62, 63]), ([0, 1, 2, 3, 4, 5, 6, 7, 8, 9, 13, 14, 15], [49, 50, 51, 52, 53, 54, 55, 56, 57, 58, 59, 60, 61, 62, 63, 64]), ([0, 1, 2, 3, 4, 5, 6, 7, 8, 9, 10, 11, 12, 13, 14, 15, 16], [49, 50, 51, 52, 53, 54, 55, 56, 57, 58, 59, 60, 61, 62, 63, 64, 65]), ([0, 1, 2, 3, 4, 5, 6, 7, 8, 9, 10, 11, 12, 13, 14, 15, 16, 17], [49, 50, 51, 52, 53, 54, 55, 56, 57, 58, 59, 60, 61, 62, 63, 64, 65, 66]), ([0, 1, 2, 3, 4, 5, 6, 7, 8, 9, 10, 11, 12, 13, 14, 15, 16, 17, 18], [49, 50, 51, 52, 53, 54, 55, 56, 57, 58, 59, 60, 61, 62, 63, 64, 65, 66, 67]), ([0, 1, 2, 3, 4, 5, 6, 7, 8, 9, 10, 11, 12, 13, 14, 15, 16, 17, 18, 19], [49, 50, 51, 52, 53, 54, 55, 56, 57, 58, 59, 60, 61, 62, 63, 64, 65, 66, 67, 68, 71, 72]), ([0, 1, 2, 3, 4, 5, 6, 7, 8, 9, 10, 11, 12, 13, 14, 15, 16, 17, 18, 19, 20], [49, 50, 51, 52, 53, 54, 55, 56, 57, 58, 59, 60, 61, 62, 63, 64, 65, 66, 67, 68, 69, 71, 72]), ([0, 1, 2, 3, 4, 5, 6, 7, 8, 9, 10, 11, 12, 13, 14, 15, 16, 17, 18, 19], [49, 50, 51, 52, 53, 54, 55, 56, 57, 58, 59, 60, 61, 62, 63, 64, 65, 66, 67, 68, 69, 70]), ([0, 1, 2, 3, 4, 5, 6, 7, 8, 9, 10, 11, 12, 13, 14, 15, 16, 17, 18, 19, 22], [49, 50, 51, 52, 53, 54, 55, 56, 57, 58, 59, 60, 61, 62, 63, 64, 65, 66, 67, 68, 69, 70, 71]), ([0, 1, 2, 3, 4, 5, 6, 7, 8, 9, 10, 11, 12, 13, 14, 15, 16, 17, 18, 19, 20, 21, 22, 23], [49, 50, 51, 52, 53, 54, 55, 56, 57, 58, 59, 60, 61, 62, 63, 64, 65, 66, 67, 68, 69, 70, 71, 72]), ([0, 1, 2, 3, 4, 5, 6, 7, 8, 9, 10, 11, 12, 13, 14, 15, 16, 17, 18, 19, 20, 21, 22, 23, 24], [49, 50, 51, 52, 53, 54, 55, 56, 57, 58, 59, 60, 61, 62, 63, 64, 65, 66, 67, 68, 69, 70, 71, 72, 73])] [] (Γx := []) ?_; dsimp only [prev0, List.length_nil, List.length_cons])
   | (refine isReg 17 ?_; refine WPc.drA [([], [88, 91, 92, 93, 94]), ([], [87, 91, 92, 93, 94]), ([0, 1], [87, 88, 91, 92, 93, 94]), ([0, 1, 2], [87, 88, 89, 91, 92, 93, 94]), ([], [87, 88, 89, 90, 92]), ([], [87, 88, 89, 90, 91]), ([4, 5], [87, 88, 89, 90, 91, 92]), ([4, 5, 6], [87, 88, 89, 90, 91, 92, 93]), ([0, 1, 2, 3, 4, 5, 6, 7], [87, 88, 89, 90, 91, 92, 93, 94])] [] (Γx := []) ?_; dsimp only [prev0, List.length_nil, List.length_cons])
   | (refine isReg 18 ?_; refine WPc.drA [([], [97, 100, 101, 102, 103]), ([], [96, 100, 101, 102, 103]), ([0, 1], [96, 97, 100, 101, 102, 103]), ([0, 1, 2], [96, 97, 98, 100, 101, 102, 103]), ([], [96, 97, 98, 99, 101]), ([], [96, 97, 98, 99, 100]), ([4, 5], [96, 97, 98, 99, 100, 101]), ([4, 5, 6], [96, 97, 98, 99, 100, 101, 102]), ([0, 1, 2, 3, 4, 5, 6, 7], [96, 97, 98, 99, 100, 101, 102, 103])] [] (Γx := []) ?_; dsimp only [prev0, List.length_nil, List.length_cons])
   | (refine gAny ?_; first | (refine gGd ?_; refine RGl.skp ?_) | (refine gD 16 ?_; refine RGl.rdX (fun e hk => by (try dsimp only [bndR, ensR, oksR, fcutR, List.append_nil, List.nil_append, List.cons_append, List.append_assoc] at hk ⊢); exact ReadR.binE rfl rfl (BinR.addK (by simp only [kmin]; omega) (by simp only [kmax]; omega)) (congrArg (Value.int .i64) hN)) ?_) | (refine gD 24 ?_; refine RGl.rdX (fun e hk => by (try dsimp only [bndR, ensR, oksR, fcutR, List.append_nil, List.nil_append, List.cons_append, List.append_assoc] at hk ⊢); exact readP) ?_) | (refine gOp ?_; first | refine RGl.rdA ?_ | refine RGl.rdX (fun e hk => by (try dsimp only [bndR, ensR, oksR, fcutR, List.append_nil, List.nil_append, List.cons_append, List.append_assoc] at hk ⊢); exact readB) ?_) | (refine RGl.fin (fun e hk => ?_); (try dsimp only [bndA, ensAR, oksA, List.append_nil, List.nil_append, List.cons_append, List.append_assoc] at hk ⊢); (repeat (obtain ⟨hk1, hk⟩ := hk))) | fail)
   | (refine isCond ?_; first | refine WPc.cT ?_ | refine WPc.cF ?_ | (refine WPc.cQ (fun hc => ?_) (fun hc => ?_) <;> try exact prA))
   | (refine isD 16 ?_; refine WPl.rdX (ReadR.binE rfl rfl (BinR.addK (by simp only [kmin]; omega) (by simp only [kmax]; omega)) (congrArg (Value.int .i64) hN)) ?_)
   | (refine isC 20 ?_; refine WPl.cXs (c0) fun v Γ1 hR => ?_; obtain ⟨gB, m, f0, rfl, rfl, hI0⟩ := hR; (try dsimp only [putF, List.cons_append, List.nil_append]))
   | (refine isD 24 ?_; refine WPl.rdX (readP) ?_)
   | (refine isOp ?_; first | refine WPl.rd ?_ | refine WPl.sk ?_ | refine WPl.rdB ?_)
   | (show WPl _ _ _ _ _ _ _ (⟨_, .indexAddr _ _ _, _, _, _, _⟩ :: _) _; refine WPl.rdX (ReadR.indexE rfl rfl hasA (by first | assumption | omega)) ?_)
   | (show WPl _ _ _ _ _ _ _ (⟨_, .fieldAddr _ _ _, _, _, _, _⟩ :: _) _; refine WPl.rdX (ReadR.fieldE rfl hasA (by first | assumption | omega)) ?_)
   | (show WPl _ _ _ _ _ _ _ (⟨_, .load _ _, _, _, _, _⟩ :: _) _; first | refine WPl.rdX (ReadR.loadE rfl hasA (by assumption)) ?_ | refine WPl.rdX (ReadR.loadES (by assumption) (by first | assumption | omega) rfl hasA) ?_)
   | (show WPl _ _ _ _ _ _ _ (⟨_, .slice _ _ _ _ _, _, _, _, _⟩ :: _) _; first | refine WPl.rdX (ReadR.sliceH rfl rfl hasA (by omega)) ?_ | refine WPl.rdX (ReadR.sliceL rfl rfl hasA (by omega)) ?_ | refine WPl.rdX (ReadR.sliceLH rfl rfl rfl hasA (by omega) (by omega)) ?_)
   | (refine WPl.spQ (fun hc => ?_) (fun hc => ?_) <;> try exact prA)
   | fail)
  first | refine WPc.loop (σ := FSt) (fun st => st.i ≤ 60 ∧ BkI 9 n st.L st.M st.f) (fun st => [rdN vr l.length C, bx gB 131 (bkc (hdO none st.L) (lsO none st.L) 1 9 ((n : Nat) : Int) m), mp prM m st.M, pool 135 st.f]) (fun st => [(1, vr), (5, .int .i64 ((n : Nat) : Int)), (6, hP' gB), (8, .int .i64 st.i)]) (fun st => 60 - st.i) (⟨0, [], [], f0⟩) ?_ takesA frsA (fun st km hx hk => ?_)
  · exact ⟨Nat.zero_le _, hI0⟩
  obtain ⟨i, L, M, f⟩ := st
  obtain ⟨hi, hI⟩ := hx
  dsimp only at hi hI hk ⊢
  clear hI0 c0
  by_cases hin : i < l.length ∧ i < 60
  · obtain ⟨hil, hi60⟩ := hin
    obtain ⟨p, hp⟩ : ∃ p, l[i]? = some p := ⟨_, List.getElem?_eq_getElem hil⟩
    have hpl := hat i p hp
    have hp64 := hl p (List.mem_of_getElem? hp)
    have hlt : i * 18 + 18 ≤ C.length := by omega
    have hLn := hI.few
    have ho1 := order_t gB m 1 9 n f L M hI.lk (by omega)
    obtain ⟨K, hK⟩ : ∃ K, K = keptD 9 n (L.map (·.2)) p 5 := ⟨_, rfl⟩
    have hKp : K.1.p = p := by rw [hK]; exact keptD_p
    have hpre : K.2.map (·.p) <+: (L.map (·.2.p)).filter (fun q => !decide (q = p)) := by
      have := keptD_pre (burst := 9) (n := n) (p := p) (now := 5) (D := L.map (·.2)) (by rw [List.map_map]; exact List.pairwise_map.2 hI.keys)
      rw [← hK, List.map_map] at this
      exact this
    obtain ⟨D', r, htk⟩ : ∃ D' r, takeD 1 9 n (L.map (·.2)) p 1 5 = (D', r) := ⟨_, _, rfl⟩
    have hD' : ∃ h, D' = h :: K.2 ∧ h.p = p := by
      have := takeD_eq (per := 1) (n := 1) (show keptD 9 n (L.map (·.2)) p 5 = (K.1, K.2) by rw [← hK])
      rw [htk] at this
      cases this
      exact ⟨_, rfl, hKp⟩
    obtain ⟨h0, rfl, h0p⟩ := hD'
    clear hK hKp
    repeat' (first
     | refine WPl.nil ?_ | refine WPq.then ?_ | refine WPq.thenR ?_ | refine WPq.thenE ?_ | refine WPq.blockN ?_ | refine WPq.blockR ?_ | refine WPq.blockE ?_ | refine WPq.blockO rfl ?_ | refine WPc.seq ?_ | refine WPc.block ?_ | refine WPc.ret ?_ | refine WPc.exit ?_ | refine WPc.skip ?_ | refine WPc.region ?_
     | (refine isReg 11 ?_; refine WPc.drA [([26, 27, 28], [51]), ([0, 26, 27, 28], [49, 51]), ([26, 27, 28], [49, 50]), ([0, 1, 2, 26, 27, 28], [49, 50, 51]), ([0, 1, 2, 3, 26, 27, 28], [49, 50, 51, 52]), ([0, 1, 2, 3, 4, 26, 27, 28], [49, 50, 51, 52, 53]), ([0, 1, 2, 3, 4, 5, 26, 27, 28], [49, 50, 51, 52, 53, 54]), ([0, 1, 2, 3, 4, 5, 6, 26, 27, 28], [49, 50, 51, 52, 53, 54, 55]), ([0, 1, 2, 3, 4, 5, 6, 7, 26, 27, 28], [49, 50, 51, 52, 53, 54, 55, 56]), ([0, 1, 2, 3, 4, 5, 6, 7, 8, 26, 27, 28], [49, 50, 51, 52, 53, 54, 55, 56, 57]), ([0, 1, 2, 3, 4, 5, 6, 7, 8, 9, 26, 27, 28], [49, 50, 51, 52, 53, 54, 55, 56, 57, 58, 62, 63, 64, 65]), ([0, 1, 2, 3, 4, 5, 6, 7, 8, 9, 10, 26, 27, 28], [49, 50, 51, 52, 53, 54, 55, 56, 57, 58, 59, 62, 63, 64, 65]), ([0, 1, 2, 3, 4, 5, 6, 7, 8, 9, 10, 11, 26, 27, 28], [49, 50, 51, 52, 53, 54, 55, 56, 57, 58, 59, 60, 62, 63, 64, 65]), ([0, 1, 2, 3, 4, 5, 6, 7, 8, 9, 26, 27, 28], [49, 50, 51, 52, 53, 54, 55, 56, 57, 58, 59, 60, 61, 63]), ([0, 1, 2, 3, 4, 5, 6, 7, 8, 9, 26, 27, 28], [49, 50, 51, 52, 53, 54, 55, 56, 57, 58, 59, 60, 61, 62]), ([0, 1, 2, 3, 4, 5, 6, 7, 8, 9, 13, 14, 26, 27, 28], [49, 50, 51, 52, 53, 54, 55, 56, 57, 58, 59, 60, 61, 62, 63]), ([0, 1, 2, 3, 4, 5, 6, 7, 8, 9, 13, 14, 15, 26, 27, 28], [49, 50, 51, 52, 53, 54, 55, 56, 57, 58, 59, 60, 61, 62, 63, 64]), ([0, 1, 2, 3, 4, 5, 6, 7, 8, 9, 10, 11, 12, 13, 14, 15, 16, 26, 27, 28], [49, 50, 51, 52, 53, 54, 55, 56, 57, 58, 59, 60, 61, 62, 63, 64, 65]), ([0, 1, 2, 3, 4, 5, 6, 7, 8, 9, 10, 11, 12, 13, 14, 15, 16, 17, 26, 27, 28], [49, 50, 51, 52, 53, 54, 55, 56, 57, 58, 59, 60, 61, 62, 63, 64, 65, 66]), ([0, 1, 2, 3, 4, 5, 6, 7, 8, 9, 10, 11, 12, 13, 14, 15, 16, 17, 18, 26, 27, 28], [49, 50, 51, 52, 53, 54, 55, 56, 57, 58, 59, 60, 61, 62, 63, 64, 65, 66, 67]), ([0, 1, 2, 3, 4, 5, 6, 7, 8, 9, 10, 11, 12, 13, 14, 15, 16, 17, 18, 19, 26, 27, 28], [49, 50, 51, 52, 53, 54, 55, 56, 57, 58, 59, 60, 61, 62, 63, 64, 65, 66, 67, 68, 71, 72]), ([0, 1, 2, 3, 4, 5, 6, 7, 8, 9, 10, 11, 12, 13, 14, 15, 16, 17, 18, 19, 20, 26, 27, 28], [49, 50, 51, 52, 53, 54, 55, 56, 57, 58, 59, 60, 61, 62, 63, 64, 65, 66, 67, 68, 69, 71, 72]), ([0, 1, 2, 3, 4, 5, 6, 7, 8, 9, 10, 11, 12, 13, 14, 15, 16, 17, 18, 19, 26, 27, 28], [49, 50, 51, 52, 53, 54, 55, 56, 57, 58, 59, 60, 61, 62, 63, 64, 65, 66, 67, 68, 69, 70]), ([0, 1, 2, 3, 4, 5, 6, 7, 8, 9, 10, 11, 12, 13, 14, 15, 16, 17, 18, 19, 22, 26, 27, 28], [49, 50, 51, 52, 53, 54, 55, 56, 57, 58, 59, 60, 61, 62, 63, 64, 65, 66, 67, 68, 69, 70, 71]), ([0, 1, 2, 3, 4, 5, 6, 7, 8, 9, 10, 11, 12, 13, 14, 15, 16, 17, 18, 19, 20, 21, 22, 23, 26, 27, 28], [49, 50, 51, 52, 53, 54, 55, 56, 57, 58, 59, 60, 61, 62, 63, 64, 65, 66, 67, 68, 69, 70, 71, 72]), ([0, 1, 2, 3, 4, 5, 6, 7, 8, 9, 10, 11, 12, 13, 14, 15, 16, 17, 18, 19, 20, 21, 22, 23, 24, 26, 27, 28], [49, 50, 51, 52, 53, 54, 55, 56, 57, 58, 59, 60, 61, 62, 63, 64, 65, 66, 67, 68, 69, 70, 71, 72, 73])] [(26, 21), (27, 21), (28, 21), (26, 0), (26, 1), (26, 2), (26, 3), (26, 4), (26, 5), (26, 6), (26, 7), (26, 8), (26, 9), (26, 10), (26, 11), (26, 12), (26, 13), (26, 14), (26, 15), (26, 16), (26, 17), (26, 18), (26, 19), (26, 20), (27, 0), (27, 1), (27, 2), (27, 3), (27, 4), (27, 5), (27, 6), (27, 7), (27, 8), (27, 9), (27, 10), (27, 11), (27, 12), (27, 13), (27, 14), (27, 15), (27, 16), (27, 17), (27, 18), (27, 19), (27, 20), (28, 0), (28, 1), (28, 2), (28, 3), (28, 4), (28, 5), (28, 6), (28, 7), (28, 8), (28, 9), (28, 10), (28, 11), (28, 12), (28, 13), (28, 14), (28, 15), (28, 16), (28, 17), (28, 18), (28, 19), (28, 20)] (Γx := [bx gB 131 (bkc (hdO none L1) (lsO none L1) 1 9 ((n : Nat) : Int) m), mp prM m M1, pool 135 f1]) (hox := ownsP) ?_; dsimp only [prev0, List.length_nil, List.length_cons])
     | (refine isReg 17 ?_; refine WPc.drA [([], [88, 91, 92, 93, 94]), ([], [87, 91, 92, 93, 94]), ([0, 1], [87, 88, 91, 92, 93, 94]), ([0, 1, 2], [87, 88, 89, 91, 92, 93, 94]), ([], [87, 88, 89, 90, 92]), ([], [87, 88, 89, 90, 91]), ([4, 5], [87, 88, 89, 90, 91, 92]), ([4, 5, 6], [87, 88, 89, 90, 91, 92, 93]), ([0, 1, 2, 3, 4, 5, 6, 7], [87, 88, 89, 90, 91, 92, 93, 94])] [] (Γx := []) ?_; dsimp only [prev0, List.length_nil, List.length_cons])
     | (refine isReg 18 ?_; refine WPc.drA [([], [97, 100, 101, 102, 103]), ([], [96, 100, 101, 102, 103]), ([0, 1], [96, 97, 100, 101, 102, 103]), ([0, 1, 2], [96, 97, 98, 100, 101, 102, 103]), ([], [96, 97, 98, 99, 101]), ([], [96, 97, 98, 99, 100]), ([4, 5], [96, 97, 98, 99, 100, 101]), ([4, 5, 6], [96, 97, 98, 99, 100, 101, 102]), ([0, 1, 2, 3, 4, 5, 6, 7], [96, 97, 98, 99, 100, 101, 102, 103])] [] (Γx := []) ?_; dsimp only [prev0, List.length_nil, List.length_cons])
     | (refine gAny ?_; first | (refine gGd ?_; refine RGl.skp ?_) | (refine gC 70 ?_; refine RGl.turns (fun e hk => by (try dsimp only [bndR, ensR, oksR, fcutR, List.append_nil, List.nil_append, List.cons_append, List.append_assoc] at hk ⊢); exact OpT.callTs (c70)) ?_) | (refine gD 44 ?_; refine RGl.rdX (fun e hk => by (try dsimp only [bndR, ensR, oksR, fcutR, List.append_nil, List.nil_append, List.cons_append, List.append_assoc] at hk ⊢); exact ReadR.indexE (i := i) rfl rfl hasA hil) ?_) | (refine gD 45 ?_; refine RGl.rdX (fun e hk => by (try dsimp only [bndR, ensR, oksR, fcutR, List.append_nil, List.nil_append, List.cons_append, List.append_assoc] at hk ⊢); exact ReadR.loadES (cs := pfc p) hpl hlt rfl hasA) ?_) | (refine gD 52 ?_; refine RGl.rdX (fun e hk => by (try dsimp only [bndR, ensR, oksR, fcutR, List.append_nil, List.nil_append, List.cons_append, List.append_assoc] at hk ⊢); exact ReadR.binE rfl rfl BinR.gtr (congrArg Value.bool (decide_eq_false hle1))) ?_) | (refine gD 56 ?_; refine RGl.rdX (fun e hk => by (try dsimp only [bndR, ensR, oksR, fcutR, List.append_nil, List.nil_append, List.cons_append, List.append_assoc] at hk ⊢); exact ReadR.binE rfl rfl BinR.eql (congrArg Value.bool (decide_eq_false hne1))) ?_) | (refine gD 60 ?_; refine RGl.rdX (fun e hk => by (try dsimp only [bndR, ensR, oksR, fcutR, List.append_nil, List.nil_append, List.cons_append, List.append_assoc] at hk ⊢); exact ReadR.indexE (i := 0) rfl rfl hasA hz3) ?_) | (refine gD 61 ?_; refine RGl.rdX (fun e hk => by (try dsimp only [bndR, ensR, oksR, fcutR, List.append_nil, List.nil_append, List.cons_append, List.append_assoc] at hk ⊢); exact ReadR.loadES (cs := pfc p) hz4 hlw rfl hasA) ?_) | (refine gD 64 ?_; refine RGl.rdX (fun e hk => by (try dsimp only [bndR, ensR, oksR, fcutR, List.append_nil, List.nil_append, List.cons_append, List.append_assoc] at hk ⊢); exact ReadR.indexE (i := i) rfl rfl hasA hil) ?_) | (refine gD 65 ?_; refine RGl.rdX (fun e hk => by (try dsimp only [bndR, ensR, oksR, fcutR, List.append_nil, List.nil_append, List.cons_append, List.append_assoc] at hk ⊢); exact ReadR.loadES (cs := pfc p) hpl hlt rfl hasA) ?_) | (refine gD 66 ?_; refine RGl.rdX (fun e hk => by (try dsimp only [bndR, ensR, oksR, fcutR, List.append_nil, List.nil_append, List.cons_append, List.append_assoc] at hk ⊢); exact ReadR.binE rfl rfl BinR.pfN (congrArg (fun q => Value.bool (!q)) (decide_eq_true rfl))) ?_) | (refine gD 73 ?_; refine RGl.rdX (fun e hk => by (try dsimp only [bndR, ensR, oksR, fcutR, List.append_nil, List.nil_append, List.cons_append, List.append_assoc] at hk ⊢); exact ReadR.binE rfl rfl BinR.neq (congrArg (fun q => Value.bool (!q)) (decide_eq_true rfl))) ?_) | (refine gOp ?_; first | refine RGl.rdA ?_ | refine RGl.rdX (fun e hk => by (try dsimp only [bndR, ensR, oksR, fcutR, List.append_nil, List.nil_append, List.cons_append, List.append_assoc] at hk ⊢); exact readB) ?_) | (refine RGl.fin (fun e hk => ?_); (try dsimp only [bndA, ensAR, oksA, List.append_nil, List.nil_append, List.cons_append, List.append_assoc] at hk ⊢); (repeat (obtain ⟨hk1, hk⟩ := hk))) | fail)
     | (refine isCond ?_; first | refine WPc.cT ?_ | refine WPc.cF ?_ | (refine WPc.cQ (fun hc => ?_) (fun hc => ?_) <;> try exact prA))
     | (refine isC 40 ?_; refine WPl.cXs (ho1) fun w1 Γ1 hR => ?_; obtain ⟨hw1, rfl⟩ := hR; (try dsimp only [putF, List.cons_append, List.nil_append]))
     | (refine isD 44 ?_; refine WPl.rdX (ReadR.indexE (i := i) rfl rfl hasA hil) ?_)
     | (refine isD 45 ?_; refine WPl.rdX (ReadR.loadES (cs := pfc p) hpl hlt rfl hasA) ?_)
     | (refine isC 46 ?_; refine WPl.cXs ((take_c 1 9 n hb gB m hI rfl p 1 5 hp64 (by omega) (by omega) htk)) fun v Γ1 hR => ?_; obtain ⟨L1, M1, f1, rfl, rfl, hI1, hD1⟩ := hR; (try dsimp only [putF, List.cons_append, List.nil_append]))
     | (refine isC 48 ?_; refine WPl.cXs ((order_t gB m 1 9 n f1 L1 M1 hI1.lk (by have := hI1.few; omega))) fun w2 Γ1 hR => ?_; obtain ⟨hw2, rfl⟩ := hR; obtain ⟨⟨cz, hz1, hz2⟩, hff⟩ := few_facts hD1 h0p hpre; have hn1 := hI1.few; have hz3 := (List.getElem?_eq_some_iff.1 hz1).1; have hz4 := pfs_at hz1; rw [hz2] at hz4; have hle1 : ¬ ((L1.length : Nat) : Int) > ((n : Nat) : Int) := (by omega); have hne1 : ¬ ((L1.length : Nat) : Int) = 0 := (by omega); have hlw : 0 * 18 + 18 ≤ (pfs L1).length := (by rw [pfs_len]; omega); have c70 := blen_t gB m 1 9 n f1 L1 M1 hI1 (hdO none L1) (lsO none L1); (try dsimp only [putF, List.cons_append, List.nil_append]))
     | (refine isD 52 ?_; refine WPl.rdX (ReadR.binE rfl rfl BinR.gtr (congrArg Value.bool (decide_eq_false hle1))) ?_)
     | (refine isD 56 ?_; refine WPl.rdX (ReadR.binE rfl rfl BinR.eql (congrArg Value.bool (decide_eq_false hne1))) ?_)
     | (refine isD 60 ?_; refine WPl.rdX (ReadR.indexE (i := 0) rfl rfl hasA hz3) ?_)
     | (refine isD 61 ?_; refine WPl.rdX (ReadR.loadES (cs := pfc p) hz4 hlw rfl hasA) ?_)
     | (refine isD 64 ?_; refine WPl.rdX (ReadR.indexE (i := i) rfl rfl hasA hil) ?_)
     | (refine isD 65 ?_; refine WPl.rdX (ReadR.loadES (cs := pfc p) hpl hlt rfl hasA) ?_)
     | (refine isD 66 ?_; refine WPl.rdX (ReadR.binE rfl rfl BinR.pfN (congrArg (fun q => Value.bool (!q)) (decide_eq_true rfl))) ?_)
     | (refine isC 70 ?_; refine WPl.cTs (c70) ?_; (try dsimp only [putF, List.cons_append, List.nil_append]))
     | (refine isD 73 ?_; refine WPl.rdX (ReadR.binE rfl rfl BinR.neq (congrArg (fun q => Value.bool (!q)) (decide_eq_true rfl))) ?_)
     | (refine isOp ?_; first | refine WPl.rd ?_ | refine WPl.sk ?_ | refine WPl.rdB ?_)
     | (show WPl _ _ _ _ _ _ _ (⟨_, .indexAddr _ _ _, _, _, _, _⟩ :: _) _; refine WPl.rdX (ReadR.indexE rfl rfl hasA (by first | assumption | omega)) ?_)
     | (show WPl _ _ _ _ _ _ _ (⟨_, .fieldAddr _ _ _, _, _, _, _⟩ :: _) _; refine WPl.rdX (ReadR.fieldE rfl hasA (by first | assumption | omega)) ?_)
     | (show WPl _ _ _ _ _ _ _ (⟨_, .load _ _, _, _, _, _⟩ :: _) _; first | refine WPl.rdX (ReadR.loadE rfl hasA (by assumption)) ?_ | refine WPl.rdX (ReadR.loadES (by assumption) (by first | assumption | omega) rfl hasA) ?_)
     | (show WPl _ _ _ _ _ _ _ (⟨_, .slice _ _ _ _ _, _, _, _, _⟩ :: _) _; first | refine WPl.rdX (ReadR.sliceH rfl rfl hasA (by omega)) ?_ | refine WPl.rdX (ReadR.sliceL rfl rfl hasA (by omega)) ?_ | refine WPl.rdX (ReadR.sliceLH rfl rfl rfl hasA (by omega) (by omega)) ?_)
     | (refine WPl.spQ (fun hc => ?_) (fun hc => ?_) <;> try exact prA)
     | fail)
    first | refine WPc.loop (σ := Nat × Nat) (fun st => st.1 ≤ L.length ∧ st.2 = 1 + (((L.map (·.2.p)).take st.1).filter (fun q => !decide (q = p))).length) (fun st => [rdN vr l.length C, rowN 34 18 w1 L.length (pfs L), rowN 34 18 w2 L1.length (pfs L1), bx gB 131 (bkc (hdO none L1) (lsO none L1) 1 9 ((n : Nat) : Int) m), mp prM m M1, pool 135 f1]) (fun st => [(1, vr), (5, .int .i64 ((n : Nat) : Int)), (6, hP' gB), (8, .int .i64 i), (9, w1), (10, w2), (11, .int .i64 st.2), (12, .int .i64 st.1)]) (fun st => L.length - st.1) ((0, 1)) ?_ takesA frsA (fun st km hx hk => ?_)
    · exact ⟨Nat.zero_le _, rfl⟩
    obtain ⟨j, k⟩ := st
    obtain ⟨hjl, hkj⟩ := hx
    rename_i km2
    dsimp only at hjl hkj hk ⊢
    by_cases hjk : j < L.length ∧ k < L1.length
    · obtain ⟨hj, hkL⟩ := hjk
      obtain ⟨cj, hcj⟩ : ∃ cj, L[j]? = some cj := ⟨_, List.getElem?_eq_getElem hj⟩
      have hcj1 := pfs_at hcj
      have hcj2 : (L.map (·.2.p))[j]? = some cj.2.p := by rw [List.getElem?_map, hcj]; rfl
      have hlj : j * 18 + 18 ≤ (pfs L).length := by rw [pfs_len]; omega
      have htf := take_filter (P := fun q => !decide (q = p)) hcj2
      by_cases hq : cj.2.p = p
      · have hk' : k = 1 + (((L.map (·.2.p)).take (j + 1)).filter (fun q => !decide (q = p))).length := by rw [htf]; simp [hq]; exact hkj
        repeat' (first
         | refine WPl.nil ?_ | refine WPq.then ?_ | refine WPq.thenR ?_ | refine WPq.thenE ?_ | refine WPq.blockN ?_ | refine WPq.blockR ?_ | refine WPq.blockE ?_ | refine WPq.blockO rfl ?_ | refine WPc.seq ?_ | refine WPc.block ?_ | refine WPc.ret ?_ | refine WPc.exit ?_ | refine WPc.skip ?_ | refine WPc.region ?_
         | (refine isReg 11 ?_; refine WPc.drA [([], [51]), ([0], [49, 51]), ([], [49, 50]), ([0, 1, 2], [49, 50, 51]), ([0, 1, 2, 3], [49, 50, 51, 52]), ([0, 1, 2, 3, 4], [49, 50, 51, 52, 53]), ([0, 1, 2, 3, 4, 5], [49, 50, 51, 52, 53, 54]), ([0, 1, 2, 3, 4, 5, 6], [49, 50, 51, 52, 53, 54, 55]), ([0, 1, 2, 3, 4, 5, 6, 7], [49, 50, 51, 52, 53, 54, 55, 56]), ([0, 1, 2, 3, 4, 5, 6, 7, 8], [49, 50, 51, 52, 53, 54, 55, 56, 57]), ([0, 1, 2, 3, 4, 5, 6, 7, 8, 9], [49, 50, 51, 52, 53, 54, 55, 56, 57, 58, 62, 63, 64, 65]), ([0, 1, 2, 3, 4, 5, 6, 7, 8, 9, 10], [49, 50, 51, 52, 53, 54, 55, 56, 57, 58, 59, 62, 63, 64, 65]), ([0, 1, 2, 3, 4, 5, 6, 7, 8, 9, 10, 11], [49, 50, 51, 52, 53, 54, 55, 56, 57, 58, 59, 60, 62, 63, 64, 65]), ([0, 1, 2, 3, 4, 5, 6, 7, 8, 9], [49, 50, 51, 52, 53, 54, 55, 56, 57, 58, 59, 60, 61, 63]), ([0, 1, 2, 3, 4, 5, 6, 7, 8, 9], [49, 50, 51, 52, 53, 54, 55, 56, 57, 58, 59, 60, 61, 62]), ([0, 1, 2, 3, 4, 5, 6, 7, 8, 9, 13, 14], [49, 50, 51, 52, 53, 54, 55, 56, 57, 58, 59, 60, 61, 62, 63]), ([0, 1, 2, 3, 4, 5, 6, 7, 8, 9, 13, 14, 15], [49, 50, 51, 52, 53, 54, 55, 56, 57, 58, 59, 60, 61, 62, 63, 64]), ([0, 1, 2, 3, 4, 5, 6, 7, 8, 9, 10, 11, 12, 13, 14, 15, 16], [49, 50, 51, 52, 53, 54, 55, 56, 57, 58, 59, 60, 61, 62, 63, 64, 65]), ([0, 1, 2, 3, 4, 5, 6, 7, 8, 9, 10, 11, 12, 13, 14, 15, 16, 17], [49, 50, 51, 52, 53, 54, 55, 56, 57, 58, 59, 60, 61, 62, 63, 64, 65, 66]), ([0, 1, 2, 3, 4, 5, 6, 7, 8, 9, 10, 11, 12, 13, 14, 15, 16, 17, 18], [49, 50, 51, 52, 53, 54, 55, 56, 57, 58, 59, 60, 61, 62, 63, 64, 65, 66, 67]), ([0, 1, 2, 3, 4, 5, 6, 7, 8, 9, 10, 11, 12, 13, 14, 15, 16, 17, 18, 19], [49, 50, 51, 52, 53, 54, 55, 56, 57, 58, 59, 60, 61, 62, 63, 64, 65, 66, 67, 68, 71, 72]), ([0, 1, 2, 3, 4, 5, 6, 7, 8, 9, 10, 11, 12, 13, 14, 15, 16, 17, 18, 19, 20], [49, 50, 51, 52, 53, 54, 55, 56, 57, 58, 59, 60, 61, 62, 63, 64, 65, 66, 67, 68, 69, 71, 72]), ([0, 1, 2, 3, 4, 5, 6, 7, 8, 9, 10, 11, 12, 13, 14, 15, 16, 17, 18, 19], [49, 50, 51, 52, 53, 54, 55, 56, 57, 58, 59, 60, 61, 62, 63, 64, 65, 66, 67, 68, 69, 70]), ([0, 1, 2, 3, 4, 5, 6, 7, 8, 9, 10, 11, 12, 13, 14, 15, 16, 17, 18, 19, 22], [49, 50, 51, 52, 53, 54, 55, 56, 57, 58, 59, 60, 61, 62, 63, 64, 65, 66, 67, 68, 69, 70, 71]), ([0, 1, 2, 3, 4, 5, 6, 7, 8, 9, 10, 11, 12, 13, 14, 15, 16, 17, 18, 19, 20, 21, 22, 23], [49, 50, 51, 52, 53, 54, 55, 56, 57, 58, 59, 60, 61, 62, 63, 64, 65, 66, 67, 68, 69, 70, 71, 72]), ([0, 1, 2, 3, 4, 5, 6, 7, 8, 9, 10, 11, 12, 13, 14, 15, 16, 17, 18, 19, 20, 21, 22, 23, 24], [49, 50, 51, 52, 53, 54, 55, 56, 57, 58, 59, 60, 61, 62, 63, 64, 65, 66, 67, 68, 69, 70, 71, 72, 73])] [] (Γx := []) ?_; dsimp only [prev0, List.length_nil, List.length_cons])
         | (refine isReg 17 ?_; refine WPc.drA [([], [88, 91, 92, 93, 94]), ([], [87, 91, 92, 93, 94]), ([0, 1], [87, 88, 91, 92, 93, 94]), ([0, 1, 2], [87, 88, 89, 91, 92, 93, 94]), ([], [87, 88, 89, 90, 92]), ([], [87, 88, 89, 90, 91]), ([4, 5], [87, 88, 89, 90, 91, 92]), ([4, 5, 6], [87, 88, 89, 90, 91, 92, 93]), ([0, 1, 2, 3, 4, 5, 6, 7], [87, 88, 89, 90, 91, 92, 93, 94])] [] (Γx := []) ?_; dsimp only [prev0, List.length_nil, List.length_cons])
         | (refine isReg 18 ?_; refine WPc.drA [([], [97, 100, 101, 102, 103]), ([], [96, 100, 101, 102, 103]), ([0, 1], [96, 97, 100, 101, 102, 103]), ([0, 1, 2], [96, 97, 98, 100, 101, 102, 103]), ([], [96, 97, 98, 99, 101]), ([], [96, 97, 98, 99, 100]), ([4, 5], [96, 97, 98, 99, 100, 101]), ([4, 5, 6], [96, 97, 98, 99, 100, 101, 102]), ([0, 1, 2, 3, 4, 5, 6, 7], [96, 97, 98, 99, 100, 101, 102, 103])] [] (Γx := []) ?_; dsimp only [prev0, List.length_nil, List.length_cons])
         | (refine gAny ?_; first | (refine gGd ?_; refine RGl.skp ?_) | (refine gD 89 ?_; refine RGl.rdX (fun e hk => by (try dsimp only [bndR, ensR, oksR, fcutR, List.append_nil, List.nil_append, List.cons_append, List.append_assoc] at hk ⊢); exact ReadR.indexE (i := j) rfl rfl hasA hj) ?_) | (refine gD 90 ?_; refine RGl.rdX (fun e hk => by (try dsimp only [bndR, ensR, oksR, fcutR, List.append_nil, List.nil_append, List.cons_append, List.append_assoc] at hk ⊢); exact ReadR.loadES (cs := pfc cj.2.p) hcj1 hlj rfl hasA) ?_) | (refine gD 93 ?_; refine RGl.rdX (fun e hk => by (try dsimp only [bndR, ensR, oksR, fcutR, List.append_nil, List.nil_append, List.cons_append, List.append_assoc] at hk ⊢); exact ReadR.indexE (i := i) rfl rfl hasA hil) ?_) | (refine gD 94 ?_; refine RGl.rdX (fun e hk => by (try dsimp only [bndR, ensR, oksR, fcutR, List.append_nil, List.nil_append, List.cons_append, List.append_assoc] at hk ⊢); exact ReadR.loadES (cs := pfc p) hpl hlt rfl hasA) ?_) | (refine gD 95 ?_; refine RGl.rdX (fun e hk => by (try dsimp only [bndR, ensR, oksR, fcutR, List.append_nil, List.nil_append, List.cons_append, List.append_assoc] at hk ⊢); exact ReadR.binE rfl rfl BinR.pfE (congrArg Value.bool (decide_eq_true hq))) ?_) | (refine gOp ?_; first | refine RGl.rdA ?_ | refine RGl.rdX (fun e hk => by (try dsimp only [bndR, ensR, oksR, fcutR, List.append_nil, List.nil_append, List.cons_append, List.append_assoc] at hk ⊢); exact readB) ?_) | (refine RGl.fin (fun e hk => ?_); (try dsimp only [bndA, ensAR, oksA, List.append_nil, List.nil_append, List.cons_append, List.append_assoc] at hk ⊢); (repeat (obtain ⟨hk1, hk⟩ := hk))) | fail)
         | (refine isCond ?_; first | refine WPc.cT ?_ | refine WPc.cF ?_ | (refine WPc.cQ (fun hc => ?_) (fun hc => ?_) <;> try exact prA))
         | (refine isD 89 ?_; refine WPl.rdX (ReadR.indexE (i := j) rfl rfl hasA hj) ?_)
         | (refine isD 90 ?_; refine WPl.rdX (ReadR.loadES (cs := pfc cj.2.p) hcj1 hlj rfl hasA) ?_)
         | (refine isD 93 ?_; refine WPl.rdX (ReadR.indexE (i := i) rfl rfl hasA hil) ?_)
         | (refine isD 94 ?_; refine WPl.rdX (ReadR.loadES (cs := pfc p) hpl hlt rfl hasA) ?_)
         | (refine isD 95 ?_; refine WPl.rdX (ReadR.binE rfl rfl BinR.pfE (congrArg Value.bool (decide_eq_true hq))) ?_)
         | (refine isOp ?_; first | refine WPl.rd ?_ | refine WPl.sk ?_ | refine WPl.rdB ?_)
         | (show WPl _ _ _ _ _ _ _ (⟨_, .indexAddr _ _ _, _, _, _, _⟩ :: _) _; refine WPl.rdX (ReadR.indexE rfl rfl hasA (by first | assumption | omega)) ?_)
         | (show WPl _ _ _ _ _ _ _ (⟨_, .fieldAddr _ _ _, _, _, _, _⟩ :: _) _; refine WPl.rdX (ReadR.fieldE rfl hasA (by first | assumption | omega)) ?_)
         | (show WPl _ _ _ _ _ _ _ (⟨_, .load _ _, _, _, _, _⟩ :: _) _; first | refine WPl.rdX (ReadR.loadE rfl hasA (by assumption)) ?_ | refine WPl.rdX (ReadR.loadES (by assumption) (by first | assumption | omega) rfl hasA) ?_)
         | (show WPl _ _ _ _ _ _ _ (⟨_, .slice _ _ _ _ _, _, _, _, _⟩ :: _) _; first | refine WPl.rdX (ReadR.sliceH rfl rfl hasA (by omega)) ?_ | refine WPl.rdX (ReadR.sliceL rfl rfl hasA (by omega)) ?_ | refine WPl.rdX (ReadR.sliceLH rfl rfl rfl hasA (by omega) (by omega)) ?_)
         | (refine WPl.spQ (fun hc => ?_) (fun hc => ?_) <;> try exact prA)
         | fail)
        exact WPq.rnd (j + 1, k) ⟨by dsimp only; omega, hk'⟩ (by dsimp only; omega)
      · have hk' : k + 1 = 1 + (((L.map (·.2.p)).take (j + 1)).filter (fun q => !decide (q = p))).length := by rw [htf]; simp [hq]; omega
        obtain ⟨kk, rfl⟩ : ∃ kk, k = kk + 1 := ⟨k - 1, by omega⟩
        have hfa := filter_at (P := fun q => !decide (q = p)) hcj2 (by simpa using hq)
        rw [← show kk = (((L.map (·.2.p)).take j).filter (fun q => !decide (q = p))).length by omega] at hfa
        obtain ⟨ck, hck, hck2⟩ := hff kk _ hkL hfa
        have hck1 := pfs_at hck
        rw [hck2] at hck1
        have hlk : (kk + 1) * 18 + 18 ≤ (pfs L1).length := by rw [pfs_len]; omega
        repeat' (first
         | refine WPl.nil ?_ | refine WPq.then ?_ | refine WPq.thenR ?_ | refine WPq.thenE ?_ | refine WPq.blockN ?_ | refine WPq.blockR ?_ | refine WPq.blockE ?_ | refine WPq.blockO rfl ?_ | refine WPc.seq ?_ | refine WPc.block ?_ | refine WPc.ret ?_ | refine WPc.exit ?_ | refine WPc.skip ?_ | refine WPc.region ?_
         | (refine isReg 11 ?_; refine WPc.drA [([], [51]), ([0], [49, 51]), ([], [49, 50]), ([0, 1, 2], [49, 50, 51]), ([0, 1, 2, 3], [49, 50, 51, 52]), ([0, 1, 2, 3, 4], [49, 50, 51, 52, 53]), ([0, 1, 2, 3, 4, 5], [49, 50, 51, 52, 53, 54]), ([0, 1, 2, 3, 4, 5, 6], [49, 50, 51, 52, 53, 54, 55]), ([0, 1, 2, 3, 4, 5, 6, 7], [49, 50, 51, 52, 53, 54, 55, 56]), ([0, 1, 2, 3, 4, 5, 6, 7, 8], [49, 50, 51, 52, 53, 54, 55, 56, 57]), ([0, 1, 2, 3, 4, 5, 6, 7, 8, 9], [49, 50, 51, 52, 53, 54, 55, 56, 57, 58, 62, 63, 64, 65]), ([0, 1, 2, 3, 4, 5, 6, 7, 8, 9, 10], [49, 50, 51, 52, 53, 54, 55, 56, 57, 58, 59, 62, 63, 64, 65]), ([0, 1, 2, 3, 4, 5, 6, 7, 8, 9, 10, 11], [49, 50, 51, 52, 53, 54, 55, 56, 57, 58, 59, 60, 62, 63, 64, 65]), ([0, 1, 2, 3, 4, 5, 6, 7, 8, 9], [49, 50, 51, 52, 53, 54, 55, 56, 57, 58, 59, 60, 61, 63]), ([0, 1, 2, 3, 4, 5, 6, 7, 8, 9], [49, 50, 51, 52, 53, 54, 55, 56, 57, 58, 59, 60, 61, 62]), ([0, 1, 2, 3, 4, 5, 6, 7, 8, 9, 13, 14], [49, 50, 51, 52, 53, 54, 55, 56, 57, 58, 59, 60, 61, 62, 63]), ([0, 1, 2, 3, 4, 5, 6, 7, 8, 9, 13, 14, 15], [49, 50, 51, 52, 53, 54, 55, 56, 57, 58, 59, 60, 61, 62, 63, 64]), ([0, 1, 2, 3, 4, 5, 6, 7, 8, 9, 10, 11, 12, 13, 14, 15, 16], [49, 50, 51, 52, 53, 54, 55, 56, 57, 58, 59, 60, 61, 62, 63, 64, 65]), ([0, 1, 2, 3, 4, 5, 6, 7, 8, 9, 10, 11, 12, 13, 14, 15, 16, 17], [49, 50, 51, 52, 53, 54, 55, 56, 57, 58, 59, 60, 61, 62, 63, 64, 65, 66]), ([0, 1, 2, 3, 4, 5, 6, 7, 8, 9, 10, 11, 12, 13, 14, 15, 16, 17, 18], [49, 50, 51, 52, 53, 54, 55, 56, 57, 58, 59, 60, 61, 62, 63, 64, 65, 66, 67]), ([0, 1, 2, 3, 4, 5, 6, 7, 8, 9, 10, 11, 12, 13, 14, 15, 16, 17, 18, 19], [49, 50, 51, 52, 53, 54, 55, 56, 57, 58, 59, 60, 61, 62, 63, 64, 65, 66, 67, 68, 71, 72]), ([0, 1, 2, 3, 4, 5, 6, 7, 8, 9, 10, 11, 12, 13, 14, 15, 16, 17, 18, 19, 20], [49, 50, 51, 52, 53, 54, 55, 56, 57, 58, 59, 60, 61, 62, 63, 64, 65, 66, 67, 68, 69, 71, 72]), ([0, 1, 2, 3, 4, 5, 6, 7, 8, 9, 10, 11, 12, 13, 14, 15, 16, 17, 18, 19], [49, 50, 51, 52, 53, 54, 55, 56, 57, 58, 59, 60, 61, 62, 63, 64, 65, 66, 67, 68, 69, 70]), ([0, 1, 2, 3, 4, 5, 6, 7, 8, 9, 10, 11, 12, 13, 14, 15, 16, 17, 18, 19, 22], [49, 50, 51, 52, 53, 54, 55, 56, 57, 58, 59, 60, 61, 62, 63, 64, 65, 66, 67, 68, 69, 70, 71]), ([0, 1, 2, 3, 4, 5, 6, 7, 8, 9, 10, 11, 12, 13, 14, 15, 16, 17, 18, 19, 20, 21, 22, 23], [49, 50, 51, 52, 53, 54, 55, 56, 57, 58, 59, 60, 61, 62, 63, 64, 65, 66, 67, 68, 69, 70, 71, 72]), ([0, 1, 2, 3, 4, 5, 6, 7, 8, 9, 10, 11, 12, 13, 14, 15, 16, 17, 18, 19, 20, 21, 22, 23, 24], [49, 50, 51, 52, 53, 54, 55, 56, 57, 58, 59, 60, 61, 62, 63, 64, 65, 66, 67, 68, 69, 70, 71, 72, 73])] [] (Γx := []) ?_; dsimp only [prev0, List.length_nil, List.length_cons])
         | (refine isReg 17 ?_; refine WPc.drA [([], [88, 91, 92, 93, 94]), ([], [87, 91, 92, 93, 94]), ([0, 1], [87, 88, 91, 92, 93, 94]), ([0, 1, 2], [87, 88, 89, 91, 92, 93, 94]), ([], [87, 88, 89, 90, 92]), ([], [87, 88, 89, 90, 91]), ([4, 5], [87, 88, 89, 90, 91, 92]), ([4, 5, 6], [87, 88, 89, 90, 91, 92, 93]), ([0, 1, 2, 3, 4, 5, 6, 7], [87, 88, 89, 90, 91, 92, 93, 94])] [] (Γx := []) ?_; dsimp only [prev0, List.length_nil, List.length_cons])
         | (refine isReg 18 ?_; refine WPc.drA [([], [97, 100, 101, 102, 103]), ([], [96, 100, 101, 102, 103]), ([0, 1], [96, 97, 100, 101, 102, 103]), ([0, 1, 2], [96, 97, 98, 100, 101, 102, 103]), ([], [96, 97, 98, 99, 101]), ([], [96, 97, 98, 99, 100]), ([4, 5], [96, 97, 98, 99, 100, 101]), ([4, 5, 6], [96, 97, 98, 99, 100, 101, 102]), ([0, 1, 2, 3, 4, 5, 6, 7], [96, 97, 98, 99, 100, 101, 102, 103])] [] (Γx := []) ?_; dsimp only [prev0, List.length_nil, List.length_cons])
         | (refine gAny ?_; first | (refine gGd ?_; refine RGl.skp ?_) | (refine gD 89 ?_; refine RGl.rdX (fun e hk => by (try dsimp only [bndR, ensR, oksR, fcutR, List.append_nil, List.nil_append, List.cons_append, List.append_assoc] at hk ⊢); exact ReadR.indexE (i := j) rfl rfl hasA hj) ?_) | (refine gD 90 ?_; refine RGl.rdX (fun e hk => by (try dsimp only [bndR, ensR, oksR, fcutR, List.append_nil, List.nil_append, List.cons_append, List.append_assoc] at hk ⊢); exact ReadR.loadES (cs := pfc cj.2.p) hcj1 hlj rfl hasA) ?_) | (refine gD 93 ?_; refine RGl.rdX (fun e hk => by (try dsimp only [bndR, ensR, oksR, fcutR, List.append_nil, List.nil_append, List.cons_append, List.append_assoc] at hk ⊢); exact ReadR.indexE (i := i) rfl rfl hasA hil) ?_) | (refine gD 94 ?_; refine RGl.rdX (fun e hk => by (try dsimp only [bndR, ensR, oksR, fcutR, List.append_nil, List.nil_append, List.cons_append, List.append_assoc] at hk ⊢); exact ReadR.loadES (cs := pfc p) hpl hlt rfl hasA) ?_) | (refine gD 95 ?_; refine RGl.rdX (fun e hk => by (try dsimp only [bndR, ensR, oksR, fcutR, List.append_nil, List.nil_append, List.cons_append, List.append_assoc] at hk ⊢); exact ReadR.binE rfl rfl BinR.pfE (congrArg Value.bool (decide_eq_false hq))) ?_) | (refine gD 98 ?_; refine RGl.rdX (fun e hk => by (try dsimp only [bndR, ensR, oksR, fcutR, List.append_nil, List.nil_append, List.cons_append, List.append_assoc] at hk ⊢); exact ReadR.indexE (i := j) rfl rfl hasA hj) ?_) | (refine gD 99 ?_; refine RGl.rdX (fun e hk => by (try dsimp only [bndR, ensR, oksR, fcutR, List.append_nil, List.nil_append, List.cons_append, List.append_assoc] at hk ⊢); exact ReadR.loadES (cs := pfc cj.2.p) hcj1 hlj rfl hasA) ?_) | (refine gD 102 ?_; refine RGl.rdX (fun e hk => by (try dsimp only [bndR, ensR, oksR, fcutR, List.append_nil, List.nil_append, List.cons_append, List.append_assoc] at hk ⊢); exact ReadR.indexE (i := kk + 1) rfl rfl hasA hkL) ?_) | (refine gD 103 ?_; refine RGl.rdX (fun e hk => by (try dsimp only [bndR, ensR, oksR, fcutR, List.append_nil, List.nil_append, List.cons_append, List.append_assoc] at hk ⊢); exact ReadR.loadES (cs := pfc cj.2.p) hck1 hlk rfl hasA) ?_) | (refine gD 104 ?_; refine RGl.rdX (fun e hk => by (try dsimp only [bndR, ensR, oksR, fcutR, List.append_nil, List.nil_append, List.cons_append, List.append_assoc] at hk ⊢); exact ReadR.binE rfl rfl BinR.pfN (congrArg (fun q => Value.bool (!q)) (decide_eq_true rfl))) ?_) | (refine gOp ?_; first | refine RGl.rdA ?_ | refine RGl.rdX (fun e hk => by (try dsimp only [bndR, ensR, oksR, fcutR, List.append_nil, List.nil_append, List.cons_append, List.append_assoc] at hk ⊢); exact readB) ?_) | (refine RGl.fin (fun e hk => ?_); (try dsimp only [bndA, ensAR, oksA, List.append_nil, List.nil_append, List.cons_append, List.append_assoc] at hk ⊢); (repeat (obtain ⟨hk1, hk⟩ := hk))) | fail)
         | (refine isCond ?_; first | refine WPc.cT ?_ | refine WPc.cF ?_ | (refine WPc.cQ (fun hc => ?_) (fun hc => ?_) <;> try exact prA))
         | (refine isD 89 ?_; refine WPl.rdX (ReadR.indexE (i := j) rfl rfl hasA hj) ?_)
         | (refine isD 90 ?_; refine WPl.rdX (ReadR.loadES (cs := pfc cj.2.p) hcj1 hlj rfl hasA) ?_)
         | (refine isD 93 ?_; refine WPl.rdX (ReadR.indexE (i := i) rfl rfl hasA hil) ?_)
         | (refine isD 94 ?_; refine WPl.rdX (ReadR.loadES (cs := pfc p) hpl hlt rfl hasA) ?_)
         | (refine isD 95 ?_; refine WPl.rdX (ReadR.binE rfl rfl BinR.pfE (congrArg Value.bool (decide_eq_false hq))) ?_)
         | (refine isD 98 ?_; refine WPl.rdX (ReadR.indexE (i := j) rfl rfl hasA hj) ?_)
         | (refine isD 99 ?_; refine WPl.rdX (ReadR.loadES (cs := pfc cj.2.p) hcj1 hlj rfl hasA) ?_)
         | (refine isD 102 ?_; refine WPl.rdX (ReadR.indexE (i := kk + 1) rfl rfl hasA hkL) ?_)
         | (refine isD 103 ?_; refine WPl.rdX (ReadR.loadES (cs := pfc cj.2.p) hck1 hlk rfl hasA) ?_)
         | (refine isD 104 ?_; refine WPl.rdX (ReadR.binE rfl rfl BinR.pfN (congrArg (fun q => Value.bool (!q)) (decide_eq_true rfl))) ?_)
         | (refine isOp ?_; first | refine WPl.rd ?_ | refine WPl.sk ?_ | refine WPl.rdB ?_)
         | (show WPl _ _ _ _ _ _ _ (⟨_, .indexAddr _ _ _, _, _, _, _⟩ :: _) _; refine WPl.rdX (ReadR.indexE rfl rfl hasA (by first | assumption | omega)) ?_)
         | (show WPl _ _ _ _ _ _ _ (⟨_, .fieldAddr _ _ _, _, _, _, _⟩ :: _) _; refine WPl.rdX (ReadR.fieldE rfl hasA (by first | assumption | omega)) ?_)
         | (show WPl _ _ _ _ _ _ _ (⟨_, .load _ _, _, _, _, _⟩ :: _) _; first | refine WPl.rdX (ReadR.loadE rfl hasA (by assumption)) ?_ | refine WPl.rdX (ReadR.loadES (by assumption) (by first | assumption | omega) rfl hasA) ?_)
         | (show WPl _ _ _ _ _ _ _ (⟨_, .slice _ _ _ _ _, _, _, _, _⟩ :: _) _; first | refine WPl.rdX (ReadR.sliceH rfl rfl hasA (by omega)) ?_ | refine WPl.rdX (ReadR.sliceL rfl rfl hasA (by omega)) ?_ | refine WPl.rdX (ReadR.sliceLH rfl rfl rfl hasA (by omega) (by omega)) ?_)
         | (refine WPl.spQ (fun hc => ?_) (fun hc => ?_) <;> try exact prA)
         | fail)
        exact WPq.rnd (j + 1, kk + 1 + 1) ⟨by dsimp only; omega, hk'⟩ (by dsimp only; omega)
    · clear hff hpre
      repeat' (first
       | refine WPl.nil ?_ | refine WPq.then ?_ | refine WPq.thenR ?_ | refine WPq.thenE ?_ | refine WPq.blockN ?_ | refine WPq.blockR ?_ | refine WPq.blockE ?_ | refine WPq.blockO rfl ?_ | refine WPc.seq ?_ | refine WPc.block ?_ | refine WPc.ret ?_ | refine WPc.exit ?_ | refine WPc.skip ?_ | refine WPc.region ?_
       | (refine isReg 11 ?_; refine WPc.drA [([], [51]), ([0], [49, 51]), ([], [49, 50]), ([0, 1, 2], [49, 50, 51]), ([0, 1, 2, 3], [49, 50, 51, 52]), ([0, 1, 2, 3, 4], [49, 50, 51, 52, 53]), ([0, 1, 2, 3, 4, 5], [49, 50, 51, 52, 53, 54]), ([0, 1, 2, 3, 4, 5, 6], [49, 50, 51, 52, 53, 54, 55]), ([0, 1, 2, 3, 4, 5, 6, 7], [49, 50, 51, 52, 53, 54, 55, 56]), ([0, 1, 2, 3, 4, 5, 6, 7, 8], [49, 50, 51, 52, 53, 54, 55, 56, 57]), ([0, 1, 2, 3, 4, 5, 6, 7, 8, 9], [49, 50, 51, 52, 53, 54, 55, 56, 57, 58, 62, 63, 64, 65]), ([0, 1, 2, 3, 4, 5, 6, 7, 8, 9, 10], [49, 50, 51, 52, 53, 54, 55, 56, 57, 58, 59, 62, 63, 64, 65]), ([0, 1, 2, 3, 4, 5, 6, 7, 8, 9, 10, 11], [49, 50, 51, 52, 53, 54, 55, 56, 57, 58, 59, 60, 62, 63, 64, 65]), ([0, 1, 2, 3, 4, 5, 6, 7, 8, 9], [49, 50, 51, 52, 53, 54, 55, 56, 57, 58, 59, 60, 61, 63]), ([0, 1, 2, 3, 4, 5, 6, 7, 8, 9], [49, 50, 51, 52, 53, 54, 55, 56, 57, 58, 59, 60, 61, 62]), ([0, 1, 2, 3, 4, 5, 6, 7, 8, 9, 13, 14], [49, 50, 51, 52, 53, 54, 55, 56, 57, 58, 59, 60, 61, 62, 63]), ([0, 1, 2, 3, 4, 5, 6, 7, 8, 9, 13, 14, 15], [49, 50, 51, 52, 53, 54, 55, 56, 57, 58, 59, 60, 61, 62, 63, 64]), ([0, 1, 2, 3, 4, 5, 6, 7, 8, 9, 10, 11, 12, 13, 14, 15, 16], [49, 50, 51, 52, 53, 54, 55, 56, 57, 58, 59, 60, 61, 62, 63, 64, 65]), ([0, 1, 2, 3, 4, 5, 6, 7, 8, 9, 10, 11, 12, 13, 14, 15, 16, 17], [49, 50, 51, 52, 53, 54, 55, 56, 57, 58, 59, 60, 61, 62, 63, 64, 65, 66]), ([0, 1, 2, 3, 4, 5, 6, 7, 8, 9, 10, 11, 12, 13, 14, 15, 16, 17, 18], [49, 50, 51, 52, 53, 54, 55, 56, 57, 58, 59, 60, 61, 62, 63, 64, 65, 66, 67]), ([0, 1, 2, 3, 4, 5, 6, 7, 8, 9, 10, 11, 12, 13, 14, 15, 16, 17, 18, 19], [49, 50, 51, 52, 53, 54, 55, 56, 57, 58, 59, 60, 61, 62, 63, 64, 65, 66, 67, 68, 71, 72]), ([0, 1, 2, 3, 4, 5, 6, 7, 8, 9, 10, 11, 12, 13, 14, 15, 16, 17, 18, 19, 20], [49, 50, 51, 52, 53, 54, 55, 56, 57, 58, 59, 60, 61, 62, 63, 64, 65, 66, 67, 68, 69, 71, 72]), ([0, 1, 2, 3, 4, 5, 6, 7, 8, 9, 10, 11, 12, 13, 14, 15, 16, 17, 18, 19], [49, 50, 51, 52, 53, 54, 55, 56, 57, 58, 59, 60, 61, 62, 63, 64, 65, 66, 67, 68, 69, 70]), ([0, 1, 2, 3, 4, 5, 6, 7, 8, 9, 10, 11, 12, 13, 14, 15, 16, 17, 18, 19, 22], [49, 50, 51, 52, 53, 54, 55, 56, 57, 58, 59, 60, 61, 62, 63, 64, 65, 66, 67, 68, 69, 70, 71]), ([0, 1, 2, 3, 4, 5, 6, 7, 8, 9, 10, 11, 12, 13, 14, 15, 16, 17, 18, 19, 20, 21, 22, 23], [49, 50, 51, 52, 53, 54, 55, 56, 57, 58, 59, 60, 61, 62, 63, 64, 65, 66, 67, 68, 69, 70, 71, 72]), ([0, 1, 2, 3, 4, 5, 6, 7, 8, 9, 10, 11, 12, 13, 14, 15, 16, 17, 18, 19, 20, 21, 22, 23, 24], [49, 50, 51, 52, 53, 54, 55, 56, 57, 58, 59, 60, 61, 62, 63, 64, 65, 66, 67, 68, 69, 70, 71, 72, 73])] [] (Γx := []) ?_; dsimp only [prev0, List.length_nil, List.length_cons])
       | (refine isReg 17 ?_; refine WPc.drA [([], [88, 91, 92, 93, 94]), ([], [87, 91, 92, 93, 94]), ([0, 1], [87, 88, 91, 92, 93, 94]), ([0, 1, 2], [87, 88, 89, 91, 92, 93, 94]), ([], [87, 88, 89, 90, 92]), ([], [87, 88, 89, 90, 91]), ([4, 5], [87, 88, 89, 90, 91, 92]), ([4, 5, 6], [87, 88, 89, 90, 91, 92, 93]), ([0, 1, 2, 3, 4, 5, 6, 7], [87, 88, 89, 90, 91, 92, 93, 94])] [] (Γx := []) ?_; dsimp only [prev0, List.length_nil, List.length_cons])
       | (refine isReg 18 ?_; refine WPc.drA [([], [97, 100, 101, 102, 103]), ([], [96, 100, 101, 102, 103]), ([0, 1], [96, 97, 100, 101, 102, 103]), ([0, 1, 2], [96, 97, 98, 100, 101, 102, 103]), ([], [96, 97, 98, 99, 101]), ([], [96, 97, 98, 99, 100]), ([4, 5], [96, 97, 98, 99, 100, 101]), ([4, 5, 6], [96, 97, 98, 99, 100, 101, 102]), ([0, 1, 2, 3, 4, 5, 6, 7], [96, 97, 98, 99, 100, 101, 102, 103])] [] (Γx := []) ?_; dsimp only [prev0, List.length_nil, List.length_cons])
       | (refine gAny ?_; first | (refine gGd ?_; refine RGl.skp ?_) | (refine gOp ?_; first | refine RGl.rdA ?_ | refine RGl.rdX (fun e hk => by (try dsimp only [bndR, ensR, oksR, fcutR, List.append_nil, List.nil_append, List.cons_append, List.append_assoc] at hk ⊢); exact readB) ?_) | (refine RGl.fin (fun e hk => ?_); (try dsimp only [bndA, ensAR, oksA, List.append_nil, List.nil_append, List.cons_append, List.append_assoc] at hk ⊢); (repeat (obtain ⟨hk1, hk⟩ := hk))) | fail)
       | (refine isCond ?_; first | refine WPc.cT ?_ | refine WPc.cF ?_ | (refine WPc.cQ (fun hc => ?_) (fun hc => ?_) <;> try exact prA))
       | (refine isOp ?_; first | refine WPl.rd ?_ | refine WPl.sk ?_ | refine WPl.rdB ?_)
       | (show WPl _ _ _ _ _ _ _ (⟨_, .indexAddr _ _ _, _, _, _, _⟩ :: _) _; refine WPl.rdX (ReadR.indexE rfl rfl hasA (by first | assumption | omega)) ?_)
       | (show WPl _ _ _ _ _ _ _ (⟨_, .fieldAddr _ _ _, _, _, _, _⟩ :: _) _; refine WPl.rdX (ReadR.fieldE rfl hasA (by first | assumption | omega)) ?_)
       | (show WPl _ _ _ _ _ _ _ (⟨_, .load _ _, _, _, _, _⟩ :: _) _; first | refine WPl.rdX (ReadR.loadE rfl hasA (by assumption)) ?_ | refine WPl.rdX (ReadR.loadES (by assumption) (by first | assumption | omega) rfl hasA) ?_)
       | (show WPl _ _ _ _ _ _ _ (⟨_, .slice _ _ _ _ _, _, _, _, _⟩ :: _) _; first | refine WPl.rdX (ReadR.sliceH rfl rfl hasA (by omega)) ?_ | refine WPl.rdX (ReadR.sliceL rfl rfl hasA (by omega)) ?_ | refine WPl.rdX (ReadR.sliceLH rfl rfl rfl hasA (by omega) (by omega)) ?_)
       | (refine WPl.spQ (fun hc => ?_) (fun hc => ?_) <;> try exact prA)
       | fail)
      all_goals exact WPq.rnd ⟨i + 1, L1, M1, f1⟩ ⟨by dsimp only; omega, hI1⟩ (by dsimp only; omega)
  · skip
    repeat' (first
     | refine WPl.nil ?_ | refine WPq.then ?_ | refine WPq.thenR ?_ | refine WPq.thenE ?_ | refine WPq.blockN ?_ | refine WPq.blockR ?_ | refine WPq.blockE ?_ | refine WPq.blockO rfl ?_ | refine WPc.seq ?_ | refine WPc.block ?_ | refine WPc.ret ?_ | refine WPc.exit ?_ | refine WPc.skip ?_ | refine WPc.region ?_
     | (refine isReg 11 ?_; refine WPc.drA [([], [51]), ([0], [49, 51]), ([], [49, 50]), ([0, 1, 2], [49, 50, 51]), ([0, 1, 2, 3], [49, 50, 51, 52]), ([0, 1, 2, 3, 4], [49, 50, 51, 52, 53]), ([0, 1, 2, 3, 4, 5], [49, 50, 51, 52, 53, 54]), ([0, 1, 2, 3, 4, 5, 6], [49, 50, 51, 52, 53, 54, 55]), ([0, 1, 2, 3, 4, 5, 6, 7], [49, 50, 51, 52, 53, 54, 55, 56]), ([0, 1, 2, 3, 4, 5, 6, 7, 8], [49, 50, 51, 52, 53, 54, 55, 56, 57]), ([0, 1, 2, 3, 4, 5, 6, 7, 8, 9], [49, 50, 51, 52, 53, 54, 55, 56, 57, 58, 62, 63, 64, 65]), ([0, 1, 2, 3, 4, 5, 6, 7, 8, 9, 10], [49, 50, 51, 52, 53, 54, 55, 56, 57, 58, 59, 62, 63, 64, 65]), ([0, 1, 2, 3, 4, 5, 6, 7, 8, 9, 10, 11], [49, 50, 51, 52, 53, 54, 55, 56, 57, 58, 59, 60, 62, 63, 64, 65]), ([0, 1, 2, 3, 4, 5, 6, 7, 8, 9], [49, 50, 51, 52, 53, 54, 55, 56, 57, 58, 59, 60, 61, 63]), ([0, 1, 2, 3, 4, 5, 6, 7, 8, 9], [49, 50, 51, 52, 53, 54, 55, 56, 57, 58, 59, 60, 61, 62]), ([0, 1, 2, 3, 4, 5, 6, 7, 8, 9, 13, 14], [49, 50, 51, 52, 53, 54, 55, 56, 57, 58, 59, 60, 61, 62, 63]), ([0, 1, 2, 3, 4, 5, 6, 7, 8, 9, 13, 14, 15], [49, 50, 51, 52, 53, 54, 55, 56, 57, 58, 59, 60, 61, 62, 63, 64]), ([0, 1, 2, 3, 4, 5, 6, 7, 8, 9, 10, 11, 12, 13, 14, 15, 16], [49, 50, 51, 52, 53, 54, 55, 56, 57, 58, 59, 60, 61, 62, 63, 64, 65]), ([0, 1, 2, 3, 4, 5, 6, 7, 8, 9, 10, 11, 12, 13, 14, 15, 16, 17], [49, 50, 51, 52, 53, 54, 55, 56, 57, 58, 59, 60, 61, 62, 63, 64, 65, 66]), ([0, 1, 2, 3, 4, 5, 6, 7, 8, 9, 10, 11, 12, 13, 14, 15, 16, 17, 18], [49, 50, 51, 52, 53, 54, 55, 56, 57, 58, 59, 60, 61, 62, 63, 64, 65, 66, 67]), ([0, 1, 2, 3, 4, 5, 6, 7, 8, 9, 10, 11, 12, 13, 14, 15, 16, 17, 18, 19], [49, 50, 51, 52, 53, 54, 55, 56, 57, 58, 59, 60, 61, 62, 63, 64, 65, 66, 67, 68, 71, 72]), ([0, 1, 2, 3, 4, 5, 6, 7, 8, 9, 10, 11, 12, 13, 14, 15, 16, 17, 18, 19, 20], [49, 50, 51, 52, 53, 54, 55, 56, 57, 58, 59, 60, 61, 62, 63, 64, 65, 66, 67, 68, 69, 71, 72]), ([0, 1, 2, 3, 4, 5, 6, 7, 8, 9, 10, 11, 12, 13, 14, 15, 16, 17, 18, 19], [49, 50, 51, 52, 53, 54, 55, 56, 57, 58, 59, 60, 61, 62, 63, 64, 65, 66, 67, 68, 69, 70]), ([0, 1, 2, 3, 4, 5, 6, 7, 8, 9, 10, 11, 12, 13, 14, 15, 16, 17, 18, 19, 22], [49, 50, 51, 52, 53, 54, 55, 56, 57, 58, 59, 60, 61, 62, 63, 64, 65, 66, 67, 68, 69, 70, 71]), ([0, 1, 2, 3, 4, 5, 6, 7, 8, 9, 10, 11, 12, 13, 14, 15, 16, 17, 18, 19, 20, 21, 22, 23], [49, 50, 51, 52, 53, 54, 55, 56, 57, 58, 59, 60, 61, 62, 63, 64, 65, 66, 67, 68, 69, 70, 71, 72]), ([0, 1, 2, 3, 4, 5, 6, 7, 8, 9, 10, 11, 12, 13, 14, 15, 16, 17, 18, 19, 20, 21, 22, 23, 24], [49, 50, 51, 52, 53, 54, 55, 56, 57, 58, 59, 60, 61, 62, 63, 64, 65, 66, 67, 68, 69, 70, 71, 72, 73])] [] (Γx := []) ?_; dsimp only [prev0, List.length_nil, List.length_cons])
     | (refine isReg 17 ?_; refine WPc.drA [([], [88, 91, 92, 93, 94]), ([], [87, 91, 92, 93, 94]), ([0, 1], [87, 88, 91, 92, 93, 94]), ([0, 1, 2], [87, 88, 89, 91, 92, 93, 94]), ([], [87, 88, 89, 90, 92]), ([], [87, 88, 89, 90, 91]), ([4, 5], [87, 88, 89, 90, 91, 92]), ([4, 5, 6], [87, 88, 89, 90, 91, 92, 93]), ([0, 1, 2, 3, 4, 5, 6, 7], [87, 88, 89, 90, 91, 92, 93, 94])] [] (Γx := []) ?_; dsimp only [prev0, List.length_nil, List.length_cons])
     | (refine isReg 18 ?_; refine WPc.drA [([], [97, 100, 101, 102, 103]), ([], [96, 100, 101, 102, 103]), ([0, 1], [96, 97, 100, 101, 102, 103]), ([0, 1, 2], [96, 97, 98, 100, 101, 102, 103]), ([], [96, 97, 98, 99, 101]), ([], [96, 97, 98, 99, 100]), ([4, 5], [96, 97, 98, 99, 100, 101]), ([4, 5, 6], [96, 97, 98, 99, 100, 101, 102]), ([0, 1, 2, 3, 4, 5, 6, 7], [96, 97, 98, 99, 100, 101, 102, 103])] [] (Γx := []) ?_; dsimp only [prev0, List.length_nil, List.length_cons])
     | (refine gAny ?_; first | (refine gGd ?_; refine RGl.skp ?_) | (refine gC 107 ?_; refine RGl.vl (fun e hk => OpT.callN (hlive)) ?_) | (refine gOp ?_; first | refine RGl.rdA ?_ | refine RGl.rdX (fun e hk => by (try dsimp only [bndR, ensR, oksR, fcutR, List.append_nil, List.nil_append, List.cons_append, List.append_assoc] at hk ⊢); exact readB) ?_) | (refine RGl.fin (fun e hk => ?_); (try dsimp only [bndA, ensAR, oksA, List.append_nil, List.nil_append, List.cons_append, List.append_assoc] at hk ⊢); (repeat (obtain ⟨hk1, hk⟩ := hk))) | fail)
     | (refine isCond ?_; first | refine WPc.cT ?_ | refine WPc.cF ?_ | (refine WPc.cQ (fun hc => ?_) (fun hc => ?_) <;> try exact prA))
     | (refine isC 107 ?_; refine WPl.cV (hlive) ?_)
     | (refine isOp ?_; first | refine WPl.rd ?_ | refine WPl.sk ?_ | refine WPl.rdB ?_)
     | (show WPl _ _ _ _ _ _ _ (⟨_, .indexAddr _ _ _, _, _, _, _⟩ :: _) _; refine WPl.rdX (ReadR.indexE rfl rfl hasA (by first | assumption | omega)) ?_)
     | (show WPl _ _ _ _ _ _ _ (⟨_, .fieldAddr _ _ _, _, _, _, _⟩ :: _) _; refine WPl.rdX (ReadR.fieldE rfl hasA (by first | assumption | omega)) ?_)
     | (show WPl _ _ _ _ _ _ _ (⟨_, .load _ _, _, _, _, _⟩ :: _) _; first | refine WPl.rdX (ReadR.loadE rfl hasA (by assumption)) ?_ | refine WPl.rdX (ReadR.loadES (by assumption) (by first | assumption | omega) rfl hasA) ?_)
     | (show WPl _ _ _ _ _ _ _ (⟨_, .slice _ _ _ _ _, _, _, _, _⟩ :: _) _; first | refine WPl.rdX (ReadR.sliceH rfl rfl hasA (by omega)) ?_ | refine WPl.rdX (ReadR.sliceL rfl rfl hasA (by omega)) ?_ | refine WPl.rdX (ReadR.sliceLH rfl rfl rfl hasA (by omega) (by omega)) ?_)
     | (refine WPl.spQ (fun hc => ?_) (fun hc => ?_) <;> try exact prA)
     | fail)
    all_goals try (first | exact WPq.dTp | exact WPq.dTs | exact WPq.dV | exact WPq.dR | exact WPq.dR2 | exact WPq.dH | exact WPq.dBH | exact WPq.dT)
end Go.Proofs.Ytncgponcedkihaa
