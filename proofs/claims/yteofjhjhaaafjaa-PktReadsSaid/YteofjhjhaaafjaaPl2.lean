/- Reference of layer 16 (pkt): packets read: contracts. -/
import Derived.Test.YteofjhjhaaafjaaPk
import Derived.Test.YteofjhjhaaafjaaSi
import Derived.Test.YteofjhjhaaafjaaIy
namespace Go.Proofs.Yteofjhjhaaafjaa
open Go.RowKit
set_option linter.unusedSimpArgs false
set_option linter.unusedVariables false
set_option maxRecDepth 20000
set_option maxHeartbeats 2000000
attribute [local irreducible] WPc WPl WPq ReadR OpT BinR HasS bx rdN rowN Take Takes Prov Triple ResF BuildP Done ag Int.decLt Int.decLe Int.instDecidableEq
attribute [local irreducible] phH phE sgR sgE xread xerr fread ferr
theorem rparse_t (v : Value) (b : List UInt8) (hl : b.length ≤ 100000) : Triple Try.prog 50 #[v] [rb v b] (RVal (pkVal b)) := by
  have hb0 := byteN_lt b 0
  have u0 : byteN b 0 = (b.getD 0 0).toNat := rfl
  have c4 := rf_t v b (by omega)
  have c6 := rx_t v b hl
  by_cases h0 : b.length = 0
  · have hE : phE b = 9 := by unfold phE; rw [if_pos h0]
    have hE2 : pkE b = 9 := by unfold pkE; rw [hE]; simp
    rw [show pkVal b = .tuple #[ag (pkc Pk.none), .int .i64 9] by unfold pkVal pkR; rw [hE2, if_neg (by omega)]]
    refine Triple.enter Try.func50 rfl Try.ntmps50 rfl (fun W => ?_)
    dsimp only [argsF, Nat.reduceAdd]
    repeat' (first
      | refine WPl.nil ?_
      | refine WPq.then ?_
      | refine WPq.thenR ?_
      | refine WPq.thenE ?_
      | refine WPq.blockN ?_
      | refine WPq.blockR ?_
      | refine WPq.blockE ?_
      | refine WPq.blockO rfl ?_
      | refine WPc.seq ?_
      | refine WPc.block ?_
      | refine WPc.ret ?_
      | refine WPc.exit ?_
      | refine WPc.skip ?_
      | refine WPc.region ?_
      | ((show WPc _ _ _ _ _ _ (.region 13 _ true) _; refine WPc.drawn [([], [7, 51, 52, 53, 54]), ([], [7, 50, 52, 53]), ([], [7, 50, 51]), ([2], [7, 50, 51, 52]), ([1, 2, 3], [7, 50, 51, 52, 53]), ([0, 1, 2, 3, 4], [7, 50, 51, 52, 53, 54]), ([0, 1, 2, 3, 4, 5], [7, 50, 51, 52, 53, 54, 55]), ([0, 1, 2, 3, 4, 5, 6], [7, 49, 50, 51, 52, 53, 54, 55, 57]), ([0, 1, 2, 3, 4, 5, 6], [7, 49, 50, 51, 52, 53, 54, 55, 56]), ([], [49, 50, 51, 52, 53, 54, 55, 56, 57]), ([0, 1, 2, 3, 4, 5, 6, 7, 9], [7, 49, 50, 51, 52, 53, 54, 55, 56, 57]), ([0, 1, 2, 3, 4, 5, 6, 7, 8, 9, 10], [7, 49, 50, 51, 52, 53, 54, 55, 56, 57])] [(9, 10)] (Γx := []) (by exact takesA) (by repeat' (first | exact own_nil | refine own_cons (by first | exact bx_own | exact rowN_own | exact rfl) ?_ | fail)) (by kernel_rfl) (by kernel_rfl) ?_; dsimp only [prev0, List.length_nil, List.length_cons]))
      | ((show RGl _ _ _ _ _ _ _ _ _ _ _; first | (show RGl _ _ _ _ _ _ _ _ (_ :: _) _ _; first | refine RGl.rdA ?_ | refine RGl.rdX (fun e hk => by (try dsimp only [bndR, ensR, oksR, fcutR, List.append_nil, List.nil_append, List.cons_append, List.append_assoc] at hk ⊢); exact readB) ?_) | (show RGl _ _ _ _ _ _ _ _ (⟨_, .alloc _, _, _, _, _⟩ :: _) _ _; refine RGl.nwA ?_) | (show RGl _ _ _ _ _ _ _ _ (⟨_, .store _ _ _, _, _, _, _⟩ :: _) _ _; refine RGl.stA ?_) | (refine RGl.fin (fun e hk => ?_); (try dsimp only [bndA, ensAR, oksA, List.append_nil, List.nil_append, List.cons_append, List.append_assoc] at hk ⊢); (repeat (obtain ⟨hk1, hk⟩ := hk))) | fail))
      | ((show WPc _ _ _ _ _ _ (.cond _ _ _) _; first | refine WPc.cT ?_ | refine WPc.cF ?_ | (refine WPc.cS (fun hc => ?_) (fun hc => ?_) <;> (try simp only [decide_eq_true_eq, decide_eq_false_iff_not, Bool.not_eq_true', Bool.not_eq_false', Bool.and_eq_true, Bool.or_eq_true, Bool.and_eq_false_iff, Bool.or_eq_false_iff, Bool.not_true, Bool.not_false, Int.not_lt, Int.not_le] at hc) <;> (try (exfalso; first | omega | exact clash1 hc (by assumption) | exact clash2 hc (by assumption) | exact hc trivial | exact hc (by assumption) | exact absurd hc (by assumption))))))
      | ((show WPl _ _ _ _ _ _ _ (_ :: _) _; first | refine WPl.rd ?_ | refine WPl.sk ?_ | refine WPl.rdB ?_))
      | ((show WPl _ _ _ _ _ _ _ (⟨_, .alloc _, _, _, _, _⟩ :: _) _; refine WPl.nw fun g => ?_))
      | ((show WPl _ _ _ _ _ _ _ (⟨_, .store _ _ _, _, _, _, _⟩ :: _) _; first | refine WPl.st1 ?_ | refine WPl.stA ?_ | refine WPl.stEB ?_ | refine WPl.stRB ?_))
      | ((show WPl _ _ _ _ _ _ _ (_ :: _) _; refine WPl.spl (fun hc => ?_) (fun hc => ?_) <;> (try simp only [decide_eq_true_eq, decide_eq_false_iff_not, Bool.not_eq_true', Bool.not_eq_false', Bool.and_eq_true, Bool.or_eq_true, Bool.and_eq_false_iff, Bool.or_eq_false_iff, Bool.not_true, Bool.not_false, Int.not_lt, Int.not_le] at hc) <;> (try (exfalso; first | omega | exact clash1 hc (by assumption) | exact clash2 hc (by assumption) | exact hc trivial | exact hc (by assumption) | exact absurd hc (by assumption)))))
      | fail)
    all_goals try (first
      | exact WPq.dV
      | exact WPq.dR
      | exact WPq.dR2
      | exact WPq.dH
      | exact WPq.dBH
      | exact WPq.dT)
  · by_cases h4 : byteN b 0 / 16 = 4
    · have c1 : Triple Try.prog 38 #[v] [rb v b] (RVal (phVal b)) := by
        rw [show phVal b = fVal b by unfold phVal phH phE; rw [if_neg h0, if_neg h0, if_pos h4, if_pos h4]]
        exact c4
      simp only [phVal] at c1
      clear c4 c6
      by_cases he : phE b = 0
      · obtain ⟨p1, p2⟩ := phE_pos he
        have c2 := fun u => rsread_t (phH b) u (pkS b) (by unfold pkS; rw [seg_len]; omega)
        simp only [gVal] at c2
        have hE : pkE b = if (phH b).part then 13 else sgE (phH b) (pkS b) := by unfold pkE; rw [if_neg (by rw [he]; simp)]
        obtain ⟨k, hk⟩ : ∃ k : Nat, (phH b).pos = (k : Int) := ⟨(phH b).pos.toNat, by omega⟩
        have hS : pkS b = seg b k (b.length - k) := by unfold pkS; rw [hk]; rfl
        have hval : pkVal b = .tuple #[ag (pkc (if pkE b = 0 then pkOf (phH b) (sgR (phH b) (pkS b)) else Pk.none)), .int .i64 (pkE b)] := rfl
        rw [hval, hE]
        rw [he] at c1
        clear hval hE he
        obtain ⟨Y, hY⟩ : ∃ Y, Y = sgR (phH b) (pkS b) := ⟨_, rfl⟩
        obtain ⟨c, hc⟩ : ∃ c, c = sgE (phH b) (pkS b) := ⟨_, rfl⟩
        rw [← hY, ← hc] at c2 ⊢
        clear hY hc
        rw [hS] at c2
        clear hS
        obtain ⟨X, hX⟩ : ∃ X, X = phH b := ⟨_, rfl⟩
        rw [← hX] at c1 c2 hk p1 p2 ⊢
        clear hX
        obtain ⟨six, pr, pos, a1, a2, pt, hp⟩ := X
        dsimp only at hk p1 p2
        subst hk
        have k1 := a1.len
        have k2 := a2.len
        have hkb : k ≤ b.length := by omega
        cases pt with
        | true =>
          simp only [if_true]
          rw [if_neg (by omega)]
          refine Triple.enter Try.func50 rfl Try.ntmps50 rfl (fun W => ?_)
          dsimp only [argsF, Nat.reduceAdd]
          repeat' (first
            | refine WPl.nil ?_
            | refine WPq.then ?_
            | refine WPq.thenR ?_
            | refine WPq.thenE ?_
            | refine WPq.blockN ?_
            | refine WPq.blockR ?_
            | refine WPq.blockE ?_
            | refine WPq.blockO rfl ?_
            | refine WPc.seq ?_
            | refine WPc.block ?_
            | refine WPc.ret ?_
            | refine WPc.exit ?_
            | refine WPc.skip ?_
            | refine WPc.region ?_
            | ((show WPc _ _ _ _ _ _ (.region 13 _ true) _; refine WPc.drawn [([], [7, 51, 52, 53, 54]), ([], [7, 50, 52, 53]), ([], [7, 50, 51]), ([2], [7, 50, 51, 52]), ([1, 2, 3], [7, 50, 51, 52, 53]), ([0, 1, 2, 3, 4], [7, 50, 51, 52, 53, 54]), ([0, 1, 2, 3, 4, 5], [7, 50, 51, 52, 53, 54, 55]), ([0, 1, 2, 3, 4, 5, 6], [7, 49, 50, 51, 52, 53, 54, 55, 57]), ([0, 1, 2, 3, 4, 5, 6], [7, 49, 50, 51, 52, 53, 54, 55, 56]), ([], [49, 50, 51, 52, 53, 54, 55, 56, 57]), ([0, 1, 2, 3, 4, 5, 6, 7, 9], [7, 49, 50, 51, 52, 53, 54, 55, 56, 57]), ([0, 1, 2, 3, 4, 5, 6, 7, 8, 9, 10], [7, 49, 50, 51, 52, 53, 54, 55, 56, 57])] [(9, 10)] (Γx := []) (by exact takesA) (by repeat' (first | exact own_nil | refine own_cons (by first | exact bx_own | exact rowN_own | exact rfl) ?_ | fail)) (by kernel_rfl) (by kernel_rfl) ?_; dsimp only [prev0, List.length_nil, List.length_cons]))
            | ((show RGl _ _ _ _ _ _ _ _ _ _ _; first | (show RGl _ _ _ _ _ _ _ _ (⟨some 29, .call ⟨.value _, _, _⟩, _, _, _, _⟩ :: _) _ _; refine RGl.vl (fun e hk => by (try dsimp only [bndR, ensR, oksR, fcutR, List.append_nil, List.nil_append, List.cons_append, List.append_assoc] at hk ⊢); refine OpT.call (c1) evsA provsA (by kernel_rfl)) ?_) | (show RGl _ _ _ _ _ _ _ _ (_ :: _) _ _; first | refine RGl.rdA ?_ | refine RGl.rdX (fun e hk => by (try dsimp only [bndR, ensR, oksR, fcutR, List.append_nil, List.nil_append, List.cons_append, List.append_assoc] at hk ⊢); exact readB) ?_) | (show RGl _ _ _ _ _ _ _ _ (⟨_, .alloc _, _, _, _, _⟩ :: _) _ _; refine RGl.nwA ?_) | (show RGl _ _ _ _ _ _ _ _ (⟨_, .store _ _ _, _, _, _, _⟩ :: _) _ _; refine RGl.stA ?_) | (refine RGl.fin (fun e hk => ?_); (try dsimp only [bndA, ensAR, oksA, List.append_nil, List.nil_append, List.cons_append, List.append_assoc] at hk ⊢); (repeat (obtain ⟨hk1, hk⟩ := hk))) | fail))
            | ((show WPc _ _ _ _ _ _ (.cond _ _ _) _; first | refine WPc.cT ?_ | refine WPc.cF ?_ | (refine WPc.cS (fun hc => ?_) (fun hc => ?_) <;> (try simp only [decide_eq_true_eq, decide_eq_false_iff_not, Bool.not_eq_true', Bool.not_eq_false', Bool.and_eq_true, Bool.or_eq_true, Bool.and_eq_false_iff, Bool.or_eq_false_iff, Bool.not_true, Bool.not_false, Int.not_lt, Int.not_le] at hc) <;> (try (exfalso; first | omega | exact clash1 hc (by assumption) | exact clash2 hc (by assumption) | exact hc trivial | exact hc (by assumption) | exact absurd hc (by assumption))))))
            | ((show WPl _ _ _ _ _ _ _ (⟨some 29, .call ⟨.value _, _, _⟩, _, _, _, _⟩ :: _) _; refine WPl.cV (c1) ?_))
            | ((show WPl _ _ _ _ _ _ _ (_ :: _) _; first | refine WPl.rd ?_ | refine WPl.sk ?_ | refine WPl.rdB ?_))
            | ((show WPl _ _ _ _ _ _ _ (⟨_, .alloc _, _, _, _, _⟩ :: _) _; refine WPl.nw fun g => ?_))
            | ((show WPl _ _ _ _ _ _ _ (⟨_, .store _ _ _, _, _, _, _⟩ :: _) _; first | refine WPl.st1 ?_ | refine WPl.stA ?_ | refine WPl.stEB ?_ | refine WPl.stRB ?_))
            | ((show WPl _ _ _ _ _ _ _ (_ :: _) _; refine WPl.spl (fun hc => ?_) (fun hc => ?_) <;> (try simp only [decide_eq_true_eq, decide_eq_false_iff_not, Bool.not_eq_true', Bool.not_eq_false', Bool.and_eq_true, Bool.or_eq_true, Bool.and_eq_false_iff, Bool.or_eq_false_iff, Bool.not_true, Bool.not_false, Int.not_lt, Int.not_le] at hc) <;> (try (exfalso; first | omega | exact clash1 hc (by assumption) | exact clash2 hc (by assumption) | exact hc trivial | exact hc (by assumption) | exact absurd hc (by assumption)))))
            | fail)
          all_goals try (first
            | exact WPq.dV
            | exact WPq.dR
            | exact WPq.dR2
            | exact WPq.dH
            | exact WPq.dBH
            | exact WPq.dT)
        | false =>
          simp only [Bool.false_eq_true, if_false]
          by_cases hc0 : c = 0
          · rw [if_pos hc0]
            subst hc0
            refine Triple.enter Try.func50 rfl Try.ntmps50 rfl (fun W => ?_)
            dsimp only [argsF, Nat.reduceAdd]
            repeat' (first
              | refine WPl.nil ?_
              | refine WPq.then ?_
              | refine WPq.thenR ?_
              | refine WPq.thenE ?_
              | refine WPq.blockN ?_
              | refine WPq.blockR ?_
              | refine WPq.blockE ?_
              | refine WPq.blockO rfl ?_
              | refine WPc.seq ?_
              | refine WPc.block ?_
              | refine WPc.ret ?_
              | refine WPc.exit ?_
              | refine WPc.skip ?_
              | refine WPc.region ?_
              | ((show WPc _ _ _ _ _ _ (.region 13 _ true) _; refine WPc.drawn [([], [7, 51, 52, 53, 54]), ([], [7, 50, 52, 53]), ([], [7, 50, 51]), ([2], [7, 50, 51, 52]), ([1, 2, 3], [7, 50, 51, 52, 53]), ([0, 1, 2, 3, 4], [7, 50, 51, 52, 53, 54]), ([0, 1, 2, 3, 4, 5], [7, 50, 51, 52, 53, 54, 55]), ([0, 1, 2, 3, 4, 5, 6], [7, 49, 50, 51, 52, 53, 54, 55, 57]), ([0, 1, 2, 3, 4, 5, 6], [7, 49, 50, 51, 52, 53, 54, 55, 56]), ([], [49, 50, 51, 52, 53, 54, 55, 56, 57]), ([0, 1, 2, 3, 4, 5, 6, 7, 9], [7, 49, 50, 51, 52, 53, 54, 55, 56, 57]), ([0, 1, 2, 3, 4, 5, 6, 7, 8, 9, 10], [7, 49, 50, 51, 52, 53, 54, 55, 56, 57])] [(9, 10)] (Γx := []) (by exact takesA) (by repeat' (first | exact own_nil | refine own_cons (by first | exact bx_own | exact rowN_own | exact rfl) ?_ | fail)) (by kernel_rfl) (by kernel_rfl) ?_; dsimp only [prev0, List.length_nil, List.length_cons]))
              | ((show RGl _ _ _ _ _ _ _ _ _ _ _; first | (show RGl _ _ _ _ _ _ _ _ (⟨some 29, .call ⟨.value _, _, _⟩, _, _, _, _⟩ :: _) _ _; refine RGl.vl (fun e hk => by (try dsimp only [bndR, ensR, oksR, fcutR, List.append_nil, List.nil_append, List.cons_append, List.append_assoc] at hk ⊢); refine OpT.call (c1) evsA provsA (by kernel_rfl)) ?_) | (show RGl _ _ _ _ _ _ _ _ (⟨some 55, .call ⟨.value _, _, _⟩, _, _, _, _⟩ :: _) _ _; refine RGl.vl (fun e hk => by (try dsimp only [bndR, ensR, oksR, fcutR, List.append_nil, List.nil_append, List.cons_append, List.append_assoc] at hk ⊢); refine OpT.call (c2 (subv 1 v k (b.length - k))) evsA provsA (by kernel_rfl)) ?_) | (show RGl _ _ _ _ _ _ _ _ (⟨some 75, _, _, _, _, _⟩ :: _) _ _; refine RGl.rdX (fun e hk => by (try dsimp only [bndR, ensR, oksR, fcutR, List.append_nil, List.nil_append, List.cons_append, List.append_assoc] at hk ⊢); exact ReadR.build (cs' := pkc (pkOf ⟨six, pr, (k : Int), a1, a2, false, hp⟩ Y)) buildA) ?_) | (show RGl _ _ _ _ _ _ _ _ (_ :: _) _ _; first | refine RGl.rdA ?_ | refine RGl.rdX (fun e hk => by (try dsimp only [bndR, ensR, oksR, fcutR, List.append_nil, List.nil_append, List.cons_append, List.append_assoc] at hk ⊢); exact readB) ?_) | (show RGl _ _ _ _ _ _ _ _ (⟨_, .alloc _, _, _, _, _⟩ :: _) _ _; refine RGl.nwA ?_) | (show RGl _ _ _ _ _ _ _ _ (⟨_, .store _ _ _, _, _, _, _⟩ :: _) _ _; refine RGl.stA ?_) | (refine RGl.fin (fun e hk => ?_); (try dsimp only [bndA, ensAR, oksA, List.append_nil, List.nil_append, List.cons_append, List.append_assoc] at hk ⊢); (repeat (obtain ⟨hk1, hk⟩ := hk))) | fail))
              | ((show WPc _ _ _ _ _ _ (.cond _ _ _) _; first | refine WPc.cT ?_ | refine WPc.cF ?_ | (refine WPc.cS (fun hc => ?_) (fun hc => ?_) <;> (try simp only [decide_eq_true_eq, decide_eq_false_iff_not, Bool.not_eq_true', Bool.not_eq_false', Bool.and_eq_true, Bool.or_eq_true, Bool.and_eq_false_iff, Bool.or_eq_false_iff, Bool.not_true, Bool.not_false, Int.not_lt, Int.not_le] at hc) <;> (try (exfalso; first | omega | exact clash1 hc (by assumption) | exact clash2 hc (by assumption) | exact hc trivial | exact hc (by assumption) | exact absurd hc (by assumption))))))
              | ((show WPl _ _ _ _ _ _ _ (⟨some 29, .call ⟨.value _, _, _⟩, _, _, _, _⟩ :: _) _; refine WPl.cV (c1) ?_))
              | ((show WPl _ _ _ _ _ _ _ (⟨some 55, .call ⟨.value _, _, _⟩, _, _, _, _⟩ :: _) _; refine WPl.cV (c2 (subv 1 v k (b.length - k))) ?_))
              | ((show WPl _ _ _ _ _ _ _ (⟨some 75, _, _, _, _, _⟩ :: _) _; refine WPl.rdX (ReadR.build (cs' := pkc (pkOf ⟨six, pr, (k : Int), a1, a2, false, hp⟩ Y)) buildA) ?_))
              | ((show WPl _ _ _ _ _ _ _ (⟨_, .store 74 (.tmp 2) _, _, _, _, _⟩ :: _) _; refine WPl.stA (new := pkc (pkOf ⟨six, pr, (k : Int), a1, a2, false, hp⟩ Y)) ?_ (ht := by kernel_rfl)))
              | ((show WPl _ _ _ _ _ _ _ (_ :: _) _; first | refine WPl.rd ?_ | refine WPl.sk ?_ | refine WPl.rdB ?_))
              | ((show WPl _ _ _ _ _ _ _ (⟨_, .alloc _, _, _, _, _⟩ :: _) _; refine WPl.nw fun g => ?_))
              | ((show WPl _ _ _ _ _ _ _ (⟨_, .store _ _ _, _, _, _, _⟩ :: _) _; first | refine WPl.st1 ?_ | refine WPl.stA ?_ | refine WPl.stEB ?_ | refine WPl.stRB ?_))
              | ((show WPl _ _ _ _ _ _ _ (_ :: _) _; refine WPl.spl (fun hc => ?_) (fun hc => ?_) <;> (try simp only [decide_eq_true_eq, decide_eq_false_iff_not, Bool.not_eq_true', Bool.not_eq_false', Bool.and_eq_true, Bool.or_eq_true, Bool.and_eq_false_iff, Bool.or_eq_false_iff, Bool.not_true, Bool.not_false, Int.not_lt, Int.not_le] at hc) <;> (try (exfalso; first | omega | exact clash1 hc (by assumption) | exact clash2 hc (by assumption) | exact hc trivial | exact hc (by assumption) | exact absurd hc (by assumption)))))
              | fail)
            all_goals try (first
              | exact WPq.dV
              | exact WPq.dR
              | exact WPq.dR2
              | exact WPq.dH
              | exact WPq.dBH
              | exact WPq.dT)
          · rw [if_neg hc0]
            refine Triple.enter Try.func50 rfl Try.ntmps50 rfl (fun W => ?_)
            dsimp only [argsF, Nat.reduceAdd]
            repeat' (first
              | refine WPl.nil ?_
              | refine WPq.then ?_
              | refine WPq.thenR ?_
              | refine WPq.thenE ?_
              | refine WPq.blockN ?_
              | refine WPq.blockR ?_
              | refine WPq.blockE ?_
              | refine WPq.blockO rfl ?_
              | refine WPc.seq ?_
              | refine WPc.block ?_
              | refine WPc.ret ?_
              | refine WPc.exit ?_
              | refine WPc.skip ?_
              | refine WPc.region ?_
              | ((show WPc _ _ _ _ _ _ (.region 13 _ true) _; refine WPc.drawn [([], [7, 51, 52, 53, 54]), ([], [7, 50, 52, 53]), ([], [7, 50, 51]), ([2], [7, 50, 51, 52]), ([1, 2, 3], [7, 50, 51, 52, 53]), ([0, 1, 2, 3, 4], [7, 50, 51, 52, 53, 54]), ([0, 1, 2, 3, 4, 5], [7, 50, 51, 52, 53, 54, 55]), ([0, 1, 2, 3, 4, 5, 6], [7, 49, 50, 51, 52, 53, 54, 55, 57]), ([0, 1, 2, 3, 4, 5, 6], [7, 49, 50, 51, 52, 53, 54, 55, 56]), ([], [49, 50, 51, 52, 53, 54, 55, 56, 57]), ([0, 1, 2, 3, 4, 5, 6, 7, 9], [7, 49, 50, 51, 52, 53, 54, 55, 56, 57]), ([0, 1, 2, 3, 4, 5, 6, 7, 8, 9, 10], [7, 49, 50, 51, 52, 53, 54, 55, 56, 57])] [(9, 10)] (Γx := []) (by exact takesA) (by repeat' (first | exact own_nil | refine own_cons (by first | exact bx_own | exact rowN_own | exact rfl) ?_ | fail)) (by kernel_rfl) (by kernel_rfl) ?_; dsimp only [prev0, List.length_nil, List.length_cons]))
              | ((show RGl _ _ _ _ _ _ _ _ _ _ _; first | (show RGl _ _ _ _ _ _ _ _ (⟨some 29, .call ⟨.value _, _, _⟩, _, _, _, _⟩ :: _) _ _; refine RGl.vl (fun e hk => by (try dsimp only [bndR, ensR, oksR, fcutR, List.append_nil, List.nil_append, List.cons_append, List.append_assoc] at hk ⊢); refine OpT.call (c1) evsA provsA (by kernel_rfl)) ?_) | (show RGl _ _ _ _ _ _ _ _ (⟨some 55, .call ⟨.value _, _, _⟩, _, _, _, _⟩ :: _) _ _; refine RGl.vl (fun e hk => by (try dsimp only [bndR, ensR, oksR, fcutR, List.append_nil, List.nil_append, List.cons_append, List.append_assoc] at hk ⊢); refine OpT.call (c2 (subv 1 v k (b.length - k))) evsA provsA (by kernel_rfl)) ?_) | (show RGl _ _ _ _ _ _ _ _ (_ :: _) _ _; first | refine RGl.rdA ?_ | refine RGl.rdX (fun e hk => by (try dsimp only [bndR, ensR, oksR, fcutR, List.append_nil, List.nil_append, List.cons_append, List.append_assoc] at hk ⊢); exact readB) ?_) | (show RGl _ _ _ _ _ _ _ _ (⟨_, .alloc _, _, _, _, _⟩ :: _) _ _; refine RGl.nwA ?_) | (show RGl _ _ _ _ _ _ _ _ (⟨_, .store _ _ _, _, _, _, _⟩ :: _) _ _; refine RGl.stA ?_) | (refine RGl.fin (fun e hk => ?_); (try dsimp only [bndA, ensAR, oksA, List.append_nil, List.nil_append, List.cons_append, List.append_assoc] at hk ⊢); (repeat (obtain ⟨hk1, hk⟩ := hk))) | fail))
              | ((show WPc _ _ _ _ _ _ (.cond _ _ _) _; first | refine WPc.cT ?_ | refine WPc.cF ?_ | (refine WPc.cS (fun hc => ?_) (fun hc => ?_) <;> (try simp only [decide_eq_true_eq, decide_eq_false_iff_not, Bool.not_eq_true', Bool.not_eq_false', Bool.and_eq_true, Bool.or_eq_true, Bool.and_eq_false_iff, Bool.or_eq_false_iff, Bool.not_true, Bool.not_false, Int.not_lt, Int.not_le] at hc) <;> (try (exfalso; first | omega | exact clash1 hc (by assumption) | exact clash2 hc (by assumption) | exact hc trivial | exact hc (by assumption) | exact absurd hc (by assumption))))))
              | ((show WPl _ _ _ _ _ _ _ (⟨some 29, .call ⟨.value _, _, _⟩, _, _, _, _⟩ :: _) _; refine WPl.cV (c1) ?_))
              | ((show WPl _ _ _ _ _ _ _ (⟨some 55, .call ⟨.value _, _, _⟩, _, _, _, _⟩ :: _) _; refine WPl.cV (c2 (subv 1 v k (b.length - k))) ?_))
              | ((show WPl _ _ _ _ _ _ _ (_ :: _) _; first | refine WPl.rd ?_ | refine WPl.sk ?_ | refine WPl.rdB ?_))
              | ((show WPl _ _ _ _ _ _ _ (⟨_, .alloc _, _, _, _, _⟩ :: _) _; refine WPl.nw fun g => ?_))
              | ((show WPl _ _ _ _ _ _ _ (⟨_, .store _ _ _, _, _, _, _⟩ :: _) _; first | refine WPl.st1 ?_ | refine WPl.stA ?_ | refine WPl.stEB ?_ | refine WPl.stRB ?_))
              | ((show WPl _ _ _ _ _ _ _ (_ :: _) _; refine WPl.spl (fun hc => ?_) (fun hc => ?_) <;> (try simp only [decide_eq_true_eq, decide_eq_false_iff_not, Bool.not_eq_true', Bool.not_eq_false', Bool.and_eq_true, Bool.or_eq_true, Bool.and_eq_false_iff, Bool.or_eq_false_iff, Bool.not_true, Bool.not_false, Int.not_lt, Int.not_le] at hc) <;> (try (exfalso; first | omega | exact clash1 hc (by assumption) | exact clash2 hc (by assumption) | exact hc trivial | exact hc (by assumption) | exact absurd hc (by assumption)))))
              | fail)
            all_goals try (first
              | exact WPq.dV
              | exact WPq.dR
              | exact WPq.dR2
              | exact WPq.dH
              | exact WPq.dBH
              | exact WPq.dT)
      · have hE : pkE b = phE b := by unfold pkE; rw [if_pos he]
        rw [show pkVal b = .tuple #[ag (pkc Pk.none), .int .i64 (phE b)] by unfold pkVal pkR; rw [hE, if_neg he]]
        obtain ⟨X, hX⟩ : ∃ X, X = phH b := ⟨_, rfl⟩
        obtain ⟨c, hc⟩ : ∃ c, c = phE b := ⟨_, rfl⟩
        rw [← hc] at he
        rw [← hX, ← hc] at c1
        rw [← hc]
        clear hX hc hE
        have k1 := X.src.len
        have k2 := X.dst.len
        refine Triple.enter Try.func50 rfl Try.ntmps50 rfl (fun W => ?_)
        dsimp only [argsF, Nat.reduceAdd]
        repeat' (first
          | refine WPl.nil ?_
          | refine WPq.then ?_
          | refine WPq.thenR ?_
          | refine WPq.thenE ?_
          | refine WPq.blockN ?_
          | refine WPq.blockR ?_
          | refine WPq.blockE ?_
          | refine WPq.blockO rfl ?_
          | refine WPc.seq ?_
          | refine WPc.block ?_
          | refine WPc.ret ?_
          | refine WPc.exit ?_
          | refine WPc.skip ?_
          | refine WPc.region ?_
          | ((show WPc _ _ _ _ _ _ (.region 13 _ true) _; refine WPc.drawn [([], [7, 51, 52, 53, 54]), ([], [7, 50, 52, 53]), ([], [7, 50, 51]), ([2], [7, 50, 51, 52]), ([1, 2, 3], [7, 50, 51, 52, 53]), ([0, 1, 2, 3, 4], [7, 50, 51, 52, 53, 54]), ([0, 1, 2, 3, 4, 5], [7, 50, 51, 52, 53, 54, 55]), ([0, 1, 2, 3, 4, 5, 6], [7, 49, 50, 51, 52, 53, 54, 55, 57]), ([0, 1, 2, 3, 4, 5, 6], [7, 49, 50, 51, 52, 53, 54, 55, 56]), ([], [49, 50, 51, 52, 53, 54, 55, 56, 57]), ([0, 1, 2, 3, 4, 5, 6, 7, 9], [7, 49, 50, 51, 52, 53, 54, 55, 56, 57]), ([0, 1, 2, 3, 4, 5, 6, 7, 8, 9, 10], [7, 49, 50, 51, 52, 53, 54, 55, 56, 57])] [(9, 10)] (Γx := []) (by exact takesA) (by repeat' (first | exact own_nil | refine own_cons (by first | exact bx_own | exact rowN_own | exact rfl) ?_ | fail)) (by kernel_rfl) (by kernel_rfl) ?_; dsimp only [prev0, List.length_nil, List.length_cons]))
          | ((show RGl _ _ _ _ _ _ _ _ _ _ _; first | (show RGl _ _ _ _ _ _ _ _ (⟨some 29, .call ⟨.value _, _, _⟩, _, _, _, _⟩ :: _) _ _; refine RGl.vl (fun e hk => by (try dsimp only [bndR, ensR, oksR, fcutR, List.append_nil, List.nil_append, List.cons_append, List.append_assoc] at hk ⊢); refine OpT.call (c1) evsA provsA (by kernel_rfl)) ?_) | (show RGl _ _ _ _ _ _ _ _ (_ :: _) _ _; first | refine RGl.rdA ?_ | refine RGl.rdX (fun e hk => by (try dsimp only [bndR, ensR, oksR, fcutR, List.append_nil, List.nil_append, List.cons_append, List.append_assoc] at hk ⊢); exact readB) ?_) | (show RGl _ _ _ _ _ _ _ _ (⟨_, .alloc _, _, _, _, _⟩ :: _) _ _; refine RGl.nwA ?_) | (show RGl _ _ _ _ _ _ _ _ (⟨_, .store _ _ _, _, _, _, _⟩ :: _) _ _; refine RGl.stA ?_) | (refine RGl.fin (fun e hk => ?_); (try dsimp only [bndA, ensAR, oksA, List.append_nil, List.nil_append, List.cons_append, List.append_assoc] at hk ⊢); (repeat (obtain ⟨hk1, hk⟩ := hk))) | fail))
          | ((show WPc _ _ _ _ _ _ (.cond _ _ _) _; first | refine WPc.cT ?_ | refine WPc.cF ?_ | (refine WPc.cS (fun hc => ?_) (fun hc => ?_) <;> (try simp only [decide_eq_true_eq, decide_eq_false_iff_not, Bool.not_eq_true', Bool.not_eq_false', Bool.and_eq_true, Bool.or_eq_true, Bool.and_eq_false_iff, Bool.or_eq_false_iff, Bool.not_true, Bool.not_false, Int.not_lt, Int.not_le] at hc) <;> (try (exfalso; first | omega | exact clash1 hc (by assumption) | exact clash2 hc (by assumption) | exact hc trivial | exact hc (by assumption) | exact absurd hc (by assumption))))))
          | ((show WPl _ _ _ _ _ _ _ (⟨some 29, .call ⟨.value _, _, _⟩, _, _, _, _⟩ :: _) _; refine WPl.cV (c1) ?_))
          | ((show WPl _ _ _ _ _ _ _ (_ :: _) _; first | refine WPl.rd ?_ | refine WPl.sk ?_ | refine WPl.rdB ?_))
          | ((show WPl _ _ _ _ _ _ _ (⟨_, .alloc _, _, _, _, _⟩ :: _) _; refine WPl.nw fun g => ?_))
          | ((show WPl _ _ _ _ _ _ _ (⟨_, .store _ _ _, _, _, _, _⟩ :: _) _; first | refine WPl.st1 ?_ | refine WPl.stA ?_ | refine WPl.stEB ?_ | refine WPl.stRB ?_))
          | ((show WPl _ _ _ _ _ _ _ (_ :: _) _; refine WPl.spl (fun hc => ?_) (fun hc => ?_) <;> (try simp only [decide_eq_true_eq, decide_eq_false_iff_not, Bool.not_eq_true', Bool.not_eq_false', Bool.and_eq_true, Bool.or_eq_true, Bool.and_eq_false_iff, Bool.or_eq_false_iff, Bool.not_true, Bool.not_false, Int.not_lt, Int.not_le] at hc) <;> (try (exfalso; first | omega | exact clash1 hc (by assumption) | exact clash2 hc (by assumption) | exact hc trivial | exact hc (by assumption) | exact absurd hc (by assumption)))))
          | fail)
        all_goals try (first
          | exact WPq.dV
          | exact WPq.dR
          | exact WPq.dR2
          | exact WPq.dH
          | exact WPq.dBH
          | exact WPq.dT)
    · by_cases h6 : byteN b 0 / 16 = 6
      · have c1 : Triple Try.prog 93 #[v] [rb v b] (RVal (phVal b)) := by
          rw [show phVal b = sVal b by unfold phVal phH phE; rw [if_neg h0, if_neg h0, if_neg h4, if_neg h4, if_pos h6, if_pos h6]]
          exact c6
        simp only [phVal] at c1
        simp only [fVal] at c4
        generalize fread b = X0 at c4
        generalize ferr b = e0 at c4
        have k01 := X0.src.len
        have k02 := X0.dst.len
        clear c6
        by_cases he : phE b = 0
        · obtain ⟨p1, p2⟩ := phE_pos he
          have c2 := fun u => rsread_t (phH b) u (pkS b) (by unfold pkS; rw [seg_len]; omega)
          simp only [gVal] at c2
          have hE : pkE b = if (phH b).part then 13 else sgE (phH b) (pkS b) := by unfold pkE; rw [if_neg (by rw [he]; simp)]
          obtain ⟨k, hk⟩ : ∃ k : Nat, (phH b).pos = (k : Int) := ⟨(phH b).pos.toNat, by omega⟩
          have hS : pkS b = seg b k (b.length - k) := by unfold pkS; rw [hk]; rfl
          have hval : pkVal b = .tuple #[ag (pkc (if pkE b = 0 then pkOf (phH b) (sgR (phH b) (pkS b)) else Pk.none)), .int .i64 (pkE b)] := rfl
          rw [hval, hE]
          rw [he] at c1
          clear hval hE he
          obtain ⟨Y, hY⟩ : ∃ Y, Y = sgR (phH b) (pkS b) := ⟨_, rfl⟩
          obtain ⟨c, hc⟩ : ∃ c, c = sgE (phH b) (pkS b) := ⟨_, rfl⟩
          rw [← hY, ← hc] at c2 ⊢
          clear hY hc
          rw [hS] at c2
          clear hS
          obtain ⟨X, hX⟩ : ∃ X, X = phH b := ⟨_, rfl⟩
          rw [← hX] at c1 c2 hk p1 p2 ⊢
          clear hX
          obtain ⟨six, pr, pos, a1, a2, pt, hp⟩ := X
          dsimp only at hk p1 p2
          subst hk
          have k1 := a1.len
          have k2 := a2.len
          have hkb : k ≤ b.length := by omega
          cases pt with
          | true =>
            simp only [if_true]
            rw [if_neg (by omega)]
            refine Triple.enter Try.func50 rfl Try.ntmps50 rfl (fun W => ?_)
            dsimp only [argsF, Nat.reduceAdd]
            repeat' (first
              | refine WPl.nil ?_
              | refine WPq.then ?_
              | refine WPq.thenR ?_
              | refine WPq.thenE ?_
              | refine WPq.blockN ?_
              | refine WPq.blockR ?_
              | refine WPq.blockE ?_
              | refine WPq.blockO rfl ?_
              | refine WPc.seq ?_
              | refine WPc.block ?_
              | refine WPc.ret ?_
              | refine WPc.exit ?_
              | refine WPc.skip ?_
              | refine WPc.region ?_
              | ((show WPc _ _ _ _ _ _ (.region 13 _ true) _; refine WPc.drawn [([], [7, 51, 52, 53, 54]), ([], [7, 50, 52, 53]), ([], [7, 50, 51]), ([2], [7, 50, 51, 52]), ([1, 2, 3], [7, 50, 51, 52, 53]), ([0, 1, 2, 3, 4], [7, 50, 51, 52, 53, 54]), ([0, 1, 2, 3, 4, 5], [7, 50, 51, 52, 53, 54, 55]), ([0, 1, 2, 3, 4, 5, 6], [7, 49, 50, 51, 52, 53, 54, 55, 57]), ([0, 1, 2, 3, 4, 5, 6], [7, 49, 50, 51, 52, 53, 54, 55, 56]), ([], [49, 50, 51, 52, 53, 54, 55, 56, 57]), ([0, 1, 2, 3, 4, 5, 6, 7, 9], [7, 49, 50, 51, 52, 53, 54, 55, 56, 57]), ([0, 1, 2, 3, 4, 5, 6, 7, 8, 9, 10], [7, 49, 50, 51, 52, 53, 54, 55, 56, 57])] [(9, 10)] (Γx := []) (by exact takesA) (by repeat' (first | exact own_nil | refine own_cons (by first | exact bx_own | exact rowN_own | exact rfl) ?_ | fail)) (by kernel_rfl) (by kernel_rfl) ?_; dsimp only [prev0, List.length_nil, List.length_cons]))
              | ((show RGl _ _ _ _ _ _ _ _ _ _ _; first | (show RGl _ _ _ _ _ _ _ _ (⟨some 29, .call ⟨.value _, _, _⟩, _, _, _, _⟩ :: _) _ _; refine RGl.vl (fun e hk => by (try dsimp only [bndR, ensR, oksR, fcutR, List.append_nil, List.nil_append, List.cons_append, List.append_assoc] at hk ⊢); refine OpT.call (c4) evsA provsA (by kernel_rfl)) ?_) | (show RGl _ _ _ _ _ _ _ _ (⟨some 39, .call ⟨.value _, _, _⟩, _, _, _, _⟩ :: _) _ _; refine RGl.vl (fun e hk => by (try dsimp only [bndR, ensR, oksR, fcutR, List.append_nil, List.nil_append, List.cons_append, List.append_assoc] at hk ⊢); refine OpT.call (c1) evsA provsA (by kernel_rfl)) ?_) | (show RGl _ _ _ _ _ _ _ _ (_ :: _) _ _; first | refine RGl.rdA ?_ | refine RGl.rdX (fun e hk => by (try dsimp only [bndR, ensR, oksR, fcutR, List.append_nil, List.nil_append, List.cons_append, List.append_assoc] at hk ⊢); exact readB) ?_) | (show RGl _ _ _ _ _ _ _ _ (⟨_, .alloc _, _, _, _, _⟩ :: _) _ _; refine RGl.nwA ?_) | (show RGl _ _ _ _ _ _ _ _ (⟨_, .store _ _ _, _, _, _, _⟩ :: _) _ _; refine RGl.stA ?_) | (refine RGl.fin (fun e hk => ?_); (try dsimp only [bndA, ensAR, oksA, List.append_nil, List.nil_append, List.cons_append, List.append_assoc] at hk ⊢); (repeat (obtain ⟨hk1, hk⟩ := hk))) | fail))
              | ((show WPc _ _ _ _ _ _ (.cond _ _ _) _; first | refine WPc.cT ?_ | refine WPc.cF ?_ | (refine WPc.cS (fun hc => ?_) (fun hc => ?_) <;> (try simp only [decide_eq_true_eq, decide_eq_false_iff_not, Bool.not_eq_true', Bool.not_eq_false', Bool.and_eq_true, Bool.or_eq_true, Bool.and_eq_false_iff, Bool.or_eq_false_iff, Bool.not_true, Bool.not_false, Int.not_lt, Int.not_le] at hc) <;> (try (exfalso; first | omega | exact clash1 hc (by assumption) | exact clash2 hc (by assumption) | exact hc trivial | exact hc (by assumption) | exact absurd hc (by assumption))))))
              | ((show WPl _ _ _ _ _ _ _ (⟨some 29, .call ⟨.value _, _, _⟩, _, _, _, _⟩ :: _) _; refine WPl.cV (c4) ?_))
              | ((show WPl _ _ _ _ _ _ _ (⟨some 39, .call ⟨.value _, _, _⟩, _, _, _, _⟩ :: _) _; refine WPl.cV (c1) ?_))
              | ((show WPl _ _ _ _ _ _ _ (_ :: _) _; first | refine WPl.rd ?_ | refine WPl.sk ?_ | refine WPl.rdB ?_))
              | ((show WPl _ _ _ _ _ _ _ (⟨_, .alloc _, _, _, _, _⟩ :: _) _; refine WPl.nw fun g => ?_))
              | ((show WPl _ _ _ _ _ _ _ (⟨_, .store _ _ _, _, _, _, _⟩ :: _) _; first | refine WPl.st1 ?_ | refine WPl.stA ?_ | refine WPl.stEB ?_ | refine WPl.stRB ?_))
              | ((show WPl _ _ _ _ _ _ _ (_ :: _) _; refine WPl.spl (fun hc => ?_) (fun hc => ?_) <;> (try simp only [decide_eq_true_eq, decide_eq_false_iff_not, Bool.not_eq_true', Bool.not_eq_false', Bool.and_eq_true, Bool.or_eq_true, Bool.and_eq_false_iff, Bool.or_eq_false_iff, Bool.not_true, Bool.not_false, Int.not_lt, Int.not_le] at hc) <;> (try (exfalso; first | omega | exact clash1 hc (by assumption) | exact clash2 hc (by assumption) | exact hc trivial | exact hc (by assumption) | exact absurd hc (by assumption)))))
              | fail)
            all_goals try (first
              | exact WPq.dV
              | exact WPq.dR
              | exact WPq.dR2
              | exact WPq.dH
              | exact WPq.dBH
              | exact WPq.dT)
          | false =>
            simp only [Bool.false_eq_true, if_false]
            by_cases hc0 : c = 0
            · rw [if_pos hc0]
              subst hc0
              refine Triple.enter Try.func50 rfl Try.ntmps50 rfl (fun W => ?_)
              dsimp only [argsF, Nat.reduceAdd]
              repeat' (first
                | refine WPl.nil ?_
                | refine WPq.then ?_
                | refine WPq.thenR ?_
                | refine WPq.thenE ?_
                | refine WPq.blockN ?_
                | refine WPq.blockR ?_
                | refine WPq.blockE ?_
                | refine WPq.blockO rfl ?_
                | refine WPc.seq ?_
                | refine WPc.block ?_
                | refine WPc.ret ?_
                | refine WPc.exit ?_
                | refine WPc.skip ?_
                | refine WPc.region ?_
                | ((show WPc _ _ _ _ _ _ (.region 13 _ true) _; refine WPc.drawn [([], [7, 51, 52, 53, 54]), ([], [7, 50, 52, 53]), ([], [7, 50, 51]), ([2], [7, 50, 51, 52]), ([1, 2, 3], [7, 50, 51, 52, 53]), ([0, 1, 2, 3, 4], [7, 50, 51, 52, 53, 54]), ([0, 1, 2, 3, 4, 5], [7, 50, 51, 52, 53, 54, 55]), ([0, 1, 2, 3, 4, 5, 6], [7, 49, 50, 51, 52, 53, 54, 55, 57]), ([0, 1, 2, 3, 4, 5, 6], [7, 49, 50, 51, 52, 53, 54, 55, 56]), ([], [49, 50, 51, 52, 53, 54, 55, 56, 57]), ([0, 1, 2, 3, 4, 5, 6, 7, 9], [7, 49, 50, 51, 52, 53, 54, 55, 56, 57]), ([0, 1, 2, 3, 4, 5, 6, 7, 8, 9, 10], [7, 49, 50, 51, 52, 53, 54, 55, 56, 57])] [(9, 10)] (Γx := []) (by exact takesA) (by repeat' (first | exact own_nil | refine own_cons (by first | exact bx_own | exact rowN_own | exact rfl) ?_ | fail)) (by kernel_rfl) (by kernel_rfl) ?_; dsimp only [prev0, List.length_nil, List.length_cons]))
                | ((show RGl _ _ _ _ _ _ _ _ _ _ _; first | (show RGl _ _ _ _ _ _ _ _ (⟨some 29, .call ⟨.value _, _, _⟩, _, _, _, _⟩ :: _) _ _; refine RGl.vl (fun e hk => by (try dsimp only [bndR, ensR, oksR, fcutR, List.append_nil, List.nil_append, List.cons_append, List.append_assoc] at hk ⊢); refine OpT.call (c4) evsA provsA (by kernel_rfl)) ?_) | (show RGl _ _ _ _ _ _ _ _ (⟨some 39, .call ⟨.value _, _, _⟩, _, _, _, _⟩ :: _) _ _; refine RGl.vl (fun e hk => by (try dsimp only [bndR, ensR, oksR, fcutR, List.append_nil, List.nil_append, List.cons_append, List.append_assoc] at hk ⊢); refine OpT.call (c1) evsA provsA (by kernel_rfl)) ?_) | (show RGl _ _ _ _ _ _ _ _ (⟨some 55, .call ⟨.value _, _, _⟩, _, _, _, _⟩ :: _) _ _; refine RGl.vl (fun e hk => by (try dsimp only [bndR, ensR, oksR, fcutR, List.append_nil, List.nil_append, List.cons_append, List.append_assoc] at hk ⊢); refine OpT.call (c2 (subv 1 v k (b.length - k))) evsA provsA (by kernel_rfl)) ?_) | (show RGl _ _ _ _ _ _ _ _ (⟨some 75, _, _, _, _, _⟩ :: _) _ _; refine RGl.rdX (fun e hk => by (try dsimp only [bndR, ensR, oksR, fcutR, List.append_nil, List.nil_append, List.cons_append, List.append_assoc] at hk ⊢); exact ReadR.build (cs' := pkc (pkOf ⟨six, pr, (k : Int), a1, a2, false, hp⟩ Y)) buildA) ?_) | (show RGl _ _ _ _ _ _ _ _ (_ :: _) _ _; first | refine RGl.rdA ?_ | refine RGl.rdX (fun e hk => by (try dsimp only [bndR, ensR, oksR, fcutR, List.append_nil, List.nil_append, List.cons_append, List.append_assoc] at hk ⊢); exact readB) ?_) | (show RGl _ _ _ _ _ _ _ _ (⟨_, .alloc _, _, _, _, _⟩ :: _) _ _; refine RGl.nwA ?_) | (show RGl _ _ _ _ _ _ _ _ (⟨_, .store _ _ _, _, _, _, _⟩ :: _) _ _; refine RGl.stA ?_) | (refine RGl.fin (fun e hk => ?_); (try dsimp only [bndA, ensAR, oksA, List.append_nil, List.nil_append, List.cons_append, List.append_assoc] at hk ⊢); (repeat (obtain ⟨hk1, hk⟩ := hk))) | fail))
                | ((show WPc _ _ _ _ _ _ (.cond _ _ _) _; first | refine WPc.cT ?_ | refine WPc.cF ?_ | (refine WPc.cS (fun hc => ?_) (fun hc => ?_) <;> (try simp only [decide_eq_true_eq, decide_eq_false_iff_not, Bool.not_eq_true', Bool.not_eq_false', Bool.and_eq_true, Bool.or_eq_true, Bool.and_eq_false_iff, Bool.or_eq_false_iff, Bool.not_true, Bool.not_false, Int.not_lt, Int.not_le] at hc) <;> (try (exfalso; first | omega | exact clash1 hc (by assumption) | exact clash2 hc (by assumption) | exact hc trivial | exact hc (by assumption) | exact absurd hc (by assumption))))))
                | ((show WPl _ _ _ _ _ _ _ (⟨some 29, .call ⟨.value _, _, _⟩, _, _, _, _⟩ :: _) _; refine WPl.cV (c4) ?_))
                | ((show WPl _ _ _ _ _ _ _ (⟨some 39, .call ⟨.value _, _, _⟩, _, _, _, _⟩ :: _) _; refine WPl.cV (c1) ?_))
                | ((show WPl _ _ _ _ _ _ _ (⟨some 55, .call ⟨.value _, _, _⟩, _, _, _, _⟩ :: _) _; refine WPl.cV (c2 (subv 1 v k (b.length - k))) ?_))
                | ((show WPl _ _ _ _ _ _ _ (⟨some 75, _, _, _, _, _⟩ :: _) _; refine WPl.rdX (ReadR.build (cs' := pkc (pkOf ⟨six, pr, (k : Int), a1, a2, false, hp⟩ Y)) buildA) ?_))
                | ((show WPl _ _ _ _ _ _ _ (⟨_, .store 74 (.tmp 2) _, _, _, _, _⟩ :: _) _; refine WPl.stA (new := pkc (pkOf ⟨six, pr, (k : Int), a1, a2, false, hp⟩ Y)) ?_ (ht := by kernel_rfl)))
                | ((show WPl _ _ _ _ _ _ _ (_ :: _) _; first | refine WPl.rd ?_ | refine WPl.sk ?_ | refine WPl.rdB ?_))
                | ((show WPl _ _ _ _ _ _ _ (⟨_, .alloc _, _, _, _, _⟩ :: _) _; refine WPl.nw fun g => ?_))
                | ((show WPl _ _ _ _ _ _ _ (⟨_, .store _ _ _, _, _, _, _⟩ :: _) _; first | refine WPl.st1 ?_ | refine WPl.stA ?_ | refine WPl.stEB ?_ | refine WPl.stRB ?_))
                | ((show WPl _ _ _ _ _ _ _ (_ :: _) _; refine WPl.spl (fun hc => ?_) (fun hc => ?_) <;> (try simp only [decide_eq_true_eq, decide_eq_false_iff_not, Bool.not_eq_true', Bool.not_eq_false', Bool.and_eq_true, Bool.or_eq_true, Bool.and_eq_false_iff, Bool.or_eq_false_iff, Bool.not_true, Bool.not_false, Int.not_lt, Int.not_le] at hc) <;> (try (exfalso; first | omega | exact clash1 hc (by assumption) | exact clash2 hc (by assumption) | exact hc trivial | exact hc (by assumption) | exact absurd hc (by assumption)))))
                | fail)
              all_goals try (first
                | exact WPq.dV
                | exact WPq.dR
                | exact WPq.dR2
                | exact WPq.dH
                | exact WPq.dBH
                | exact WPq.dT)
            · rw [if_neg hc0]
              refine Triple.enter Try.func50 rfl Try.ntmps50 rfl (fun W => ?_)
              dsimp only [argsF, Nat.reduceAdd]
              repeat' (first
                | refine WPl.nil ?_
                | refine WPq.then ?_
                | refine WPq.thenR ?_
                | refine WPq.thenE ?_
                | refine WPq.blockN ?_
                | refine WPq.blockR ?_
                | refine WPq.blockE ?_
                | refine WPq.blockO rfl ?_
                | refine WPc.seq ?_
                | refine WPc.block ?_
                | refine WPc.ret ?_
                | refine WPc.exit ?_
                | refine WPc.skip ?_
                | refine WPc.region ?_
                | ((show WPc _ _ _ _ _ _ (.region 13 _ true) _; refine WPc.drawn [([], [7, 51, 52, 53, 54]), ([], [7, 50, 52, 53]), ([], [7, 50, 51]), ([2], [7, 50, 51, 52]), ([1, 2, 3], [7, 50, 51, 52, 53]), ([0, 1, 2, 3, 4], [7, 50, 51, 52, 53, 54]), ([0, 1, 2, 3, 4, 5], [7, 50, 51, 52, 53, 54, 55]), ([0, 1, 2, 3, 4, 5, 6], [7, 49, 50, 51, 52, 53, 54, 55, 57]), ([0, 1, 2, 3, 4, 5, 6], [7, 49, 50, 51, 52, 53, 54, 55, 56]), ([], [49, 50, 51, 52, 53, 54, 55, 56, 57]), ([0, 1, 2, 3, 4, 5, 6, 7, 9], [7, 49, 50, 51, 52, 53, 54, 55, 56, 57]), ([0, 1, 2, 3, 4, 5, 6, 7, 8, 9, 10], [7, 49, 50, 51, 52, 53, 54, 55, 56, 57])] [(9, 10)] (Γx := []) (by exact takesA) (by repeat' (first | exact own_nil | refine own_cons (by first | exact bx_own | exact rowN_own | exact rfl) ?_ | fail)) (by kernel_rfl) (by kernel_rfl) ?_; dsimp only [prev0, List.length_nil, List.length_cons]))
                | ((show RGl _ _ _ _ _ _ _ _ _ _ _; first | (show RGl _ _ _ _ _ _ _ _ (⟨some 29, .call ⟨.value _, _, _⟩, _, _, _, _⟩ :: _) _ _; refine RGl.vl (fun e hk => by (try dsimp only [bndR, ensR, oksR, fcutR, List.append_nil, List.nil_append, List.cons_append, List.append_assoc] at hk ⊢); refine OpT.call (c4) evsA provsA (by kernel_rfl)) ?_) | (show RGl _ _ _ _ _ _ _ _ (⟨some 39, .call ⟨.value _, _, _⟩, _, _, _, _⟩ :: _) _ _; refine RGl.vl (fun e hk => by (try dsimp only [bndR, ensR, oksR, fcutR, List.append_nil, List.nil_append, List.cons_append, List.append_assoc] at hk ⊢); refine OpT.call (c1) evsA provsA (by kernel_rfl)) ?_) | (show RGl _ _ _ _ _ _ _ _ (⟨some 55, .call ⟨.value _, _, _⟩, _, _, _, _⟩ :: _) _ _; refine RGl.vl (fun e hk => by (try dsimp only [bndR, ensR, oksR, fcutR, List.append_nil, List.nil_append, List.cons_append, List.append_assoc] at hk ⊢); refine OpT.call (c2 (subv 1 v k (b.length - k))) evsA provsA (by kernel_rfl)) ?_) | (show RGl _ _ _ _ _ _ _ _ (_ :: _) _ _; first | refine RGl.rdA ?_ | refine RGl.rdX (fun e hk => by (try dsimp only [bndR, ensR, oksR, fcutR, List.append_nil, List.nil_append, List.cons_append, List.append_assoc] at hk ⊢); exact readB) ?_) | (show RGl _ _ _ _ _ _ _ _ (⟨_, .alloc _, _, _, _, _⟩ :: _) _ _; refine RGl.nwA ?_) | (show RGl _ _ _ _ _ _ _ _ (⟨_, .store _ _ _, _, _, _, _⟩ :: _) _ _; refine RGl.stA ?_) | (refine RGl.fin (fun e hk => ?_); (try dsimp only [bndA, ensAR, oksA, List.append_nil, List.nil_append, List.cons_append, List.append_assoc] at hk ⊢); (repeat (obtain ⟨hk1, hk⟩ := hk))) | fail))
                | ((show WPc _ _ _ _ _ _ (.cond _ _ _) _; first | refine WPc.cT ?_ | refine WPc.cF ?_ | (refine WPc.cS (fun hc => ?_) (fun hc => ?_) <;> (try simp only [decide_eq_true_eq, decide_eq_false_iff_not, Bool.not_eq_true', Bool.not_eq_false', Bool.and_eq_true, Bool.or_eq_true, Bool.and_eq_false_iff, Bool.or_eq_false_iff, Bool.not_true, Bool.not_false, Int.not_lt, Int.not_le] at hc) <;> (try (exfalso; first | omega | exact clash1 hc (by assumption) | exact clash2 hc (by assumption) | exact hc trivial | exact hc (by assumption) | exact absurd hc (by assumption))))))
                | ((show WPl _ _ _ _ _ _ _ (⟨some 29, .call ⟨.value _, _, _⟩, _, _, _, _⟩ :: _) _; refine WPl.cV (c4) ?_))
                | ((show WPl _ _ _ _ _ _ _ (⟨some 39, .call ⟨.value _, _, _⟩, _, _, _, _⟩ :: _) _; refine WPl.cV (c1) ?_))
                | ((show WPl _ _ _ _ _ _ _ (⟨some 55, .call ⟨.value _, _, _⟩, _, _, _, _⟩ :: _) _; refine WPl.cV (c2 (subv 1 v k (b.length - k))) ?_))
                | ((show WPl _ _ _ _ _ _ _ (_ :: _) _; first | refine WPl.rd ?_ | refine WPl.sk ?_ | refine WPl.rdB ?_))
                | ((show WPl _ _ _ _ _ _ _ (⟨_, .alloc _, _, _, _, _⟩ :: _) _; refine WPl.nw fun g => ?_))
                | ((show WPl _ _ _ _ _ _ _ (⟨_, .store _ _ _, _, _, _, _⟩ :: _) _; first | refine WPl.st1 ?_ | refine WPl.stA ?_ | refine WPl.stEB ?_ | refine WPl.stRB ?_))
                | ((show WPl _ _ _ _ _ _ _ (_ :: _) _; refine WPl.spl (fun hc => ?_) (fun hc => ?_) <;> (try simp only [decide_eq_true_eq, decide_eq_false_iff_not, Bool.not_eq_true', Bool.not_eq_false', Bool.and_eq_true, Bool.or_eq_true, Bool.and_eq_false_iff, Bool.or_eq_false_iff, Bool.not_true, Bool.not_false, Int.not_lt, Int.not_le] at hc) <;> (try (exfalso; first | omega | exact clash1 hc (by assumption) | exact clash2 hc (by assumption) | exact hc trivial | exact hc (by assumption) | exact absurd hc (by assumption)))))
                | fail)
              all_goals try (first
                | exact WPq.dV
                | exact WPq.dR
                | exact WPq.dR2
                | exact WPq.dH
                | exact WPq.dBH
                | exact WPq.dT)
        · have hE : pkE b = phE b := by unfold pkE; rw [if_pos he]
          rw [show pkVal b = .tuple #[ag (pkc Pk.none), .int .i64 (phE b)] by unfold pkVal pkR; rw [hE, if_neg he]]
          obtain ⟨X, hX⟩ : ∃ X, X = phH b := ⟨_, rfl⟩
          obtain ⟨c, hc⟩ : ∃ c, c = phE b := ⟨_, rfl⟩
          rw [← hc] at he
          rw [← hX, ← hc] at c1
          rw [← hc]
          clear hX hc hE
          have k1 := X.src.len
          have k2 := X.dst.len
          refine Triple.enter Try.func50 rfl Try.ntmps50 rfl (fun W => ?_)
          dsimp only [argsF, Nat.reduceAdd]
          repeat' (first
            | refine WPl.nil ?_
            | refine WPq.then ?_
            | refine WPq.thenR ?_
            | refine WPq.thenE ?_
            | refine WPq.blockN ?_
            | refine WPq.blockR ?_
            | refine WPq.blockE ?_
            | refine WPq.blockO rfl ?_
            | refine WPc.seq ?_
            | refine WPc.block ?_
            | refine WPc.ret ?_
            | refine WPc.exit ?_
            | refine WPc.skip ?_
            | refine WPc.region ?_
            | ((show WPc _ _ _ _ _ _ (.region 13 _ true) _; refine WPc.drawn [([], [7, 51, 52, 53, 54]), ([], [7, 50, 52, 53]), ([], [7, 50, 51]), ([2], [7, 50, 51, 52]), ([1, 2, 3], [7, 50, 51, 52, 53]), ([0, 1, 2, 3, 4], [7, 50, 51, 52, 53, 54]), ([0, 1, 2, 3, 4, 5], [7, 50, 51, 52, 53, 54, 55]), ([0, 1, 2, 3, 4, 5, 6], [7, 49, 50, 51, 52, 53, 54, 55, 57]), ([0, 1, 2, 3, 4, 5, 6], [7, 49, 50, 51, 52, 53, 54, 55, 56]), ([], [49, 50, 51, 52, 53, 54, 55, 56, 57]), ([0, 1, 2, 3, 4, 5, 6, 7, 9], [7, 49, 50, 51, 52, 53, 54, 55, 56, 57]), ([0, 1, 2, 3, 4, 5, 6, 7, 8, 9, 10], [7, 49, 50, 51, 52, 53, 54, 55, 56, 57])] [(9, 10)] (Γx := []) (by exact takesA) (by repeat' (first | exact own_nil | refine own_cons (by first | exact bx_own | exact rowN_own | exact rfl) ?_ | fail)) (by kernel_rfl) (by kernel_rfl) ?_; dsimp only [prev0, List.length_nil, List.length_cons]))
            | ((show RGl _ _ _ _ _ _ _ _ _ _ _; first | (show RGl _ _ _ _ _ _ _ _ (⟨some 29, .call ⟨.value _, _, _⟩, _, _, _, _⟩ :: _) _ _; refine RGl.vl (fun e hk => by (try dsimp only [bndR, ensR, oksR, fcutR, List.append_nil, List.nil_append, List.cons_append, List.append_assoc] at hk ⊢); refine OpT.call (c4) evsA provsA (by kernel_rfl)) ?_) | (show RGl _ _ _ _ _ _ _ _ (⟨some 39, .call ⟨.value _, _, _⟩, _, _, _, _⟩ :: _) _ _; refine RGl.vl (fun e hk => by (try dsimp only [bndR, ensR, oksR, fcutR, List.append_nil, List.nil_append, List.cons_append, List.append_assoc] at hk ⊢); refine OpT.call (c1) evsA provsA (by kernel_rfl)) ?_) | (show RGl _ _ _ _ _ _ _ _ (_ :: _) _ _; first | refine RGl.rdA ?_ | refine RGl.rdX (fun e hk => by (try dsimp only [bndR, ensR, oksR, fcutR, List.append_nil, List.nil_append, List.cons_append, List.append_assoc] at hk ⊢); exact readB) ?_) | (show RGl _ _ _ _ _ _ _ _ (⟨_, .alloc _, _, _, _, _⟩ :: _) _ _; refine RGl.nwA ?_) | (show RGl _ _ _ _ _ _ _ _ (⟨_, .store _ _ _, _, _, _, _⟩ :: _) _ _; refine RGl.stA ?_) | (refine RGl.fin (fun e hk => ?_); (try dsimp only [bndA, ensAR, oksA, List.append_nil, List.nil_append, List.cons_append, List.append_assoc] at hk ⊢); (repeat (obtain ⟨hk1, hk⟩ := hk))) | fail))
            | ((show WPc _ _ _ _ _ _ (.cond _ _ _) _; first | refine WPc.cT ?_ | refine WPc.cF ?_ | (refine WPc.cS (fun hc => ?_) (fun hc => ?_) <;> (try simp only [decide_eq_true_eq, decide_eq_false_iff_not, Bool.not_eq_true', Bool.not_eq_false', Bool.and_eq_true, Bool.or_eq_true, Bool.and_eq_false_iff, Bool.or_eq_false_iff, Bool.not_true, Bool.not_false, Int.not_lt, Int.not_le] at hc) <;> (try (exfalso; first | omega | exact clash1 hc (by assumption) | exact clash2 hc (by assumption) | exact hc trivial | exact hc (by assumption) | exact absurd hc (by assumption))))))
            | ((show WPl _ _ _ _ _ _ _ (⟨some 29, .call ⟨.value _, _, _⟩, _, _, _, _⟩ :: _) _; refine WPl.cV (c4) ?_))
            | ((show WPl _ _ _ _ _ _ _ (⟨some 39, .call ⟨.value _, _, _⟩, _, _, _, _⟩ :: _) _; refine WPl.cV (c1) ?_))
            | ((show WPl _ _ _ _ _ _ _ (_ :: _) _; first | refine WPl.rd ?_ | refine WPl.sk ?_ | refine WPl.rdB ?_))
            | ((show WPl _ _ _ _ _ _ _ (⟨_, .alloc _, _, _, _, _⟩ :: _) _; refine WPl.nw fun g => ?_))
            | ((show WPl _ _ _ _ _ _ _ (⟨_, .store _ _ _, _, _, _, _⟩ :: _) _; first | refine WPl.st1 ?_ | refine WPl.stA ?_ | refine WPl.stEB ?_ | refine WPl.stRB ?_))
            | ((show WPl _ _ _ _ _ _ _ (_ :: _) _; refine WPl.spl (fun hc => ?_) (fun hc => ?_) <;> (try simp only [decide_eq_true_eq, decide_eq_false_iff_not, Bool.not_eq_true', Bool.not_eq_false', Bool.and_eq_true, Bool.or_eq_true, Bool.and_eq_false_iff, Bool.or_eq_false_iff, Bool.not_true, Bool.not_false, Int.not_lt, Int.not_le] at hc) <;> (try (exfalso; first | omega | exact clash1 hc (by assumption) | exact clash2 hc (by assumption) | exact hc trivial | exact hc (by assumption) | exact absurd hc (by assumption)))))
            | fail)
          all_goals try (first
            | exact WPq.dV
            | exact WPq.dR
            | exact WPq.dR2
            | exact WPq.dH
            | exact WPq.dBH
            | exact WPq.dT)
      · have hE : phE b = 12 := by unfold phE; rw [if_neg h0, if_neg h4, if_neg h6]
        have hE2 : pkE b = 12 := by unfold pkE; rw [hE]; simp
        rw [show pkVal b = .tuple #[ag (pkc Pk.none), .int .i64 12] by unfold pkVal pkR; rw [hE2, if_neg (by omega)]]
        refine Triple.enter Try.func50 rfl Try.ntmps50 rfl (fun W => ?_)
        dsimp only [argsF, Nat.reduceAdd]
        repeat' (first
          | refine WPl.nil ?_
          | refine WPq.then ?_
          | refine WPq.thenR ?_
          | refine WPq.thenE ?_
          | refine WPq.blockN ?_
          | refine WPq.blockR ?_
          | refine WPq.blockE ?_
          | refine WPq.blockO rfl ?_
          | refine WPc.seq ?_
          | refine WPc.block ?_
          | refine WPc.ret ?_
          | refine WPc.exit ?_
          | refine WPc.skip ?_
          | refine WPc.region ?_
          | ((show WPc _ _ _ _ _ _ (.region 13 _ true) _; refine WPc.drawn [([], [7, 51, 52, 53, 54]), ([], [7, 50, 52, 53]), ([], [7, 50, 51]), ([2], [7, 50, 51, 52]), ([1, 2, 3], [7, 50, 51, 52, 53]), ([0, 1, 2, 3, 4], [7, 50, 51, 52, 53, 54]), ([0, 1, 2, 3, 4, 5], [7, 50, 51, 52, 53, 54, 55]), ([0, 1, 2, 3, 4, 5, 6], [7, 49, 50, 51, 52, 53, 54, 55, 57]), ([0, 1, 2, 3, 4, 5, 6], [7, 49, 50, 51, 52, 53, 54, 55, 56]), ([], [49, 50, 51, 52, 53, 54, 55, 56, 57]), ([0, 1, 2, 3, 4, 5, 6, 7, 9], [7, 49, 50, 51, 52, 53, 54, 55, 56, 57]), ([0, 1, 2, 3, 4, 5, 6, 7, 8, 9, 10], [7, 49, 50, 51, 52, 53, 54, 55, 56, 57])] [(9, 10)] (Γx := []) (by exact takesA) (by repeat' (first | exact own_nil | refine own_cons (by first | exact bx_own | exact rowN_own | exact rfl) ?_ | fail)) (by kernel_rfl) (by kernel_rfl) ?_; dsimp only [prev0, List.length_nil, List.length_cons]))
          | ((show RGl _ _ _ _ _ _ _ _ _ _ _; first | (show RGl _ _ _ _ _ _ _ _ (_ :: _) _ _; first | refine RGl.rdA ?_ | refine RGl.rdX (fun e hk => by (try dsimp only [bndR, ensR, oksR, fcutR, List.append_nil, List.nil_append, List.cons_append, List.append_assoc] at hk ⊢); exact readB) ?_) | (show RGl _ _ _ _ _ _ _ _ (⟨_, .alloc _, _, _, _, _⟩ :: _) _ _; refine RGl.nwA ?_) | (show RGl _ _ _ _ _ _ _ _ (⟨_, .store _ _ _, _, _, _, _⟩ :: _) _ _; refine RGl.stA ?_) | (refine RGl.fin (fun e hk => ?_); (try dsimp only [bndA, ensAR, oksA, List.append_nil, List.nil_append, List.cons_append, List.append_assoc] at hk ⊢); (repeat (obtain ⟨hk1, hk⟩ := hk))) | fail))
          | ((show WPc _ _ _ _ _ _ (.cond _ _ _) _; first | refine WPc.cT ?_ | refine WPc.cF ?_ | (refine WPc.cS (fun hc => ?_) (fun hc => ?_) <;> (try simp only [decide_eq_true_eq, decide_eq_false_iff_not, Bool.not_eq_true', Bool.not_eq_false', Bool.and_eq_true, Bool.or_eq_true, Bool.and_eq_false_iff, Bool.or_eq_false_iff, Bool.not_true, Bool.not_false, Int.not_lt, Int.not_le] at hc) <;> (try (exfalso; first | omega | exact clash1 hc (by assumption) | exact clash2 hc (by assumption) | exact hc trivial | exact hc (by assumption) | exact absurd hc (by assumption))))))
          | ((show WPl _ _ _ _ _ _ _ (_ :: _) _; first | refine WPl.rd ?_ | refine WPl.sk ?_ | refine WPl.rdB ?_))
          | ((show WPl _ _ _ _ _ _ _ (⟨_, .alloc _, _, _, _, _⟩ :: _) _; refine WPl.nw fun g => ?_))
          | ((show WPl _ _ _ _ _ _ _ (⟨_, .store _ _ _, _, _, _, _⟩ :: _) _; first | refine WPl.st1 ?_ | refine WPl.stA ?_ | refine WPl.stEB ?_ | refine WPl.stRB ?_))
          | ((show WPl _ _ _ _ _ _ _ (_ :: _) _; refine WPl.spl (fun hc => ?_) (fun hc => ?_) <;> (try simp only [decide_eq_true_eq, decide_eq_false_iff_not, Bool.not_eq_true', Bool.not_eq_false', Bool.and_eq_true, Bool.or_eq_true, Bool.and_eq_false_iff, Bool.or_eq_false_iff, Bool.not_true, Bool.not_false, Int.not_lt, Int.not_le] at hc) <;> (try (exfalso; first | omega | exact clash1 hc (by assumption) | exact clash2 hc (by assumption) | exact hc trivial | exact hc (by assumption) | exact absurd hc (by assumption)))))
          | fail)
        all_goals try (first
          | exact WPq.dV
          | exact WPq.dR
          | exact WPq.dR2
          | exact WPq.dH
          | exact WPq.dBH
          | exact WPq.dT)
end Go.Proofs.Yteofjhjhaaafjaa
