/- Layer 23 (flows): Purge and Drop. -/
import Derived.Test.YtncgponcedkihaaFe
namespace Go.Proofs.Ytncgponcedkihaa
open Go.RowKit
set_option linter.unusedSimpArgs false
set_option linter.unusedVariables false
set_option maxRecDepth 20000
set_option maxHeartbeats 4000000
attribute [local irreducible] WPc WPl WPq ReadR OpT BinR HasS bx rdN rowN Take Takes Prov Triple ResF BuildP Done ag Int.decLt Int.decLe Int.instDecidableEq
section
variable (gT m1 m2 : Nat) (most : Int)
attribute [local irreducible] mp rg mpe mget mfind mput mdel
theorem fpur1_t (a : En) (s b : Int) (g3 g4 : Nat) :
    Triple Try.prog 75 #[ag (enC a), .pointer (some ⟨g3, 0, none⟩), .pointer (some ⟨g4, 0, none⟩)] [bx g3 3 [(1, [.int .i64 s])], bx g4 3 [(1, [.int .i64 b])]] (RTurns (.bool (pPur s b a)) [bx g3 3 [(1, [.int .i64 s])], bx g4 3 [(1, [.int .i64 b])]]) := by
  have l3 := a.ad.len
  unfold pPur
  by_cases h1 : a.sv = s
  · by_cases h2 : b < 0
    · rw [decide_eq_true h1, decide_eq_true h2]
      refine Triple.enter Try.func75 rfl Try.ntmps75 rfl (fun W => ?_)
      dsimp only [argsF, Nat.reduceAdd]
      repeat' (first
       | refine WPl.nil ?_ | refine WPq.then ?_ | refine WPq.thenR ?_ | refine WPq.thenE ?_ | refine WPq.blockN ?_ | refine WPq.blockR ?_ | refine WPq.blockE ?_ | refine WPq.blockO rfl ?_ | refine WPc.seq ?_ | refine WPc.block ?_ | refine WPc.ret ?_ | refine WPc.exit ?_ | refine WPc.skip ?_ | refine WPc.region ?_
       | (refine isCond ?_; first | refine WPc.cT ?_ | refine WPc.cF ?_ | (refine WPc.cQ (fun hc => ?_) (fun hc => ?_) <;> try exact prA))
       | (refine isD 8 ?_; refine WPl.rdX (ReadR.binE rfl rfl BinR.eql (congrArg Value.bool (decide_eq_true h1))) ?_)
       | (refine isD 11 ?_; refine WPl.rdX (ReadR.binE rfl rfl BinR.lss (congrArg Value.bool (decide_eq_true h2))) ?_)
       | (refine isOp ?_; first | refine WPl.rd ?_ | refine WPl.sk ?_ | refine WPl.rdB ?_)
       | (refine isBx ?_; refine WPl.nw fun g => ?_)
       | (show WPl _ _ _ _ _ _ _ (⟨_, .indexAddr _ _ _, _, _, _, _⟩ :: _) _; refine WPl.rdX (ReadR.indexE rfl rfl hasA (by first | assumption | omega)) ?_)
       | (show WPl _ _ _ _ _ _ _ (⟨_, .fieldAddr _ _ _, _, _, _, _⟩ :: _) _; refine WPl.rdX (ReadR.fieldE rfl hasA (by first | assumption | omega)) ?_)
       | (show WPl _ _ _ _ _ _ _ (⟨_, .load _ _, _, _, _, _⟩ :: _) _; first | refine WPl.rdX (ReadR.loadE rfl hasA (by assumption)) ?_ | refine WPl.rdX (ReadR.loadES (by assumption) (by first | assumption | omega) rfl hasA) ?_)
       | (show WPl _ _ _ _ _ _ _ (⟨_, .slice _ _ _ _ _, _, _, _, _⟩ :: _) _; first | refine WPl.rdX (ReadR.sliceH rfl rfl hasA (by omega)) ?_ | refine WPl.rdX (ReadR.sliceL rfl rfl hasA (by omega)) ?_ | refine WPl.rdX (ReadR.sliceLH rfl rfl rfl hasA (by omega) (by omega)) ?_)
       | (refine WPl.spQ (fun hc => ?_) (fun hc => ?_) <;> try exact prA)
       | fail)
      exact WPq.dTs
    · rw [decide_eq_true h1, decide_eq_false h2]
      refine Triple.enter Try.func75 rfl Try.ntmps75 rfl (fun W => ?_)
      dsimp only [argsF, Nat.reduceAdd]
      repeat' (first
       | refine WPl.nil ?_ | refine WPq.then ?_ | refine WPq.thenR ?_ | refine WPq.thenE ?_ | refine WPq.blockN ?_ | refine WPq.blockR ?_ | refine WPq.blockE ?_ | refine WPq.blockO rfl ?_ | refine WPc.seq ?_ | refine WPc.block ?_ | refine WPc.ret ?_ | refine WPc.exit ?_ | refine WPc.skip ?_ | refine WPc.region ?_
       | (refine isCond ?_; first | refine WPc.cT ?_ | refine WPc.cF ?_ | (refine WPc.cQ (fun hc => ?_) (fun hc => ?_) <;> try exact prA))
       | (refine isD 8 ?_; refine WPl.rdX (ReadR.binE rfl rfl BinR.eql (congrArg Value.bool (decide_eq_true h1))) ?_)
       | (refine isD 11 ?_; refine WPl.rdX (ReadR.binE rfl rfl BinR.lss (congrArg Value.bool (decide_eq_false h2))) ?_)
       | (refine isOp ?_; first | refine WPl.rd ?_ | refine WPl.sk ?_ | refine WPl.rdB ?_)
       | (refine isBx ?_; refine WPl.nw fun g => ?_)
       | (show WPl _ _ _ _ _ _ _ (⟨_, .indexAddr _ _ _, _, _, _, _⟩ :: _) _; refine WPl.rdX (ReadR.indexE rfl rfl hasA (by first | assumption | omega)) ?_)
       | (show WPl _ _ _ _ _ _ _ (⟨_, .fieldAddr _ _ _, _, _, _, _⟩ :: _) _; refine WPl.rdX (ReadR.fieldE rfl hasA (by first | assumption | omega)) ?_)
       | (show WPl _ _ _ _ _ _ _ (⟨_, .load _ _, _, _, _, _⟩ :: _) _; first | refine WPl.rdX (ReadR.loadE rfl hasA (by assumption)) ?_ | refine WPl.rdX (ReadR.loadES (by assumption) (by first | assumption | omega) rfl hasA) ?_)
       | (show WPl _ _ _ _ _ _ _ (⟨_, .slice _ _ _ _ _, _, _, _, _⟩ :: _) _; first | refine WPl.rdX (ReadR.sliceH rfl rfl hasA (by omega)) ?_ | refine WPl.rdX (ReadR.sliceL rfl rfl hasA (by omega)) ?_ | refine WPl.rdX (ReadR.sliceLH rfl rfl rfl hasA (by omega) (by omega)) ?_)
       | (refine WPl.spQ (fun hc => ?_) (fun hc => ?_) <;> try exact prA)
       | fail)
      exact WPq.dTs
  · rw [decide_eq_false h1]
    refine Triple.enter Try.func75 rfl Try.ntmps75 rfl (fun W => ?_)
    dsimp only [argsF, Nat.reduceAdd]
    repeat' (first
     | refine WPl.nil ?_ | refine WPq.then ?_ | refine WPq.thenR ?_ | refine WPq.thenE ?_ | refine WPq.blockN ?_ | refine WPq.blockR ?_ | refine WPq.blockE ?_ | refine WPq.blockO rfl ?_ | refine WPc.seq ?_ | refine WPc.block ?_ | refine WPc.ret ?_ | refine WPc.exit ?_ | refine WPc.skip ?_ | refine WPc.region ?_
     | (refine isCond ?_; first | refine WPc.cT ?_ | refine WPc.cF ?_ | (refine WPc.cQ (fun hc => ?_) (fun hc => ?_) <;> try exact prA))
     | (refine isD 8 ?_; refine WPl.rdX (ReadR.binE rfl rfl BinR.eql (congrArg Value.bool (decide_eq_false h1))) ?_)
     | (refine isOp ?_; first | refine WPl.rd ?_ | refine WPl.sk ?_ | refine WPl.rdB ?_)
     | (refine isBx ?_; refine WPl.nw fun g => ?_)
     | (show WPl _ _ _ _ _ _ _ (⟨_, .indexAddr _ _ _, _, _, _, _⟩ :: _) _; refine WPl.rdX (ReadR.indexE rfl rfl hasA (by first | assumption | omega)) ?_)
     | (show WPl _ _ _ _ _ _ _ (⟨_, .fieldAddr _ _ _, _, _, _, _⟩ :: _) _; refine WPl.rdX (ReadR.fieldE rfl hasA (by first | assumption | omega)) ?_)
     | (show WPl _ _ _ _ _ _ _ (⟨_, .load _ _, _, _, _, _⟩ :: _) _; first | refine WPl.rdX (ReadR.loadE rfl hasA (by assumption)) ?_ | refine WPl.rdX (ReadR.loadES (by assumption) (by first | assumption | omega) rfl hasA) ?_)
     | (show WPl _ _ _ _ _ _ _ (⟨_, .slice _ _ _ _ _, _, _, _, _⟩ :: _) _; first | refine WPl.rdX (ReadR.sliceH rfl rfl hasA (by omega)) ?_ | refine WPl.rdX (ReadR.sliceL rfl rfl hasA (by omega)) ?_ | refine WPl.rdX (ReadR.sliceLH rfl rfl rfl hasA (by omega) (by omega)) ?_)
     | (refine WPl.spQ (fun hc => ?_) (fun hc => ?_) <;> try exact prA)
     | fail)
    exact WPq.dTs
theorem fletsP_t (L : LL) (R : RR) (s b : Int) (g3 g4 : Nat) (hk0 : lkd L R) (hlen : L.length ≤ 4096) :
    Triple Try.prog 73 #[hPf gT, .func (.func 75) #[] #[.pointer (some ⟨g3, 0, none⟩), .pointer (some ⟨g4, 0, none⟩)]] [(bx gT 141 (fxc most m1 m2)), mp flM m1 L, mp rpM m2 R, bx g3 3 [(1, [.int .i64 s])], bx g4 3 [(1, [.int .i64 b])]] (RLets (pPur s b) L m1 m2 [(bx gT 141 (fxc most m1 m2)), bx g3 3 [(1, [.int .i64 s])], bx g4 3 [(1, [.int .i64 b])]]) := by
  refine Triple.enter Try.func73 rfl Try.ntmps73 rfl (fun W => ?_)
  dsimp only [argsF, Nat.reduceAdd]
  repeat' (first
   | refine WPl.nil ?_ | refine WPq.then ?_ | refine WPq.thenR ?_ | refine WPq.thenE ?_ | refine WPq.blockN ?_ | refine WPq.blockR ?_ | refine WPq.blockE ?_ | refine WPq.blockO rfl ?_ | refine WPc.seq ?_ | refine WPc.block ?_ | refine WPc.ret ?_ | refine WPc.exit ?_ | refine WPc.skip ?_ | refine WPc.region ?_
   | (refine isCond ?_; first | refine WPc.cT ?_ | refine WPc.cF ?_ | (refine WPc.cQ (fun hc => ?_) (fun hc => ?_) <;> try exact prA))
   | (refine isD 12 ?_; refine WPl.mrange fun r => ?_)
   | (refine isOp ?_; first | refine WPl.rd ?_ | refine WPl.sk ?_ | refine WPl.rdB ?_)
   | (refine isAl ?_; refine WPl.nw fun g => ?_)
   | (refine isSt ?_; first | refine WPl.st1 ?_ | refine WPl.stA ?_ | refine WPl.stEB ?_ | refine WPl.stRB ?_)
   | (show WPl _ _ _ _ _ _ _ (⟨_, .indexAddr _ _ _, _, _, _, _⟩ :: _) _; refine WPl.rdX (ReadR.indexE rfl rfl hasA (by first | assumption | omega)) ?_)
   | (show WPl _ _ _ _ _ _ _ (⟨_, .fieldAddr _ _ _, _, _, _, _⟩ :: _) _; refine WPl.rdX (ReadR.fieldE rfl hasA (by first | assumption | omega)) ?_)
   | (show WPl _ _ _ _ _ _ _ (⟨_, .load _ _, _, _, _, _⟩ :: _) _; first | refine WPl.rdX (ReadR.loadE rfl hasA (by assumption)) ?_ | refine WPl.rdX (ReadR.loadES (by assumption) (by first | assumption | omega) rfl hasA) ?_)
   | (show WPl _ _ _ _ _ _ _ (⟨_, .slice _ _ _ _ _, _, _, _, _⟩ :: _) _; first | refine WPl.rdX (ReadR.sliceH rfl rfl hasA (by omega)) ?_ | refine WPl.rdX (ReadR.sliceL rfl rfl hasA (by omega)) ?_ | refine WPl.rdX (ReadR.sliceLH rfl rfl rfl hasA (by omega) (by omega)) ?_)
   | (refine WPl.spQ (fun hc => ?_) (fun hc => ?_) <;> try exact prA)
   | fail)
  first | refine WPc.loop (σ := LL × LL × Option (Fl × En) × RR × Nat) (fun st => st.1.Sublist L ∧ lkd st.1 st.2.2.2.1 ∧ (∀ x ∈ st.1, pPur s b x.2 = true → x ∈ st.2.1) ∧ (∀ x ∈ L, pPur s b x.2 = false → x ∈ st.1) ∧ st.2.2.2.2 + st.1.length = L.length) (fun st => [(bx gT 141 (fxc most m1 m2)), rg flM m1 r st.1 st.2.1 st.2.2.1, mp rpM m2 st.2.2.2.1, bx g3 3 [(1, [.int .i64 s])], bx g4 3 [(1, [.int .i64 b])]]) (fun st => [(0, hPf gT), (1, .func (.func 75) #[] #[.pointer (some ⟨g3, 0, none⟩), .pointer (some ⟨g4, 0, none⟩)]), (5, .int .i64 (st.2.2.2.2 : Int)), (12, .pointer (some ⟨r, 0, none⟩))]) (fun st => st.2.1.length) ((L, L, none, R, 0)) ?_ takesA frsA (fun st km hx hk => ?_)
  · exact ⟨.refl _, hk0, fun x hx _ => hx, fun x hx _ => hx, by simp⟩
  obtain ⟨l, td, cu, R2, n2⟩ := st
  obtain ⟨hsL, hlk, h2, h3, hn2⟩ := hx
  dsimp only at hsL hlk h2 h3 hn2 hk ⊢
  have hkn := hlk.kn
  have hkm : _ := hk
  refine WPc.rgsub (M := flM) (m := m1) (r := r) (l := l) (td := td) (c := cu) memA fun hsub _ hwf => ?_
  repeat' (first
   | refine WPl.nil ?_ | refine WPq.then ?_ | refine WPq.thenR ?_ | refine WPq.thenE ?_ | refine WPq.blockN ?_ | refine WPq.blockR ?_ | refine WPq.blockE ?_ | refine WPq.blockO rfl ?_ | refine WPc.seq ?_ | refine WPc.block ?_ | refine WPc.ret ?_ | refine WPc.exit ?_ | refine WPc.skip ?_ | refine WPc.region ?_
   | (refine isCond ?_; first | refine WPc.cT ?_ | refine WPc.cF ?_ | (refine WPc.cQ (fun hc => ?_) (fun hc => ?_) <;> try exact prA))
   | (refine isD 13 ?_; refine WPl.mnext (M := flM) (fun k => ag (flc k)) (fun s => ag (enC s)) (fun h0 => ?_) (fun A y B hAB => ?_); rotate_left; have l1 := y.1.src.len; have l2 := y.1.dst.len; have l3 := y.2.ad.len; have hyl : y ∈ l := hsub.subset (by rw [hAB]; simp); rotate_left)
   | (refine isD 15 ?_; refine WPl.rdX (ReadR.entry (kv := ag (flc y.1)) (vv := ag (enC y.2)) rfl rfl memA rfl) ?_)
   | (refine isD 20 ?_; refine WPl.cFs ([ag (enC y.2)]) ([.pointer (some ⟨g3, 0, none⟩), .pointer (some ⟨g4, 0, none⟩)]) (fpur1_t y.2 s b g3 g4) fun v Γ1 hR => ?_; obtain ⟨rfl, rfl⟩ := hR; (try dsimp only [putF, List.cons_append, List.nil_append]))
   | (refine isC 23 ?_; refine WPl.cTs (fdropR_t gT m1 m2 most r l (A ++ B) (some y) R2 y.1 y.2 (hwf y hyl) (hlk.w2 y hyl) (at_get hkn hyl) (at_has hkn hyl)) ?_; (try dsimp only [putF, List.cons_append, List.nil_append]))
   | (refine isOp ?_; first | refine WPl.rd ?_ | refine WPl.sk ?_ | refine WPl.rdB ?_)
   | (refine isAl ?_; refine WPl.nw fun g => ?_)
   | (refine isSt ?_; first | refine WPl.st1 ?_ | refine WPl.stA ?_ | refine WPl.stEB ?_ | refine WPl.stRB ?_)
   | (show WPl _ _ _ _ _ _ _ (⟨_, .indexAddr _ _ _, _, _, _, _⟩ :: _) _; refine WPl.rdX (ReadR.indexE rfl rfl hasA (by first | assumption | omega)) ?_)
   | (show WPl _ _ _ _ _ _ _ (⟨_, .fieldAddr _ _ _, _, _, _, _⟩ :: _) _; refine WPl.rdX (ReadR.fieldE rfl hasA (by first | assumption | omega)) ?_)
   | (show WPl _ _ _ _ _ _ _ (⟨_, .load _ _, _, _, _, _⟩ :: _) _; first | refine WPl.rdX (ReadR.loadE rfl hasA (by assumption)) ?_ | refine WPl.rdX (ReadR.loadES (by assumption) (by first | assumption | omega) rfl hasA) ?_)
   | (show WPl _ _ _ _ _ _ _ (⟨_, .slice _ _ _ _ _, _, _, _, _⟩ :: _) _; first | refine WPl.rdX (ReadR.sliceH rfl rfl hasA (by omega)) ?_ | refine WPl.rdX (ReadR.sliceL rfl rfl hasA (by omega)) ?_ | refine WPl.rdX (ReadR.sliceLH rfl rfl rfl hasA (by omega) (by omega)) ?_)
   | (refine WPl.spQ (fun hc => ?_) (fun hc => ?_) <;> try exact prA)
   | fail)
  · refine WPq.rgOut (M := flM) (m := m1) (r := r) (l := l) (td := td) (c := cu) takeA ?_
    exact WPq.dX (vs := [_]) [mp flM m1 l, mp rpM m2 R2, (bx gT 141 (fxc most m1 m2)), bx g3 3 [(1, [.int .i64 s])], bx g4 3 [(1, [.int .i64 b])]] ⟨l, R2, n2, rfl, rfl, hlk, lets_end hk0.kn hsL (h0 ▸ h2) h3, hn2⟩
  · have hlt : ((A ++ B).filter (fun x => decide (x.1 ≠ y.1))).length < td.length := by
      have := List.length_filter_le (fun x : Fl × En => decide (x.1 ≠ y.1)) (A ++ B)
      rw [hAB]; simp at this ⊢; omega
    exact WPq.rnd (mdel l y.1, (A ++ B).filter (fun x => decide (x.1 ≠ y.1)), none, mdel R2 (replyF y.1 y.2), n2 + 1) ⟨mdel_sub.trans hsL, hlk.del (mfind_at hkn hyl), fun x hx hxs => by
      rw [mdel_filter hkn] at hx
      obtain ⟨g1, g2⟩ := List.mem_filter.1 hx
      have g3' := h2 x g1 hxs
      refine List.mem_filter.2 ⟨?_, g2⟩
      rw [hAB] at g3'
      rcases List.mem_append.1 g3' with q | q
      · exact List.mem_append_left _ q
      · rcases List.mem_cons.1 q with rfl | q
        · simp at g2
        · exact List.mem_append_right _ q, fun x hx hxs => by
      rw [mdel_filter hkn]
      refine List.mem_filter.2 ⟨h3 x hx hxs, ?_⟩
      have : x.1 ≠ y.1 := fun e => by
        have e1 := mfind_at hkn (h3 x hx hxs)
        rw [e, mfind_at hkn hyl] at e1
        have e2 := Option.some.inj e1
        rw [← e2, hc] at hxs
        cases hxs
      simpa using this, by
      have := @mdel_len _ _ _ l y.1
      rw [at_has hkn hyl, if_pos rfl] at this
      have := List.length_pos_of_mem hyl
      dsimp only
      omega⟩ (by rw [hkm]; exact hlt)
  · exact WPq.rnd (l, A ++ B, some y, R2, n2) ⟨hsL, hlk, fun x hx hxs => by
      have g3' := h2 x hx hxs
      rw [hAB] at g3'
      rcases List.mem_append.1 g3' with q | q
      · exact List.mem_append_left _ q
      · rcases List.mem_cons.1 q with rfl | q
        · rw [hc] at hxs; cases hxs
        · exact List.mem_append_right _ q, h3, hn2⟩ (by rw [hkm, hAB]; simp)
def RPur (s b : Int) (L : LL) (m1 m2 : Nat) (A : Asn) : Value → List Asn → Prop := fun v Γ => ∃ (l : LL) (R' : RR) (n : Nat), v = .int .i64 (n : Int) ∧ Γ = [A, mp flM m1 l, mp rpM m2 R'] ∧ lkd l R' ∧ l = L.filter (fun x => !pPur s b x.2) ∧ n + l.length = L.length
theorem fpurge_t (L : LL) (R : RR) (s b : Int) (hk0 : lkd L R) (hlen : L.length ≤ 4096) :
    Triple Try.prog 36 #[hPf gT, .int .i64 s, .int .i64 b] [(bx gT 141 (fxc most m1 m2)), mp flM m1 L, mp rpM m2 R] (RPur s b L m1 m2 ((bx gT 141 (fxc most m1 m2)))) := by
  refine Triple.enter Try.func36 rfl Try.ntmps36 rfl (fun W => ?_)
  dsimp only [argsF, Nat.reduceAdd]
  repeat' (first
   | refine WPl.nil ?_ | refine WPq.then ?_ | refine WPq.thenR ?_ | refine WPq.thenE ?_ | refine WPq.blockN ?_ | refine WPq.blockR ?_ | refine WPq.blockE ?_ | refine WPq.blockO rfl ?_ | refine WPc.seq ?_ | refine WPc.block ?_ | refine WPc.ret ?_ | refine WPc.exit ?_ | refine WPc.skip ?_ | refine WPc.region ?_
   | (refine isCond ?_; first | refine WPc.cT ?_ | refine WPc.cF ?_ | (refine WPc.cQ (fun hc => ?_) (fun hc => ?_) <;> try exact prA))
   | (refine isD 4 ?_; first | (refine isAl ?_; refine WPl.nw fun g4 => ?_) | (refine isBx ?_; refine WPl.nw fun g4 => ?_))
   | (refine isD 5 ?_; first | (refine isAl ?_; refine WPl.nw fun g5 => ?_) | (refine isBx ?_; refine WPl.nw fun g5 => ?_))
   | (refine isD 8 ?_; refine WPl.rdX (readP) ?_)
   | (refine isD 10 ?_; refine WPl.rdX (ReadR.mkF (xs := [_, _]) (vs := [.pointer (some ⟨g4, 0, none⟩), .pointer (some ⟨g5, 0, none⟩)]) evsA) ?_)
   | (refine isC 11 ?_; refine WPl.cXs (fletsP_t gT m1 m2 most L R s b g4 g5 hk0 hlen) fun v Γ1 hR => ?_; obtain ⟨l', R', n', rfl, rfl, hl1, hl2, hl3⟩ := hR; (try dsimp only [putF, List.cons_append, List.nil_append]))
   | (refine isOp ?_; first | refine WPl.rd ?_ | refine WPl.sk ?_ | refine WPl.rdB ?_)
   | (refine isBx ?_; refine WPl.nw fun g => ?_)
   | (show WPl _ _ _ _ _ _ _ (⟨_, .indexAddr _ _ _, _, _, _, _⟩ :: _) _; refine WPl.rdX (ReadR.indexE rfl rfl hasA (by first | assumption | omega)) ?_)
   | (show WPl _ _ _ _ _ _ _ (⟨_, .fieldAddr _ _ _, _, _, _, _⟩ :: _) _; refine WPl.rdX (ReadR.fieldE rfl hasA (by first | assumption | omega)) ?_)
   | (show WPl _ _ _ _ _ _ _ (⟨_, .load _ _, _, _, _, _⟩ :: _) _; first | refine WPl.rdX (ReadR.loadE rfl hasA (by assumption)) ?_ | refine WPl.rdX (ReadR.loadES (by assumption) (by first | assumption | omega) rfl hasA) ?_)
   | (show WPl _ _ _ _ _ _ _ (⟨_, .slice _ _ _ _ _, _, _, _, _⟩ :: _) _; first | refine WPl.rdX (ReadR.sliceH rfl rfl hasA (by omega)) ?_ | refine WPl.rdX (ReadR.sliceL rfl rfl hasA (by omega)) ?_ | refine WPl.rdX (ReadR.sliceLH rfl rfl rfl hasA (by omega) (by omega)) ?_)
   | (refine WPl.spQ (fun hc => ?_) (fun hc => ?_) <;> try exact prA)
   | fail)
  exact WPq.dX (vs := [_]) [(bx gT 141 (fxc most m1 m2)), mp flM m1 l', mp rpM m2 R'] ⟨l', R', n', rfl, rfl, hl1, hl2, hl3⟩
def RDrop (L : LL) (f : Fl) (m1 m2 : Nat) (A : Asn) : Value → List Asn → Prop := fun v Γ => ∃ (R' : RR), v = .bool (mhas L f) ∧ Γ = [A, mp flM m1 (mdel L f), mp rpM m2 R'] ∧ lkd (mdel L f) R'
theorem fDrop_t (L : LL) (R : RR) (f : Fl) (hk0 : lkd L R) (hf : flW f) :
    Triple Try.prog 34 #[hPf gT, ag (flc f)] [(bx gT 141 (fxc most m1 m2)), mp flM m1 L, mp rpM m2 R] (RDrop L f m1 m2 ((bx gT 141 (fxc most m1 m2)))) := by
  have l1 := f.src.len
  have l2 := f.dst.len
  unfold RDrop
  cases hb : mhas L f with
  | true =>
    obtain ⟨a2, hfa⟩ : ∃ a2, mfind L f = some a2 := by
      cases hq : mfind L f with
      | none => unfold mhas at hb; rw [hq] at hb; cases hb
      | some a3 => exact ⟨a3, rfl⟩
    have c3 := fdrop1_t gT m1 m2 most L R f a2 hf (hk0.w2 _ (mfind_mem hfa)) (by rw [mget_of, hfa]; rfl) hb
    have hk2 := hk0.del hfa
    refine Triple.enter Try.func34 rfl Try.ntmps34 rfl (fun W => ?_)
    dsimp only [argsF, Nat.reduceAdd]
    repeat' (first
     | refine WPl.nil ?_ | refine WPq.then ?_ | refine WPq.thenR ?_ | refine WPq.thenE ?_ | refine WPq.blockN ?_ | refine WPq.blockR ?_ | refine WPq.blockE ?_ | refine WPq.blockO rfl ?_ | refine WPc.seq ?_ | refine WPc.block ?_ | refine WPc.ret ?_ | refine WPc.exit ?_ | refine WPc.skip ?_ | refine WPc.region ?_
     | (refine isCond ?_; first | refine WPc.cT ?_ | refine WPc.cF ?_ | (refine WPc.cQ (fun hc => ?_) (fun hc => ?_) <;> try exact prA))
     | (refine isD 6 ?_; refine WPl.rdX (readP) ?_)
     | (refine isC 10 ?_; refine WPl.cTs (c3) ?_; (try dsimp only [putF, List.cons_append, List.nil_append]))
     | (refine isC 9 ?_; refine WPl.cTs (c3) ?_; (try dsimp only [putF, List.cons_append, List.nil_append]))
     | (refine isC 11 ?_; refine WPl.cTs (c3) ?_; (try dsimp only [putF, List.cons_append, List.nil_append]))
     | (refine isOp ?_; first | refine WPl.rd ?_ | refine WPl.sk ?_ | refine WPl.rdB ?_)
     | (refine isBx ?_; refine WPl.nw fun g => ?_)
     | (show WPl _ _ _ _ _ _ _ (⟨_, .indexAddr _ _ _, _, _, _, _⟩ :: _) _; refine WPl.rdX (ReadR.indexE rfl rfl hasA (by first | assumption | omega)) ?_)
     | (show WPl _ _ _ _ _ _ _ (⟨_, .fieldAddr _ _ _, _, _, _, _⟩ :: _) _; refine WPl.rdX (ReadR.fieldE rfl hasA (by first | assumption | omega)) ?_)
     | (show WPl _ _ _ _ _ _ _ (⟨_, .load _ _, _, _, _, _⟩ :: _) _; first | refine WPl.rdX (ReadR.loadE rfl hasA (by assumption)) ?_ | refine WPl.rdX (ReadR.loadES (by assumption) (by first | assumption | omega) rfl hasA) ?_)
     | (show WPl _ _ _ _ _ _ _ (⟨_, .slice _ _ _ _ _, _, _, _, _⟩ :: _) _; first | refine WPl.rdX (ReadR.sliceH rfl rfl hasA (by omega)) ?_ | refine WPl.rdX (ReadR.sliceL rfl rfl hasA (by omega)) ?_ | refine WPl.rdX (ReadR.sliceLH rfl rfl rfl hasA (by omega) (by omega)) ?_)
     | (refine WPl.spQ (fun hc => ?_) (fun hc => ?_) <;> try exact prA)
     | fail)
    exact WPq.dX (vs := [_]) [(bx gT 141 (fxc most m1 m2)), mp flM m1 (mdel L f), mp rpM m2 (mdel R (replyF f a2))] ⟨_, rfl, rfl, hk2⟩
  | false =>
    have hd : mdel L f = L := (mfind_none (mfind_none_of (by simpa [mhas] using hb))).2.2
    have c3 := fdrop0_t gT m1 m2 most L f hf hb
    rw [hd]
    refine Triple.enter Try.func34 rfl Try.ntmps34 rfl (fun W => ?_)
    dsimp only [argsF, Nat.reduceAdd]
    repeat' (first
     | refine WPl.nil ?_ | refine WPq.then ?_ | refine WPq.thenR ?_ | refine WPq.thenE ?_ | refine WPq.blockN ?_ | refine WPq.blockR ?_ | refine WPq.blockE ?_ | refine WPq.blockO rfl ?_ | refine WPc.seq ?_ | refine WPc.block ?_ | refine WPc.ret ?_ | refine WPc.exit ?_ | refine WPc.skip ?_ | refine WPc.region ?_
     | (refine isCond ?_; first | refine WPc.cT ?_ | refine WPc.cF ?_ | (refine WPc.cQ (fun hc => ?_) (fun hc => ?_) <;> try exact prA))
     | (refine isD 6 ?_; refine WPl.rdX (readP) ?_)
     | (refine isC 10 ?_; refine WPl.cTs (c3) ?_; (try dsimp only [putF, List.cons_append, List.nil_append]))
     | (refine isC 9 ?_; refine WPl.cTs (c3) ?_; (try dsimp only [putF, List.cons_append, List.nil_append]))
     | (refine isC 11 ?_; refine WPl.cTs (c3) ?_; (try dsimp only [putF, List.cons_append, List.nil_append]))
     | (refine isOp ?_; first | refine WPl.rd ?_ | refine WPl.sk ?_ | refine WPl.rdB ?_)
     | (refine isBx ?_; refine WPl.nw fun g => ?_)
     | (show WPl _ _ _ _ _ _ _ (⟨_, .indexAddr _ _ _, _, _, _, _⟩ :: _) _; refine WPl.rdX (ReadR.indexE rfl rfl hasA (by first | assumption | omega)) ?_)
     | (show WPl _ _ _ _ _ _ _ (⟨_, .fieldAddr _ _ _, _, _, _, _⟩ :: _) _; refine WPl.rdX (ReadR.fieldE rfl hasA (by first | assumption | omega)) ?_)
     | (show WPl _ _ _ _ _ _ _ (⟨_, .load _ _, _, _, _, _⟩ :: _) _; first | refine WPl.rdX (ReadR.loadE rfl hasA (by assumption)) ?_ | refine WPl.rdX (ReadR.loadES (by assumption) (by first | assumption | omega) rfl hasA) ?_)
     | (show WPl _ _ _ _ _ _ _ (⟨_, .slice _ _ _ _ _, _, _, _, _⟩ :: _) _; first | refine WPl.rdX (ReadR.sliceH rfl rfl hasA (by omega)) ?_ | refine WPl.rdX (ReadR.sliceL rfl rfl hasA (by omega)) ?_ | refine WPl.rdX (ReadR.sliceLH rfl rfl rfl hasA (by omega) (by omega)) ?_)
     | (refine WPl.spQ (fun hc => ?_) (fun hc => ?_) <;> try exact prA)
     | fail)
    exact WPq.dX (vs := [_]) [(bx gT 141 (fxc most m1 m2)), mp flM m1 L, mp rpM m2 R] ⟨R, rfl, rfl, hk0⟩
end
end Go.Proofs.Ytncgponcedkihaa
