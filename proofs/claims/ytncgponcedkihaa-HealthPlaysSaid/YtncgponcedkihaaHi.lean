/- Layer 21 (health): Forget, Clear: contracts. -/
import Derived.Test.YtncgponcedkihaaHe
import Derived.Test.YtncgponcedkihaaMi
namespace Go.Proofs.Ytncgponcedkihaa
open Go.RowKit
set_option linter.unusedSimpArgs false
set_option linter.unusedVariables false
set_option maxRecDepth 20000
set_option maxHeartbeats 4000000
attribute [local irreducible] WPc WPl WPq ReadR OpT BinR HasS bx rdN rowN Take Takes Prov Triple ResF BuildP Done ag Int.decLt Int.decLe Int.instDecidableEq
attribute [local irreducible] mp rg mput mget mfind mdel
section
variable (gh m : Nat) (rise fall s b : Int) (L : HL)
theorem hforget_t (hs : in64 s) (hb : in64 b) :
    Triple Try.prog 51 #[hP gh, .int .i64 s, .int .i64 b] [bx gh 164 (hbc rise fall m), mp whoM m L] (RTurns (resV []) [bx gh 164 (hbc rise fall m), mp whoM m (mdel L (s, b))]) := by
  have hwf : whoM.wf (s, b) := ⟨hs, hb⟩
  refine Triple.enter Try.func51 rfl Try.ntmps51 rfl (fun W => ?_)
  dsimp only [argsF, Nat.reduceAdd]
  repeat' (first
   | refine WPl.nil ?_ | refine WPq.then ?_ | refine WPq.thenR ?_ | refine WPq.thenE ?_ | refine WPq.blockN ?_ | refine WPq.blockR ?_ | refine WPq.blockE ?_ | refine WPq.blockO rfl ?_ | refine WPc.seq ?_ | refine WPc.block ?_ | refine WPc.ret ?_ | refine WPc.exit ?_ | refine WPc.skip ?_ | refine WPc.region ?_
   | (refine isCond ?_; first | refine WPc.cT ?_ | refine WPc.cF ?_ | (refine WPc.cQ (fun hc => ?_) (fun hc => ?_) <;> try exact prA))
   | (refine isD 7 ?_; refine WPl.rdX (readP) ?_)
   | (refine WPl.mdel ((s, b)) (hwf) ?_)
   | (refine isOp ?_; first | refine WPl.rd ?_ | refine WPl.sk ?_ | refine WPl.rdB ?_)
   | (show WPl _ _ _ _ _ _ _ (⟨_, .indexAddr _ _ _, _, _, _, _⟩ :: _) _; refine WPl.rdX (ReadR.indexE rfl rfl hasA (by first | assumption | omega)) ?_)
   | (show WPl _ _ _ _ _ _ _ (⟨_, .fieldAddr _ _ _, _, _, _, _⟩ :: _) _; refine WPl.rdX (ReadR.fieldE rfl hasA (by first | assumption | omega)) ?_)
   | (show WPl _ _ _ _ _ _ _ (⟨_, .load _ _, _, _, _, _⟩ :: _) _; first | refine WPl.rdX (ReadR.loadE rfl hasA (by assumption)) ?_ | refine WPl.rdX (ReadR.loadES (by assumption) (by first | assumption | omega) rfl hasA) ?_)
   | (show WPl _ _ _ _ _ _ _ (⟨_, .slice _ _ _ _ _, _, _, _, _⟩ :: _) _; first | refine WPl.rdX (ReadR.sliceH rfl rfl hasA (by omega)) ?_ | refine WPl.rdX (ReadR.sliceL rfl rfl hasA (by omega)) ?_ | refine WPl.rdX (ReadR.sliceLH rfl rfl rfl hasA (by omega) (by omega)) ?_)
   | (refine WPl.spQ (fun hc => ?_) (fun hc => ?_) <;> try exact prA)
   | fail)
  all_goals exact WPq.dTs
theorem hclr1_t (k : Int × Int) (st : Bool × Int) (g3 : Nat) :
    Triple Try.prog 83 #[ag (whoC k), ag (staC st), .pointer (some ⟨g3, 0, none⟩)] [bx g3 3 [(1, [.int .i64 s])]] (RTurns (.bool (decide (k.1 = s))) [bx g3 3 [(1, [.int .i64 s])]]) := by
  refine Triple.enter Try.func83 rfl Try.ntmps83 rfl (fun W => ?_)
  dsimp only [argsF, Nat.reduceAdd]
  repeat' (first
   | refine WPl.nil ?_ | refine WPq.then ?_ | refine WPq.thenR ?_ | refine WPq.thenE ?_ | refine WPq.blockN ?_ | refine WPq.blockR ?_ | refine WPq.blockE ?_ | refine WPq.blockO rfl ?_ | refine WPc.seq ?_ | refine WPc.block ?_ | refine WPc.ret ?_ | refine WPc.exit ?_ | refine WPc.skip ?_ | refine WPc.region ?_
   | (refine isCond ?_; first | refine WPc.cT ?_ | refine WPc.cF ?_ | (refine WPc.cQ (fun hc => ?_) (fun hc => ?_) <;> try exact prA))
   | (refine isOp ?_; first | refine WPl.rd ?_ | refine WPl.sk ?_ | refine WPl.rdB ?_)
   | (refine isBx ?_; refine WPl.nw fun g => ?_)
   | (show WPl _ _ _ _ _ _ _ (⟨_, .indexAddr _ _ _, _, _, _, _⟩ :: _) _; refine WPl.rdX (ReadR.indexE rfl rfl hasA (by first | assumption | omega)) ?_)
   | (show WPl _ _ _ _ _ _ _ (⟨_, .fieldAddr _ _ _, _, _, _, _⟩ :: _) _; refine WPl.rdX (ReadR.fieldE rfl hasA (by first | assumption | omega)) ?_)
   | (show WPl _ _ _ _ _ _ _ (⟨_, .load _ _, _, _, _, _⟩ :: _) _; first | refine WPl.rdX (ReadR.loadE rfl hasA (by assumption)) ?_ | refine WPl.rdX (ReadR.loadES (by assumption) (by first | assumption | omega) rfl hasA) ?_)
   | (show WPl _ _ _ _ _ _ _ (⟨_, .slice _ _ _ _ _, _, _, _, _⟩ :: _) _; first | refine WPl.rdX (ReadR.sliceH rfl rfl hasA (by omega)) ?_ | refine WPl.rdX (ReadR.sliceL rfl rfl hasA (by omega)) ?_ | refine WPl.rdX (ReadR.sliceLH rfl rfl rfl hasA (by omega) (by omega)) ?_)
   | (refine WPl.spQ (fun hc => ?_) (fun hc => ?_) <;> try exact prA)
   | fail)
  exact WPq.dTs
def RClr (m : Nat) (s : Int) (L : HL) (Γx : List Asn) (c : Value) : Value → List Asn → Prop := fun v Γ => ∃ l', v = c ∧ Γ = mp whoM m l' :: Γx ∧ l'.Sublist L ∧ ∀ k, mfind l' k = if k.1 = s then none else mfind L k
theorem mem_mdel {K V : Type} [DecidableEq K] {l : List (K × V)} {k : K} {x : K × V} (hn : (l.map (·.1)).Nodup) (h : x ∈ mdel l k) : x ∈ l ∧ x.1 ≠ k := by
  rw [mdel_filter hn] at h
  have := List.mem_filter.1 h
  exact ⟨this.1, by simpa using this.2⟩
theorem hdelf_t (g3 : Nat) :
    Triple Try.prog 82 #[.map (some m), .func (.func 83) #[] #[.pointer (some ⟨g3, 0, none⟩)]] [mp whoM m L, bx g3 3 [(1, [.int .i64 s])]] (RClr m s L [bx g3 3 [(1, [.int .i64 s])]] (resV [])) := by
  refine Triple.enter Try.func82 rfl Try.ntmps82 rfl (fun W => ?_)
  dsimp only [argsF, Nat.reduceAdd]
  refine WPc.mkeys (M := whoM) (m := m) (l := L) memA fun hnd _ => ?_
  repeat' (first
   | refine WPl.nil ?_ | refine WPq.then ?_ | refine WPq.thenR ?_ | refine WPq.thenE ?_ | refine WPq.blockN ?_ | refine WPq.blockR ?_ | refine WPq.blockE ?_ | refine WPq.blockO rfl ?_ | refine WPc.seq ?_ | refine WPc.block ?_ | refine WPc.ret ?_ | refine WPc.exit ?_ | refine WPc.skip ?_ | refine WPc.region ?_
   | (refine isCond ?_; first | refine WPc.cT ?_ | refine WPc.cF ?_ | (refine WPc.cQ (fun hc => ?_) (fun hc => ?_) <;> try exact prA))
   | (refine isD 7 ?_; refine WPl.mrange fun r => ?_)
   | (refine isOp ?_; first | refine WPl.rd ?_ | refine WPl.sk ?_ | refine WPl.rdB ?_)
   | (refine isAl ?_; refine WPl.nw fun g => ?_)
   | (refine isSt ?_; first | refine WPl.st1 ?_ | refine WPl.stA ?_ | refine WPl.stEB ?_ | refine WPl.stRB ?_)
   | (show WPl _ _ _ _ _ _ _ (⟨_, .indexAddr _ _ _, _, _, _, _⟩ :: _) _; refine WPl.rdX (ReadR.indexE rfl rfl hasA (by first | assumption | omega)) ?_)
   | (show WPl _ _ _ _ _ _ _ (⟨_, .fieldAddr _ _ _, _, _, _, _⟩ :: _) _; refine WPl.rdX (ReadR.fieldE rfl hasA (by first | assumption | omega)) ?_)
   | (show WPl _ _ _ _ _ _ _ (⟨_, .load _ _, _, _, _, _⟩ :: _) _; first | refine WPl.rdX (ReadR.loadE rfl hasA (by assumption)) ?_ | refine WPl.rdX (ReadR.loadES (by assumption) (by first | assumption | omega) rfl hasA) ?_)
   | (show WPl _ _ _ _ _ _ _ (⟨_, .slice _ _ _ _ _, _, _, _, _⟩ :: _) _; first | refine WPl.rdX (ReadR.sliceH rfl rfl hasA (by omega)) ?_ | refine WPl.rdX (ReadR.sliceL rfl rfl hasA (by omega)) ?_ | refine WPl.rdX (ReadR.sliceLH rfl rfl rfl hasA (by omega) (by omega)) ?_)
   | (refine WPl.spQ (fun hc => ?_) (fun hc => ?_) <;> try exact prA)
   | fail)
  first | refine WPc.loop (σ := HL × HL × Option ((Int × Int) × (Bool × Int))) (fun st => st.1.Sublist L ∧ (st.1.map (·.1)).Nodup ∧ (∀ x ∈ st.1, x.1.1 = s → x ∈ st.2.1) ∧ (∀ k, k.1 ≠ s → mfind st.1 k = mfind L k)) (fun st => [rg whoM m r st.1 st.2.1 st.2.2, bx g3 3 [(1, [.int .i64 s])]]) (fun st => [(0, .map (some m)), (1, .func (.func 83) #[] #[.pointer (some ⟨g3, 0, none⟩)]), (7, .pointer (some ⟨r, 0, none⟩))]) (fun st => st.2.1.length) ((L, L, none)) ?_ takesA frsA (fun st km hx hk => ?_)
  · exact ⟨.refl _, hnd, fun x hx _ => hx, fun _ _ => rfl⟩
  obtain ⟨l, td, cu⟩ := st
  obtain ⟨hsL, h1, h2, h3⟩ := hx
  dsimp only at hsL h1 h2 h3 hk ⊢
  refine WPc.rgsub (M := whoM) (m := m) (r := r) (l := l) (td := td) (c := cu) memA fun hsub _ hwf => ?_
  repeat' (first
   | refine WPl.nil ?_ | refine WPq.then ?_ | refine WPq.thenR ?_ | refine WPq.thenE ?_ | refine WPq.blockN ?_ | refine WPq.blockR ?_ | refine WPq.blockE ?_ | refine WPq.blockO rfl ?_ | refine WPc.seq ?_ | refine WPc.block ?_ | refine WPc.ret ?_ | refine WPc.exit ?_ | refine WPc.skip ?_ | refine WPc.region ?_
   | (refine isCond ?_; first | refine WPc.cT ?_ | refine WPc.cF ?_ | (refine WPc.cQ (fun hc => ?_) (fun hc => ?_) <;> try exact prA))
   | (refine isD 8 ?_; refine WPl.mnext (M := whoM) (fun k => ag (whoC k)) (fun s => ag (staC s)) (fun h0 => ?_) (fun A y B hAB => ?_))
   | (refine isD 10 ?_; refine WPl.rdX (ReadR.entry (kv := ag (whoC y.1)) (vv := ag (staC y.2)) rfl rfl memA rfl) ?_)
   | (refine isD 16 ?_; refine WPl.cFs ([ag (whoC y.1), ag (staC y.2)]) ([.pointer (some ⟨g3, 0, none⟩)]) (hclr1_t s y.1 y.2 g3) fun v Γ1 hR => ?_; obtain ⟨rfl, rfl⟩ := hR; (try dsimp only [putF, List.cons_append, List.nil_append]))
   | (show WPl _ _ _ _ _ _ _ (⟨none, .call ⟨.builtin .delete, _, _⟩, _, _, _, _⟩ :: _) _; refine WPl.mdelR (M := whoM) y.1 (hwf y (hsub.subset (by rw [hAB]; simp))) ?_)
   | (refine isOp ?_; first | refine WPl.rd ?_ | refine WPl.sk ?_ | refine WPl.rdB ?_)
   | (refine isAl ?_; refine WPl.nw fun g => ?_)
   | (refine isSt ?_; first | refine WPl.st1 ?_ | refine WPl.stA ?_ | refine WPl.stEB ?_ | refine WPl.stRB ?_)
   | (show WPl _ _ _ _ _ _ _ (⟨_, .indexAddr _ _ _, _, _, _, _⟩ :: _) _; refine WPl.rdX (ReadR.indexE rfl rfl hasA (by first | assumption | omega)) ?_)
   | (show WPl _ _ _ _ _ _ _ (⟨_, .fieldAddr _ _ _, _, _, _, _⟩ :: _) _; refine WPl.rdX (ReadR.fieldE rfl hasA (by first | assumption | omega)) ?_)
   | (show WPl _ _ _ _ _ _ _ (⟨_, .load _ _, _, _, _, _⟩ :: _) _; first | refine WPl.rdX (ReadR.loadE rfl hasA (by assumption)) ?_ | refine WPl.rdX (ReadR.loadES (by assumption) (by first | assumption | omega) rfl hasA) ?_)
   | (show WPl _ _ _ _ _ _ _ (⟨_, .slice _ _ _ _ _, _, _, _, _⟩ :: _) _; first | refine WPl.rdX (ReadR.sliceH rfl rfl hasA (by omega)) ?_ | refine WPl.rdX (ReadR.sliceL rfl rfl hasA (by omega)) ?_ | refine WPl.rdX (ReadR.sliceLH rfl rfl rfl hasA (by omega) (by omega)) ?_)
   | (refine WPl.spQ (fun hc => ?_) (fun hc => ?_) <;> try exact prA)
   | fail)
  · refine WPq.rgOut (M := whoM) (m := m) (r := r) (l := l) (td := td) (c := cu) takeA ?_
    refine WPq.dX (vs := []) [mp whoM m l, bx g3 3 [(1, [.int .i64 s])]] ⟨l, rfl, rfl, hsL, fun k => ?_⟩
    by_cases hk : k.1 = s
    · rw [if_pos hk]
      cases hf : mfind l k with
      | none => rfl
      | some vd =>
        have := h2 _ (mfind_mem hf) hk
        rw [h0] at this
        cases this
    · rw [if_neg hk]; exact h3 k hk
  · have hys : y.1.1 = s := by simpa using hc
    have hlt : ((A ++ B).filter (fun x => decide (x.1 ≠ y.1))).length < td.length := by
      have := List.length_filter_le (fun x : (Int × Int) × (Bool × Int) => decide (x.1 ≠ y.1)) (A ++ B)
      rw [hAB]; simp at this ⊢; omega
    exact WPq.rnd (mdel l y.1, (A ++ B).filter (fun x => decide (x.1 ≠ y.1)), none) ⟨mdel_sub.trans hsL, mdel_keys h1, fun x hx hxs => by
      obtain ⟨g1, g2⟩ := mem_mdel h1 hx
      have g3' := h2 x g1 hxs
      refine List.mem_filter.2 ⟨?_, by simpa using g2⟩
      rw [hAB] at g3'
      rcases List.mem_append.1 g3' with q | q
      · exact List.mem_append_left _ q
      · rcases List.mem_cons.1 q with rfl | q
        · exact (g2 rfl).elim
        · exact List.mem_append_right _ q, fun k hk => by
      rw [mfind_del h1, if_neg (fun e => hk (by rw [← e]; exact hys))]
      exact h3 k hk⟩ (by rw [hk]; exact hlt)
  · have hys : ¬ y.1.1 = s := by simpa using hc
    exact WPq.rnd (l, A ++ B, some y) ⟨hsL, h1, fun x hx hxs => by
      have g3' := h2 x hx hxs
      rw [hAB] at g3'
      rcases List.mem_append.1 g3' with q | q
      · exact List.mem_append_left _ q
      · rcases List.mem_cons.1 q with rfl | q
        · exact (hys hxs).elim
        · exact List.mem_append_right _ q, h3⟩ (by rw [hk, hAB]; simp)
def hclear_R (gh m : Nat) (rise fall s : Int) (L : HL) : Value → List Asn → Prop := fun v Γ => ∃ l', v = resV [] ∧ Γ = [bx gh 164 (hbc rise fall m), mp whoM m l'] ∧ l'.Sublist L ∧ ∀ k, mfind l' k = if k.1 = s then none else mfind L k
theorem hclear_t : Triple Try.prog 52 #[hP gh, .int .i64 s] [bx gh 164 (hbc rise fall m), mp whoM m L] (hclear_R gh m rise fall s L) := by
  refine Triple.enter Try.func52 rfl Try.ntmps52 rfl (fun W => ?_)
  dsimp only [argsF, Nat.reduceAdd]
  repeat' (first
   | refine WPl.nil ?_ | refine WPq.then ?_ | refine WPq.thenR ?_ | refine WPq.thenE ?_ | refine WPq.blockN ?_ | refine WPq.blockR ?_ | refine WPq.blockE ?_ | refine WPq.blockO rfl ?_ | refine WPc.seq ?_ | refine WPc.block ?_ | refine WPc.ret ?_ | refine WPc.exit ?_ | refine WPc.skip ?_ | refine WPc.region ?_
   | (refine isCond ?_; first | refine WPc.cT ?_ | refine WPc.cF ?_ | (refine WPc.cQ (fun hc => ?_) (fun hc => ?_) <;> try exact prA))
   | (refine isD 5 ?_; refine WPl.rdX (readP) ?_)
   | (refine isD 10 ?_; refine WPl.rdX (ReadR.mkF (xs := [_]) (vs := [.pointer (some ⟨g, 0, none⟩)]) evsA) ?_)
   | (refine isC 11 ?_; refine WPl.cXs (hdelf_t m s L g) fun v Γ1 hR => ?_; obtain ⟨l', rfl, rfl, hsl, hl'⟩ := hR; (try dsimp only [putF, List.cons_append, List.nil_append]))
   | (refine isOp ?_; first | refine WPl.rd ?_ | refine WPl.sk ?_ | refine WPl.rdB ?_)
   | (refine isBx ?_; refine WPl.nw fun g => ?_)
   | (show WPl _ _ _ _ _ _ _ (⟨_, .indexAddr _ _ _, _, _, _, _⟩ :: _) _; refine WPl.rdX (ReadR.indexE rfl rfl hasA (by first | assumption | omega)) ?_)
   | (show WPl _ _ _ _ _ _ _ (⟨_, .fieldAddr _ _ _, _, _, _, _⟩ :: _) _; refine WPl.rdX (ReadR.fieldE rfl hasA (by first | assumption | omega)) ?_)
   | (show WPl _ _ _ _ _ _ _ (⟨_, .load _ _, _, _, _, _⟩ :: _) _; first | refine WPl.rdX (ReadR.loadE rfl hasA (by assumption)) ?_ | refine WPl.rdX (ReadR.loadES (by assumption) (by first | assumption | omega) rfl hasA) ?_)
   | (show WPl _ _ _ _ _ _ _ (⟨_, .slice _ _ _ _ _, _, _, _, _⟩ :: _) _; first | refine WPl.rdX (ReadR.sliceH rfl rfl hasA (by omega)) ?_ | refine WPl.rdX (ReadR.sliceL rfl rfl hasA (by omega)) ?_ | refine WPl.rdX (ReadR.sliceLH rfl rfl rfl hasA (by omega) (by omega)) ?_)
   | (refine WPl.spQ (fun hc => ?_) (fun hc => ?_) <;> try exact prA)
   | fail)
  exact WPq.dX (vs := []) [bx gh 164 (hbc rise fall m), mp whoM m l'] ⟨l', rfl, rfl, hsl, hl'⟩
end
end Go.Proofs.Ytncgponcedkihaa
