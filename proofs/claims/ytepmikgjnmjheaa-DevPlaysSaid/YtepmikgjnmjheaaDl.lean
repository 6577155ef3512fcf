/- Law 03 (dev): what is written is one byte: contracts; what lives. -/
import Derived.Test.YtepmikgjnmjheaaDq
namespace Go.Proofs.Ytepmikgjnmjheaa
section
open Go.RowKit
set_option linter.unusedSimpArgs false
set_option linter.unusedVariables false
/-- What is read may as well be eaten. -/
theorem Triple.eat {P : Program} {f : FuncId} {args : Array Value} {Γo : List Asn} {R : Value → List Asn → Prop} {bv : Value} {l : List UInt8} (h : Triple P f args (Γo ++ [rb bv l]) R) : Triple P f args (Γo ++ [ob bv l]) R := by
  intro w hw ha
  obtain ⟨a1, a2, a3⟩ := List.pairwise_append.1 ha
  have hown : ∀ g, ownFp (Γo ++ [rb bv l]) g → ownFp (Γo ++ [ob bv l]) g := by
    rintro g ⟨A, hA, ho, hg⟩
    rcases List.mem_append.1 hA with hA | hA
    · exact ⟨A, List.mem_append_left _ hA, ho, hg⟩
    · rw [List.mem_singleton.1 hA] at ho; cases ho
  refine (h w (fun A hA => ?_) (List.pairwise_append.2 ⟨a1, List.pairwise_singleton _ _, fun A hA B hB hor g hg hg' => ?_⟩)).mono ?_
  · rcases List.mem_append.1 hA with hA | hA
    · exact hw A (List.mem_append_left _ hA)
    · rw [List.mem_singleton.1 hA]
      exact row_reads (hw (ob bv l) (List.mem_append_right _ (List.mem_singleton.2 rfl)))
  · rw [List.mem_singleton.1 hB] at hor hg'
    exact a3 A hA (ob bv l) (List.mem_singleton.2 rfl) (.inr rfl) g hg hg'.2
  · rintro e w' ⟨v, Γ', rfl, hR, hp⟩
    exact ⟨v, Γ', rfl, hR, ⟨hp.mod.weaken fun g _ hg => hown g hg, hp.all, hp.apart, fun A hA g hg => (hp.new A hA g hg).imp id (hown g)⟩⟩
/-- What only reads leaves what it is given. -/
theorem Triple.keep {P : Program} {f : FuncId} {args : Array Value} {Δ Γk Γr : List Asn} {c : Value} (h : Triple P f args Δ (RVal c)) (hΔ : Provs (Γk ++ Γr) Δ) (ho : ∀ A, A ∈ Γk → A.own = true) : Triple P f args (Γk ++ Γr) (RTurns c Γk) := by
  intro w hw ha
  refine (Triple.frame (Δ := Δ) (Γo := []) (Γf := Γk ++ Γr) (by rw [List.append_nil]; exact h) hw ha hΔ (fun A _ g _ ho => by obtain ⟨C, hC, _⟩ := ho; cases hC)).mono ?_
  rintro e w' ⟨v, Γ', rfl, ⟨rfl, rfl⟩, hp⟩
  have hno : ∀ g, ¬ ownFp [] g := by rintro g ⟨A, hA, _⟩; cases hA
  refine ⟨_, _, rfl, ⟨rfl, rfl⟩, hp.mod.weaken fun g _ hg => (hno g hg).elim, fun A hA => A.loc w w' (hw A (List.mem_append_left _ hA)) fun g hg => hp.mod.block g (A.lt w (hw A (List.mem_append_left _ hA)) g hg) (hno g), (List.pairwise_append.1 ha).1, fun A hA g hg => .inr ⟨A, List.mem_append_left _ hA, ho A hA, hg⟩⟩
theorem Triple.noArg {P : Program} {f : FuncId} {args : Array Value} {Γo : List Asn} {R : Value → List Asn → Prop} (h : Triple P f args (Γo ++ [rdN (.slice none 0 0) 0 []]) R) : Triple P f args Γo R := by
  intro w hw ha
  refine (h w (fun A hA => ?_) (List.pairwise_append.2 ⟨ha, List.pairwise_singleton _ _, fun A hA B hB hor g hg hg' => ?_⟩)).mono ?_
  · rcases List.mem_append.1 hA with hA | hA
    · exact hw A hA
    · rw [List.mem_singleton.1 hA]; exact .inl ⟨rfl, rfl, rfl⟩
  · rw [List.mem_singleton.1 hB] at hg'; exact hg'.1 rfl
  · rintro e w' ⟨v, Γ', rfl, hR, hp⟩
    have hown : ∀ g, ownFp (Γo ++ [rdN (.slice none 0 0) 0 []]) g → ownFp Γo g := by
      rintro g ⟨A, hA, ho, hg⟩
      rcases List.mem_append.1 hA with hA | hA
      · exact ⟨A, hA, ho, hg⟩
      · rw [List.mem_singleton.1 hA] at ho; cases ho
    exact ⟨v, Γ', rfl, hR, ⟨hp.mod.weaken fun g _ hg => hown g hg, hp.all, hp.apart, fun A hA g hg => (hp.new A hA g hg).imp id (hown g)⟩⟩
theorem burn4 {k : Nat} (hk : k < 4) : fburn f4 k (-1) = f4 := by
  match k, hk with
  | 0, _ => rfl
  | 1, _ => rfl
  | 2, _ => rfl
  | 3, _ => rfl
end
open Go.RowKit
set_option linter.unusedSimpArgs false
set_option linter.unusedVariables false
set_option maxRecDepth 20000
set_option maxHeartbeats 4000000
attribute [local irreducible] WPc WPl WPq ReadR OpT BinR HasS bx rdN rowN Take Takes Prov Triple ResF BuildP Done ag Int.decLt Int.decLe Int.instDecidableEq
attribute [local irreducible] mp rmp rg rgo bag vrow secs mput mget mfind mdel intsV skeys
theorem full_t (b : UInt8) : Triple Try.prog 14 #[.int .u8 ((b.toNat : Nat) : Int)] [] (ROb (List.replicate 256 b)) := by
  refine Triple.enter Try.func14 rfl Try.ntmps14 rfl (fun W => ?_)
  dsimp only [argsF, Nat.reduceAdd]
  repeat' (first
   | refine WPl.nil ?_ | refine WPq.then ?_ | refine WPq.thenR ?_ | refine WPq.thenE ?_ | refine WPq.blockN ?_ | refine WPq.blockR ?_ | refine WPq.blockE ?_ | refine WPq.blockO rfl ?_ | refine WPc.seq ?_ | refine WPc.block ?_ | refine WPc.ret ?_ | refine WPc.exit ?_ | refine WPc.skip ?_ | refine WPc.region ?_
   | (refine isCond ?_; first | refine WPc.cT ?_ | refine WPc.cF ?_ | (refine WPc.cQ (fun hc => ?_) (fun hc => ?_) <;> try exact prA))
   | (refine isMk ?_; refine WPl.mk fun v hv => ?_)
   | (refine isOp ?_; first | refine WPl.rd ?_ | refine WPl.sk ?_ | refine WPl.rdB ?_)
   | (refine isSt ?_; first | refine WPl.st1 ?_ | refine WPl.stA ?_ | refine WPl.stEB ?_ | refine WPl.stRB ?_)
   | (show WPl _ _ _ _ _ _ _ (⟨_, .indexAddr _ _ _, _, _, _, _⟩ :: _) _; refine WPl.rdX (ReadR.indexE rfl rfl hasA (by first | assumption | omega)) ?_)
   | (show WPl _ _ _ _ _ _ _ (⟨_, .fieldAddr _ _ _, _, _, _, _⟩ :: _) _; refine WPl.rdX (ReadR.fieldE rfl hasA (by first | assumption | omega)) ?_)
   | (show WPl _ _ _ _ _ _ _ (⟨_, .load _ _, _, _, _, _⟩ :: _) _; first | refine WPl.rdX (ReadR.loadE rfl hasA (by assumption)) ?_ | refine WPl.rdX (ReadR.loadES (by assumption) (by first | assumption | omega) rfl hasA) ?_)
   | (show WPl _ _ _ _ _ _ _ (⟨_, .slice _ _ _ _ _, _, _, _, _⟩ :: _) _; first | refine WPl.rdX (ReadR.sliceH rfl rfl hasA (by omega)) ?_ | refine WPl.rdX (ReadR.sliceL rfl rfl hasA (by omega)) ?_ | refine WPl.rdX (ReadR.sliceLH rfl rfl rfl hasA (by omega) (by omega)) ?_)
   | (refine WPl.spQ (fun hc => ?_) (fun hc => ?_) <;> try exact prA)
   | fail)
  first | refine WPc.loop (σ := Nat) (fun st => st ≤ 256) (fun st => [ob v (List.replicate st b ++ (List.replicate 256 (0 : UInt8)).drop st)]) (fun st => [(0, .int .u8 ((b.toNat : Nat) : Int)), (3, v), (4, .int .i64 (st : Int))]) (fun st => 256 - st) (0) ?_ takesA frsA (fun st km hx hk => ?_)
  · omega
  have hl : (List.replicate st b ++ (List.replicate 256 (0 : UInt8)).drop st).length = 256 := by simp; omega
  repeat' (first
   | refine WPl.nil ?_ | refine WPq.then ?_ | refine WPq.thenR ?_ | refine WPq.thenE ?_ | refine WPq.blockN ?_ | refine WPq.blockR ?_ | refine WPq.blockE ?_ | refine WPq.blockO rfl ?_ | refine WPc.seq ?_ | refine WPc.block ?_ | refine WPc.ret ?_ | refine WPc.exit ?_ | refine WPc.skip ?_ | refine WPc.region ?_
   | (refine isCond ?_; first | refine WPc.cT ?_ | refine WPc.cF ?_ | (refine WPc.cQ (fun hc => ?_) (fun hc => ?_) <;> try exact prA))
   | (show WPl _ _ _ _ _ _ _ (⟨_, .store _ (.tmp 13) _, _, _, _, _⟩ :: _) _; first | refine WPl.stEB (b := b) ?_ | refine WPl.stRB (b := b) ?_)
   | (refine isMk ?_; refine WPl.mk fun v hv => ?_)
   | (refine isOp ?_; first | refine WPl.rd ?_ | refine WPl.sk ?_ | refine WPl.rdB ?_)
   | (refine isSt ?_; first | refine WPl.st1 ?_ | refine WPl.stA ?_ | refine WPl.stEB ?_ | refine WPl.stRB ?_)
   | (show WPl _ _ _ _ _ _ _ (⟨_, .indexAddr _ _ _, _, _, _, _⟩ :: _) _; refine WPl.rdX (ReadR.indexE rfl rfl hasA (by first | assumption | omega)) ?_)
   | (show WPl _ _ _ _ _ _ _ (⟨_, .fieldAddr _ _ _, _, _, _, _⟩ :: _) _; refine WPl.rdX (ReadR.fieldE rfl hasA (by first | assumption | omega)) ?_)
   | (show WPl _ _ _ _ _ _ _ (⟨_, .load _ _, _, _, _, _⟩ :: _) _; first | refine WPl.rdX (ReadR.loadE rfl hasA (by assumption)) ?_ | refine WPl.rdX (ReadR.loadES (by assumption) (by first | assumption | omega) rfl hasA) ?_)
   | (show WPl _ _ _ _ _ _ _ (⟨_, .slice _ _ _ _ _, _, _, _, _⟩ :: _) _; first | refine WPl.rdX (ReadR.sliceH rfl rfl hasA (by omega)) ?_ | refine WPl.rdX (ReadR.sliceL rfl rfl hasA (by omega)) ?_ | refine WPl.rdX (ReadR.sliceLH rfl rfl rfl hasA (by omega) (by omega)) ?_)
   | (refine WPl.spQ (fun hc => ?_) (fun hc => ?_) <;> try exact prA)
   | fail)
  · rw [rep_set (by simp; omega)]
    exact WPq.rnd (st + 1) (by omega) (by omega)
  · rw [show st = 256 by omega, List.drop_of_length_le (by simp), List.append_nil]
    exact WPq.dR
def wok (n : Nat) (i : Int) : Bool := decide (0 ≤ i) && decide (i < (n : Int))
/-- What a write of one byte does to what waits. -/
def WStep (n : Nat) (es : List (Int × Vs)) (cn i : Int) (b : UInt8) (es' : List (Int × Vs)) (cn' : Int) : Prop :=
  if wok n i = true then (∃ wv, es' = mput es i ⟨wv, (mget secM es i).ws ++ [secF b]⟩) ∧ cn' = cn + 1 else es' = es ∧ cn' = cn
/-- What waits behind so many writes. -/
structure DOk (n k : Nat) (es : List (Int × Vs)) (cn : Int) : Prop where
  key : ∀ y ∈ es, (∃ j : Nat, y.1 = (j : Int) ∧ j < n) ∧ y.2.ws ≠ [] ∧ y.2.ws.length ≤ k
  len : es.length ≤ k
  c0 : 0 ≤ cn
  c1 : cn ≤ k
theorem DOk.eok {n k : Nat} {es : List (Int × Vs)} {cn : Int} (h : DOk n k es cn) (hk : k ≤ 100000) : EOk n es := fun y hy => ⟨(h.key y hy).1, (h.key y hy).2.1, Nat.le_trans (h.key y hy).2.2 hk⟩
theorem DOk.nil {n k : Nat} {cn : Int} (h0 : 0 ≤ cn) (h1 : cn ≤ k) : DOk n k [] cn := ⟨(fun y hy => by cases hy), Nat.zero_le _, h0, h1⟩
theorem DOk.mget_len {n k : Nat} {es : List (Int × Vs)} {cn : Int} (h : DOk n k es cn) (i : Int) : (mget secM es i).ws.length ≤ k := by
  cases hf : mfind es i with
  | none =>
    have : mget secM es i = ⟨.slice none 0 0, []⟩ := by with_unfolding_all (unfold mget; rw [hf]; rfl)
    rw [this]; exact Nat.zero_le _
  | some y => rw [mget_of_find hf]; exact (h.key _ (mfind_mem hf)).2.2
theorem mem_mput {es : List (Int × Vs)} {i : Int} {y : Vs} {z : Int × Vs} (h : z ∈ mput es i y) : z = (i, y) ∨ z ∈ es := by
  rcases List.mem_cons.1 (mput_perm.mem_iff.1 h) with h | h
  · exact .inl h
  · exact .inr (mdel_sub.subset h)
theorem DOk.step {n k : Nat} {es es' : List (Int × Vs)} {cn cn' i : Int} {b : UInt8} (h : DOk n k es cn) (hs : WStep n es cn i b es' cn') : DOk n (k + 1) es' cn' := by
  unfold WStep at hs
  split at hs
  · rename_i hw
    obtain ⟨⟨wv, rfl⟩, rfl⟩ := hs
    unfold wok at hw
    rw [Bool.and_eq_true, decide_eq_true_eq, decide_eq_true_eq] at hw
    refine ⟨fun z hz => ?_, ?_, by have := h.c0; omega, by have := h.c1; omega⟩
    · rcases mem_mput hz with rfl | hz
      · refine ⟨⟨i.toNat, by show i = _; omega, by omega⟩, by show _ ++ _ ≠ []; simp, ?_⟩
        have := h.mget_len i
        show ((mget secM es i).ws ++ [secF b]).length ≤ _
        rw [List.length_append]
        simpa using this
      · exact ⟨(h.key z hz).1, (h.key z hz).2.1, Nat.le_succ_of_le (h.key z hz).2.2⟩
    · have := h.len
      rw [mput_len]
      split <;> omega
  · obtain ⟨rfl, rfl⟩ := hs
    exact ⟨fun z hz => ⟨(h.key z hz).1, (h.key z hz).2.1, Nat.le_succ_of_le (h.key z hz).2.2⟩, Nat.le_succ_of_le h.len, h.c0, by have := h.c1; omega⟩
section
variable (gV mD : Nat) (vd : Value) (cn : Int) (ls : List Sec) (es : List (Int × Vs))
def RWr (gV mD : Nat) (vd : Value) (ls : List Sec) (es : List (Int × Vs)) (cn i : Int) (b : UInt8) : Value → List Asn → Prop := fun v Γ => ∃ es' cn', v = .int .i64 (if wok ls.length i then 0 else 1) ∧ WStep ls.length es cn i b es' cn' ∧ Γ = [bx gV 79 (dvc f4 vd mD cn'), rowN 81 256 vd ls.length (secs ls), mp secM mD es', bag es']
theorem wr_t (k : Nat) (i : Int) (b : UInt8) (bv : Value) (hk : k ≤ 100000) (hn : ls.length ≤ 1000000) (hd : DOk ls.length k es cn) :
    Triple Try.prog 13 #[hD gV, .int .i64 i, bv] [bx gV 79 (dvc f4 vd mD cn), rowN 81 256 vd ls.length (secs ls), mp secM mD es, bag es, ob bv (List.replicate 256 b)] (RWr gV mD vd ls es cn i b) := by
  have h0 := hd.c0
  have h1 := hd.c1
  by_cases hw : wok ls.length i = true
  · have hw2 := hw
    unfold wok at hw2
    rw [Bool.and_eq_true, decide_eq_true_eq, decide_eq_true_eq] at hw2
    obtain ⟨j, rfl⟩ : ∃ j : Nat, i = (j : Int) := ⟨i.toNat, by omega⟩
    have := write_t gV mD vd f4 cn ls es j (-1) bv (secF b) (by omega) hn rfl rfl (by omega) (by omega) (by omega) ⟨h0, by omega⟩ (Nat.le_trans (hd.mget_len _) hk)
    rw [burn4 (by omega)] at this
    refine Triple.mono (Triple.eat (Γo := [_, _, _, _]) this) ?_
    rintro v Γ' ⟨wv, rfl, rfl⟩
    exact ⟨_, _, by rw [if_pos hw], by unfold WStep; rw [if_pos hw]; exact ⟨⟨wv, rfl⟩, rfl⟩, rfl⟩
  · have hw2 : i < 0 ∨ (ls.length : Int) ≤ i := by
      unfold wok at hw
      rw [Bool.and_eq_true, decide_eq_true_eq, decide_eq_true_eq] at hw
      omega
    have c1 := writeNo_t gV mD vd f4 cn ls i bv (List.replicate 256 b) (by omega) hn (by simp)
    refine Triple.mono (Triple.keep (Γk := [bx gV 79 (dvc f4 vd mD cn), rowN 81 256 vd ls.length (secs ls), mp secM mD es, bag es]) (Γr := [ob bv (List.replicate 256 b)]) c1 provsG ownsV) ?_
    rintro v Γ' ⟨rfl, rfl⟩
    exact ⟨_, _, by rw [if_neg hw], by unfold WStep; rw [if_neg hw]; exact ⟨rfl, rfl⟩, rfl⟩
theorem rd4_t (k : Nat) (j : Nat) (hk : k ≤ 100000) (hn : ls.length ≤ 1000000) (hd : DOk ls.length k es cn) (hj : j < ls.length) :
    Triple Try.prog 16 #[hD gV, .int .i64 (j : Int)] [bx gV 79 (dvc f4 vd mD cn), rowN 81 256 vd ls.length (secs ls), mp secM mD es, bag es] (RRead (nowS ls[j] es j).b 0 [bx gV 79 (dvc f4 vd mD cn), rowN 81 256 vd ls.length (secs ls), mp secM mD es, bag es]) := by
  have := read_t gV mD vd f4 cn ls es j (-1) hj hn rfl rfl (by omega) (by omega) (hd.eok hk)
  rw [burn4 (by omega), if_neg (by omega), if_neg (by omega)] at this
  exact this
theorem fl4_t (k : Nat) (hk : k ≤ 100000) (hn : ls.length ≤ 1000000) (hd : DOk ls.length k es cn) :
    Triple Try.prog 15 #[hD gV] [bx gV 79 (dvc f4 vd mD cn), rowN 81 256 vd ls.length (secs ls), mp secM mD es, bag es] (RTurns (.int .i64 0) [bx gV 79 (dvc f4 vd mD cn), rowN 81 256 vd ls.length (secs (nowAll ls es)), mp secM mD [], bag []]) := by
  have := flush_t gV mD vd f4 cn ls es (-1) hn rfl rfl (by omega) (by omega) (by omega) (hd.eok hk)
  rw [burn4 (by omega)] at this
  exact this
end
theorem skeys_nil : skeys [] = [] := by with_unfolding_all (unfold skeys; simp)
/-- The run of 'lives'. -/
def lsL : List Sec := (List.replicate 16 (secF 0)).set 3 (secF 7)
theorem lives_flush {wv : Value} : nowAll (List.replicate 16 (secF 0)) (mput [] (3 : Int) ⟨wv, (mget secM [] (3 : Int)).ws ++ [secF 7]⟩) = lsL := by
  with_unfolding_all rfl
theorem lives_read : nowS (lsL[3]'(by with_unfolding_all decide)) [] 3 = secF 7 := by
  with_unfolding_all rfl
theorem lsL_len : lsL.length = 16 := by with_unfolding_all rfl
theorem crash0_t (gV mD : Nat) (vd : Value) (cn : Int) (ls : List Sec) (hn : ls.length ≤ 1000000) :
    Triple Try.prog 17 #[hD gV, .slice none 0 0] [bx gV 79 (dvc f4 vd mD cn), rowN 81 256 vd ls.length (secs ls), mp secM mD [], bag []] (RTurns (resV []) [bx gV 79 (dvc f4 vd mD cn), rowN 81 256 vd ls.length (secs ls), mp secM mD [], bag []]) := by
  have := crash_t gV mD vd f4 cn ls [] (.slice none 0 0) [] (by simp) (fun a h => by cases h) hn (by simp) rfl (fun y hy => by cases hy)
  have h0 : intsV [] = [] := by with_unfolding_all rfl
  rw [h0] at this
  exact Triple.noArg (Γo := [_, _, _, _]) this
theorem lives_t : Triple Try.prog 18 #[] [] (RVal (.bool true)) := by
  have hl16 : (List.replicate 16 (secF 0)).length = 16 := List.length_replicate
  obtain ⟨ls0, hls⟩ : ∃ ls0, ls0 = List.replicate 16 (secF 0) := ⟨_, rfl⟩
  have c0 := new_t 16 (by omega) (by omega)
  unfold RNewD at c0
  rw [← hls] at c0 hl16
  have d0 : DOk ls0.length 0 [] 0 := .nil (by omega) (by omega)
  have hok : wok ls0.length 3 = true := by rw [hl16]; with_unfolding_all decide
  have c2 := fun gV mD vd bv => wr_t gV mD vd 0 ls0 [] 0 3 7 bv (by omega) (by omega) d0
  unfold RWr at c2
  rw [if_pos hok] at c2
  have c3 := fun gV mD vd es hd => fl4_t gV mD vd 1 ls0 es 1 (by omega) (by omega) hd
  have c4 := fun gV mD vd => crash0_t gV mD vd 1 lsL (by rw [lsL_len]; omega)
  have c5 := fun gV mD vd => rd4_t gV mD vd 1 lsL [] 1 3 (by omega) (by rw [lsL_len]; omega) (.nil (by omega) (by omega)) (by rw [lsL_len]; omega)
  rw [lives_read] at c5
  have c6 := fun gV mD vd => len_t gV mD vd f4 1 lsL (by rw [lsL_len]; omega)
  rw [lsL_len] at c6
  have hb9 : (u8s (secF 7).b)[9]? = some (.int .u8 7) := by with_unfolding_all rfl
  rw [lsL_len] at c4 c5
  rw [hl16] at c0 c2 c3 d0 hok
  refine Triple.enter Try.func18 rfl Try.ntmps18 rfl (fun W => ?_)
  dsimp only [argsF, Nat.reduceAdd]
  repeat' (first
   | refine WPl.nil ?_ | refine WPq.then ?_ | refine WPq.thenR ?_ | refine WPq.thenE ?_ | refine WPq.blockN ?_ | refine WPq.blockR ?_ | refine WPq.blockE ?_ | refine WPq.blockO rfl ?_ | refine WPc.seq ?_ | refine WPc.block ?_ | refine WPc.ret ?_ | refine WPc.exit ?_ | refine WPc.skip ?_ | refine WPc.region ?_
   | (refine isCond ?_; first | refine WPc.cT ?_ | refine WPc.cF ?_ | (refine WPc.cQ (fun hc => ?_) (fun hc => ?_) <;> try exact prA))
   | (refine isC 8 ?_; refine WPl.cXs (c0) fun v Γ1 hR => ?_; obtain ⟨gV, mD, vd, rfl, hvd, rfl⟩ := hR; (try dsimp only [putF, List.cons_append, List.nil_append]))
   | (refine isD 12 ?_; refine WPl.rdX (readP) ?_)
   | (refine isC 18 ?_; refine WPl.cR (full_t 7) fun bv hbv => ?_)
   | (refine isC 19 ?_; refine WPl.cXs (c2 gV mD vd bv) fun v Γ1 hR => ?_; (obtain ⟨es', cn', rfl, hws, rfl⟩ := hR; have d1 := d0.step hws; unfold WStep at hws; rw [if_pos hok] at hws; obtain ⟨⟨wv, rfl⟩, rfl⟩ := hws; have c3 := c3 gV mD vd _ d1; rw [show nowAll ls0 (mput [] (3 : Int) ⟨wv, (mget secM [] (3 : Int)).ws ++ [secF 7]⟩) = lsL by rw [hls]; exact lives_flush] at c3); (try dsimp only [putF, List.cons_append, List.nil_append]))
   | (refine isC 21 ?_; refine WPl.cTs (c3) ?_; (try dsimp only [putF, List.cons_append, List.nil_append]))
   | (refine isC 23 ?_; refine WPl.cTs (c4 gV mD vd) ?_; (try dsimp only [putF, List.cons_append, List.nil_append]))
   | (refine isC 26 ?_; refine WPl.cXs (c5 gV mD vd) fun v Γ1 hR => ?_; obtain ⟨sv, rfl, hsv, rfl⟩ := hR; (try dsimp only [putF, List.cons_append, List.nil_append]))
   | (refine isD 47 ?_; refine WPl.rdX (ReadR.loadE rfl hasA hb9) ?_)
   | (refine isC 52 ?_; refine WPl.cV (c6 gV mD vd) ?_ (hΔ := provsG))
   | (refine isOp ?_; first | refine WPl.rd ?_ | refine WPl.sk ?_ | refine WPl.rdB ?_)
   | (show WPl _ _ _ _ _ _ _ (⟨_, .indexAddr _ _ _, _, _, _, _⟩ :: _) _; refine WPl.rdX (ReadR.indexE rfl rfl hasA (by first | assumption | omega)) ?_)
   | (show WPl _ _ _ _ _ _ _ (⟨_, .fieldAddr _ _ _, _, _, _, _⟩ :: _) _; refine WPl.rdX (ReadR.fieldE rfl hasA (by first | assumption | omega)) ?_)
   | (show WPl _ _ _ _ _ _ _ (⟨_, .load _ _, _, _, _, _⟩ :: _) _; first | refine WPl.rdX (ReadR.loadE rfl hasA (by assumption)) ?_ | refine WPl.rdX (ReadR.loadES (by assumption) (by first | assumption | omega) rfl hasA) ?_)
   | (show WPl _ _ _ _ _ _ _ (⟨_, .slice _ _ _ _ _, _, _, _, _⟩ :: _) _; first | refine WPl.rdX (ReadR.sliceH rfl rfl hasA (by omega)) ?_ | refine WPl.rdX (ReadR.sliceL rfl rfl hasA (by omega)) ?_ | refine WPl.rdX (ReadR.sliceLH rfl rfl rfl hasA (by omega) (by omega)) ?_)
   | (refine WPl.spQ (fun hc => ?_) (fun hc => ?_) <;> try exact prA)
   | fail)
  all_goals first | (exfalso; exact hc (by have := (secF 7).len; omega)) | exact WPq.dV (hc := by simp [resV])
end Go.Proofs.Ytepmikgjnmjheaa
