/- What the row of partsFew_holds needs: part 7. -/
import Derived.Test.YtmdihpanaljkfaaPFw6
import Derived.Test.YtmdihpanaljkfaaPFw5
import Derived.Test.YtmdihpanaljkfaaPFw4
/- Layer 35 (parts): parts whose time has come: contracts. -/
namespace Go.Proofs.Ytmdihpanaljkfaa
set_option linter.unusedVariables false
set_option linter.unusedSimpArgs false
def deadB (now : Nat) (x : PJ) : Bool := decide ((x.since : Int) ≤ (now : Int)) && decide ((30 : Int) ≤ (now : Int) - (x.since : Int))
theorem jes_mem {l : List PJ} {y : Ky × Option Nat} (h : y ∈ jes l) : ∃ x, x ∈ l ∧ (x.key, some x.g) = y := by
  obtain ⟨x, hx, e⟩ := List.mem_map.1 h
  exact ⟨x, hx, e⟩
theorem jes_in {l : List PJ} {x : PJ} (h : x ∈ l) : (x.key, some x.g) ∈ jes l := List.mem_map.2 ⟨x, h, rfl⟩
theorem jes_len {l : List PJ} : (jes l).length = l.length := by unfold jes; exact List.length_map _
theorem jes_keys {l : List PJ} : (jes l).map (·.1) = l.map (·.key) := by unfold jes; rw [List.map_map]; rfl
theorem jes_filter {l : List PJ} {k : Ky} : (jes l).filter (fun x => decide (x.1 ≠ k)) = jes (l.filter fun x => decide (x.key ≠ k)) := by
  unfold jes
  rw [List.filter_map]
  rfl
theorem nodup_key {l : List PJ} (h : (l.map (·.key)).Nodup) : l.Nodup := by
  unfold List.Nodup at *
  rw [List.pairwise_map] at h
  exact h.imp fun h e => h (by rw [e])
theorem key_one {l : List PJ} (h : (l.map (·.key)).Nodup) {x y : PJ} (hx : x ∈ l) (hy : y ∈ l) (e : x.key = y.key) : x = y := by
  obtain ⟨i, hi⟩ := List.getElem?_of_mem hx
  obtain ⟨j, hj⟩ := List.getElem?_of_mem hy
  obtain ⟨q1, e1⟩ := List.getElem?_eq_some_iff.1 hi
  obtain ⟨q2, e2⟩ := List.getElem?_eq_some_iff.1 hj
  have hij : i = j := by
    have h' : l.Pairwise fun a b => a.key ≠ b.key := by unfold List.Nodup at h; rwa [List.pairwise_map] at h
    rcases Nat.lt_trichotomy i j with h1 | h1 | h1
    · exact absurd (by rw [e1, e2]; exact e) (List.pairwise_iff_getElem.1 h' i j q1 q2 h1)
    · exact h1
    · exact absurd (by rw [e1, e2]; exact e.symm) (List.pairwise_iff_getElem.1 h' j i q2 q1 h1)
  subst hij
  rw [hi] at hj
  exact Option.some.inj hj
theorem sub_filterJ {α : Type} {p : α → Bool} {l L : List α} (hs : l.Sublist L) (hn : L.Nodup) (h : ∀ x ∈ L, x ∈ l ↔ p x = true) : l = L.filter p := by
  induction hs with
  | slnil => rfl
  | cons a hs ih =>
    have hn2 := List.nodup_cons.1 hn
    have ha : p a = false := by
      cases hp : p a with
      | false => rfl
      | true => exact absurd (hs.subset ((h a (List.mem_cons_self ..)).2 hp)) hn2.1
    rw [List.filter_cons_of_neg (by rw [ha]; decide)]
    exact ih hn2.2 fun x hx => h x (List.mem_cons_of_mem _ hx)
  | cons_cons a hs ih =>
    have hn2 := List.nodup_cons.1 hn
    have ha : p a = true := (h a (List.mem_cons_self ..)).1 (List.mem_cons_self ..)
    rw [List.filter_cons_of_pos ha]
    congr 1
    exact ih hn2.2 fun x hx => by
      have := h x (List.mem_cons_of_mem _ hx)
      rw [← this]
      constructor
      · exact fun h => List.mem_cons_of_mem _ h
      · intro h
        rcases List.mem_cons.1 h with rfl | h
        · exact absurd hx hn2.1
        · exact h
open Go.RowKit
set_option linter.unusedSimpArgs false
set_option linter.unusedVariables false
set_option maxRecDepth 20000
set_option maxHeartbeats 2000000
attribute [local irreducible] WPc WPl WPq ReadR OpT BinR HasS bx rdN rowN Take Takes Prov Triple ResF BuildP Done ag Int.decLt Int.decLe Int.instDecidableEq
attribute [local irreducible] mp rmp rg rgo mput mget mfind mdel gbag jes pts
theorem pexp1_t (k : Ky) (x : PJ) (now g3 : Nat) (hn : now ≤ 18446744073709551615) (hs : x.since ≤ 18446744073709551615) : Triple Try.prog 35 #[ag (kyC k), hJ x.g, .pointer (some ⟨g3, 0, none⟩)] [rbx x.g 77 (pjC x), rbx g3 38 [(1, [.int .u64 (now : Int)])]] (RVal (.bool (deadB now x))) := by
  have l1 := k.src.len
  have l2 := k.dst.len
  unfold deadB
  by_cases h1 : (x.since : Int) ≤ (now : Int)
  · rw [decide_eq_true h1, Bool.true_and]
    refine Triple.enter Try.func35 rfl Try.ntmps35 rfl (fun W => ?_)
    dsimp only [argsF, Nat.reduceAdd]
    repeat' (first
     | refine WPl.nil ?_ | refine WPq.then ?_ | refine WPq.thenR ?_ | refine WPq.thenE ?_ | refine WPq.blockN ?_ | refine WPq.blockR ?_ | refine WPq.blockE ?_ | refine WPq.blockO rfl ?_ | refine WPc.seq ?_ | refine WPc.block ?_ | refine WPc.ret ?_ | refine WPc.exit ?_ | refine WPc.skip ?_ | refine WPc.region ?_
     | (refine isReg 1 ?_; refine WPc.drA [([], [7, 8, 9, 10]), ([], [6]), ([1], [6, 7]), ([1, 2], [6, 7, 8]), ([1, 2, 3], [6, 7, 8, 9]), ([0, 1, 2, 3, 4], [6, 7, 8, 9, 10]), ([0, 1, 2, 3, 4, 5], [6, 7, 8, 9, 10, 11]), ([0, 1, 2, 3, 4, 5, 6], [6, 7, 8, 9, 10, 11, 12, 14, 15, 16, 17]), ([0, 1, 2, 3, 4, 5, 6], [6, 7, 8, 9, 10, 11, 12, 13]), ([0, 1, 2, 3, 4, 5, 6, 8], [6, 7, 8, 9, 10, 11, 12, 13, 14]), ([0, 1, 2, 3, 4, 5, 6, 8, 9], [6, 7, 8, 9, 10, 11, 12, 13, 14, 15]), ([0, 1, 2, 3, 4, 5, 6, 8, 9, 10], [6, 7, 8, 9, 10, 11, 12, 13, 14, 15, 16]), ([0, 1, 2, 3, 4, 5, 6, 7, 8, 9, 10, 11], [6, 7, 8, 9, 10, 11, 12, 13, 14, 15, 16, 17]), ([0, 1, 2, 3, 4, 5, 6, 7, 8, 9, 10, 11, 12], [6, 7, 8, 9, 10, 11, 12, 13, 14, 15, 16, 17, 18]), ([0, 1, 2, 3, 4, 5, 6, 7, 8, 9, 10, 11, 12, 13], [6, 7, 8, 9, 10, 11, 12, 13, 14, 15, 16, 17, 18, 19]), ([0, 1, 2, 3, 4, 5, 6, 7, 8, 9, 10, 11, 12, 13, 14], [6, 7, 8, 9, 10, 11, 12, 13, 14, 15, 16, 17, 18, 19, 20])] [] (Γx := []) ?_; dsimp only [prev0, List.length_nil, List.length_cons])
     | (refine gAny ?_; first | (refine gGd ?_; refine RGl.skp ?_) | (refine gD 6 ?_; refine RGl.rdX (fun e hk => by (try dsimp only [bndR, ensR, oksR, fcutR, List.append_nil, List.nil_append, List.cons_append, List.append_assoc] at hk ⊢); exact ReadR.loadO memA rfl rfl) ?_) | (refine gD 10 ?_; refine RGl.rdX (fun e hk => by (try dsimp only [bndR, ensR, oksR, fcutR, List.append_nil, List.nil_append, List.cons_append, List.append_assoc] at hk ⊢); exact ReadR.loadO memA rfl rfl) ?_) | (refine gD 11 ?_; refine RGl.rdX (fun e hk => by (try dsimp only [bndR, ensR, oksR, fcutR, List.append_nil, List.nil_append, List.cons_append, List.append_assoc] at hk ⊢); exact ReadR.binE rfl rfl BinR.geq (congrArg Value.bool (decide_eq_true h1))) ?_) | (refine gD 13 ?_; refine RGl.rdX (fun e hk => by (try dsimp only [bndR, ensR, oksR, fcutR, List.append_nil, List.nil_append, List.cons_append, List.append_assoc] at hk ⊢); exact ReadR.loadO memA rfl rfl) ?_) | (refine gD 17 ?_; refine RGl.rdX (fun e hk => by (try dsimp only [bndR, ensR, oksR, fcutR, List.append_nil, List.nil_append, List.cons_append, List.append_assoc] at hk ⊢); exact ReadR.loadO memA rfl rfl) ?_) | (refine gD 18 ?_; refine RGl.rdX (fun e hk => by (try dsimp only [bndR, ensR, oksR, fcutR, List.append_nil, List.nil_append, List.cons_append, List.append_assoc] at hk ⊢); exact ReadR.binE rfl rfl (BinR.subU (by omega) (by omega)) rfl) ?_) | (refine gD 19 ?_; refine RGl.rdX (fun e hk => by (try dsimp only [bndR, ensR, oksR, fcutR, List.append_nil, List.nil_append, List.cons_append, List.append_assoc] at hk ⊢); exact ReadR.binE rfl rfl BinR.geq rfl) ?_) | (refine gOp ?_; first | refine RGl.rdA ?_ | refine RGl.rdX (fun e hk => by (try dsimp only [bndR, ensR, oksR, fcutR, List.append_nil, List.nil_append, List.cons_append, List.append_assoc] at hk ⊢); exact readB) ?_) | (refine RGl.fin (fun e hk => ?_); (try dsimp only [bndA, ensAR, oksA, List.append_nil, List.nil_append, List.cons_append, List.append_assoc] at hk ⊢); (repeat (obtain ⟨hk1, hk⟩ := hk))) | fail)
     | (refine isCond ?_; first | refine WPc.cT ?_ | refine WPc.cF ?_ | (refine WPc.cQ (fun hc => ?_) (fun hc => ?_) <;> try exact prA))
     | (refine isD 3 ?_; first | (refine isAl ?_; refine WPl.nw fun g4 => ?_) | (refine isBx ?_; refine WPl.nw fun g4 => ?_))
     | (refine isD 6 ?_; refine WPl.rdX (ReadR.loadO memA rfl rfl) ?_)
     | (refine isD 10 ?_; refine WPl.rdX (ReadR.loadO memA rfl rfl) ?_)
     | (refine isD 11 ?_; refine WPl.rdX (ReadR.binE rfl rfl BinR.geq (congrArg Value.bool (decide_eq_true h1))) ?_)
     | (refine isD 13 ?_; refine WPl.rdX (ReadR.loadO memA rfl rfl) ?_)
     | (refine isD 17 ?_; refine WPl.rdX (ReadR.loadO memA rfl rfl) ?_)
     | (refine isD 18 ?_; refine WPl.rdX (ReadR.binE rfl rfl (BinR.subU (by omega) (by omega)) rfl) ?_)
     | (refine isD 19 ?_; refine WPl.rdX (ReadR.binE rfl rfl BinR.geq rfl) ?_)
     | (refine isOp ?_; first | refine WPl.rd ?_ | refine WPl.sk ?_ | refine WPl.rdB ?_)
     | (refine isBx ?_; refine WPl.nw fun g => ?_)
     | (show WPl _ _ _ _ _ _ _ (⟨_, .indexAddr _ _ _, _, _, _, _⟩ :: _) _; refine WPl.rdX (ReadR.indexE rfl rfl hasA (by first | assumption | omega)) ?_)
     | (show WPl _ _ _ _ _ _ _ (⟨_, .fieldAddr _ _ _, _, _, _, _⟩ :: _) _; refine WPl.rdX (ReadR.fieldE rfl hasA (by first | assumption | omega)) ?_)
     | (show WPl _ _ _ _ _ _ _ (⟨_, .load _ _, _, _, _, _⟩ :: _) _; first | refine WPl.rdX (ReadR.loadE rfl hasA (by assumption)) ?_ | refine WPl.rdX (ReadR.loadES (by assumption) (by first | assumption | omega) rfl hasA) ?_)
     | (show WPl _ _ _ _ _ _ _ (⟨_, .slice _ _ _ _ _, _, _, _, _⟩ :: _) _; first | refine WPl.rdX (ReadR.sliceH rfl rfl hasA (by omega)) ?_ | refine WPl.rdX (ReadR.sliceL rfl rfl hasA (by omega)) ?_ | refine WPl.rdX (ReadR.sliceLH rfl rfl rfl hasA (by omega) (by omega)) ?_)
     | (refine WPl.spQ (fun hc => ?_) (fun hc => ?_) <;> try exact prA)
     | fail)
    exact WPq.dV
  · rw [decide_eq_false h1, Bool.false_and]
    refine Triple.enter Try.func35 rfl Try.ntmps35 rfl (fun W => ?_)
    dsimp only [argsF, Nat.reduceAdd]
    repeat' (first
     | refine WPl.nil ?_ | refine WPq.then ?_ | refine WPq.thenR ?_ | refine WPq.thenE ?_ | refine WPq.blockN ?_ | refine WPq.blockR ?_ | refine WPq.blockE ?_ | refine WPq.blockO rfl ?_ | refine WPc.seq ?_ | refine WPc.block ?_ | refine WPc.ret ?_ | refine WPc.exit ?_ | refine WPc.skip ?_ | refine WPc.region ?_
     | (refine isReg 1 ?_; refine WPc.drA [([], [7, 8, 9, 10]), ([], [6]), ([1], [6, 7]), ([1, 2], [6, 7, 8]), ([1, 2, 3], [6, 7, 8, 9]), ([0, 1, 2, 3, 4], [6, 7, 8, 9, 10]), ([0, 1, 2, 3, 4, 5], [6, 7, 8, 9, 10, 11]), ([0, 1, 2, 3, 4, 5, 6], [6, 7, 8, 9, 10, 11, 12, 14, 15, 16, 17]), ([0, 1, 2, 3, 4, 5, 6], [6, 7, 8, 9, 10, 11, 12, 13]), ([0, 1, 2, 3, 4, 5, 6, 8], [6, 7, 8, 9, 10, 11, 12, 13, 14]), ([0, 1, 2, 3, 4, 5, 6, 8, 9], [6, 7, 8, 9, 10, 11, 12, 13, 14, 15]), ([0, 1, 2, 3, 4, 5, 6, 8, 9, 10], [6, 7, 8, 9, 10, 11, 12, 13, 14, 15, 16]), ([0, 1, 2, 3, 4, 5, 6, 7, 8, 9, 10, 11], [6, 7, 8, 9, 10, 11, 12, 13, 14, 15, 16, 17]), ([0, 1, 2, 3, 4, 5, 6, 7, 8, 9, 10, 11, 12], [6, 7, 8, 9, 10, 11, 12, 13, 14, 15, 16, 17, 18]), ([0, 1, 2, 3, 4, 5, 6, 7, 8, 9, 10, 11, 12, 13], [6, 7, 8, 9, 10, 11, 12, 13, 14, 15, 16, 17, 18, 19]), ([0, 1, 2, 3, 4, 5, 6, 7, 8, 9, 10, 11, 12, 13, 14], [6, 7, 8, 9, 10, 11, 12, 13, 14, 15, 16, 17, 18, 19, 20])] [] (Γx := []) ?_; dsimp only [prev0, List.length_nil, List.length_cons])
     | (refine gAny ?_; first | (refine gGd ?_; refine RGl.skp ?_) | (refine gD 6 ?_; refine RGl.rdX (fun e hk => by (try dsimp only [bndR, ensR, oksR, fcutR, List.append_nil, List.nil_append, List.cons_append, List.append_assoc] at hk ⊢); exact ReadR.loadO memA rfl rfl) ?_) | (refine gD 10 ?_; refine RGl.rdX (fun e hk => by (try dsimp only [bndR, ensR, oksR, fcutR, List.append_nil, List.nil_append, List.cons_append, List.append_assoc] at hk ⊢); exact ReadR.loadO memA rfl rfl) ?_) | (refine gD 11 ?_; refine RGl.rdX (fun e hk => by (try dsimp only [bndR, ensR, oksR, fcutR, List.append_nil, List.nil_append, List.cons_append, List.append_assoc] at hk ⊢); exact ReadR.binE rfl rfl BinR.geq (congrArg Value.bool (decide_eq_false h1))) ?_) | (refine gOp ?_; first | refine RGl.rdA ?_ | refine RGl.rdX (fun e hk => by (try dsimp only [bndR, ensR, oksR, fcutR, List.append_nil, List.nil_append, List.cons_append, List.append_assoc] at hk ⊢); exact readB) ?_) | (refine RGl.fin (fun e hk => ?_); (try dsimp only [bndA, ensAR, oksA, List.append_nil, List.nil_append, List.cons_append, List.append_assoc] at hk ⊢); (repeat (obtain ⟨hk1, hk⟩ := hk))) | fail)
     | (refine isCond ?_; first | refine WPc.cT ?_ | refine WPc.cF ?_ | (refine WPc.cQ (fun hc => ?_) (fun hc => ?_) <;> try exact prA))
     | (refine isD 3 ?_; first | (refine isAl ?_; refine WPl.nw fun g4 => ?_) | (refine isBx ?_; refine WPl.nw fun g4 => ?_))
     | (refine isD 6 ?_; refine WPl.rdX (ReadR.loadO memA rfl rfl) ?_)
     | (refine isD 10 ?_; refine WPl.rdX (ReadR.loadO memA rfl rfl) ?_)
     | (refine isD 11 ?_; refine WPl.rdX (ReadR.binE rfl rfl BinR.geq (congrArg Value.bool (decide_eq_false h1))) ?_)
     | (refine isOp ?_; first | refine WPl.rd ?_ | refine WPl.sk ?_ | refine WPl.rdB ?_)
     | (refine isBx ?_; refine WPl.nw fun g => ?_)
     | (show WPl _ _ _ _ _ _ _ (⟨_, .indexAddr _ _ _, _, _, _, _⟩ :: _) _; refine WPl.rdX (ReadR.indexE rfl rfl hasA (by first | assumption | omega)) ?_)
     | (show WPl _ _ _ _ _ _ _ (⟨_, .fieldAddr _ _ _, _, _, _, _⟩ :: _) _; refine WPl.rdX (ReadR.fieldE rfl hasA (by first | assumption | omega)) ?_)
     | (show WPl _ _ _ _ _ _ _ (⟨_, .load _ _, _, _, _, _⟩ :: _) _; first | refine WPl.rdX (ReadR.loadE rfl hasA (by assumption)) ?_ | refine WPl.rdX (ReadR.loadES (by assumption) (by first | assumption | omega) rfl hasA) ?_)
     | (show WPl _ _ _ _ _ _ _ (⟨_, .slice _ _ _ _ _, _, _, _, _⟩ :: _) _; first | refine WPl.rdX (ReadR.sliceH rfl rfl hasA (by omega)) ?_ | refine WPl.rdX (ReadR.sliceL rfl rfl hasA (by omega)) ?_ | refine WPl.rdX (ReadR.sliceLH rfl rfl rfl hasA (by omega) (by omega)) ?_)
     | (refine WPl.spQ (fun hc => ?_) (fun hc => ?_) <;> try exact prA)
     | fail)
    exact WPq.dV
theorem ownsJ {Γ : List Asn} (h : ∀ A, A ∈ Γ → A.own = true := by ((repeat' (first | exact own_nil | refine own_cons (by first | exact bx_own | exact rowN_own | exact mp_own | exact gbag_own | exact rfl) ?_ | fail)) <;> fail)) : ∀ A, A ∈ Γ → A.own = true := h
section
variable (m : Nat) (L : List PJ) (now g3 : Nat) (hn : now ≤ 18446744073709551615) (hs : ∀ x ∈ L, x.since ≤ 18446744073709551615)
include hn hs
abbrev bx3 (g3 now : Nat) : Asn := bx g3 38 [(1, [.int .u64 (now : Int)])]
def RExpJ (m : Nat) (L : List PJ) (now g3 : Nat) : Value → List Asn → Prop := fun v Γ => v = resV [] ∧ Γ = [mp kyM m (jes (L.filter fun x => !deadB now x)), gbag jrow L, bx3 g3 now]
theorem pdelf_t : Triple Try.prog 34 #[.map (some m), .func (.func 35) #[] #[.pointer (some ⟨g3, 0, none⟩)]] [mp kyM m (jes L), gbag jrow L, bx3 g3 now] (RExpJ m L now g3) := by
  refine Triple.enter Try.func34 rfl Try.ntmps34 rfl (fun W => ?_)
  dsimp only [argsF, Nat.reduceAdd]
  refine WPc.mkeys (M := kyM) (m := m) (l := jes L) memA fun hnd _ => ?_
  rw [jes_keys] at hnd
  repeat' (first
   | refine WPl.nil ?_ | refine WPq.then ?_ | refine WPq.thenR ?_ | refine WPq.thenE ?_ | refine WPq.blockN ?_ | refine WPq.blockR ?_ | refine WPq.blockE ?_ | refine WPq.blockO rfl ?_ | refine WPc.seq ?_ | refine WPc.block ?_ | refine WPc.ret ?_ | refine WPc.exit ?_ | refine WPc.skip ?_ | refine WPc.region ?_
   | (refine isCond ?_; first | refine WPc.cT ?_ | refine WPc.cF ?_ | (refine WPc.cQ (fun hc => ?_) (fun hc => ?_) <;> try exact prA))
   | (refine isD 7 ?_; refine WPl.mrange fun r => ?_)
   | (refine isOp ?_; first | refine WPl.rd ?_ | refine WPl.sk ?_ | refine WPl.rdB ?_)
   | (refine isAl ?_; refine WPl.nw fun g => ?_)
   | (refine isSt ?_; first | refine WPl.st1 ?_ | refine WPl.stA ?_ | refine WPl.stEB ?_ | refine WPl.stRB ?_)
   | (show WPl _ _ _ _ _ _ _ (⟨_, .indexAddr _ _ _, _, _, _, _⟩ :: _) _; refine WPl.rdX (ReadR.indexE rfl rfl hasA (by first | assumption | omega)) ?_)
   | (show WPl _ _ _ _ _ _ _ (⟨_, .fieldAddr _ _ _, _, _, _, _⟩ :: _) _; refine WPl.rdX (ReadR.fieldE rfl hasA (by first | assumption | omega)) ?_)
   | (show WPl _ _ _ _ _ _ _ (⟨_, .load _ _, _, _, _, _⟩ :: _) _; first | refine WPl.rdX (ReadR.loadE rfl hasA (by assumption)) ?_ | refine WPl.rdX (ReadR.loadES (by assumption) (by first | assumption | omega) rfl hasA) ?_)
   | (show WPl _ _ _ _ _ _ _ (⟨_, .slice _ _ _ _ _, _, _, _, _⟩ :: _) _; first | refine WPl.rdX (ReadR.sliceH rfl rfl hasA (by omega)) ?_ | refine WPl.rdX (ReadR.sliceL rfl rfl hasA (by omega)) ?_ | refine WPl.rdX (ReadR.sliceLH rfl rfl rfl hasA (by omega) (by omega)) ?_)
   | (refine WPl.spQ (fun hc => ?_) (fun hc => ?_) <;> try exact prA)
   | fail)
  first | refine WPc.loop (σ := List PJ × List (Ky × Option Nat) × Option (Ky × Option Nat)) (fun st => st.1.Sublist L ∧ (∀ x ∈ st.1, deadB now x = true → (x.key, some x.g) ∈ st.2.1) ∧ (∀ x ∈ L, deadB now x = false → x ∈ st.1)) (fun st => [rg kyM m r (jes st.1) st.2.1 st.2.2, gbag jrow L, bx3 g3 now]) (fun st => [(0, .map (some m)), (1, .func (.func 35) #[] #[.pointer (some ⟨g3, 0, none⟩)]), (7, .pointer (some ⟨r, 0, none⟩))]) (fun st => st.2.1.length) ((L, jes L, none)) ?_ takesA frsA (fun st km hx hk => ?_)
  · exact ⟨.refl _, fun x hx _ => jes_in hx, fun x hx _ => hx⟩
  obtain ⟨l, td, cu⟩ := st
  obtain ⟨hsL, h2, h3⟩ := hx
  dsimp only at hsL h2 h3 hk ⊢
  have hkm : _ := hk
  have hnl : (l.map (·.key)).Nodup := hnd.sublist (hsL.map _)
  refine WPc.rgsub (M := kyM) (m := m) (r := r) (l := jes l) (td := td) (c := cu) memA fun hsub _ hwf => ?_
  repeat' (first
   | refine WPl.nil ?_ | refine WPq.then ?_ | refine WPq.thenR ?_ | refine WPq.thenE ?_ | refine WPq.blockN ?_ | refine WPq.blockR ?_ | refine WPq.blockE ?_ | refine WPq.blockO rfl ?_ | refine WPc.seq ?_ | refine WPc.block ?_ | refine WPc.ret ?_ | refine WPc.exit ?_ | refine WPc.skip ?_ | refine WPc.region ?_
   | (refine isCond ?_; first | refine WPc.cT ?_ | refine WPc.cF ?_ | (refine WPc.cQ (fun hc => ?_) (fun hc => ?_) <;> try exact prA))
   | (refine isD 8 ?_; refine WPl.mnext (M := kyM) (fun k => ag (kyC k)) oPj (fun h0 => ?_) (fun A y B hAB => ?_); rotate_left; obtain ⟨x, hxl, rfl⟩ := jes_mem (l := l) (y := y) (hsub.subset (by rw [hAB]; simp)); have hxm : x ∈ L := hsL.subset hxl; have c16 := pexp1_t x.key x now g3 hn (hs x hxm); have hkl1 := x.key.src.len; have hkl2 := x.key.dst.len; have hkw : kyM.wf x.key := hwf _ (jes_in hxl); have hb1 : bx x.g 77 (pjC x) ∈ jrow x := by {unfold jrow; exact List.mem_cons_self ..}; rotate_left)
   | (refine isD 4 ?_; first | (refine isAl ?_; refine WPl.nw fun g4 => ?_) | (refine isBx ?_; refine WPl.nw fun g4 => ?_))
   | (show WPl _ _ _ _ _ _ _ (⟨_, .store _ (.tmp 4) _, _, _, _, _⟩ :: _) _; refine WPl.stA (new := kyC x.key) ?_ (hn := kyC_ok x.key))
   | (refine isD 10 ?_; refine WPl.rdX (ReadR.entry (kv := ag (kyC x.key)) (vv := hJ x.g) rfl rfl memA rfl) ?_)
   | (refine isD 16 ?_; refine WPl.cFV [ag (kyC x.key), hJ x.g] [.pointer (some ⟨g3, 0, none⟩)] c16 ?_ (hΔ := .cons (Prov.gbag (B := rbx x.g 77 (pjC x)) memA hxm hb1 rfl fun _ h => h) (.cons (Prov.bx memA) .nil)))
   | (show WPl _ _ _ _ _ _ _ (⟨none, .call ⟨.builtin .delete, _, _⟩, _, _, _, _⟩ :: _) _; refine WPl.mdelR (M := kyM) x.key hkw ?_)
   | (refine isOp ?_; first | refine WPl.rd ?_ | refine WPl.sk ?_ | refine WPl.rdB ?_)
   | (refine isAl ?_; refine WPl.nw fun g => ?_)
   | (refine isSt ?_; first | refine WPl.st1 ?_ | refine WPl.stA ?_ | refine WPl.stEB ?_ | refine WPl.stRB ?_)
   | (show WPl _ _ _ _ _ _ _ (⟨_, .indexAddr _ _ _, _, _, _, _⟩ :: _) _; refine WPl.rdX (ReadR.indexE rfl rfl hasA (by first | assumption | omega)) ?_)
   | (show WPl _ _ _ _ _ _ _ (⟨_, .fieldAddr _ _ _, _, _, _, _⟩ :: _) _; refine WPl.rdX (ReadR.fieldE rfl hasA (by first | assumption | omega)) ?_)
   | (show WPl _ _ _ _ _ _ _ (⟨_, .load _ _, _, _, _, _⟩ :: _) _; first | refine WPl.rdX (ReadR.loadE rfl hasA (by assumption)) ?_ | refine WPl.rdX (ReadR.loadES (by assumption) (by first | assumption | omega) rfl hasA) ?_)
   | (show WPl _ _ _ _ _ _ _ (⟨_, .slice _ _ _ _ _, _, _, _, _⟩ :: _) _; first | refine WPl.rdX (ReadR.sliceH rfl rfl hasA (by omega)) ?_ | refine WPl.rdX (ReadR.sliceL rfl rfl hasA (by omega)) ?_ | refine WPl.rdX (ReadR.sliceLH rfl rfl rfl hasA (by omega) (by omega)) ?_)
   | (refine WPl.spQ (fun hc => ?_) (fun hc => ?_) <;> try exact prA)
   | fail)
  · refine WPq.rgOut (M := kyM) (m := m) (r := r) (l := jes l) (td := td) (c := cu) takeA ?_
    have hl : l = L.filter fun x => !deadB now x := sub_filterJ hsL (nodup_key hnd) fun x hx => by
      cases hd : deadB now x with
      | true => exact ⟨fun h => (by have := h2 x h hd; rw [h0] at this; cases this), fun h => (by cases h)⟩
      | false => exact ⟨fun _ => rfl, fun _ => h3 x hx hd⟩
    rw [hl]
    exact WPq.dX (vs := []) [mp kyM m (jes (L.filter fun x => !deadB now x)), gbag jrow L, bx3 g3 now] ⟨rfl, rfl⟩ (ho := ownsJ)
  · have hlt : ((A ++ B).filter (fun z => decide (z.1 ≠ x.key))).length < td.length := by
      have := List.length_filter_le (fun z : Ky × Option Nat => decide (z.1 ≠ x.key)) (A ++ B)
      rw [hAB]; simp at this ⊢; omega
    rw [mdel_filter (show ((jes l).map (·.1)).Nodup by rw [jes_keys]; exact hnl), jes_filter]
    exact WPq.rnd (l.filter (fun z => decide (z.key ≠ x.key)), (A ++ B).filter (fun z => decide (z.1 ≠ x.key)), none) ⟨List.filter_sublist.trans hsL, fun z hz hd => by
      obtain ⟨q1, q2⟩ := List.mem_filter.1 hz
      have q3 := h2 z q1 hd
      refine List.mem_filter.2 ⟨?_, by simpa using q2⟩
      rw [hAB] at q3
      rcases List.mem_append.1 q3 with q | q
      · exact List.mem_append_left _ q
      · rcases List.mem_cons.1 q with q | q
        · exact absurd (congrArg Prod.fst q) (by simpa using q2)
        · exact List.mem_append_right _ q, fun z hz hd => by
      refine List.mem_filter.2 ⟨h3 z hz hd, ?_⟩
      have : z.key ≠ x.key := fun e => by
        rw [key_one hnd hz hxm e, hc] at hd
        cases hd
      simpa using this⟩ (by rw [hkm]; exact hlt)
  · exact WPq.rnd (l, A ++ B, some (x.key, some x.g)) ⟨hsL, fun z hz hd => by
      have q3 := h2 z hz hd
      rw [hAB] at q3
      rcases List.mem_append.1 q3 with q | q
      · exact List.mem_append_left _ q
      · rcases List.mem_cons.1 q with q | q
        · have e := key_one hnd (hsL.subset hz) hxm (congrArg Prod.fst q)
          rw [e, hc] at hd
          cases hd
        · exact List.mem_append_right _ q, h3⟩ (by rw [hkm, hAB]; simp)
theorem pexpire_t (hl : L.length ≤ 1000000) (gJ : Nat) : Triple Try.prog 20 #[hJ gJ, .int .u64 (now : Int)] (jmA gJ m L) (RTurns (.int .i64 ((L.length : Int) - ((L.filter fun x => !deadB now x).length : Int))) [bx gJ 45 (jbc m), mp kyM m (jes (L.filter fun x => !deadB now x)), gbag jrow L]) := by
  have hlf := List.length_filter_le (fun x => !deadB now x) L
  have j1 := jes_len (l := L)
  have j2 := jes_len (l := L.filter fun x => !deadB now x)
  have c16 := fun g3 => pdelf_t m L now g3 hn hs
  show Triple _ _ _ [bx gJ 45 (jbc m), mp kyM m (jes L), gbag jrow L] _
  refine Triple.enter Try.func20 rfl Try.ntmps20 rfl (fun W => ?_)
  dsimp only [argsF, Nat.reduceAdd]
  repeat' (first
   | refine WPl.nil ?_ | refine WPq.then ?_ | refine WPq.thenR ?_ | refine WPq.thenE ?_ | refine WPq.blockN ?_ | refine WPq.blockR ?_ | refine WPq.blockE ?_ | refine WPq.blockO rfl ?_ | refine WPc.seq ?_ | refine WPc.block ?_ | refine WPc.ret ?_ | refine WPc.exit ?_ | refine WPc.skip ?_ | refine WPc.region ?_
   | (refine isCond ?_; first | refine WPc.cT ?_ | refine WPc.cF ?_ | (refine WPc.cQ (fun hc => ?_) (fun hc => ?_) <;> try exact prA))
   | (refine isD 3 ?_; first | (refine isAl ?_; refine WPl.nw fun g3 => ?_) | (refine isBx ?_; refine WPl.nw fun g3 => ?_))
   | (refine isD 15 ?_; refine WPl.rdX (ReadR.mkF (xs := [_]) (vs := [.pointer (some ⟨g3, 0, none⟩)]) evsA) ?_)
   | (refine isD 10 ?_; refine WPl.rdX (ReadR.mlen rfl memA) ?_)
   | (refine isD 22 ?_; refine WPl.rdX (ReadR.mlen rfl memA) ?_)
   | (refine isD 23 ?_; refine WPl.rdX (ReadR.binE rfl rfl (BinR.subI (by omega) (by omega)) rfl) ?_)
   | (refine isC 16 ?_; refine WPl.cXs (c16 g3) fun v Γ1 hR => ?_; obtain ⟨rfl, rfl⟩ := hR; (try dsimp only [putF, List.cons_append, List.nil_append]))
   | (refine isOp ?_; first | refine WPl.rd ?_ | refine WPl.sk ?_ | refine WPl.rdB ?_)
   | (refine isBx ?_; refine WPl.nw fun g => ?_)
   | (show WPl _ _ _ _ _ _ _ (⟨_, .indexAddr _ _ _, _, _, _, _⟩ :: _) _; refine WPl.rdX (ReadR.indexE rfl rfl hasA (by first | assumption | omega)) ?_)
   | (show WPl _ _ _ _ _ _ _ (⟨_, .fieldAddr _ _ _, _, _, _, _⟩ :: _) _; refine WPl.rdX (ReadR.fieldE rfl hasA (by first | assumption | omega)) ?_)
   | (show WPl _ _ _ _ _ _ _ (⟨_, .load _ _, _, _, _, _⟩ :: _) _; first | refine WPl.rdX (ReadR.loadE rfl hasA (by assumption)) ?_ | refine WPl.rdX (ReadR.loadES (by assumption) (by first | assumption | omega) rfl hasA) ?_)
   | (show WPl _ _ _ _ _ _ _ (⟨_, .slice _ _ _ _ _, _, _, _, _⟩ :: _) _; first | refine WPl.rdX (ReadR.sliceH rfl rfl hasA (by omega)) ?_ | refine WPl.rdX (ReadR.sliceL rfl rfl hasA (by omega)) ?_ | refine WPl.rdX (ReadR.sliceLH rfl rfl rfl hasA (by omega) (by omega)) ?_)
   | (refine WPl.spQ (fun hc => ?_) (fun hc => ?_) <;> try exact prA)
   | fail)
  rw [j1, j2]
  exact WPq.dTs (ho := ownsJ)
theorem pExpire_t (hl : L.length ≤ 1000000) (gJ : Nat) : Triple Try.prog 9 #[hJ gJ, .int .u64 (now : Int)] (jmA gJ m L) (RTurns (.int .i64 ((L.length : Int) - ((L.filter fun x => !deadB now x).length : Int))) [bx gJ 45 (jbc m), mp kyM m (jes (L.filter fun x => !deadB now x)), gbag jrow L]) := by
  have c := pexpire_t m L now hn hs hl gJ
  show Triple _ _ _ [bx gJ 45 (jbc m), mp kyM m (jes L), gbag jrow L] _
  refine Triple.enter Try.func9 rfl Try.ntmps9 rfl (fun W => ?_)
  dsimp only [argsF, Nat.reduceAdd]
  repeat' (first
   | refine WPl.nil ?_ | refine WPq.then ?_ | refine WPq.thenR ?_ | refine WPq.thenE ?_ | refine WPq.blockN ?_ | refine WPq.blockR ?_ | refine WPq.blockE ?_ | refine WPq.blockO rfl ?_ | refine WPc.seq ?_ | refine WPc.block ?_ | refine WPc.ret ?_ | refine WPc.exit ?_ | refine WPc.skip ?_ | refine WPc.region ?_
   | (refine isCond ?_; first | refine WPc.cT ?_ | refine WPc.cF ?_ | (refine WPc.cQ (fun hc => ?_) (fun hc => ?_) <;> try exact prA))
   | (refine isD 6 ?_; refine WPl.rdX (readP) ?_)
   | (refine isC 9 ?_; refine WPl.cTs (c) ?_; (try dsimp only [putF, List.cons_append, List.nil_append]))
   | (refine isOp ?_; first | refine WPl.rd ?_ | refine WPl.sk ?_ | refine WPl.rdB ?_)
   | (show WPl _ _ _ _ _ _ _ (⟨_, .indexAddr _ _ _, _, _, _, _⟩ :: _) _; refine WPl.rdX (ReadR.indexE rfl rfl hasA (by first | assumption | omega)) ?_)
   | (show WPl _ _ _ _ _ _ _ (⟨_, .fieldAddr _ _ _, _, _, _, _⟩ :: _) _; refine WPl.rdX (ReadR.fieldE rfl hasA (by first | assumption | omega)) ?_)
   | (show WPl _ _ _ _ _ _ _ (⟨_, .load _ _, _, _, _, _⟩ :: _) _; first | refine WPl.rdX (ReadR.loadE rfl hasA (by assumption)) ?_ | refine WPl.rdX (ReadR.loadES (by assumption) (by first | assumption | omega) rfl hasA) ?_)
   | (show WPl _ _ _ _ _ _ _ (⟨_, .slice _ _ _ _ _, _, _, _, _⟩ :: _) _; first | refine WPl.rdX (ReadR.sliceH rfl rfl hasA (by omega)) ?_ | refine WPl.rdX (ReadR.sliceL rfl rfl hasA (by omega)) ?_ | refine WPl.rdX (ReadR.sliceLH rfl rfl rfl hasA (by omega) (by omega)) ?_)
   | (refine WPl.spQ (fun hc => ?_) (fun hc => ?_) <;> try exact prA)
   | fail)
  exact WPq.dTs (ho := ownsJ)
omit hn hs in
theorem pLen_t (gJ : Nat) : Triple Try.prog 8 #[hJ gJ] [rbx gJ 45 (jbc m), rmp kyM m (jes L)] (RVal (.int .i64 (L.length : Int))) := by
  have j1 := jes_len (l := L)
  refine Triple.enter Try.func8 rfl Try.ntmps8 rfl (fun W => ?_)
  dsimp only [argsF, Nat.reduceAdd]
  repeat' (first
   | refine WPl.nil ?_ | refine WPq.then ?_ | refine WPq.thenR ?_ | refine WPq.thenE ?_ | refine WPq.blockN ?_ | refine WPq.blockR ?_ | refine WPq.blockE ?_ | refine WPq.blockO rfl ?_ | refine WPc.seq ?_ | refine WPc.block ?_ | refine WPc.ret ?_ | refine WPc.exit ?_ | refine WPc.skip ?_ | refine WPc.region ?_
   | (refine isCond ?_; first | refine WPc.cT ?_ | refine WPc.cF ?_ | (refine WPc.cQ (fun hc => ?_) (fun hc => ?_) <;> try exact prA))
   | (refine isD 4 ?_; refine WPl.rdX (readP) ?_)
   | (refine isD 8 ?_; refine WPl.rdX (ReadR.loadO memA rfl rfl) ?_)
   | (refine isD 9 ?_; refine WPl.rdX (ReadR.mlenO rfl memA) ?_)
   | (refine isOp ?_; first | refine WPl.rd ?_ | refine WPl.sk ?_ | refine WPl.rdB ?_)
   | (show WPl _ _ _ _ _ _ _ (⟨_, .indexAddr _ _ _, _, _, _, _⟩ :: _) _; refine WPl.rdX (ReadR.indexE rfl rfl hasA (by first | assumption | omega)) ?_)
   | (show WPl _ _ _ _ _ _ _ (⟨_, .fieldAddr _ _ _, _, _, _, _⟩ :: _) _; refine WPl.rdX (ReadR.fieldE rfl hasA (by first | assumption | omega)) ?_)
   | (show WPl _ _ _ _ _ _ _ (⟨_, .load _ _, _, _, _, _⟩ :: _) _; first | refine WPl.rdX (ReadR.loadE rfl hasA (by assumption)) ?_ | refine WPl.rdX (ReadR.loadES (by assumption) (by first | assumption | omega) rfl hasA) ?_)
   | (show WPl _ _ _ _ _ _ _ (⟨_, .slice _ _ _ _ _, _, _, _, _⟩ :: _) _; first | refine WPl.rdX (ReadR.sliceH rfl rfl hasA (by omega)) ?_ | refine WPl.rdX (ReadR.sliceL rfl rfl hasA (by omega)) ?_ | refine WPl.rdX (ReadR.sliceLH rfl rfl rfl hasA (by omega) (by omega)) ?_)
   | (refine WPl.spQ (fun hc => ?_) (fun hc => ?_) <;> try exact prA)
   | fail)
  rw [j1]
  exact WPq.dV
end
theorem pExpireN_t (v : Value) : Triple Try.prog 9 #[.pointer none, v] [] (RVal (.int .i64 0)) := by
  refine Triple.enter Try.func9 rfl Try.ntmps9 rfl (fun W => ?_)
  dsimp only [argsF, Nat.reduceAdd]
  repeat' (first
   | refine WPl.nil ?_ | refine WPq.then ?_ | refine WPq.thenR ?_ | refine WPq.thenE ?_ | refine WPq.blockN ?_ | refine WPq.blockR ?_ | refine WPq.blockE ?_ | refine WPq.blockO rfl ?_ | refine WPc.seq ?_ | refine WPc.block ?_ | refine WPc.ret ?_ | refine WPc.exit ?_ | refine WPc.skip ?_ | refine WPc.region ?_
   | (refine isCond ?_; first | refine WPc.cT ?_ | refine WPc.cF ?_ | (refine WPc.cQ (fun hc => ?_) (fun hc => ?_) <;> try exact prA))
   | (refine isD 6 ?_; refine WPl.rdX (readP) ?_)
   | (refine isOp ?_; first | refine WPl.rd ?_ | refine WPl.sk ?_ | refine WPl.rdB ?_)
   | (show WPl _ _ _ _ _ _ _ (⟨_, .indexAddr _ _ _, _, _, _, _⟩ :: _) _; refine WPl.rdX (ReadR.indexE rfl rfl hasA (by first | assumption | omega)) ?_)
   | (show WPl _ _ _ _ _ _ _ (⟨_, .fieldAddr _ _ _, _, _, _, _⟩ :: _) _; refine WPl.rdX (ReadR.fieldE rfl hasA (by first | assumption | omega)) ?_)
   | (show WPl _ _ _ _ _ _ _ (⟨_, .load _ _, _, _, _, _⟩ :: _) _; first | refine WPl.rdX (ReadR.loadE rfl hasA (by assumption)) ?_ | refine WPl.rdX (ReadR.loadES (by assumption) (by first | assumption | omega) rfl hasA) ?_)
   | (show WPl _ _ _ _ _ _ _ (⟨_, .slice _ _ _ _ _, _, _, _, _⟩ :: _) _; first | refine WPl.rdX (ReadR.sliceH rfl rfl hasA (by omega)) ?_ | refine WPl.rdX (ReadR.sliceL rfl rfl hasA (by omega)) ?_ | refine WPl.rdX (ReadR.sliceLH rfl rfl rfl hasA (by omega) (by omega)) ?_)
   | (refine WPl.spQ (fun hc => ?_) (fun hc => ?_) <;> try exact prA)
   | fail)
  exact WPq.dV
theorem pLenN_t : Triple Try.prog 8 #[.pointer none] [] (RVal (.int .i64 0)) := by
  refine Triple.enter Try.func8 rfl Try.ntmps8 rfl (fun W => ?_)
  dsimp only [argsF, Nat.reduceAdd]
  repeat' (first
   | refine WPl.nil ?_ | refine WPq.then ?_ | refine WPq.thenR ?_ | refine WPq.thenE ?_ | refine WPq.blockN ?_ | refine WPq.blockR ?_ | refine WPq.blockE ?_ | refine WPq.blockO rfl ?_ | refine WPc.seq ?_ | refine WPc.block ?_ | refine WPc.ret ?_ | refine WPc.exit ?_ | refine WPc.skip ?_ | refine WPc.region ?_
   | (refine isCond ?_; first | refine WPc.cT ?_ | refine WPc.cF ?_ | (refine WPc.cQ (fun hc => ?_) (fun hc => ?_) <;> try exact prA))
   | (refine isD 4 ?_; refine WPl.rdX (readP) ?_)
   | (refine isOp ?_; first | refine WPl.rd ?_ | refine WPl.sk ?_ | refine WPl.rdB ?_)
   | (show WPl _ _ _ _ _ _ _ (⟨_, .indexAddr _ _ _, _, _, _, _⟩ :: _) _; refine WPl.rdX (ReadR.indexE rfl rfl hasA (by first | assumption | omega)) ?_)
   | (show WPl _ _ _ _ _ _ _ (⟨_, .fieldAddr _ _ _, _, _, _, _⟩ :: _) _; refine WPl.rdX (ReadR.fieldE rfl hasA (by first | assumption | omega)) ?_)
   | (show WPl _ _ _ _ _ _ _ (⟨_, .load _ _, _, _, _, _⟩ :: _) _; first | refine WPl.rdX (ReadR.loadE rfl hasA (by assumption)) ?_ | refine WPl.rdX (ReadR.loadES (by assumption) (by first | assumption | omega) rfl hasA) ?_)
   | (show WPl _ _ _ _ _ _ _ (⟨_, .slice _ _ _ _ _, _, _, _, _⟩ :: _) _; first | refine WPl.rdX (ReadR.sliceH rfl rfl hasA (by omega)) ?_ | refine WPl.rdX (ReadR.sliceL rfl rfl hasA (by omega)) ?_ | refine WPl.rdX (ReadR.sliceLH rfl rfl rfl hasA (by omega) (by omega)) ?_)
   | (refine WPl.spQ (fun hc => ?_) (fun hc => ?_) <;> try exact prA)
   | fail)
  exact WPq.dV
theorem pnew_t : Triple Try.prog 4 #[] [] (fun v Γ => ∃ gJ m, v = hJ gJ ∧ Γ = [bx gJ 45 (jbc m), mp kyM m (jes []), gbag jrow []]) := by
  refine Triple.enter Try.func4 rfl Try.ntmps4 rfl (fun W => ?_)
  dsimp only [argsF, Nat.reduceAdd]
  repeat' (first
   | refine WPl.nil ?_ | refine WPq.then ?_ | refine WPq.thenR ?_ | refine WPq.thenE ?_ | refine WPq.blockN ?_ | refine WPq.blockR ?_ | refine WPq.blockE ?_ | refine WPq.blockO rfl ?_ | refine WPc.seq ?_ | refine WPc.block ?_ | refine WPc.ret ?_ | refine WPc.exit ?_ | refine WPc.skip ?_ | refine WPc.region ?_
   | (refine isCond ?_; first | refine WPc.cT ?_ | refine WPc.cF ?_ | (refine WPc.cQ (fun hc => ?_) (fun hc => ?_) <;> try exact prA))
   | (refine isD 1 ?_; refine WPl.mnew kyM fun m => ?_)
   | (refine isD 2 ?_; refine WPl.rdX (ReadR.build (cs' := jbc m) buildA) ?_)
   | (refine isD 3 ?_; first | (refine isAl ?_; refine WPl.nw fun gJ => ?_) | (refine isBx ?_; refine WPl.nw fun gJ => ?_))
   | (refine isOp ?_; first | refine WPl.rd ?_ | refine WPl.sk ?_ | refine WPl.rdB ?_)
   | (refine isBx ?_; refine WPl.nw fun g => ?_)
   | (show WPl _ _ _ _ _ _ _ (⟨_, .indexAddr _ _ _, _, _, _, _⟩ :: _) _; refine WPl.rdX (ReadR.indexE rfl rfl hasA (by first | assumption | omega)) ?_)
   | (show WPl _ _ _ _ _ _ _ (⟨_, .fieldAddr _ _ _, _, _, _, _⟩ :: _) _; refine WPl.rdX (ReadR.fieldE rfl hasA (by first | assumption | omega)) ?_)
   | (show WPl _ _ _ _ _ _ _ (⟨_, .load _ _, _, _, _, _⟩ :: _) _; first | refine WPl.rdX (ReadR.loadE rfl hasA (by assumption)) ?_ | refine WPl.rdX (ReadR.loadES (by assumption) (by first | assumption | omega) rfl hasA) ?_)
   | (show WPl _ _ _ _ _ _ _ (⟨_, .slice _ _ _ _ _, _, _, _, _⟩ :: _) _; first | refine WPl.rdX (ReadR.sliceH rfl rfl hasA (by omega)) ?_ | refine WPl.rdX (ReadR.sliceL rfl rfl hasA (by omega)) ?_ | refine WPl.rdX (ReadR.sliceLH rfl rfl rfl hasA (by omega) (by omega)) ?_)
   | (refine WPl.spQ (fun hc => ?_) (fun hc => ?_) <;> try exact prA)
   | fail)
  refine WPq.gbag0 jrow ?_
  exact WPq.dX (ho := ownsJ) (vs := [hJ gJ]) [bx gJ 45 (jbc m), mp kyM m [], gbag jrow []] ⟨gJ, m, rfl, by with_unfolding_all rfl⟩
end Go.Proofs.Ytmdihpanaljkfaa
/- Layer 35 (parts): bags that are cut, or told in another order; what is read of them. -/
namespace Go.Proofs.Ytmdihpanaljkfaa
open Go.RowKit
set_option linter.unusedVariables false
set_option linter.unusedSimpArgs false
section
variable {P : Program} {n : Nat} {W : World} {S : Nat → Prop} {Γ : List Asn} {F : List (Nat × Value)} {Q : Exit → Act → World → Prop}
theorem Good.gbagSub {α : Type} {row : α → List Asn} {es es' rest : List α} {Γf : List Asn} {w : World} (ho : ∀ x A, A ∈ row x → A.own = true) (hp : es.Perm (es' ++ rest)) (h : Good W S (gbag row es :: Γf) w) : Good W S (gbag row es' :: Γf) w := by
  have h1 := h.open' (gbag_all ho es)
  have h2 : (es.flatMap row ++ Γf).Perm (es'.flatMap row ++ (Γf ++ rest.flatMap row)) := by
    have := hp.flatMap_right row
    rw [List.flatMap_append] at this
    refine (this.append_right Γf).trans ?_
    rw [List.append_assoc]
    exact List.Perm.append_left _ List.perm_append_comm
  have h3 := (h1.perm h2).close (gbag_all ho es')
  exact Good.left (Γ := gbag row es' :: Γf) (Γ' := rest.flatMap row) h3
theorem WPc.gbagSub {α : Type} {P : Program} {row : α → List Asn} {es : List α} (es' : List α) {c : Code} {Γf : List Asn} (ho : ∀ x A, A ∈ row x → A.own = true) (hs : es'.Sublist es) (k : WPc P n W S (gbag row es' :: Γf) F c Q) (ht : Take Γ (gbag row es) Γf := by first | exact takeA | fail) : WPc P n W S Γ F c Q := fun a w hf hg => by
  obtain ⟨rest, hp⟩ := hs.exists_perm_append
  exact k a w hf (Good.gbagSub ho hp (hg.perm (Takes.cons ht .nil)))
theorem WPl.gbagSub {α : Type} {P : Program} {row : α → List Asn} {es : List α} (es' : List α) {ops : Array Oper} {os : List Oper} {Γf : List Asn} (ho : ∀ x A, A ∈ row x → A.own = true) (hs : es'.Sublist es) (k : WPl P n W S (gbag row es' :: Γf) F ops os Q) (ht : Take Γ (gbag row es) Γf := by first | exact takeA | fail) : WPl P n W S Γ F ops os Q := fun a w hf hg => by
  obtain ⟨rest, hp⟩ := hs.exists_perm_append
  exact k a w hf (Good.gbagSub ho hp (hg.perm (Takes.cons ht .nil)))
theorem WPq.gbagP {α : Type} {row : α → List Asn} {es : List α} (es' : List α) {e : Exit} {Γf : List Asn} (ho : ∀ x A, A ∈ row x → A.own = true) (hp : es.Perm es') (k : WPq n W S (gbag row es' :: Γf) F Q e) (ht : Take Γ (gbag row es) Γf := by first | exact takeA | fail) : WPq n W S Γ F Q e := fun a w hf hg =>
  k a w hf (Good.gbagSub (rest := []) ho (by rw [List.append_nil]; exact hp) (hg.perm (Takes.cons ht .nil)))
theorem Prov.prd {l : List Pt} (h : Go.Proofs.Ytmdihpanaljkfaa.gbag drow l ∈ Γ) : Prov Γ (Go.Proofs.Ytmdihpanaljkfaa.prd l) :=
  ⟨rfl, fun w hw p hp => row_reads ((hw _ h).1 _ (List.mem_flatMap.2 ⟨p, hp, List.mem_singleton.2 rfl⟩))⟩
theorem fpPrd {Γf : List Asn} {l : List Pt} (h : gbag drow l ∈ Γf) : ∀ A, A ∈ [prd l] → ∀ g, A.fp g → ∃ B, B ∈ Γf ∧ B.fp g := fun A hA g hg => by
  rw [List.mem_singleton.1 hA] at hg
  obtain ⟨p, hp, hg⟩ := hg
  exact ⟨_, h, ob p.v p.d, List.mem_flatMap.2 ⟨p, hp, List.mem_singleton.2 rfl⟩, hg.2⟩
end
end Go.Proofs.Ytmdihpanaljkfaa
/- Layer 35 (parts): a part is kept: contracts. -/
namespace Go.Proofs.Ytmdihpanaljkfaa
set_option linter.unusedVariables false
set_option linter.unusedSimpArgs false
def noPart (h : Hd) : Hd := { h with part := false }
def RAddJ (gJ m : Nat) (L : List PJ) (k : Ky) (p : Pt) (now : Nat) : Value → List Asn → Prop := fun v Γ =>
  (64 ≤ L.length ∧ (∀ x ∈ L, x.key ≠ k) ∧ v = .tuple #[.slice none 0 0, .int .i64 2] ∧ Γ = [bx gJ 45 (jbc m), mp kyM m (jes L), gbag jrow L]) ∨
  ∃ (x0 : PJ) (A B : List PJ), x0.key = k ∧ ((L = A ++ x0 :: B) ∨ (L = A ∧ B = [] ∧ (∀ x ∈ L, x.key ≠ k) ∧ L.length < 64 ∧ x0.ps = [] ∧ x0.since = now)) ∧
    ((againstP x0.ps p ≠ 0 ∧ v = .tuple #[.slice none 0 0, .int .i64 (againstP x0.ps p)] ∧ Γ = [bx gJ 45 (jbc m), mp kyM m (jes (A ++ B)), gbag jrow (A ++ B)]) ∨
     (againstP x0.ps p = 0 ∧ ∃ ps' : List Pt, ps'.Perm (x0.ps ++ [p]) ∧ ps'.Pairwise (fun a b => ltOf ptCf b a = false) ∧
       ((wholeB ps' = false ∧ ∃ v' : Value, v'.oneCell' = true ∧ v = .tuple #[.slice none 0 0, .int .i64 0] ∧ Γ = [bx gJ 45 (jbc m), mp kyM m (jes (A ++ ⟨x0.g, v', ps', x0.since, x0.key⟩ :: B)), gbag jrow (A ++ ⟨x0.g, v', ps', x0.since, x0.key⟩ :: B)]) ∨
        (wholeB ps' = true ∧ ∃ (p0 : Pt) (s : Value), ps'[0]? = some p0 ∧ s.oneCell' = true ∧ v = .tuple #[s, .int .i64 (fwerr (noPart p0.h) (dataP ps').length)] ∧ Γ = [bx gJ 45 (jbc m), mp kyM m (jes (A ++ B)), gbag jrow (A ++ B), ob s (fwL (noPart p0.h) (dataP ps'))]))))
theorem pts_hd {l : List Pt} {i : Nat} {p : Pt} (h : l[i]? = some p) : ((pts l).drop (i * 42 + 3)).take 39 = flat (hdc p.h) := by
  have h1 := pts_at h
  have h2 : ((flat (ptC p)).drop 3).take 39 = flat (hdc p.h) := by
    simp [flat_eq, u8s_length, p.h.src.len, p.h.dst.len]
    exact List.take_of_length_le (by simp [u8s_length, p.h.src.len, p.h.dst.len])
  rw [← h2, ← h1, List.drop_take, List.drop_drop, List.take_take]
  congr 1
theorem jes_get {l : List PJ} {k : Ky} {o : Option (Option Nat)} (h : mfind (jes l) k = o) : kyM.vc (mget kyM (jes l) k) = oPj (o.getD none) ∧ mhas (jes l) k = o.isSome := by
  subst h
  with_unfolding_all exact ⟨rfl, rfl⟩
theorem jes_at {l : List PJ} {i : Nat} {x : PJ} (h : l[i]? = some x) : (jes l)[i]? = some (x.key, some x.g) := by
  unfold jes; rw [List.getElem?_map, h]; rfl
theorem jes_mid {A B : List PJ} {x : PJ} (hn : ((jes (A ++ x :: B)).map (·.1)).Nodup) : mfind (jes (A ++ x :: B)) x.key = some (some x.g) :=
  (mfind_some hn (jes_at (i := A.length) (by rw [List.getElem?_append_right (Nat.le_refl _), Nat.sub_self]; rfl)) rfl).1
theorem jes_no {l : List PJ} {k : Ky} (h : ∀ x ∈ l, x.key ≠ k) : mfind (jes l) k = none := (mfind_none fun x hx => by
  obtain ⟨y, hy, rfl⟩ := List.mem_map.1 hx
  exact h y hy).1
theorem jes_put {l : List PJ} {x : PJ} (h : ∀ y ∈ l, y.key ≠ x.key) : mput (jes l) x.key (some x.g) = jes (l ++ [x]) := by
  rw [(mfind_none (mfind_none_of (jes_no h))).2.1]
  unfold jes
  rw [List.map_append]
  rfl
theorem jes_del {A B : List PJ} {x : PJ} (hn : ((jes (A ++ x :: B)).map (·.1)).Nodup) : mdel (jes (A ++ x :: B)) x.key = jes (A ++ B) := by
  rw [mdel_filter hn, jes_filter]
  congr 1
  rw [jes_keys, List.map_append, List.map_cons] at hn
  have h1 := List.nodup_append.1 hn
  have h2 := List.nodup_cons.1 h1.2.1
  rw [List.filter_append, List.filter_cons_of_neg (by simp)]
  congr 1
  · rw [List.filter_eq_self]
    intro b hb
    have : b.key ≠ x.key := fun e => h1.2.2 _ (List.mem_map.2 ⟨b, hb, rfl⟩) _ (List.mem_cons_self ..) e
    simpa using this
  · rw [List.filter_eq_self]
    intro b hb
    have : b.key ≠ x.key := fun e => h2.1 (List.mem_map.2 ⟨b, hb, e⟩)
    simpa using this
theorem jes_turn {A B : List PJ} {x y : PJ} (hk : y.key = x.key) (hg : y.g = x.g) : jes (A ++ y :: B) = jes (A ++ x :: B) := by
  unfold jes
  rw [List.map_append, List.map_cons, List.map_append, List.map_cons, hk, hg]
theorem whole_len {l : List Pt} {n : Nat} (hw : wholeB l = true) (h0 : 0 < l.length) (hf : ∀ p ∈ l, p.fin ≤ n) : (dataP l).length ≤ n := by
  unfold wholeB at hw
  rw [Bool.and_eq_true, List.all_eq_true] at hw
  have h1 := hw.1 (l.length - 1) (List.mem_range.2 (by omega))
  obtain ⟨p, hp⟩ : ∃ p, l[l.length - 1]? = some p := ⟨_, List.getElem?_eq_getElem (by omega)⟩
  unfold okAt at h1
  rw [hp] at h1
  have h1 := of_decide_eq_true h1
  have h2 := dataP_snoc hp
  rw [List.take_of_length_le (by omega)] at h2
  rw [h2, List.length_append]
  have h3 := hf p (List.mem_of_getElem? hp)
  have h4 : p.fin = p.pos + p.d.length := rfl
  omega
theorem hdc_ok (h : Hd) : FOk (hdc h) := .one1 rfl (.one1 rfl (.one1 rfl (.one1 rfl (.bytes h.src.len (.one1 rfl (.bytes h.dst.len (.one1 rfl (.one1 rfl .nil))))))))
open Go.RowKit
set_option linter.unusedSimpArgs false
set_option linter.unusedVariables false
set_option maxRecDepth 20000
set_option maxHeartbeats 4000000
attribute [local irreducible] WPc WPl WPq ReadR OpT BinR HasS bx rdN rowN Take Takes Prov Triple ResF BuildP Done ag Int.decLt Int.decLe Int.instDecidableEq
attribute [local irreducible] mp rmp rg rgo mput mget mfind mdel gbag jes pts Pt.v Pt.fin Pt.wf overB badB wholeB okAt dataP prd againstP fwL fwerr
section
variable (gJ m : Nat) (L : List PJ) (k : Ky) (p : Pt) (now : Nat) (hk1' : k.id < 65536) (hp : p.fin ≤ 100000) (hb : ∀ x ∈ L, x.ps.length ≤ 9998 ∧ ∀ o ∈ x.ps, o.fin ≤ 100000) (hLl : L.length ≤ 1000000)
include hk1' hp hb hLl
theorem padd_t : Triple Try.prog 21 #[hJ gJ, ag (ptC p), ag (kyC k), .int .u64 (now : Int)] (jmA gJ m L ++ [ob p.v p.d]) (RAddJ gJ m L k p now) := by
  have hkw : kyM.wf k := hk1'
  have hpv := p.v1
  have l1 := p.h.src.len
  have l2 := p.h.dst.len
  have l3 := k.src.len
  have l4 := k.dst.len
  have hfp := ptC_ok p
  have hjl := jes_len (l := L)
  have ez : pts [] = [] := by with_unfolding_all rfl
  show Triple _ _ _ [bx gJ 45 (jbc m), mp kyM m (jes L), gbag jrow L, ob p.v p.d] _
  refine Triple.enter Try.func21 rfl Try.ntmps21 rfl (fun W => ?_)
  dsimp only [argsF, Nat.reduceAdd]
  refine WPc.mkeys (M := kyM) (m := m) (l := jes L) memA fun hnd0 _ => ?_
  refine WPc.nilRowN 55 42 ?_
  refine WPc.gbag0 drow ?_
  repeat' (first
   | (refine isSeq1 1 ?_; refine Held.it ?_)
   | refine WPl.nil ?_ | refine WPq.then ?_ | refine WPq.thenR ?_ | refine WPq.thenE ?_ | refine WPq.blockN ?_ | refine WPq.blockR ?_ | refine WPq.blockE ?_ | refine WPq.blockO rfl ?_ | refine WPc.seq ?_ | refine WPc.block ?_ | refine WPc.ret ?_ | refine WPc.exit ?_ | refine WPc.skip ?_ | refine WPc.region ?_
   | (refine isCond ?_; first | refine WPc.cT ?_ | refine WPc.cF ?_ | (refine WPc.cQ (fun hc => ?_) (fun hc => ?_) <;> try exact prA))
   | (refine isD 5 ?_; first | (refine isAl ?_; refine WPl.nw fun g5 => ?_) | (refine isBx ?_; refine WPl.nw fun g5 => ?_))
   | (refine isD 6 ?_; first | (refine isAl ?_; refine WPl.nw fun g6 => ?_) | (refine isBx ?_; refine WPl.nw fun g6 => ?_))
   | (refine isOp ?_; first | refine WPl.rd ?_ | refine WPl.sk ?_ | refine WPl.rdB ?_)
   | (refine isAl ?_; refine WPl.nw fun g => ?_)
   | (refine isBx ?_; refine WPl.nw fun g => ?_)
   | (refine isSt ?_; first | refine WPl.st1 ?_ | refine WPl.stA ?_ | refine WPl.stEB ?_ | refine WPl.stRB ?_)
   | (show WPl _ _ _ _ _ _ _ (⟨_, .indexAddr _ _ _, _, _, _, _⟩ :: _) _; refine WPl.rdX (ReadR.indexE rfl rfl hasA (by first | assumption | omega)) ?_)
   | (show WPl _ _ _ _ _ _ _ (⟨_, .fieldAddr _ _ _, _, _, _, _⟩ :: _) _; refine WPl.rdX (ReadR.fieldE rfl hasA (by first | assumption | omega)) ?_)
   | (show WPl _ _ _ _ _ _ _ (⟨_, .load _ _, _, _, _, _⟩ :: _) _; first | refine WPl.rdX (ReadR.loadE rfl hasA (by assumption)) ?_ | refine WPl.rdX (ReadR.loadES (by assumption) (by first | assumption | omega) rfl hasA) ?_)
   | (show WPl _ _ _ _ _ _ _ (⟨_, .slice _ _ _ _ _, _, _, _, _⟩ :: _) _; first | refine WPl.rdX (ReadR.sliceH rfl rfl hasA (by omega)) ?_ | refine WPl.rdX (ReadR.sliceL rfl rfl hasA (by omega)) ?_ | refine WPl.rdX (ReadR.sliceLH rfl rfl rfl hasA (by omega) (by omega)) ?_)
   | (refine WPl.spQ (fun hc => ?_) (fun hc => ?_) <;> try exact prA)
   | fail)
  refine ⟨?_⟩
  obtain ⟨pv, hpv2⟩ : ∃ pv, kyM.vc (mget kyM (jes L) k) = pv := ⟨_, rfl⟩
  obtain ⟨b1, hb1⟩ : ∃ b1, mhas (jes L) k = b1 := ⟨_, rfl⟩
  repeat' (first
   | (refine isSeqR 2 ?_; refine WPc.join (σ := PJ × List PJ × List PJ) (fun st => st.1.key = k ∧ ((L = st.2.1 ++ st.1 :: st.2.2) ∨ (L = st.2.1 ∧ st.2.2 = [] ∧ (∀ x ∈ L, x.key ≠ k) ∧ L.length < 64 ∧ st.1.ps = [] ∧ st.1.since = now)) ∧ st.1.ps.length ≤ 9998 ∧ ∀ o ∈ st.1.ps, o.fin ≤ 100000) (fun st => [bx gJ 45 (jbc m), mp kyM m (jes (st.2.1 ++ st.1 :: st.2.2)), gbag jrow (st.2.1 ++ st.1 :: st.2.2), ob p.v p.d, bx g5 55 (ptC p), bx g6 57 (kyC k)]) (fun st => [(0, hJ gJ), (5, .pointer (some ⟨g5, 0, none⟩)), (6, .pointer (some ⟨g6, 0, none⟩)), (10, hJ st.1.g)]) ?_ (fun st hx => ?_))
   | (refine isSeq1 2 ?_; refine Held.it ?_)
   | (refine isSeq1 7 ?_; refine Held.it ?_)
   | refine WPl.nil ?_ | refine WPq.then ?_ | refine WPq.thenR ?_ | refine WPq.thenE ?_ | refine WPq.blockN ?_ | refine WPq.blockR ?_ | refine WPq.blockE ?_ | refine WPq.blockO rfl ?_ | refine WPc.seq ?_ | refine WPc.block ?_ | refine WPc.ret ?_ | refine WPc.exit ?_ | refine WPc.skip ?_ | refine WPc.region ?_
   | (refine isReg 1 ?_; refine WPc.drA [([], [21]), ([0], [17, 21]), ([0, 1], [17, 18, 21]), ([0, 1, 2], [17, 18, 19, 21]), ([], [17, 18, 19, 20]), ([0, 1, 2, 3, 4], [17, 18, 19, 20, 21]), ([0, 1, 2, 3, 4, 5], [17, 18, 19, 20, 21, 22]), ([0, 1, 2, 3, 4, 5, 6], [16, 17, 18, 19, 20, 21, 22, 24]), ([0, 1, 2, 3, 4, 5, 6], [10, 16, 17, 18, 19, 20, 21, 22, 23]), ([0, 1, 2, 3, 4, 5, 6, 7], [16, 17, 18, 19, 20, 21, 22, 23, 24]), ([0, 1, 2, 3, 4, 5, 6, 7, 8, 9], [10, 16, 17, 18, 19, 20, 21, 22, 23, 24])] [] (Γx := []) ?_; dsimp only [prev0, List.length_nil, List.length_cons])
   | (refine gAny ?_; first | (refine gD 22 ?_; refine RGl.rdX (fun e hk => by (try dsimp only [bndR, ensR, oksR, fcutR, List.append_nil, List.nil_append, List.cons_append, List.append_assoc] at hk ⊢); exact ReadR.lookOk (M := kyM) (k := k) hkw rfl rfl memA hpv2 hb1) ?_) | (refine gOp ?_; first | refine RGl.rdA ?_ | refine RGl.rdX (fun e hk => by (try dsimp only [bndR, ensR, oksR, fcutR, List.append_nil, List.nil_append, List.cons_append, List.append_assoc] at hk ⊢); exact readB) ?_) | (refine RGl.fin (fun e hk => ?_); (try dsimp only [bndA, ensAR, oksA, List.append_nil, List.nil_append, List.cons_append, List.append_assoc] at hk ⊢); (repeat (obtain ⟨hk1, hk⟩ := hk))) | fail)
   | (refine isCond ?_; first | refine WPc.cT ?_ | refine WPc.cF ?_ | (refine WPc.cQ (fun hc => ?_) (fun hc => ?_) <;> try exact prA))
   | (refine isD 22 ?_; refine WPl.rdX (ReadR.lookOk (M := kyM) (k := k) hkw rfl rfl memA hpv2 hb1) ?_)
   | (refine isOp ?_; first | refine WPl.rd ?_ | refine WPl.sk ?_ | refine WPl.rdB ?_)
   | (refine isAl ?_; refine WPl.nw fun g => ?_)
   | (refine isBx ?_; refine WPl.nw fun g => ?_)
   | (refine isSt ?_; first | refine WPl.st1 ?_ | refine WPl.stA ?_ | refine WPl.stEB ?_ | refine WPl.stRB ?_)
   | (show WPl _ _ _ _ _ _ _ (⟨_, .indexAddr _ _ _, _, _, _, _⟩ :: _) _; refine WPl.rdX (ReadR.indexE rfl rfl hasA (by first | assumption | omega)) ?_)
   | (show WPl _ _ _ _ _ _ _ (⟨_, .fieldAddr _ _ _, _, _, _, _⟩ :: _) _; refine WPl.rdX (ReadR.fieldE rfl hasA (by first | assumption | omega)) ?_)
   | (show WPl _ _ _ _ _ _ _ (⟨_, .load _ _, _, _, _, _⟩ :: _) _; first | refine WPl.rdX (ReadR.loadE rfl hasA (by assumption)) ?_ | refine WPl.rdX (ReadR.loadES (by assumption) (by first | assumption | omega) rfl hasA) ?_)
   | (show WPl _ _ _ _ _ _ _ (⟨_, .slice _ _ _ _ _, _, _, _, _⟩ :: _) _; first | refine WPl.rdX (ReadR.sliceH rfl rfl hasA (by omega)) ?_ | refine WPl.rdX (ReadR.sliceL rfl rfl hasA (by omega)) ?_ | refine WPl.rdX (ReadR.sliceLH rfl rfl rfl hasA (by omega) (by omega)) ?_)
   | (refine WPl.spQ (fun hc => ?_) (fun hc => ?_) <;> try exact prA)
   | fail)
  · refine ⟨?_⟩
    by_cases hex : ∃ x ∈ L, x.key = k
    · obtain ⟨x0, hx0, rfl⟩ := hex
      obtain ⟨A, B, rfl⟩ := List.append_of_mem hx0
      obtain ⟨hget, hbm⟩ := jes_get (jes_mid hnd0)
      rw [hget] at hpv2
      rw [hbm] at hb1
      have hb1 : true = b1 := hb1
      have hpv2 : hJ x0.g = pv := hpv2
      subst hb1 hpv2
      repeat' (first
       | refine WPl.nil ?_ | refine WPq.then ?_ | refine WPq.thenR ?_ | refine WPq.thenE ?_ | refine WPq.blockN ?_ | refine WPq.blockR ?_ | refine WPq.blockE ?_ | refine WPq.blockO rfl ?_ | refine WPc.seq ?_ | refine WPc.block ?_ | refine WPc.ret ?_ | refine WPc.exit ?_ | refine WPc.skip ?_ | refine WPc.region ?_
       | (refine isCond ?_; first | refine WPc.cT ?_ | refine WPc.cF ?_ | (refine WPc.cQ (fun hc => ?_) (fun hc => ?_) <;> try first | exact prA | (exfalso; first | omega)))
       | (refine isOp ?_; first | refine WPl.rd ?_ | refine WPl.sk ?_ | refine WPl.rdB ?_)
       | (refine isAl ?_; refine WPl.nw fun g => ?_)
       | (refine isBx ?_; refine WPl.nw fun g => ?_)
       | (refine isSt ?_; first | refine WPl.st1 ?_ | refine WPl.stA ?_ | refine WPl.stEB ?_ | refine WPl.stRB ?_)
       | (show WPl _ _ _ _ _ _ _ (⟨_, .indexAddr _ _ _, _, _, _, _⟩ :: _) _; refine WPl.rdX (ReadR.indexE rfl rfl hasA (by first | assumption | omega)) ?_)
       | (show WPl _ _ _ _ _ _ _ (⟨_, .fieldAddr _ _ _, _, _, _, _⟩ :: _) _; refine WPl.rdX (ReadR.fieldE rfl hasA (by first | assumption | omega)) ?_)
       | (show WPl _ _ _ _ _ _ _ (⟨_, .load _ _, _, _, _, _⟩ :: _) _; first | refine WPl.rdX (ReadR.loadE rfl hasA (by assumption)) ?_ | refine WPl.rdX (ReadR.loadES (by assumption) (by first | assumption | omega) rfl hasA) ?_)
       | (show WPl _ _ _ _ _ _ _ (⟨_, .slice _ _ _ _ _, _, _, _, _⟩ :: _) _; first | refine WPl.rdX (ReadR.sliceH rfl rfl hasA (by omega)) ?_ | refine WPl.rdX (ReadR.sliceL rfl rfl hasA (by omega)) ?_ | refine WPl.rdX (ReadR.sliceLH rfl rfl rfl hasA (by omega) (by omega)) ?_)
       | (refine WPl.spQ (fun hc => ?_) (fun hc => ?_) <;> try first | exact prA | (exfalso; first | omega))
       | fail)
      exact WPq.join (x0, A, B) ⟨rfl, .inl rfl, hb x0 hx0⟩
    · have hno : ∀ x ∈ L, x.key ≠ k := fun x hx e => hex ⟨x, hx, e⟩
      obtain ⟨hget, hbm⟩ := jes_get (jes_no hno)
      rw [hbm] at hb1
      have hb1 : false = b1 := hb1
      subst hb1
      by_cases hf1 : 64 ≤ L.length
      · have hge : ((jes L).length : Int) ≥ 64 := by omega
        repeat' (first
         | refine WPl.nil ?_ | refine WPq.then ?_ | refine WPq.thenR ?_ | refine WPq.thenE ?_ | refine WPq.blockN ?_ | refine WPq.blockR ?_ | refine WPq.blockE ?_ | refine WPq.blockO rfl ?_ | refine WPc.seq ?_ | refine WPc.block ?_ | refine WPc.ret ?_ | refine WPc.exit ?_ | refine WPc.skip ?_ | refine WPc.region ?_
         | (refine isCond ?_; first | refine WPc.cT ?_ | refine WPc.cF ?_ | (refine WPc.cQ (fun hc => ?_) (fun hc => ?_) <;> try first | exact prA | (exfalso; first | omega)))
         | (refine isD 31 ?_; refine WPl.rdX (ReadR.mlen rfl memA) ?_)
         | (refine isD 32 ?_; refine WPl.rdX (ReadR.binE rfl rfl BinR.geq (congrArg Value.bool (decide_eq_true hge))) ?_)
         | (refine isOp ?_; first | refine WPl.rd ?_ | refine WPl.sk ?_ | refine WPl.rdB ?_)
         | (refine isAl ?_; refine WPl.nw fun g => ?_)
         | (refine isBx ?_; refine WPl.nw fun g => ?_)
         | (refine isSt ?_; first | refine WPl.st1 ?_ | refine WPl.stA ?_ | refine WPl.stEB ?_ | refine WPl.stRB ?_)
         | (show WPl _ _ _ _ _ _ _ (⟨_, .indexAddr _ _ _, _, _, _, _⟩ :: _) _; refine WPl.rdX (ReadR.indexE rfl rfl hasA (by first | assumption | omega)) ?_)
         | (show WPl _ _ _ _ _ _ _ (⟨_, .fieldAddr _ _ _, _, _, _, _⟩ :: _) _; refine WPl.rdX (ReadR.fieldE rfl hasA (by first | assumption | omega)) ?_)
         | (show WPl _ _ _ _ _ _ _ (⟨_, .load _ _, _, _, _, _⟩ :: _) _; first | refine WPl.rdX (ReadR.loadE rfl hasA (by assumption)) ?_ | refine WPl.rdX (ReadR.loadES (by assumption) (by first | assumption | omega) rfl hasA) ?_)
         | (show WPl _ _ _ _ _ _ _ (⟨_, .slice _ _ _ _ _, _, _, _, _⟩ :: _) _; first | refine WPl.rdX (ReadR.sliceH rfl rfl hasA (by omega)) ?_ | refine WPl.rdX (ReadR.sliceL rfl rfl hasA (by omega)) ?_ | refine WPl.rdX (ReadR.sliceLH rfl rfl rfl hasA (by omega) (by omega)) ?_)
         | (refine WPl.spQ (fun hc => ?_) (fun hc => ?_) <;> try first | exact prA | (exfalso; first | omega))
         | fail)
        exact WPq.dX (vs := [.slice none 0 0, .int .i64 2]) [bx gJ 45 (jbc m), mp kyM m (jes L), gbag jrow L] (.inl ⟨hf1, hno, rfl, rfl⟩) (ho := ownsJ)
      have hge : ¬ ((jes L).length : Int) ≥ 64 := by omega
      repeat' (first
       | refine WPl.nil ?_ | refine WPq.then ?_ | refine WPq.thenR ?_ | refine WPq.thenE ?_ | refine WPq.blockN ?_ | refine WPq.blockR ?_ | refine WPq.blockE ?_ | refine WPq.blockO rfl ?_ | refine WPc.seq ?_ | refine WPc.block ?_ | refine WPc.ret ?_ | refine WPc.exit ?_ | refine WPc.skip ?_ | refine WPc.region ?_
       | (refine isReg 6 ?_; refine WPc.drA [([7], [40, 41]), ([0, 7], [36, 40, 41]), ([0, 1, 7], [36, 37, 40, 41]), ([0, 1, 2, 7], [36, 37, 38, 40, 41]), ([7], [36, 37, 38, 39, 41]), ([7], [36, 37, 38, 39, 40]), ([0, 1, 2, 3, 4, 5, 7], [36, 37, 38, 39, 40, 41])] [(7, 6), (7, 0), (7, 1), (7, 2), (7, 3), (7, 4), (7, 5)] (Γx := [mp kyM m (jes L)]) (hox := ownsA) ?_; dsimp only [prev0, List.length_nil, List.length_cons])
       | (refine gAny ?_; first | (refine gOp ?_; refine RGl.turn (fun e hk => by (try dsimp only [bndR, ensR, oksR, fcutR, List.append_nil, List.nil_append, List.cons_append, List.append_assoc] at hk ⊢); exact OpT.mput (k := k) (v := some g35) (hkw) rfl rfl rfl takesA) ?_) | (refine gD 31 ?_; refine RGl.rdX (fun e hk => by (try dsimp only [bndR, ensR, oksR, fcutR, List.append_nil, List.nil_append, List.cons_append, List.append_assoc] at hk ⊢); exact ReadR.mlen rfl memA) ?_) | (refine gD 32 ?_; refine RGl.rdX (fun e hk => by (try dsimp only [bndR, ensR, oksR, fcutR, List.append_nil, List.nil_append, List.cons_append, List.append_assoc] at hk ⊢); exact ReadR.binE rfl rfl BinR.geq (congrArg Value.bool (decide_eq_false hge))) ?_) | (refine gD 34 ?_; refine RGl.rdX (fun e hk => by (try dsimp only [bndR, ensR, oksR, fcutR, List.append_nil, List.nil_append, List.cons_append, List.append_assoc] at hk ⊢); exact ReadR.build (cs' := [(1, [.slice none 0 0]), (1, [.int .u64 (now : Int)])]) buildA) ?_) | (refine gOp ?_; first | refine RGl.rdA ?_ | refine RGl.rdX (fun e hk => by (try dsimp only [bndR, ensR, oksR, fcutR, List.append_nil, List.nil_append, List.cons_append, List.append_assoc] at hk ⊢); exact readB) ?_) | (refine RGl.fin (fun e hk => ?_); (try dsimp only [bndA, ensAR, oksA, List.append_nil, List.nil_append, List.cons_append, List.append_assoc] at hk ⊢); (repeat (obtain ⟨hk1, hk⟩ := hk))) | fail)
       | (refine isCond ?_; first | refine WPc.cT ?_ | refine WPc.cF ?_ | (refine WPc.cQ (fun hc => ?_) (fun hc => ?_) <;> try first | exact prA | (exfalso; first | omega)))
       | (refine isD 31 ?_; refine WPl.rdX (ReadR.mlen rfl memA) ?_)
       | (refine isD 32 ?_; refine WPl.rdX (ReadR.binE rfl rfl BinR.geq (congrArg Value.bool (decide_eq_false hge))) ?_)
       | (refine isD 34 ?_; refine WPl.rdX (ReadR.build (cs' := [(1, [.slice none 0 0]), (1, [.int .u64 (now : Int)])]) buildA) ?_)
       | (refine isD 35 ?_; first | (refine isAl ?_; refine WPl.nw fun g35 => ?_) | (refine isBx ?_; refine WPl.nw fun g35 => ?_))
       | (refine WPl.mput (k) (some g35) (hkw) ?_)
       | (refine isOp ?_; first | refine WPl.rd ?_ | refine WPl.sk ?_ | refine WPl.rdB ?_)
       | (refine isAl ?_; refine WPl.nw fun g => ?_)
       | (refine isBx ?_; refine WPl.nw fun g => ?_)
       | (refine isSt ?_; first | refine WPl.st1 ?_ | refine WPl.stA ?_ | refine WPl.stEB ?_ | refine WPl.stRB ?_)
       | (show WPl _ _ _ _ _ _ _ (⟨_, .indexAddr _ _ _, _, _, _, _⟩ :: _) _; refine WPl.rdX (ReadR.indexE rfl rfl hasA (by first | assumption | omega)) ?_)
       | (show WPl _ _ _ _ _ _ _ (⟨_, .fieldAddr _ _ _, _, _, _, _⟩ :: _) _; refine WPl.rdX (ReadR.fieldE rfl hasA (by first | assumption | omega)) ?_)
       | (show WPl _ _ _ _ _ _ _ (⟨_, .load _ _, _, _, _, _⟩ :: _) _; first | refine WPl.rdX (ReadR.loadE rfl hasA (by assumption)) ?_ | refine WPl.rdX (ReadR.loadES (by assumption) (by first | assumption | omega) rfl hasA) ?_)
       | (show WPl _ _ _ _ _ _ _ (⟨_, .slice _ _ _ _ _, _, _, _, _⟩ :: _) _; first | refine WPl.rdX (ReadR.sliceH rfl rfl hasA (by omega)) ?_ | refine WPl.rdX (ReadR.sliceL rfl rfl hasA (by omega)) ?_ | refine WPl.rdX (ReadR.sliceLH rfl rfl rfl hasA (by omega) (by omega)) ?_)
       | (refine WPl.spQ (fun hc => ?_) (fun hc => ?_) <;> try first | exact prA | (exfalso; first | omega))
       | fail)
      have hpt : mput (jes L) k (some g35) = jes (L ++ [⟨g35, .slice none 0 0, [], now, k⟩]) := jes_put (x := ⟨g35, .slice none 0 0, [], now, k⟩) hno
      rw [hpt]
      refine WPq.gbagI (row := jrow) (es := L ++ [⟨g35, .slice none 0 0, [], now, k⟩]) (es' := L) (x := ⟨g35, .slice none 0 0, [], now, k⟩) jrow_own List.perm_append_comm (by show Takes _ [gbag jrow L, bx g35 77 [(1, [.slice none 0 0]), (1, [.int .u64 (now : Int)])], rowN 55 42 (.slice none 0 0) 0 (pts []), gbag drow []] _; rw [ez]; exact takesA) ?_
      exact WPq.join (⟨g35, .slice none 0 0, [], now, k⟩, L, []) ⟨rfl, .inr ⟨rfl, rfl, hno, by omega, rfl, rfl⟩, Nat.zero_le _, fun o ho => by cases ho⟩
  refine ⟨?_⟩
  obtain ⟨x0, A, B⟩ := st
  obtain ⟨hxk, hor, hxl, hxf⟩ := hx
  dsimp only at hxk hor hxl hxf ⊢
  refine WPc.mkeys (M := kyM) (m := m) (l := jes (A ++ x0 :: B)) memA fun hnd _ => ?_
  refine WPc.gbagO (row := jrow) (es := A ++ x0 :: B) (es' := A ++ B) (x := x0) jrow_own List.perm_middle ?_
  rw [show jrow x0 = [bx x0.g 77 (pjC x0), rowN 55 42 x0.vP x0.ps.length (pts x0.ps), gbag drow x0.ps] from rfl]
  dsimp only [List.cons_append, List.nil_append]
  subst hxk
  have hdel := jes_del hnd
  have c44 := pagainst_t x0 p hp hxf (by omega)
  by_cases he : againstP x0.ps p = 0
  · rw [he] at c44
    repeat' (first
     | (refine isSeq1 12 ?_; refine Held.it ?_)
     | refine WPl.nil ?_ | refine WPq.then ?_ | refine WPq.thenR ?_ | refine WPq.thenE ?_ | refine WPq.blockN ?_ | refine WPq.blockR ?_ | refine WPq.blockE ?_ | refine WPq.blockO rfl ?_ | refine WPc.seq ?_ | refine WPc.block ?_ | refine WPc.ret ?_ | refine WPc.exit ?_ | refine WPc.skip ?_ | refine WPc.region ?_
     | (refine isReg 11 ?_; refine WPc.drA [([11, 12], [54, 55, 56, 57, 58, 59, 60]), ([11, 12], [53, 58, 59]), ([1, 11, 12], [53, 54, 58, 59]), ([1, 2, 11, 12], [53, 54, 55, 58, 59]), ([1, 2, 3, 11, 12], [53, 54, 55, 56, 58, 59]), ([11, 12], [53, 54, 55, 56, 57]), ([5, 11, 12], [53, 54, 55, 56, 57, 58]), ([1, 2, 3, 4, 5, 6, 11, 12], [53, 54, 55, 56, 57, 58, 59]), ([0, 1, 2, 3, 4, 5, 6, 7, 11, 12], [53, 54, 55, 56, 57, 58, 59, 60]), ([0, 1, 2, 3, 4, 5, 6, 7, 8, 11, 12], [53, 54, 55, 56, 57, 58, 59, 60, 61]), ([0, 1, 2, 3, 4, 5, 6, 7, 8, 9, 11, 12], [53, 54, 55, 56, 57, 58, 59, 60, 61, 62])] [(12, 7), (11, 10), (12, 1), (12, 2), (12, 3), (12, 4), (12, 5), (12, 6), (11, 0), (11, 1), (11, 2), (11, 3), (11, 4), (11, 5), (11, 6), (11, 7), (11, 8), (11, 9)] (Γx := [bx x0.g 77 (pjC x0), rowN 55 42 x0.vP x0.ps.length (pts x0.ps)]) ?_; dsimp only [prev0, List.length_nil, List.length_cons])
     | (refine gAny ?_; first | (refine gD 59 ?_; refine RGl.row (Γ1 := fun _ => []) (fun e hk => by (try dsimp only [bndR, ensR, oksR, fcutR, List.append_nil, List.nil_append, List.cons_append, List.append_assoc] at hk ⊢); exact OpT.buildS1 (ds := ptC p) rfl hfp (by first | assumption | rfl) rfl) ?_) | (refine gD 60 ?_; refine RGl.row (Γ1 := fun e => [rowN 55 42 x0.vP x0.ps.length (pts x0.ps)]) (m := fun e => x0.ps.length + 1) (xs := fun e => pts x0.ps ++ flat (ptC p)) (fun e hk => by (try dsimp only [bndR, ensR, oksR, fcutR, List.append_nil, List.nil_append, List.cons_append, List.append_assoc] at hk ⊢); exact OpT.appendN (m := x0.ps.length) (m2 := 1) (xs := pts x0.ps) (ys := flat (ptC p)) rfl rfl takesA (hasA) (by rw [ptC_len]) hfp.one (by omega)) ?_) | (refine gSt ?_; refine RGl.turn (fun e hk => by (try dsimp only [bndR, ensR, oksR, fcutR, List.append_nil, List.nil_append, List.cons_append, List.append_assoc] at hk ⊢); exact OpT.store1 rfl rfl takesA (by (repeat (obtain ⟨hk1, hk⟩ := hk)) <;> assumption) (by dsimp only [sel, takeCh, upd, dropCh, appCh, setAt, chAt, Option.map_some, List.cons_append, List.nil_append, Nat.reduceSub, Nat.reduceAdd] <;> exact rfl)) ?_) | (refine gD 46 ?_; refine RGl.rdX (fun e hk => by (try dsimp only [bndR, ensR, oksR, fcutR, List.append_nil, List.nil_append, List.cons_append, List.append_assoc] at hk ⊢); exact ReadR.binE rfl rfl BinR.neq (congrArg (fun q => Value.bool (!q)) (decide_eq_true (rfl : (0 : Int) = 0)))) ?_) | (refine gOp ?_; first | refine RGl.rdA ?_ | refine RGl.rdX (fun e hk => by (try dsimp only [bndR, ensR, oksR, fcutR, List.append_nil, List.nil_append, List.cons_append, List.append_assoc] at hk ⊢); exact readB) ?_) | (refine gLit ?_; refine RGl.litA ?_) | (refine gApp ?_; refine RGl.appA ?_) | (refine gSt ?_; refine RGl.stA ?_) | (refine RGl.fin (fun e hk => ?_); (try dsimp only [bndA, ensAR, oksA, List.append_nil, List.nil_append, List.cons_append, List.append_assoc] at hk ⊢); (repeat (obtain ⟨hk1, hk⟩ := hk))) | fail)
     | (refine isCond ?_; first | refine WPc.cT ?_ | refine WPc.cF ?_ | (refine WPc.cQ (fun hc => ?_) (fun hc => ?_) <;> try first | exact prA | (exfalso; first | omega)))
     | (refine isC 44 ?_; refine WPl.cV c44 ?_ (hΔ := provsX))
     | (refine isD 46 ?_; refine WPl.rdX (ReadR.binE rfl rfl BinR.neq (congrArg (fun q => Value.bool (!q)) (decide_eq_true (rfl : (0 : Int) = 0)))) ?_)
     | (refine isOp ?_; first | refine WPl.rd ?_ | refine WPl.sk ?_ | refine WPl.rdB ?_)
     | (refine isAl ?_; refine WPl.nw fun g => ?_)
     | (refine isBx ?_; refine WPl.nw fun g => ?_)
     | (refine isSt ?_; first | refine WPl.st1 ?_ | refine WPl.stA ?_ | refine WPl.stEB ?_ | refine WPl.stRB ?_)
     | (show WPl _ _ _ _ _ _ _ (⟨_, .indexAddr _ _ _, _, _, _, _⟩ :: _) _; refine WPl.rdX (ReadR.indexE rfl rfl hasA (by first | assumption | omega)) ?_)
     | (show WPl _ _ _ _ _ _ _ (⟨_, .fieldAddr _ _ _, _, _, _, _⟩ :: _) _; refine WPl.rdX (ReadR.fieldE rfl hasA (by first | assumption | omega)) ?_)
     | (show WPl _ _ _ _ _ _ _ (⟨_, .load _ _, _, _, _, _⟩ :: _) _; first | refine WPl.rdX (ReadR.loadE rfl hasA (by assumption)) ?_ | refine WPl.rdX (ReadR.loadES (by assumption) (by first | assumption | omega) rfl hasA) ?_)
     | (show WPl _ _ _ _ _ _ _ (⟨_, .slice _ _ _ _ _, _, _, _, _⟩ :: _) _; first | refine WPl.rdX (ReadR.sliceH rfl rfl hasA (by omega)) ?_ | refine WPl.rdX (ReadR.sliceL rfl rfl hasA (by omega)) ?_ | refine WPl.rdX (ReadR.sliceLH rfl rfl rfl hasA (by omega) (by omega)) ?_)
     | (refine WPl.spQ (fun hc => ?_) (fun hc => ?_) <;> try first | exact prA | (exfalso; first | omega))
     | fail)
    refine ⟨?_⟩
    have h7 : (e 7).1.oneCell' = true := by assumption
    obtain ⟨v60, hv60⟩ : ∃ v60, v60 = (e 7).1 := ⟨_, rfl⟩
    dsimp only [Nat.reduceAdd]
    rw [← hv60] at h7 ⊢
    clear hv60
    have hrow : rowN 55 42 v60 (x0.ps.length + 1) (pts x0.ps ++ flat (ptC p)) = rowN 55 42 v60 (x0.ps ++ [p]).length (pts (x0.ps ++ [p])) := by
      rw [pts_app, pts_one, List.length_append]; rfl
    rw [hrow]
    refine WPc.gbagI (row := drow) (es := x0.ps ++ [p]) (es' := x0.ps) (x := p) drow_own List.perm_append_comm (show Takes _ [gbag drow x0.ps, ob p.v p.d] _ from takesA) ?_
    have hfx : ∀ o ∈ x0.ps ++ [p], o.fin ≤ 100000 := fun o ho => by
      rcases List.mem_append.1 ho with ho | ho
      · exact hxf o ho
      · rw [List.mem_singleton.1 ho]; exact hp
    have hlx : (x0.ps ++ [p]).length ≤ 10000 := by rw [List.length_append]; simp; omega
    have c65 := pwhole_t ⟨x0.g, v60, x0.ps ++ [p], x0.since, x0.key⟩ hfx hlx
    have hdl2 : ∀ ps' : List Pt, ps'.Perm (x0.ps ++ [p]) → (dataP ps').length ≤ 1000000000 := fun ps' hpm => by
      have := dataP_len (l := ps') fun o ho => hfx o (hpm.mem_iff.1 ho)
      have h2 := hpm.length_eq
      omega
    repeat' (first
     | refine WPl.nil ?_ | refine WPq.then ?_ | refine WPq.thenR ?_ | refine WPq.thenE ?_ | refine WPq.blockN ?_ | refine WPq.blockR ?_ | refine WPq.blockE ?_ | refine WPq.blockO rfl ?_ | refine WPc.seq ?_ | refine WPc.block ?_ | refine WPc.ret ?_ | refine WPc.exit ?_ | refine WPc.skip ?_ | refine WPc.region ?_
     | (refine isReg 15 ?_; refine WPc.drA [([6], [74]), ([0, 6], [70, 74]), ([0, 1, 6], [70, 71, 74]), ([0, 1, 2, 6], [70, 71, 72, 74]), ([6], [70, 71, 72, 73]), ([0, 1, 2, 3, 4, 6], [70, 71, 72, 73, 74])] [(6, 5), (6, 0), (6, 1), (6, 2), (6, 3), (6, 4)] (Γx := [mp kyM m (jes (A ++ x0 :: B))]) (hox := ownsA) ?_; dsimp only [prev0, List.length_nil, List.length_cons])
     | (refine gAny ?_; first | (refine gOp ?_; refine RGl.turn (fun e hk => by (try dsimp only [bndR, ensR, oksR, fcutR, List.append_nil, List.nil_append, List.cons_append, List.append_assoc] at hk ⊢); exact OpT.mdel (k := x0.key) (hkw) rfl rfl takesA) ?_) | (refine gC 85 ?_; refine RGl.row2 (fun e hk => OpT.callN ((c85 (hwl hwb)))) ?_) | (refine gD 79 ?_; refine RGl.rdX (fun e hk => by (try dsimp only [bndR, ensR, oksR, fcutR, List.append_nil, List.nil_append, List.cons_append, List.append_assoc] at hk ⊢); exact ReadR.indexE (i := 0) rfl rfl hasA h0l) ?_) | (refine gD 80 ?_; refine RGl.rdX (fun e hk => by (try dsimp only [bndR, ensR, oksR, fcutR, List.append_nil, List.nil_append, List.cons_append, List.append_assoc] at hk ⊢); exact ReadR.fieldE rfl hasA (by omega)) ?_) | (refine gD 81 ?_; refine RGl.rdX (fun e hk => by (try dsimp only [bndR, ensR, oksR, fcutR, List.append_nil, List.nil_append, List.cons_append, List.append_assoc] at hk ⊢); exact ReadR.loadES (cs := hdc p0.h) hh0 (by omega) rfl hasA) ?_) | (refine gOp ?_; first | refine RGl.rdA ?_ | refine RGl.rdX (fun e hk => by (try dsimp only [bndR, ensR, oksR, fcutR, List.append_nil, List.nil_append, List.cons_append, List.append_assoc] at hk ⊢); exact readB) ?_) | (refine RGl.fin (fun e hk => ?_); (try dsimp only [bndA, ensAR, oksA, List.append_nil, List.nil_append, List.cons_append, List.append_assoc] at hk ⊢); (repeat (obtain ⟨hk1, hk⟩ := hk))) | fail)
     | (refine isCond ?_; first | refine WPc.cT ?_ | refine WPc.cF ?_ | (refine WPc.cQ (fun hc => ?_) (fun hc => ?_) <;> try first | exact prA | (exfalso; first | omega)))
     | (refine isC 65 ?_; refine WPl.callO c65 evsA takesA (Provs.cons (Prov.prd memA) Provs.nil) (fpPrd memA) (by kernel_rfl) rfl rfl (fun v65 Γ1 hR => ?_); obtain ⟨ps', vo, hperm, hsort, hvo, rfl, rfl⟩ := hR; have hperm : ps'.Perm (x0.ps ++ [p]) := hperm; obtain ⟨p0, hp0⟩ : ∃ p0, ps'[0]? = some p0 := ⟨_, List.getElem?_eq_getElem (by rw [hperm.length_eq, List.length_append]; simp)⟩; have hh0 := pts_hd hp0; have hf0 := hdc_ok p0.h; have k1 := p0.h.src.len; have k2 := p0.h.dst.len; have hpl := pts_len (l := ps'); have h0l : 0 < ps'.length := (List.getElem?_eq_some_iff.1 hp0).1; have c85 := fwrite_t (noPart p0.h) vo (dataP ps'); have hwl : wholeB ps' = true → (dataP ps').length ≤ 100000 := fun hw => whole_len hw h0l fun o ho => hfx o (hperm.mem_iff.1 ho); cases hwb : wholeB ps' <;> simp only [Bool.false_eq_true, if_false, if_true, List.cons_append, List.nil_append, putF])
     | (refine WPl.mdel (x0.key) (hkw) ?_)
     | (refine isD 79 ?_; refine WPl.rdX (ReadR.indexE (i := 0) rfl rfl hasA h0l) ?_)
     | (refine isD 80 ?_; refine WPl.rdX (ReadR.fieldE rfl hasA (by omega)) ?_)
     | (refine isD 81 ?_; refine WPl.rdX (ReadR.loadES (cs := hdc p0.h) hh0 (by omega) rfl hasA) ?_)
     | (refine isD 15 ?_; first | (refine isAl ?_; refine WPl.nw fun g15 => ?_) | (refine isBx ?_; refine WPl.nw fun g15 => ?_))
     | (show WPl _ _ _ _ _ _ _ (⟨_, .store _ (.tmp 15) _, _, _, _, _⟩ :: _) _; refine WPl.stA (new := hdc p0.h) ?_ (hn := hf0))
     | (refine isC 85 ?_; refine WPl.cR2 ((c85 (hwl hwb))) fun v85 hv85 => ?_)
     | (refine isOp ?_; first | refine WPl.rd ?_ | refine WPl.sk ?_ | refine WPl.rdB ?_)
     | (refine isAl ?_; refine WPl.nw fun g => ?_)
     | (refine isBx ?_; refine WPl.nw fun g => ?_)
     | (refine isSt ?_; first | refine WPl.st1 ?_ | refine WPl.stA ?_ | refine WPl.stEB ?_ | refine WPl.stRB ?_)
     | (show WPl _ _ _ _ _ _ _ (⟨_, .indexAddr _ _ _, _, _, _, _⟩ :: _) _; refine WPl.rdX (ReadR.indexE rfl rfl hasA (by first | assumption | omega)) ?_)
     | (show WPl _ _ _ _ _ _ _ (⟨_, .fieldAddr _ _ _, _, _, _, _⟩ :: _) _; refine WPl.rdX (ReadR.fieldE rfl hasA (by first | assumption | omega)) ?_)
     | (show WPl _ _ _ _ _ _ _ (⟨_, .load _ _, _, _, _, _⟩ :: _) _; first | refine WPl.rdX (ReadR.loadE rfl hasA (by assumption)) ?_ | refine WPl.rdX (ReadR.loadES (by assumption) (by first | assumption | omega) rfl hasA) ?_)
     | (show WPl _ _ _ _ _ _ _ (⟨_, .slice _ _ _ _ _, _, _, _, _⟩ :: _) _; first | refine WPl.rdX (ReadR.sliceH rfl rfl hasA (by omega)) ?_ | refine WPl.rdX (ReadR.sliceL rfl rfl hasA (by omega)) ?_ | refine WPl.rdX (ReadR.sliceLH rfl rfl rfl hasA (by omega) (by omega)) ?_)
     | (refine WPl.spQ (fun hc => ?_) (fun hc => ?_) <;> try first | exact prA | (exfalso; first | omega))
     | fail)
    · refine WPq.gbagP (row := drow) (es := x0.ps ++ [p]) ps' drow_own hperm.symm ?_
      refine WPq.gbagI (row := jrow) (es := A ++ ⟨x0.g, v60, ps', x0.since, x0.key⟩ :: B) (es' := A ++ B) (x := ⟨x0.g, v60, ps', x0.since, x0.key⟩) jrow_own List.perm_middle (show Takes _ [gbag jrow (A ++ B), bx x0.g 77 (pjC ⟨x0.g, v60, ps', x0.since, x0.key⟩), rowN 55 42 v60 ps'.length (pts ps'), gbag drow ps'] _ from takesA) ?_
      rw [show jes (A ++ x0 :: B) = jes (A ++ ⟨x0.g, v60, ps', x0.since, x0.key⟩ :: B) from (jes_turn (A := A) (B := B) (x := x0) (y := ⟨x0.g, v60, ps', x0.since, x0.key⟩) rfl rfl).symm]
      exact WPq.dX (vs := [.slice none 0 0, .int .i64 0]) [bx gJ 45 (jbc m), mp kyM m (jes (A ++ ⟨x0.g, v60, ps', x0.since, x0.key⟩ :: B)), gbag jrow (A ++ ⟨x0.g, v60, ps', x0.since, x0.key⟩ :: B)] (.inr ⟨x0, A, B, rfl, hor, .inr ⟨he, ps', hperm, hsort, .inl ⟨hwb, v60, h7, rfl, rfl⟩⟩⟩) (ho := ownsJ)
    · rw [hdel]
      exact WPq.dX (vs := [v85, .int .i64 (fwerr (noPart p0.h) (dataP ps').length)]) [bx gJ 45 (jbc m), mp kyM m (jes (A ++ B)), gbag jrow (A ++ B), ob v85 (fwL (noPart p0.h) (dataP ps'))] (.inr ⟨x0, A, B, rfl, hor, .inr ⟨he, ps', hperm, hsort, .inr ⟨hwb, p0, v85, hp0, hv85, rfl, rfl⟩⟩⟩) (ho := ownsJ)
  · skip
    repeat' (first
     | refine WPl.nil ?_ | refine WPq.then ?_ | refine WPq.thenR ?_ | refine WPq.thenE ?_ | refine WPq.blockN ?_ | refine WPq.blockR ?_ | refine WPq.blockE ?_ | refine WPq.blockO rfl ?_ | refine WPc.seq ?_ | refine WPc.block ?_ | refine WPc.ret ?_ | refine WPc.exit ?_ | refine WPc.skip ?_ | refine WPc.region ?_
     | (refine isReg 9 ?_; refine WPc.drA [([6], [51]), ([0, 6], [47, 51]), ([0, 1, 6], [47, 48, 51]), ([0, 1, 2, 6], [47, 48, 49, 51]), ([6], [47, 48, 49, 50]), ([0, 1, 2, 3, 4, 6], [47, 48, 49, 50, 51])] [(6, 5), (6, 0), (6, 1), (6, 2), (6, 3), (6, 4)] (Γx := [mp kyM m (jes (A ++ x0 :: B))]) (hox := ownsA) ?_; dsimp only [prev0, List.length_nil, List.length_cons])
     | (refine gAny ?_; first | (refine gOp ?_; refine RGl.turn (fun e hk => by (try dsimp only [bndR, ensR, oksR, fcutR, List.append_nil, List.nil_append, List.cons_append, List.append_assoc] at hk ⊢); exact OpT.mdel (k := x0.key) (hkw) rfl rfl takesA) ?_) | (refine gD 46 ?_; refine RGl.rdX (fun e hk => by (try dsimp only [bndR, ensR, oksR, fcutR, List.append_nil, List.nil_append, List.cons_append, List.append_assoc] at hk ⊢); exact ReadR.binE rfl rfl BinR.neq (congrArg (fun q => Value.bool (!q)) (decide_eq_false he))) ?_) | (refine gOp ?_; first | refine RGl.rdA ?_ | refine RGl.rdX (fun e hk => by (try dsimp only [bndR, ensR, oksR, fcutR, List.append_nil, List.nil_append, List.cons_append, List.append_assoc] at hk ⊢); exact readB) ?_) | (refine RGl.fin (fun e hk => ?_); (try dsimp only [bndA, ensAR, oksA, List.append_nil, List.nil_append, List.cons_append, List.append_assoc] at hk ⊢); (repeat (obtain ⟨hk1, hk⟩ := hk))) | fail)
     | (refine isCond ?_; first | refine WPc.cT ?_ | refine WPc.cF ?_ | (refine WPc.cQ (fun hc => ?_) (fun hc => ?_) <;> try first | exact prA | (exfalso; first | omega)))
     | (refine isC 44 ?_; refine WPl.cV c44 ?_ (hΔ := provsX))
     | (refine isD 46 ?_; refine WPl.rdX (ReadR.binE rfl rfl BinR.neq (congrArg (fun q => Value.bool (!q)) (decide_eq_false he))) ?_)
     | (refine WPl.mdel (x0.key) (hkw) ?_)
     | (refine isOp ?_; first | refine WPl.rd ?_ | refine WPl.sk ?_ | refine WPl.rdB ?_)
     | (refine isAl ?_; refine WPl.nw fun g => ?_)
     | (refine isBx ?_; refine WPl.nw fun g => ?_)
     | (refine isSt ?_; first | refine WPl.st1 ?_ | refine WPl.stA ?_ | refine WPl.stEB ?_ | refine WPl.stRB ?_)
     | (show WPl _ _ _ _ _ _ _ (⟨_, .indexAddr _ _ _, _, _, _, _⟩ :: _) _; refine WPl.rdX (ReadR.indexE rfl rfl hasA (by first | assumption | omega)) ?_)
     | (show WPl _ _ _ _ _ _ _ (⟨_, .fieldAddr _ _ _, _, _, _, _⟩ :: _) _; refine WPl.rdX (ReadR.fieldE rfl hasA (by first | assumption | omega)) ?_)
     | (show WPl _ _ _ _ _ _ _ (⟨_, .load _ _, _, _, _, _⟩ :: _) _; first | refine WPl.rdX (ReadR.loadE rfl hasA (by assumption)) ?_ | refine WPl.rdX (ReadR.loadES (by assumption) (by first | assumption | omega) rfl hasA) ?_)
     | (show WPl _ _ _ _ _ _ _ (⟨_, .slice _ _ _ _ _, _, _, _, _⟩ :: _) _; first | refine WPl.rdX (ReadR.sliceH rfl rfl hasA (by omega)) ?_ | refine WPl.rdX (ReadR.sliceL rfl rfl hasA (by omega)) ?_ | refine WPl.rdX (ReadR.sliceLH rfl rfl rfl hasA (by omega) (by omega)) ?_)
     | (refine WPl.spQ (fun hc => ?_) (fun hc => ?_) <;> try first | exact prA | (exfalso; first | omega))
     | fail)
    rw [hdel]
    exact WPq.dX (vs := [.slice none 0 0, .int .i64 (againstP x0.ps p)]) [bx gJ 45 (jbc m), mp kyM m (jes (A ++ B)), gbag jrow (A ++ B)] (.inr ⟨x0, A, B, rfl, hor, .inl ⟨he, rfl, rfl⟩⟩) (ho := ownsJ)
end
end Go.Proofs.Ytmdihpanaljkfaa
/- Layer 35 (parts): a packet comes: contracts. -/
namespace Go.Proofs.Ytmdihpanaljkfaa
set_option linter.unusedVariables false
set_option linter.unusedSimpArgs false
abbrev liveJ (L : List PJ) (now : Nat) : List PJ := L.filter fun x => !deadB now x
def RAddA (gJ m : Nat) (L : List PJ) (b : List UInt8) (now : Nat) : Value → List Asn → Prop := fun v Γ =>
  (ferr b ≠ 0 ∧ v = .tuple #[.slice none 0 0, .int .i64 (ferr b)] ∧ Γ = [bx gJ 45 (jbc m), mp kyM m (jes L), gbag jrow L]) ∨
  (ferr b = 0 ∧ (fhead b).part = false ∧ ∃ s : Value, s.oneCell' = true ∧ v = .tuple #[s, .int .i64 0] ∧ Γ = [bx gJ 45 (jbc m), mp kyM m (jes L), gbag jrow L, ob s b]) ∨
  (ferr b = 0 ∧ (fhead b).part = true ∧ ∃ a c, (aloneP (ptOf (fhead b) (ihl b) b a c) ≠ 0 ∧ v = .tuple #[.slice none 0 0, .int .i64 (aloneP (ptOf (fhead b) (ihl b) b a c))] ∧ Γ = [bx gJ 45 (jbc m), mp kyM m (jes L), gbag jrow L]) ∨
    (aloneP (ptOf (fhead b) (ihl b) b a c) = 0 ∧ RAddJ gJ m (liveJ L now) (keyB35 (fhead b) b) (ptOf (fhead b) (ihl b) b a c) now v Γ))
open Go.RowKit
set_option linter.unusedSimpArgs false
set_option linter.unusedVariables false
set_option maxRecDepth 20000
set_option maxHeartbeats 4000000
attribute [local irreducible] WPc WPl WPq ReadR OpT BinR HasS bx rdN rowN Take Takes Prov Triple ResF BuildP Done ag Int.decLt Int.decLe Int.instDecidableEq
attribute [local irreducible] mp rmp rg rgo mput mget mfind mdel gbag jes pts Pt.v Pt.fin Pt.wf overB badB wholeB okAt dataP prd againstP fwL fwerr ferr fhead aloneP ihl ptOf keyB35 lastW
section
variable (gJ m : Nat) (L : List PJ) (now : Nat) (hn : now ≤ 18446744073709551615) (hs : ∀ x ∈ L, x.since ≤ 18446744073709551615) (hb : ∀ x ∈ L, x.ps.length ≤ 9998 ∧ ∀ o ∈ x.ps, o.fin ≤ 100000) (hLl : L.length ≤ 1000000) (v : Value) (b : List UInt8) (hl : b.length ≤ 100000)
include hn hs hb hLl hl
theorem pAdd_t : Triple Try.prog 7 #[hJ gJ, v, .int .u64 (now : Int)] ([rb v b] ++ jmA gJ m L) (RAddA gJ m L b now) := by
  have c17 := fread_t v b (by omega)
  have c27 := clone_t v b (by omega)
  have w1 := (fhead b).src.len
  have w2 := (fhead b).dst.len
  show Triple _ _ _ [rb v b, bx gJ 45 (jbc m), mp kyM m (jes L), gbag jrow L] _
  by_cases he : ferr b = 0
  · have hfv : fVal b = .tuple #[ag (hdc (fhead b)), .int .i64 0] := by with_unfolding_all (unfold fVal fread; rw [if_pos he, he])
    rw [hfv] at c17
    have hz := ferr_zero he
    obtain ⟨z1, z2, z3, z4, z5, z6, z7, z8, z9⟩ := hz
    have hpos : (fhead b).pos = (ihl b : Int) := by with_unfolding_all rfl
    have c31 := pread_t (fhead b) (ihl b) hpos v b z2 hl z5
    cases hpart : (fhead b).part with
    | false =>
      have eh : hdc (fhead b) = [(1, [.bool (fhead b).six]), (1, [.int .u8 (((fhead b).proto.toNat : Nat) : Int)]), (1, [.int .i64 (fhead b).pos]), (1, [.bool (fhead b).src.six]), (16, u8s (fhead b).src.b), (1, [.bool (fhead b).dst.six]), (16, u8s (fhead b).dst.b), (1, [.bool false]), (1, [.int .u8 (((fhead b).hops.toNat : Nat) : Int)])] := by
        show [_, _, _, _, _, _, _, (1, [Value.bool (fhead b).part]), _] = _
        rw [hpart]
      have hok := hdc_ok (fhead b)
      rw [eh] at c17 hok
      refine Triple.enter Try.func7 rfl Try.ntmps7 rfl (fun W => ?_)
      dsimp only [argsF, Nat.reduceAdd]
      repeat' (first
       | refine WPl.nil ?_ | refine WPq.then ?_ | refine WPq.thenR ?_ | refine WPq.thenE ?_ | refine WPq.blockN ?_ | refine WPq.blockR ?_ | refine WPq.blockE ?_ | refine WPq.blockO rfl ?_ | refine WPc.seq ?_ | refine WPc.block ?_ | refine WPc.ret ?_ | refine WPc.exit ?_ | refine WPc.skip ?_ | refine WPc.region ?_
       | (refine isCond ?_; first | refine WPc.cT ?_ | refine WPc.cF ?_ | (refine WPc.cQ (fun hc => ?_) (fun hc => ?_) <;> try exact prA))
       | (refine isD 14 ?_; refine WPl.rdX (readP) ?_)
       | (refine isC 17 ?_; refine WPl.cV (c17) ?_)
       | (refine isD 8 ?_; first | (refine isAl ?_; refine WPl.nw fun g8 => ?_) | (refine isBx ?_; refine WPl.nw fun g8 => ?_))
       | (show WPl _ _ _ _ _ _ _ (⟨_, .store _ (.tmp 8) _, _, _, _, _⟩ :: _) _; refine WPl.stA ?_ (hn := hok))
       | (refine isD 21 ?_; refine WPl.rdX (ReadR.binE rfl rfl BinR.neq (congrArg (fun q => Value.bool (!q)) (decide_eq_true (rfl : (0 : Int) = 0)))) ?_)
       | (refine isC 27 ?_; refine WPl.cR (c27) fun v27 hv27 => ?_)
       | (refine isOp ?_; first | refine WPl.rd ?_ | refine WPl.sk ?_ | refine WPl.rdB ?_)
       | (refine isAl ?_; refine WPl.nw fun g => ?_)
       | (refine isSt ?_; first | refine WPl.st1 ?_ | refine WPl.stA ?_ | refine WPl.stEB ?_ | refine WPl.stRB ?_)
       | (show WPl _ _ _ _ _ _ _ (⟨_, .indexAddr _ _ _, _, _, _, _⟩ :: _) _; refine WPl.rdX (ReadR.indexE rfl rfl hasA (by first | assumption | omega)) ?_)
       | (show WPl _ _ _ _ _ _ _ (⟨_, .fieldAddr _ _ _, _, _, _, _⟩ :: _) _; refine WPl.rdX (ReadR.fieldE rfl hasA (by first | assumption | omega)) ?_)
       | (show WPl _ _ _ _ _ _ _ (⟨_, .load _ _, _, _, _, _⟩ :: _) _; first | refine WPl.rdX (ReadR.loadE rfl hasA (by assumption)) ?_ | refine WPl.rdX (ReadR.loadES (by assumption) (by first | assumption | omega) rfl hasA) ?_)
       | (show WPl _ _ _ _ _ _ _ (⟨_, .slice _ _ _ _ _, _, _, _, _⟩ :: _) _; first | refine WPl.rdX (ReadR.sliceH rfl rfl hasA (by omega)) ?_ | refine WPl.rdX (ReadR.sliceL rfl rfl hasA (by omega)) ?_ | refine WPl.rdX (ReadR.sliceLH rfl rfl rfl hasA (by omega) (by omega)) ?_)
       | (refine WPl.spQ (fun hc => ?_) (fun hc => ?_) <;> try exact prA)
       | fail)
      exact WPq.dX (vs := [v27, .int .i64 0]) [bx gJ 45 (jbc m), mp kyM m (jes L), gbag jrow L, ob v27 b] (.inr (.inl ⟨he, hpart, v27, hv27, rfl, rfl⟩)) (ho := ownsJ)
    | true =>
      have eh : hdc (fhead b) = [(1, [.bool (fhead b).six]), (1, [.int .u8 (((fhead b).proto.toNat : Nat) : Int)]), (1, [.int .i64 (fhead b).pos]), (1, [.bool (fhead b).src.six]), (16, u8s (fhead b).src.b), (1, [.bool (fhead b).dst.six]), (16, u8s (fhead b).dst.b), (1, [.bool true]), (1, [.int .u8 (((fhead b).hops.toNat : Nat) : Int)])] := by
        show [_, _, _, _, _, _, _, (1, [Value.bool (fhead b).part]), _] = _
        rw [hpart]
      have hok := hdc_ok (fhead b)
      rw [eh] at c17 hok c31
      refine Triple.enter Try.func7 rfl Try.ntmps7 rfl (fun W => ?_)
      dsimp only [argsF, Nat.reduceAdd]
      repeat' (first
       | (refine isSeq1 9 ?_; refine Held.it ?_)
       | refine WPl.nil ?_ | refine WPq.then ?_ | refine WPq.thenR ?_ | refine WPq.thenE ?_ | refine WPq.blockN ?_ | refine WPq.blockR ?_ | refine WPq.blockE ?_ | refine WPq.blockO rfl ?_ | refine WPc.seq ?_ | refine WPc.block ?_ | refine WPc.ret ?_ | refine WPc.exit ?_ | refine WPc.skip ?_ | refine WPc.region ?_
       | (refine isCond ?_; first | refine WPc.cT ?_ | refine WPc.cF ?_ | (refine WPc.cQ (fun hc => ?_) (fun hc => ?_) <;> try exact prA))
       | (refine isD 14 ?_; refine WPl.rdX (readP) ?_)
       | (refine isC 17 ?_; refine WPl.cV (c17) ?_)
       | (refine isD 8 ?_; first | (refine isAl ?_; refine WPl.nw fun g8 => ?_) | (refine isBx ?_; refine WPl.nw fun g8 => ?_))
       | (show WPl _ _ _ _ _ _ _ (⟨_, .store _ (.tmp 8) _, _, _, _, _⟩ :: _) _; refine WPl.stA ?_ (hn := hok))
       | (refine isD 21 ?_; refine WPl.rdX (ReadR.binE rfl rfl BinR.neq (congrArg (fun q => Value.bool (!q)) (decide_eq_true (rfl : (0 : Int) = 0)))) ?_)
       | (refine isC 31 ?_; refine WPl.cX c31 (fun v31 Γ1 hR => ?_); obtain ⟨a, c, rfl, rfl⟩ := hR; (try dsimp only [putF, List.cons_append, List.nil_append]))
       | (refine isD 10 ?_; first | (refine isAl ?_; refine WPl.nw fun g10 => ?_) | (refine isBx ?_; refine WPl.nw fun g10 => ?_))
       | (refine isD 11 ?_; first | (refine isAl ?_; refine WPl.nw fun g11 => ?_) | (refine isBx ?_; refine WPl.nw fun g11 => ?_))
       | (show WPl _ _ _ _ _ _ _ (⟨_, .store _ (.tmp 10) _, _, _, _, _⟩ :: _) _; refine WPl.stA (new := ptC (ptOf (fhead b) (ihl b) b a c)) ?_ (hn := ptC_ok (ptOf (fhead b) (ihl b) b a c)))
       | (show WPl _ _ _ _ _ _ _ (⟨_, .store _ (.tmp 11) _, _, _, _, _⟩ :: _) _; refine WPl.stA (new := kyC (keyB35 (fhead b) b)) ?_ (hn := kyC_ok (keyB35 (fhead b) b)))
       | (refine isOp ?_; first | refine WPl.rd ?_ | refine WPl.sk ?_ | refine WPl.rdB ?_)
       | (refine isAl ?_; refine WPl.nw fun g => ?_)
       | (refine isSt ?_; first | refine WPl.st1 ?_ | refine WPl.stA ?_ | refine WPl.stEB ?_ | refine WPl.stRB ?_)
       | (show WPl _ _ _ _ _ _ _ (⟨_, .indexAddr _ _ _, _, _, _, _⟩ :: _) _; refine WPl.rdX (ReadR.indexE rfl rfl hasA (by first | assumption | omega)) ?_)
       | (show WPl _ _ _ _ _ _ _ (⟨_, .fieldAddr _ _ _, _, _, _, _⟩ :: _) _; refine WPl.rdX (ReadR.fieldE rfl hasA (by first | assumption | omega)) ?_)
       | (show WPl _ _ _ _ _ _ _ (⟨_, .load _ _, _, _, _, _⟩ :: _) _; first | refine WPl.rdX (ReadR.loadE rfl hasA (by assumption)) ?_ | refine WPl.rdX (ReadR.loadES (by assumption) (by first | assumption | omega) rfl hasA) ?_)
       | (show WPl _ _ _ _ _ _ _ (⟨_, .slice _ _ _ _ _, _, _, _, _⟩ :: _) _; first | refine WPl.rdX (ReadR.sliceH rfl rfl hasA (by omega)) ?_ | refine WPl.rdX (ReadR.sliceL rfl rfl hasA (by omega)) ?_ | refine WPl.rdX (ReadR.sliceLH rfl rfl rfl hasA (by omega) (by omega)) ?_)
       | (refine WPl.spQ (fun hc => ?_) (fun hc => ?_) <;> try exact prA)
       | fail)
      refine ⟨?_⟩
      have hfin : (ptOf (fhead b) (ihl b) b a c).fin ≤ 100000 := by
        have h1 : (ptOf (fhead b) (ihl b) b a c).fin = 8 * (val (seg b 6 2) % 8192) + (seg b (ihl b) (b.length - ihl b)).length := by with_unfolding_all rfl
        rw [h1, seg_length (by omega)]
        omega
      have hkid : (keyB35 (fhead b) b).id < 65536 := by
        with_unfolding_all exact val2_lt (l := b) (k := 4)
      have c35 := palone_t (ptOf (fhead b) (ihl b) b a c) (by omega)
      have c41 := pexpire_t m L now hn hs hLl gJ
      have c46 := padd_t gJ m (liveJ L now) (keyB35 (fhead b) b) (ptOf (fhead b) (ihl b) b a c) now hkid hfin (fun x hx => hb x (List.mem_filter.1 hx).1) (Nat.le_trans (List.length_filter_le _ _) hLl)
      have q1 := (ptOf (fhead b) (ihl b) b a c).v1
      have q2 : (ptOf (fhead b) (ihl b) b a c).h.src.b.length = 16 := (ptOf (fhead b) (ihl b) b a c).h.src.len
      have q3 : (ptOf (fhead b) (ihl b) b a c).h.dst.b.length = 16 := (ptOf (fhead b) (ihl b) b a c).h.dst.len
      have q4 := (keyB35 (fhead b) b).src.len
      have q5 := (keyB35 (fhead b) b).dst.len
      by_cases hal : aloneP (ptOf (fhead b) (ihl b) b a c) = 0
      · rw [hal] at c35
        repeat' (first
         | (refine isSeq1 13 ?_; refine Held.it ?_)
         | refine WPl.nil ?_ | refine WPq.then ?_ | refine WPq.thenR ?_ | refine WPq.thenE ?_ | refine WPq.blockN ?_ | refine WPq.blockR ?_ | refine WPq.blockE ?_ | refine WPq.blockO rfl ?_ | refine WPc.seq ?_ | refine WPc.block ?_ | refine WPc.ret ?_ | refine WPc.exit ?_ | refine WPc.skip ?_ | refine WPc.region ?_
         | (refine isCond ?_; first | refine WPc.cT ?_ | refine WPc.cF ?_ | (refine WPc.cQ (fun hc => ?_) (fun hc => ?_) <;> try exact prA))
         | (refine isC 35 ?_; refine WPl.cV (c35) ?_)
         | (refine isD 37 ?_; refine WPl.rdX (ReadR.binE rfl rfl BinR.neq (congrArg (fun q => Value.bool (!q)) (decide_eq_true (rfl : (0 : Int) = 0)))) ?_)
         | (refine isC 41 ?_; refine WPl.cTs (c41) ?_; (try dsimp only [putF, List.cons_append, List.nil_append]))
         | (refine isOp ?_; first | refine WPl.rd ?_ | refine WPl.sk ?_ | refine WPl.rdB ?_)
         | (refine isAl ?_; refine WPl.nw fun g => ?_)
         | (refine isSt ?_; first | refine WPl.st1 ?_ | refine WPl.stA ?_ | refine WPl.stEB ?_ | refine WPl.stRB ?_)
         | (show WPl _ _ _ _ _ _ _ (⟨_, .indexAddr _ _ _, _, _, _, _⟩ :: _) _; refine WPl.rdX (ReadR.indexE rfl rfl hasA (by first | assumption | omega)) ?_)
         | (show WPl _ _ _ _ _ _ _ (⟨_, .fieldAddr _ _ _, _, _, _, _⟩ :: _) _; refine WPl.rdX (ReadR.fieldE rfl hasA (by first | assumption | omega)) ?_)
         | (show WPl _ _ _ _ _ _ _ (⟨_, .load _ _, _, _, _, _⟩ :: _) _; first | refine WPl.rdX (ReadR.loadE rfl hasA (by assumption)) ?_ | refine WPl.rdX (ReadR.loadES (by assumption) (by first | assumption | omega) rfl hasA) ?_)
         | (show WPl _ _ _ _ _ _ _ (⟨_, .slice _ _ _ _ _, _, _, _, _⟩ :: _) _; first | refine WPl.rdX (ReadR.sliceH rfl rfl hasA (by omega)) ?_ | refine WPl.rdX (ReadR.sliceL rfl rfl hasA (by omega)) ?_ | refine WPl.rdX (ReadR.sliceLH rfl rfl rfl hasA (by omega) (by omega)) ?_)
         | (refine WPl.spQ (fun hc => ?_) (fun hc => ?_) <;> try exact prA)
         | fail)
        refine ⟨?_⟩
        refine WPc.gbagSub (row := jrow) (es := L) (liveJ L now) jrow_own List.filter_sublist ?_
        have hd : (ptOf (fhead b) (ihl b) b a c).d = seg b (ihl b) (b.length - ihl b) := by with_unfolding_all rfl
        rw [hd] at c46
        have c46 : Triple Try.prog 21 #[hJ gJ, ag (ptC (ptOf (fhead b) (ihl b) b a c)), ag (kyC (keyB35 (fhead b) b)), .int .u64 (now : Int)] [bx gJ 45 (jbc m), mp kyM m (jes (liveJ L now)), gbag jrow (liveJ L now), ob (ptOf (fhead b) (ihl b) b a c).v (seg b (ihl b) (b.length - ihl b))] (RAddJ gJ m (liveJ L now) (keyB35 (fhead b) b) (ptOf (fhead b) (ihl b) b a c) now) := c46
        repeat' (first
         | refine WPl.nil ?_ | refine WPq.then ?_ | refine WPq.thenR ?_ | refine WPq.thenE ?_ | refine WPq.blockN ?_ | refine WPq.blockR ?_ | refine WPq.blockE ?_ | refine WPq.blockO rfl ?_ | refine WPc.seq ?_ | refine WPc.block ?_ | refine WPc.ret ?_ | refine WPc.exit ?_ | refine WPc.skip ?_ | refine WPc.region ?_
         | (refine isCond ?_; first | refine WPc.cT ?_ | refine WPc.cF ?_ | (refine WPc.cQ (fun hc => ?_) (fun hc => ?_) <;> try exact prA))
         | (refine isC 46 ?_; refine WPl.cXs (c46) fun v Γ1 hR => ?_; (have hR0 := hR; rcases hR with ⟨hf1, hf2, rfl, rfl⟩ | ⟨x0, A, B, hxk, hor, (⟨hne, rfl, rfl⟩ | ⟨heq, ps', hpm, hst, (⟨hw, vv, hvv, rfl, rfl⟩ | ⟨hw, p0, ss, hp0, hss, rfl, rfl⟩)⟩)⟩); (try dsimp only [putF, List.cons_append, List.nil_append]))
         | (refine isOp ?_; first | refine WPl.rd ?_ | refine WPl.sk ?_ | refine WPl.rdB ?_)
         | (refine isAl ?_; refine WPl.nw fun g => ?_)
         | (refine isSt ?_; first | refine WPl.st1 ?_ | refine WPl.stA ?_ | refine WPl.stEB ?_ | refine WPl.stRB ?_)
         | (show WPl _ _ _ _ _ _ _ (⟨_, .indexAddr _ _ _, _, _, _, _⟩ :: _) _; refine WPl.rdX (ReadR.indexE rfl rfl hasA (by first | assumption | omega)) ?_)
         | (show WPl _ _ _ _ _ _ _ (⟨_, .fieldAddr _ _ _, _, _, _, _⟩ :: _) _; refine WPl.rdX (ReadR.fieldE rfl hasA (by first | assumption | omega)) ?_)
         | (show WPl _ _ _ _ _ _ _ (⟨_, .load _ _, _, _, _, _⟩ :: _) _; first | refine WPl.rdX (ReadR.loadE rfl hasA (by assumption)) ?_ | refine WPl.rdX (ReadR.loadES (by assumption) (by first | assumption | omega) rfl hasA) ?_)
         | (show WPl _ _ _ _ _ _ _ (⟨_, .slice _ _ _ _ _, _, _, _, _⟩ :: _) _; first | refine WPl.rdX (ReadR.sliceH rfl rfl hasA (by omega)) ?_ | refine WPl.rdX (ReadR.sliceL rfl rfl hasA (by omega)) ?_ | refine WPl.rdX (ReadR.sliceLH rfl rfl rfl hasA (by omega) (by omega)) ?_)
         | (refine WPl.spQ (fun hc => ?_) (fun hc => ?_) <;> try exact prA)
         | fail)
        · exact WPq.dX (vs := [.slice none 0 0, .int .i64 2]) [bx gJ 45 (jbc m), mp kyM m (jes (liveJ L now)), gbag jrow (liveJ L now)] (.inr (.inr ⟨he, hpart, a, c, .inr ⟨hal, hR0⟩⟩)) (ho := ownsJ)
        · exact WPq.dX (vs := [.slice none 0 0, .int .i64 (againstP x0.ps (ptOf (fhead b) (ihl b) b a c))]) [bx gJ 45 (jbc m), mp kyM m (jes (A ++ B)), gbag jrow (A ++ B)] (.inr (.inr ⟨he, hpart, a, c, .inr ⟨hal, hR0⟩⟩)) (ho := ownsJ)
        · exact WPq.dX (vs := [.slice none 0 0, .int .i64 0]) [bx gJ 45 (jbc m), mp kyM m (jes (A ++ ⟨x0.g, vv, ps', x0.since, x0.key⟩ :: B)), gbag jrow (A ++ ⟨x0.g, vv, ps', x0.since, x0.key⟩ :: B)] (.inr (.inr ⟨he, hpart, a, c, .inr ⟨hal, hR0⟩⟩)) (ho := ownsJ)
        · exact WPq.dX (vs := [ss, .int .i64 (fwerr (noPart p0.h) (dataP ps').length)]) [bx gJ 45 (jbc m), mp kyM m (jes (A ++ B)), gbag jrow (A ++ B), ob ss (fwL (noPart p0.h) (dataP ps'))] (.inr (.inr ⟨he, hpart, a, c, .inr ⟨hal, hR0⟩⟩)) (ho := ownsJ)
      · skip
        repeat' (first
         | refine WPl.nil ?_ | refine WPq.then ?_ | refine WPq.thenR ?_ | refine WPq.thenE ?_ | refine WPq.blockN ?_ | refine WPq.blockR ?_ | refine WPq.blockE ?_ | refine WPq.blockO rfl ?_ | refine WPc.seq ?_ | refine WPc.block ?_ | refine WPc.ret ?_ | refine WPc.exit ?_ | refine WPc.skip ?_ | refine WPc.region ?_
         | (refine isCond ?_; first | refine WPc.cT ?_ | refine WPc.cF ?_ | (refine WPc.cQ (fun hc => ?_) (fun hc => ?_) <;> try exact prA))
         | (refine isC 35 ?_; refine WPl.cV (c35) ?_)
         | (refine isD 37 ?_; refine WPl.rdX (ReadR.binE rfl rfl BinR.neq (congrArg (fun q => Value.bool (!q)) (decide_eq_false hal))) ?_)
         | (refine isOp ?_; first | refine WPl.rd ?_ | refine WPl.sk ?_ | refine WPl.rdB ?_)
         | (refine isAl ?_; refine WPl.nw fun g => ?_)
         | (refine isSt ?_; first | refine WPl.st1 ?_ | refine WPl.stA ?_ | refine WPl.stEB ?_ | refine WPl.stRB ?_)
         | (show WPl _ _ _ _ _ _ _ (⟨_, .indexAddr _ _ _, _, _, _, _⟩ :: _) _; refine WPl.rdX (ReadR.indexE rfl rfl hasA (by first | assumption | omega)) ?_)
         | (show WPl _ _ _ _ _ _ _ (⟨_, .fieldAddr _ _ _, _, _, _, _⟩ :: _) _; refine WPl.rdX (ReadR.fieldE rfl hasA (by first | assumption | omega)) ?_)
         | (show WPl _ _ _ _ _ _ _ (⟨_, .load _ _, _, _, _, _⟩ :: _) _; first | refine WPl.rdX (ReadR.loadE rfl hasA (by assumption)) ?_ | refine WPl.rdX (ReadR.loadES (by assumption) (by first | assumption | omega) rfl hasA) ?_)
         | (show WPl _ _ _ _ _ _ _ (⟨_, .slice _ _ _ _ _, _, _, _, _⟩ :: _) _; first | refine WPl.rdX (ReadR.sliceH rfl rfl hasA (by omega)) ?_ | refine WPl.rdX (ReadR.sliceL rfl rfl hasA (by omega)) ?_ | refine WPl.rdX (ReadR.sliceLH rfl rfl rfl hasA (by omega) (by omega)) ?_)
         | (refine WPl.spQ (fun hc => ?_) (fun hc => ?_) <;> try exact prA)
         | fail)
        exact WPq.dX (vs := [.slice none 0 0, .int .i64 (aloneP (ptOf (fhead b) (ihl b) b a c))]) [bx gJ 45 (jbc m), mp kyM m (jes L), gbag jrow L] (.inr (.inr ⟨he, hpart, a, c, .inl ⟨hal, rfl, rfl⟩⟩)) (ho := ownsJ)
  · have hfv : fVal b = .tuple #[ag (hdc Hd.none), .int .i64 (ferr b)] := by with_unfolding_all (unfold fVal fread; rw [if_neg he])
    rw [hfv] at c17
    refine Triple.enter Try.func7 rfl Try.ntmps7 rfl (fun W => ?_)
    dsimp only [argsF, Nat.reduceAdd]
    repeat' (first
     | refine WPl.nil ?_ | refine WPq.then ?_ | refine WPq.thenR ?_ | refine WPq.thenE ?_ | refine WPq.blockN ?_ | refine WPq.blockR ?_ | refine WPq.blockE ?_ | refine WPq.blockO rfl ?_ | refine WPc.seq ?_ | refine WPc.block ?_ | refine WPc.ret ?_ | refine WPc.exit ?_ | refine WPc.skip ?_ | refine WPc.region ?_
     | (refine isCond ?_; first | refine WPc.cT ?_ | refine WPc.cF ?_ | (refine WPc.cQ (fun hc => ?_) (fun hc => ?_) <;> try exact prA))
     | (refine isD 14 ?_; refine WPl.rdX (readP) ?_)
     | (refine isC 17 ?_; refine WPl.cV (c17) ?_)
     | (refine isD 8 ?_; first | (refine isAl ?_; refine WPl.nw fun g8 => ?_) | (refine isBx ?_; refine WPl.nw fun g8 => ?_))
     | (show WPl _ _ _ _ _ _ _ (⟨_, .store _ (.tmp 8) _, _, _, _, _⟩ :: _) _; refine WPl.stA (new := hdc Hd.none) ?_ (hn := hdc_ok _))
     | (refine isD 21 ?_; refine WPl.rdX (ReadR.binE rfl rfl BinR.neq (congrArg (fun q => Value.bool (!q)) (decide_eq_false he))) ?_)
     | (refine isOp ?_; first | refine WPl.rd ?_ | refine WPl.sk ?_ | refine WPl.rdB ?_)
     | (refine isAl ?_; refine WPl.nw fun g => ?_)
     | (refine isSt ?_; first | refine WPl.st1 ?_ | refine WPl.stA ?_ | refine WPl.stEB ?_ | refine WPl.stRB ?_)
     | (show WPl _ _ _ _ _ _ _ (⟨_, .indexAddr _ _ _, _, _, _, _⟩ :: _) _; refine WPl.rdX (ReadR.indexE rfl rfl hasA (by first | assumption | omega)) ?_)
     | (show WPl _ _ _ _ _ _ _ (⟨_, .fieldAddr _ _ _, _, _, _, _⟩ :: _) _; refine WPl.rdX (ReadR.fieldE rfl hasA (by first | assumption | omega)) ?_)
     | (show WPl _ _ _ _ _ _ _ (⟨_, .load _ _, _, _, _, _⟩ :: _) _; first | refine WPl.rdX (ReadR.loadE rfl hasA (by assumption)) ?_ | refine WPl.rdX (ReadR.loadES (by assumption) (by first | assumption | omega) rfl hasA) ?_)
     | (show WPl _ _ _ _ _ _ _ (⟨_, .slice _ _ _ _ _, _, _, _, _⟩ :: _) _; first | refine WPl.rdX (ReadR.sliceH rfl rfl hasA (by omega)) ?_ | refine WPl.rdX (ReadR.sliceL rfl rfl hasA (by omega)) ?_ | refine WPl.rdX (ReadR.sliceLH rfl rfl rfl hasA (by omega) (by omega)) ?_)
     | (refine WPl.spQ (fun hc => ?_) (fun hc => ?_) <;> try exact prA)
     | fail)
    exact WPq.dX (vs := [.slice none 0 0, .int .i64 (ferr b)]) [bx gJ 45 (jbc m), mp kyM m (jes L), gbag jrow L] (.inl ⟨he, rfl, rfl⟩) (ho := ownsJ)
end
theorem pAddN_t (v w : Value) : Triple Try.prog 7 #[.pointer none, v, w] [] (RVal (.tuple #[.slice none 0 0, .int .i64 1])) := by
  refine Triple.enter Try.func7 rfl Try.ntmps7 rfl (fun W => ?_)
  dsimp only [argsF, Nat.reduceAdd]
  repeat' (first
   | refine WPl.nil ?_ | refine WPq.then ?_ | refine WPq.thenR ?_ | refine WPq.thenE ?_ | refine WPq.blockN ?_ | refine WPq.blockR ?_ | refine WPq.blockE ?_ | refine WPq.blockO rfl ?_ | refine WPc.seq ?_ | refine WPc.block ?_ | refine WPc.ret ?_ | refine WPc.exit ?_ | refine WPc.skip ?_ | refine WPc.region ?_
   | (refine isCond ?_; first | refine WPc.cT ?_ | refine WPc.cF ?_ | (refine WPc.cQ (fun hc => ?_) (fun hc => ?_) <;> try exact prA))
   | (refine isD 14 ?_; refine WPl.rdX (readP) ?_)
   | (refine isOp ?_; first | refine WPl.rd ?_ | refine WPl.sk ?_ | refine WPl.rdB ?_)
   | (refine isAl ?_; refine WPl.nw fun g => ?_)
   | (refine isSt ?_; first | refine WPl.st1 ?_ | refine WPl.stA ?_ | refine WPl.stEB ?_ | refine WPl.stRB ?_)
   | (show WPl _ _ _ _ _ _ _ (⟨_, .indexAddr _ _ _, _, _, _, _⟩ :: _) _; refine WPl.rdX (ReadR.indexE rfl rfl hasA (by first | assumption | omega)) ?_)
   | (show WPl _ _ _ _ _ _ _ (⟨_, .fieldAddr _ _ _, _, _, _, _⟩ :: _) _; refine WPl.rdX (ReadR.fieldE rfl hasA (by first | assumption | omega)) ?_)
   | (show WPl _ _ _ _ _ _ _ (⟨_, .load _ _, _, _, _, _⟩ :: _) _; first | refine WPl.rdX (ReadR.loadE rfl hasA (by assumption)) ?_ | refine WPl.rdX (ReadR.loadES (by assumption) (by first | assumption | omega) rfl hasA) ?_)
   | (show WPl _ _ _ _ _ _ _ (⟨_, .slice _ _ _ _ _, _, _, _, _⟩ :: _) _; first | refine WPl.rdX (ReadR.sliceH rfl rfl hasA (by omega)) ?_ | refine WPl.rdX (ReadR.sliceL rfl rfl hasA (by omega)) ?_ | refine WPl.rdX (ReadR.sliceLH rfl rfl rfl hasA (by omega) (by omega)) ?_)
   | (refine WPl.spQ (fun hc => ?_) (fun hc => ?_) <;> try exact prA)
   | fail)
  exact WPq.dV
end Go.Proofs.Ytmdihpanaljkfaa
/- Reference of layer 13 (ipfour): a packet is written: contracts. -/
namespace Go.Proofs.Ytmdihpanaljkfaa
open Go.RowKit
set_option linter.unusedSimpArgs false
set_option linter.unusedVariables false
set_option maxRecDepth 20000
set_option maxHeartbeats 2000000
attribute [local irreducible] WPc WPl WPq ReadR OpT BinR HasS bx rdN rowN Take Takes Prov Triple ResF BuildP Done ag Int.decLt Int.decLe Int.instDecidableEq
theorem ReadR.convT {P : Program} {n : Nat} {Γ : List Asn} {F : List (Nat × Value)} {d : Option Tmp} {ty : TypeId} {pos : String} {af : Array Edge} {gd : Option (Nat × Bool)} {T1 T2 : TypeId} {k1 k2 : IntKind} {x : Operand} {a c : Int} [h2 : IntI P T2 k2] (hc : k2.wrap a = c) (h1 : (P.underlying T1).isSome = true) (hx : evF F x = some (.int k1 a)) : ReadR P n Γ F ⟨d, .convert T1 T2 x, ty, pos, af, gd⟩ (.int k2 c) := hc ▸ ReadR.convW h1 hx
attribute [local irreducible] be
theorem rfour_t (a : Adr) (h : a.six = false) (hg : a.good = true) : Triple Try.prog 11 #[ag (adc a)] [] (RVal (.bool true)) := by
  have g1 := rgood_t a
  have l1 := a.len
  rw [hg] at g1
  refine Triple.enter Try.func11 rfl Try.ntmps11 rfl (fun W => ?_)
  dsimp only [argsF, Nat.reduceAdd]
  repeat' (first
   | refine WPl.nil ?_ | refine WPq.then ?_ | refine WPq.thenR ?_ | refine WPq.thenE ?_ | refine WPq.blockN ?_ | refine WPq.blockR ?_ | refine WPq.blockE ?_ | refine WPq.blockO rfl ?_ | refine WPc.seq ?_ | refine WPc.block ?_ | refine WPc.ret ?_ | refine WPc.exit ?_ | refine WPc.skip ?_ | refine WPc.region ?_
   | (refine isCond ?_; first | refine WPc.cT ?_ | refine WPc.cF ?_ | (refine WPc.cQ (fun hc => ?_) (fun hc => ?_) <;> try exact prA))
   | (refine isC 8 ?_; refine WPl.cV (g1) ?_)
   | (refine isOp ?_; first | refine WPl.rd ?_ | refine WPl.sk ?_ | refine WPl.rdB ?_)
   | (refine isBx ?_; refine WPl.nw fun g => ?_)
   | (show WPl _ _ _ _ _ _ _ (⟨_, .indexAddr _ _ _, _, _, _, _⟩ :: _) _; refine WPl.rdX (ReadR.indexE rfl rfl hasA (by first | assumption | omega)) ?_)
   | (show WPl _ _ _ _ _ _ _ (⟨_, .fieldAddr _ _ _, _, _, _, _⟩ :: _) _; refine WPl.rdX (ReadR.fieldE rfl hasA (by first | assumption | omega)) ?_)
   | (show WPl _ _ _ _ _ _ _ (⟨_, .load _ _, _, _, _, _⟩ :: _) _; first | refine WPl.rdX (ReadR.loadE rfl hasA (by assumption)) ?_ | refine WPl.rdX (ReadR.loadES (by assumption) (by first | assumption | omega) rfl hasA) ?_)
   | (show WPl _ _ _ _ _ _ _ (⟨_, .slice _ _ _ _ _, _, _, _, _⟩ :: _) _; first | refine WPl.rdX (ReadR.sliceH rfl rfl hasA (by omega)) ?_ | refine WPl.rdX (ReadR.sliceL rfl rfl hasA (by omega)) ?_ | refine WPl.rdX (ReadR.sliceLH rfl rfl rfl hasA (by omega) (by omega)) ?_)
   | (refine WPl.spQ (fun hc => ?_) (fun hc => ?_) <;> try exact prA)
   | fail)
  all_goals try (first | exact WPq.dTp | exact WPq.dTs | exact WPq.dV | exact WPq.dR | exact WPq.dR2 | exact WPq.dH | exact WPq.dBH | exact WPq.dT)
theorem over_cons (x : UInt8) (l n : List UInt8) (k : Nat) : over (x :: l) (k + 1) n = x :: over l k n := by
  unfold over
  rw [List.take_succ_cons, List.cons_append, show k + 1 + n.length = (k + n.length) + 1 by omega, List.drop_succ_cons]
theorem over2 (a b : UInt8) : ∀ (l : List UInt8) (k : Nat), k + 2 ≤ l.length → over l k [a, b] = (l.set k a).set (k + 1) b
  | x :: y :: l, 0, _ => by simp [over]
  | x :: l, k + 1, h => by
    rw [over_cons, over2 a b l k (by simpa using h)]
    rfl
  | [], 0, h => by simp at h
  | [x], 0, h => by simp at h
theorem over_set2 {l : List UInt8} {k n : Nat} (hk : k + 2 ≤ l.length) : (l.set k (UInt8.ofNat (n / 256))).set (k + 1) (UInt8.ofNat n) = over l k (be n 2) := by rw [be2, over2 _ _ l k hk]
theorem wrap_hi {n : Nat} (h : n ≤ 65535) : IntKind.u8.wrap ((n : Int) / 256) = (((UInt8.ofNat (n / 256)).toNat : Nat) : Int) := by rw [IntKind.wrap_u8, u8_of]; omega
theorem wrap_lo {n : Nat} (h : n ≤ 65535) : IntKind.u8.wrap ((n : Int) % 256) = (((UInt8.ofNat n).toNat : Nat) : Int) := by rw [IntKind.wrap_u8, u8_of]; omega
theorem rfwrite_t (h : Hd) (vd : Value) (d : List UInt8) (hd : d.length ≤ 1000) (hb : fwBad h = false) : Triple Try.prog 5 #[ag (hdc h), vd] [rb vd d] (RW (fpkt h d) 0) := by
  have l1 := h.src.len
  have l2 := h.dst.len
  obtain ⟨b1, b2, b3, b4, b5, b6, b7⟩ := fwBad_no hb
  have g1 := rfour_t h.src b4 b6
  have g2 := rfour_t h.dst b5 b7
  have a1 := h.src.bytes_le
  have a2 := h.dst.bytes_le
  have hb2 := be_length (20 + d.length) 2
  have hpl := fpre_len (h := h) (n := d.length) b4 b5
  have hpe : nbs [69, 0] ++ be (20 + d.length) 2 ++ nbs [0, 0, 0, 0, (h.hops.toNat : Nat), (h.proto.toNat : Nat), 0, 0] ++ h.src.bytes ++ h.dst.bytes = fpre h d.length := by unfold fpre; simp
  have hcl := csum_le (fpre h d.length)
  have c1 := fun v => rsum_t v (fpre h d.length) (by omega)
  have hres : (((fpre h d.length).set 10 (UInt8.ofNat (csum (fpre h d.length) / 256))).set 11 (UInt8.ofNat (csum (fpre h d.length)))) ++ d = fpkt h d := by rw [over_set2 (by omega)]; unfold fpkt; simp
  have hsl : ((fpre h d.length).set 10 (UInt8.ofNat (csum (fpre h d.length) / 256))).length = 20 := by rw [List.length_set]; exact hpl
  rw [← hres]
  obtain ⟨s, hs⟩ : ∃ s, s = csum (fpre h d.length) := ⟨_, rfl⟩
  rw [← hs] at c1 hcl hsl ⊢
  rw [← hpe] at c1 hpl hsl ⊢
  have hw1 := wrap_hi hcl
  have hw2 := wrap_lo hcl
  clear hs hpe hres
  refine Triple.enter Try.func5 rfl Try.ntmps5 rfl (fun W => ?_)
  dsimp only [argsF, Nat.reduceAdd]
  repeat' (first
   | refine WPl.nil ?_ | refine WPq.then ?_ | refine WPq.thenR ?_ | refine WPq.thenE ?_ | refine WPq.blockN ?_ | refine WPq.blockR ?_ | refine WPq.blockE ?_ | refine WPq.blockO rfl ?_ | refine WPc.seq ?_ | refine WPc.block ?_ | refine WPc.ret ?_ | refine WPc.exit ?_ | refine WPc.skip ?_ | refine WPc.region ?_
   | (refine isReg 7 ?_; refine WPc.drA [([10], [50, 51, 52, 54, 55]), ([10], [49, 54, 55]), ([1, 10], [49, 50, 54, 55]), ([1, 2, 10], [49, 50, 51, 54, 55]), ([0, 1, 2, 3, 10], [49, 50, 51, 52, 54, 55]), ([10], [49, 50, 51, 52, 53]), ([5, 10], [49, 50, 51, 52, 53, 54]), ([0, 1, 2, 3, 4, 5, 6, 10], [49, 50, 51, 52, 53, 54, 55]), ([0, 1, 2, 3, 4, 5, 6, 7, 10], [49, 50, 51, 52, 53, 54, 55, 56]), ([0, 1, 2, 3, 4, 5, 6, 7, 8, 10], [49, 50, 51, 52, 53, 54, 55, 56, 57])] [(10, 4), (4, 8), (10, 0), (10, 1), (10, 2), (10, 3), (4, 7)] (Γx := [ob w (nbs [69, 0] ++ be (20 + d.length) 2 ++ nbs [0, 0, 0, 0, (h.hops.toNat : Nat), (h.proto.toNat : Nat), 0, 0])]) ?_; dsimp only [prev0, List.length_nil, List.length_cons])
   | (refine gAny ?_; first | (refine gC 13 ?_; refine RGl.vl (fun e hk => OpT.callN (g1)) ?_) | (refine gC 19 ?_; refine RGl.vl (fun e hk => OpT.callN (g2)) ?_) | (refine gC 41 ?_; refine RGl.row (Γ1 := fun _ => []) (fun e hk => OpT.callN (rput_t _ (nbs [69, 0]) (20 + d.length) 2 (by omega) (by omega) (by simp [nbs]))) ?_) | (refine gC 52 ?_; refine RGl.row (Γ1 := fun _ => []) (fun e hk => OpT.callN (rbytes_t h.src)) ?_) | (refine gC 56 ?_; refine RGl.row (Γ1 := fun _ => []) (fun e hk => OpT.callN (rbytes_t h.dst)) ?_) | (refine gC 59 ?_; refine RGl.vl (fun e hk => OpT.callN (c1 _)) ?_) | (refine gD 64 ?_; refine RGl.rdX (fun e hk => by (try dsimp only [bndR, ensR, oksR, fcutR, List.append_nil, List.nil_append, List.cons_append, List.append_assoc] at hk ⊢); exact ReadR.convT hw1 rfl rfl) ?_) | (refine gD 67 ?_; refine RGl.rdX (fun e hk => by (try dsimp only [bndR, ensR, oksR, fcutR, List.append_nil, List.nil_append, List.cons_append, List.append_assoc] at hk ⊢); exact ReadR.convT hw2 rfl rfl) ?_) | (refine gOp ?_; first | refine RGl.rdA ?_ | refine RGl.rdX (fun e hk => by (try dsimp only [bndR, ensR, oksR, fcutR, List.append_nil, List.nil_append, List.cons_append, List.append_assoc] at hk ⊢); exact readB) ?_) | (refine gApp ?_; refine RGl.appA ?_) | (refine RGl.fin (fun e hk => ?_); (try dsimp only [bndA, ensAR, oksA, List.append_nil, List.nil_append, List.cons_append, List.append_assoc] at hk ⊢); (repeat (obtain ⟨hk1, hk⟩ := hk))) | fail)
   | (refine isCond ?_; first | refine WPc.cT ?_ | refine WPc.cF ?_ | (refine WPc.cQ (fun hc => ?_) (fun hc => ?_) <;> try exact prA))
   | (refine isLit ?_; refine WPl.lit fun v hv => ?_)
   | (refine isD 72 ?_; refine WPl.app (h63 := by rw [List.length_set, List.length_set]; omega) fun v hv => ?_)
   | (refine isApp ?_; refine WPl.app fun w hw => ?_)
   | (refine isC 13 ?_; refine WPl.cV (g1) ?_)
   | (refine isC 19 ?_; refine WPl.cV (g2) ?_)
   | (refine isC 41 ?_; refine WPl.cR (rput_t _ (nbs [69, 0]) (20 + d.length) 2 (by omega) (by omega) (by simp [nbs])) fun v hv => ?_)
   | (refine isC 52 ?_; refine WPl.cR (rbytes_t h.src) fun v hv => ?_)
   | (refine isC 56 ?_; refine WPl.cR (rbytes_t h.dst) fun v hv => ?_)
   | (refine isC 59 ?_; refine WPl.cV (c1 _) ?_)
   | (refine isD 64 ?_; refine WPl.rdX (ReadR.convT hw1 rfl rfl) ?_)
   | (refine isD 67 ?_; refine WPl.rdX (ReadR.convT hw2 rfl rfl) ?_)
   | (refine isOp ?_; first | refine WPl.rd ?_ | refine WPl.sk ?_ | refine WPl.rdB ?_)
   | (refine isBx ?_; refine WPl.nw fun g => ?_)
   | (refine isSt ?_; first | refine WPl.st1 ?_ | refine WPl.stA ?_ | refine WPl.stEB ?_ | refine WPl.stRB ?_)
   | (show WPl _ _ _ _ _ _ _ (⟨_, .indexAddr _ _ _, _, _, _, _⟩ :: _) _; refine WPl.rdX (ReadR.indexE rfl rfl hasA (by first | assumption | omega)) ?_)
   | (show WPl _ _ _ _ _ _ _ (⟨_, .fieldAddr _ _ _, _, _, _, _⟩ :: _) _; refine WPl.rdX (ReadR.fieldE rfl hasA (by first | assumption | omega)) ?_)
   | (show WPl _ _ _ _ _ _ _ (⟨_, .load _ _, _, _, _, _⟩ :: _) _; first | refine WPl.rdX (ReadR.loadE rfl hasA (by assumption)) ?_ | refine WPl.rdX (ReadR.loadES (by assumption) (by first | assumption | omega) rfl hasA) ?_)
   | (show WPl _ _ _ _ _ _ _ (⟨_, .slice _ _ _ _ _, _, _, _, _⟩ :: _) _; first | refine WPl.rdX (ReadR.sliceH rfl rfl hasA (by omega)) ?_ | refine WPl.rdX (ReadR.sliceL rfl rfl hasA (by omega)) ?_ | refine WPl.rdX (ReadR.sliceLH rfl rfl rfl hasA (by omega) (by omega)) ?_)
   | (refine WPl.spQ (fun hc => ?_) (fun hc => ?_) <;> try exact prA)
   | fail)
  all_goals try (first | exact WPq.dTp | exact WPq.dTs | exact WPq.dV | exact WPq.dR | exact WPq.dR2 | exact WPq.dH | exact WPq.dBH | exact WPq.dT)
end Go.Proofs.Ytmdihpanaljkfaa
