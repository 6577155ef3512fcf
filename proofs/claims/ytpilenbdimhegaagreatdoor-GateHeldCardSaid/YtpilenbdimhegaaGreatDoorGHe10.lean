/- What the row of gateHeld_card_holds needs: part 10. -/
import Derived.Test.YtpilenbdimhegaaGreatDoorGHe9
import Derived.Test.YtpilenbdimhegaaGreatDoorGHe7
import Derived.Test.YtpilenbdimhegaaGreatDoorGHe8
import Derived.Test.YtpilenbdimhegaaGreatDoorGHe5
import Derived.Test.YtpilenbdimhegaaGreatDoorGHe6
/- Layer 35 (parts): parts whose time has come: contracts. -/
namespace Go.Proofs.YtpilenbdimhegaaGreatDoor
set_option linter.unusedVariables false
set_option linter.unusedSimpArgs false
def deadB (now : Nat) (x : PJ) : Bool := decide ((x.since : Int) ≤ (now : Int)) && decide ((30 : Int) ≤ (now : Int) - (x.since : Int))
theorem jes_mem {l : List PJ} {y : Ky × Option Nat} (h : y ∈ jes l) : ∃ x, x ∈ l ∧ (x.key, some x.g) = y := by
  obtain ⟨x, hx, e⟩ := List.mem_map.1 h
  exact ⟨x, hx, e⟩
theorem jes_in {l : List PJ} {x : PJ} (h : x ∈ l) : (x.key, some x.g) ∈ jes l := List.mem_map.2 ⟨x, h, rfl⟩
theorem jes_len {l : List PJ} : (jes l).length = l.length := by unfold jes; exact List.length_map _
theorem jes_keys {l : List PJ} : (jes l).map (·.1) = l.map (·.key) := by unfold jes; rw [List.map_map]; rfl
theorem jes_filter {l : List PJ} {k : Ky} : (jes l).filter (fun x => decide (x.1 ≠ k)) = jes (l.filter fun x => decide (x.key ≠ k)) := by
  unfold jes
  rw [List.filter_map]
  rfl
theorem nodup_key {l : List PJ} (h : (l.map (·.key)).Nodup) : l.Nodup := by
  unfold List.Nodup at *
  rw [List.pairwise_map] at h
  exact h.imp fun h e => h (by rw [e])
theorem key_one {l : List PJ} (h : (l.map (·.key)).Nodup) {x y : PJ} (hx : x ∈ l) (hy : y ∈ l) (e : x.key = y.key) : x = y := by
  obtain ⟨i, hi⟩ := List.getElem?_of_mem hx
  obtain ⟨j, hj⟩ := List.getElem?_of_mem hy
  obtain ⟨q1, e1⟩ := List.getElem?_eq_some_iff.1 hi
  obtain ⟨q2, e2⟩ := List.getElem?_eq_some_iff.1 hj
  have hij : i = j := by
    have h' : l.Pairwise fun a b => a.key ≠ b.key := by unfold List.Nodup at h; rwa [List.pairwise_map] at h
    rcases Nat.lt_trichotomy i j with h1 | h1 | h1
    · exact absurd (by rw [e1, e2]; exact e) (List.pairwise_iff_getElem.1 h' i j q1 q2 h1)
    · exact h1
    · exact absurd (by rw [e1, e2]; exact e.symm) (List.pairwise_iff_getElem.1 h' j i q2 q1 h1)
  subst hij
  rw [hi] at hj
  exact Option.some.inj hj
theorem sub_filterJ {α : Type} {p : α → Bool} {l L : List α} (hs : l.Sublist L) (hn : L.Nodup) (h : ∀ x ∈ L, x ∈ l ↔ p x = true) : l = L.filter p := by
  induction hs with
  | slnil => rfl
  | cons a hs ih =>
    have hn2 := List.nodup_cons.1 hn
    have ha : p a = false := by
      cases hp : p a with
      | false => rfl
      | true => exact absurd (hs.subset ((h a (List.mem_cons_self ..)).2 hp)) hn2.1
    rw [List.filter_cons_of_neg (by rw [ha]; decide)]
    exact ih hn2.2 fun x hx => h x (List.mem_cons_of_mem _ hx)
  | cons_cons a hs ih =>
    have hn2 := List.nodup_cons.1 hn
    have ha : p a = true := (h a (List.mem_cons_self ..)).1 (List.mem_cons_self ..)
    rw [List.filter_cons_of_pos ha]
    congr 1
    exact ih hn2.2 fun x hx => by
      have := h x (List.mem_cons_of_mem _ hx)
      rw [← this]
      constructor
      · exact fun h => List.mem_cons_of_mem _ h
      · intro h
        rcases List.mem_cons.1 h with rfl | h
        · exact absurd hx hn2.1
        · exact h
open Go.RowKit
set_option linter.unusedSimpArgs false
set_option linter.unusedVariables false
set_option maxRecDepth 20000
set_option maxHeartbeats 4000000
attribute [local irreducible] WPc WPl WPq ReadR OpT BinR HasS bx rdN rowN Take Takes Prov Triple ResF BuildP Done ag Int.decLt Int.decLe Int.instDecidableEq
attribute [local irreducible] mp rmp rg rgo mput mget mfind mdel gbag jes pts
theorem pexp1_t (k : Ky) (x : PJ) (now g3 : Nat) (hn : now ≤ 18446744073709551615) (hs : x.since ≤ 18446744073709551615) : Triple Tryz.prog 136 #[ag (kyC k), hJ x.g, .pointer (some ⟨g3, 0, none⟩)] [rbx x.g 216 (pjC x), rbx g3 32 [(1, [.int .u64 (now : Int)])]] (RVal (.bool (deadB now x))) := by
  have l1 := k.src.len
  have l2 := k.dst.len
  unfold deadB
  by_cases h1 : (x.since : Int) ≤ (now : Int)
  · rw [decide_eq_true h1, Bool.true_and]
    refine Triple.enter Tryz.func136 rfl Tryz.ntmps136 rfl (fun W => ?_)
    dsimp only [argsF, Nat.reduceAdd]
    repeat' (first
     | refine WPl.nil ?_ | refine WPq.then ?_ | refine WPc.seq ?_ | refine WPc.ret ?_ | refine WPc.region ?_
     | (refine isReg 1 ?_; refine WPc.drA [([], [7, 8, 9, 10]), ([], [6]), ([1], [6, 7]), ([1, 2], [6, 7, 8]), ([1, 2, 3], [6, 7, 8, 9]), ([0, 1, 2, 3, 4], [6, 7, 8, 9, 10]), ([0, 1, 2, 3, 4, 5], [6, 7, 8, 9, 10, 11]), ([0, 1, 2, 3, 4, 5, 6], [6, 7, 8, 9, 10, 11, 12, 14, 15, 16, 17]), ([0, 1, 2, 3, 4, 5, 6], [6, 7, 8, 9, 10, 11, 12, 13]), ([0, 1, 2, 3, 4, 5, 6, 8], [6, 7, 8, 9, 10, 11, 12, 13, 14]), ([0, 1, 2, 3, 4, 5, 6, 8, 9], [6, 7, 8, 9, 10, 11, 12, 13, 14, 15]), ([0, 1, 2, 3, 4, 5, 6, 8, 9, 10], [6, 7, 8, 9, 10, 11, 12, 13, 14, 15, 16]), ([0, 1, 2, 3, 4, 5, 6, 7, 8, 9, 10, 11], [6, 7, 8, 9, 10, 11, 12, 13, 14, 15, 16, 17]), ([0, 1, 2, 3, 4, 5, 6, 7, 8, 9, 10, 11, 12], [6, 7, 8, 9, 10, 11, 12, 13, 14, 15, 16, 17, 18]), ([0, 1, 2, 3, 4, 5, 6, 7, 8, 9, 10, 11, 12, 13], [6, 7, 8, 9, 10, 11, 12, 13, 14, 15, 16, 17, 18, 19]), ([0, 1, 2, 3, 4, 5, 6, 7, 8, 9, 10, 11, 12, 13, 14], [6, 7, 8, 9, 10, 11, 12, 13, 14, 15, 16, 17, 18, 19, 20])] [] (Γx := []) ?_; dsimp only [prev0, List.length_nil, List.length_cons])
     | (refine gAny ?_; first | (refine gD 6 ?_; refine RGl.rdX (fun e hk => by (try dsimp only [bndR, ensR, oksR, fcutR, List.append_nil, List.nil_append, List.cons_append, List.append_assoc] at hk ⊢); exact ReadR.loadO memA rfl rfl) ?_) | (refine gD 10 ?_; refine RGl.rdX (fun e hk => by (try dsimp only [bndR, ensR, oksR, fcutR, List.append_nil, List.nil_append, List.cons_append, List.append_assoc] at hk ⊢); exact ReadR.loadO memA rfl rfl) ?_) | (refine gD 11 ?_; refine RGl.rdX (fun e hk => by (try dsimp only [bndR, ensR, oksR, fcutR, List.append_nil, List.nil_append, List.cons_append, List.append_assoc] at hk ⊢); exact ReadR.binE rfl rfl BinR.geq (congrArg Value.bool (decide_eq_true h1))) ?_) | (refine gD 13 ?_; refine RGl.rdX (fun e hk => by (try dsimp only [bndR, ensR, oksR, fcutR, List.append_nil, List.nil_append, List.cons_append, List.append_assoc] at hk ⊢); exact ReadR.loadO memA rfl rfl) ?_) | (refine gD 17 ?_; refine RGl.rdX (fun e hk => by (try dsimp only [bndR, ensR, oksR, fcutR, List.append_nil, List.nil_append, List.cons_append, List.append_assoc] at hk ⊢); exact ReadR.loadO memA rfl rfl) ?_) | (refine gD 18 ?_; refine RGl.rdX (fun e hk => by (try dsimp only [bndR, ensR, oksR, fcutR, List.append_nil, List.nil_append, List.cons_append, List.append_assoc] at hk ⊢); exact ReadR.binE rfl rfl (BinR.subU (by omega) (by omega)) rfl) ?_) | (refine gD 19 ?_; refine RGl.rdX (fun e hk => by (try dsimp only [bndR, ensR, oksR, fcutR, List.append_nil, List.nil_append, List.cons_append, List.append_assoc] at hk ⊢); exact ReadR.binE rfl rfl BinR.geq rfl) ?_) | (refine gOp ?_; first | refine RGl.rdA ?_ | refine RGl.rdX (fun e hk => by (try dsimp only [bndR, ensR, oksR, fcutR, List.append_nil, List.nil_append, List.cons_append, List.append_assoc] at hk ⊢); exact readB) ?_) | (refine RGl.fin (fun e hk => ?_); (try dsimp only [bndA, ensAR, oksA, List.append_nil, List.nil_append, List.cons_append, List.append_assoc] at hk ⊢); (repeat (obtain ⟨hk1, hk⟩ := hk))) | fail)
     | (refine isD 3 ?_; first | (refine isAl ?_; refine WPl.nw fun g4 => ?_) | (refine isBx ?_; refine WPl.nw fun g4 => ?_))
     | (refine isOp ?_; first | refine WPl.rd ?_ | refine WPl.sk ?_ | refine WPl.rdB ?_)
     | fail)
    exact WPq.dV
  · rw [decide_eq_false h1, Bool.false_and]
    refine Triple.enter Tryz.func136 rfl Tryz.ntmps136 rfl (fun W => ?_)
    dsimp only [argsF, Nat.reduceAdd]
    repeat' (first
     | refine WPl.nil ?_ | refine WPq.then ?_ | refine WPc.seq ?_ | refine WPc.ret ?_ | refine WPc.region ?_
     | (refine isReg 1 ?_; refine WPc.drA [([], [7, 8, 9, 10]), ([], [6]), ([1], [6, 7]), ([1, 2], [6, 7, 8]), ([1, 2, 3], [6, 7, 8, 9]), ([0, 1, 2, 3, 4], [6, 7, 8, 9, 10]), ([0, 1, 2, 3, 4, 5], [6, 7, 8, 9, 10, 11]), ([0, 1, 2, 3, 4, 5, 6], [6, 7, 8, 9, 10, 11, 12, 14, 15, 16, 17]), ([0, 1, 2, 3, 4, 5, 6], [6, 7, 8, 9, 10, 11, 12, 13]), ([0, 1, 2, 3, 4, 5, 6, 8], [6, 7, 8, 9, 10, 11, 12, 13, 14]), ([0, 1, 2, 3, 4, 5, 6, 8, 9], [6, 7, 8, 9, 10, 11, 12, 13, 14, 15]), ([0, 1, 2, 3, 4, 5, 6, 8, 9, 10], [6, 7, 8, 9, 10, 11, 12, 13, 14, 15, 16]), ([0, 1, 2, 3, 4, 5, 6, 7, 8, 9, 10, 11], [6, 7, 8, 9, 10, 11, 12, 13, 14, 15, 16, 17]), ([0, 1, 2, 3, 4, 5, 6, 7, 8, 9, 10, 11, 12], [6, 7, 8, 9, 10, 11, 12, 13, 14, 15, 16, 17, 18]), ([0, 1, 2, 3, 4, 5, 6, 7, 8, 9, 10, 11, 12, 13], [6, 7, 8, 9, 10, 11, 12, 13, 14, 15, 16, 17, 18, 19]), ([0, 1, 2, 3, 4, 5, 6, 7, 8, 9, 10, 11, 12, 13, 14], [6, 7, 8, 9, 10, 11, 12, 13, 14, 15, 16, 17, 18, 19, 20])] [] (Γx := []) ?_; dsimp only [prev0, List.length_nil, List.length_cons])
     | (refine gAny ?_; first | (refine gGd ?_; refine RGl.skp ?_) | (refine gD 6 ?_; refine RGl.rdX (fun e hk => by (try dsimp only [bndR, ensR, oksR, fcutR, List.append_nil, List.nil_append, List.cons_append, List.append_assoc] at hk ⊢); exact ReadR.loadO memA rfl rfl) ?_) | (refine gD 10 ?_; refine RGl.rdX (fun e hk => by (try dsimp only [bndR, ensR, oksR, fcutR, List.append_nil, List.nil_append, List.cons_append, List.append_assoc] at hk ⊢); exact ReadR.loadO memA rfl rfl) ?_) | (refine gD 11 ?_; refine RGl.rdX (fun e hk => by (try dsimp only [bndR, ensR, oksR, fcutR, List.append_nil, List.nil_append, List.cons_append, List.append_assoc] at hk ⊢); exact ReadR.binE rfl rfl BinR.geq (congrArg Value.bool (decide_eq_false h1))) ?_) | (refine gOp ?_; first | refine RGl.rdA ?_ | refine RGl.rdX (fun e hk => by (try dsimp only [bndR, ensR, oksR, fcutR, List.append_nil, List.nil_append, List.cons_append, List.append_assoc] at hk ⊢); exact readB) ?_) | (refine RGl.fin (fun e hk => ?_); (try dsimp only [bndA, ensAR, oksA, List.append_nil, List.nil_append, List.cons_append, List.append_assoc] at hk ⊢); (repeat (obtain ⟨hk1, hk⟩ := hk))) | fail)
     | (refine isD 3 ?_; first | (refine isAl ?_; refine WPl.nw fun g4 => ?_) | (refine isBx ?_; refine WPl.nw fun g4 => ?_))
     | (refine isOp ?_; first | refine WPl.rd ?_ | refine WPl.sk ?_ | refine WPl.rdB ?_)
     | fail)
    exact WPq.dV
theorem ownsJ {Γ : List Asn} (h : ∀ A, A ∈ Γ → A.own = true := by ((repeat' (first | exact own_nil | refine own_cons (by first | exact bx_own | exact rowN_own | exact mp_own | exact gbag_own | exact rfl) ?_ | fail)) <;> fail)) : ∀ A, A ∈ Γ → A.own = true := h
section
variable (m : Nat) (L : List PJ) (now g3 : Nat) (hn : now ≤ 18446744073709551615) (hs : ∀ x ∈ L, x.since ≤ 18446744073709551615)
include hn hs
abbrev bx3 (g3 now : Nat) : Asn := bx g3 32 [(1, [.int .u64 (now : Int)])]
def RExpJ (m : Nat) (L : List PJ) (now g3 : Nat) : Value → List Asn → Prop := fun v Γ => v = resV [] ∧ Γ = [mp kyM m (jes (L.filter fun x => !deadB now x)), gbag jrow L, bx3 g3 now]
theorem pdelf_t : Triple Tryz.prog 135 #[.map (some m), .func (.func 136) #[] #[.pointer (some ⟨g3, 0, none⟩)]] [mp kyM m (jes L), gbag jrow L, bx3 g3 now] (RExpJ m L now g3) := by
  refine Triple.enter Tryz.func135 rfl Tryz.ntmps135 rfl (fun W => ?_)
  dsimp only [argsF, Nat.reduceAdd]
  refine WPc.mkeys (M := kyM) (m := m) (l := jes L) memA fun hnd _ => ?_
  rw [jes_keys] at hnd
  repeat' (first
   | refine WPl.nil ?_ | refine WPq.then ?_ | refine WPc.seq ?_ | refine WPc.block ?_ | refine WPc.region ?_
   | (refine isD 7 ?_; refine WPl.mrange fun r => ?_)
   | (refine isOp ?_; first | refine WPl.rd ?_ | refine WPl.sk ?_ | refine WPl.rdB ?_)
   | fail)
  first | refine WPc.loop (σ := List PJ × List (Ky × Option Nat) × Option (Ky × Option Nat)) (fun st => st.1.Sublist L ∧ (∀ x ∈ st.1, deadB now x = true → (x.key, some x.g) ∈ st.2.1) ∧ (∀ x ∈ L, deadB now x = false → x ∈ st.1)) (fun st => [rg kyM m r (jes st.1) st.2.1 st.2.2, gbag jrow L, bx3 g3 now]) (fun st => [(0, .map (some m)), (1, .func (.func 136) #[] #[.pointer (some ⟨g3, 0, none⟩)]), (7, .pointer (some ⟨r, 0, none⟩))]) (fun st => st.2.1.length) ((L, jes L, none)) ?_ takesA frsA (fun st km hx hk => ?_)
  · exact ⟨.refl _, fun x hx _ => jes_in hx, fun x hx _ => hx⟩
  obtain ⟨l, td, cu⟩ := st
  obtain ⟨hsL, h2, h3⟩ := hx
  dsimp only at hsL h2 h3 hk ⊢
  have hkm : _ := hk
  have hnl : (l.map (·.key)).Nodup := hnd.sublist (hsL.map _)
  refine WPc.rgsub (M := kyM) (m := m) (r := r) (l := jes l) (td := td) (c := cu) memA fun hsub _ hwf => ?_
  repeat' (first
   | refine WPl.nil ?_ | refine WPq.then ?_ | refine WPq.thenE ?_ | refine WPq.blockN ?_ | refine WPq.blockE ?_ | refine WPc.seq ?_ | refine WPc.block ?_ | refine WPc.exit ?_ | refine WPc.skip ?_ | refine WPc.region ?_
   | (refine isCond ?_; first | refine WPc.cT ?_ | refine WPc.cF ?_ | (refine WPc.cQ (fun hc => ?_) (fun hc => ?_) <;> try exact prA))
   | (refine isD 8 ?_; refine WPl.mnext (M := kyM) (fun k => ag (kyC k)) oPj (fun h0 => ?_) (fun A y B hAB => ?_); rotate_left; obtain ⟨x, hxl, rfl⟩ := jes_mem (l := l) (y := y) (hsub.subset (by rw [hAB]; simp)); have hxm : x ∈ L := hsL.subset hxl; have c16 := pexp1_t x.key x now g3 hn (hs x hxm); have hkl1 := x.key.src.len; have hkl2 := x.key.dst.len; have hkw : kyM.wf x.key := hwf _ (jes_in hxl); have hb1 : bx x.g 216 (pjC x) ∈ jrow x := by {unfold jrow; exact List.mem_cons_self ..}; rotate_left)
   | (refine isD 4 ?_; first | (refine isAl ?_; refine WPl.nw fun g4 => ?_) | (refine isBx ?_; refine WPl.nw fun g4 => ?_))
   | (show WPl _ _ _ _ _ _ _ (⟨_, .store _ (.tmp 4) _, _, _, _, _⟩ :: _) _; refine WPl.stA (new := kyC x.key) ?_ (hn := kyC_ok x.key))
   | (refine isD 10 ?_; refine WPl.rdX (ReadR.entry (kv := ag (kyC x.key)) (vv := hJ x.g) rfl rfl memA rfl) ?_)
   | (refine isD 16 ?_; refine WPl.cFV [ag (kyC x.key), hJ x.g] [.pointer (some ⟨g3, 0, none⟩)] c16 ?_ (hΔ := .cons (Prov.gbag (B := rbx x.g 216 (pjC x)) memA hxm hb1 rfl fun _ h => h) (.cons (Prov.bx memA) .nil)))
   | (show WPl _ _ _ _ _ _ _ (⟨none, .call ⟨.builtin .delete, _, _⟩, _, _, _, _⟩ :: _) _; refine WPl.mdelR (M := kyM) x.key hkw ?_)
   | (refine isOp ?_; first | refine WPl.rd ?_ | refine WPl.sk ?_ | refine WPl.rdB ?_)
   | fail)
  · refine WPq.rgOut (M := kyM) (m := m) (r := r) (l := jes l) (td := td) (c := cu) takeA ?_
    have hl : l = L.filter fun x => !deadB now x := sub_filterJ hsL (nodup_key hnd) fun x hx => by
      cases hd : deadB now x with
      | true => exact ⟨fun h => (by have := h2 x h hd; rw [h0] at this; cases this), fun h => (by cases h)⟩
      | false => exact ⟨fun _ => rfl, fun _ => h3 x hx hd⟩
    rw [hl]
    exact WPq.dX (vs := []) [mp kyM m (jes (L.filter fun x => !deadB now x)), gbag jrow L, bx3 g3 now] ⟨rfl, rfl⟩ (ho := ownsJ)
  · have hlt : ((A ++ B).filter (fun z => decide (z.1 ≠ x.key))).length < td.length := by
      have := List.length_filter_le (fun z : Ky × Option Nat => decide (z.1 ≠ x.key)) (A ++ B)
      rw [hAB]; simp at this ⊢; omega
    rw [mdel_filter (show ((jes l).map (·.1)).Nodup by rw [jes_keys]; exact hnl), jes_filter]
    exact WPq.rnd (l.filter (fun z => decide (z.key ≠ x.key)), (A ++ B).filter (fun z => decide (z.1 ≠ x.key)), none) ⟨List.filter_sublist.trans hsL, fun z hz hd => by
      obtain ⟨q1, q2⟩ := List.mem_filter.1 hz
      have q3 := h2 z q1 hd
      refine List.mem_filter.2 ⟨?_, by simpa using q2⟩
      rw [hAB] at q3
      rcases List.mem_append.1 q3 with q | q
      · exact List.mem_append_left _ q
      · rcases List.mem_cons.1 q with q | q
        · exact absurd (congrArg Prod.fst q) (by simpa using q2)
        · exact List.mem_append_right _ q, fun z hz hd => by
      refine List.mem_filter.2 ⟨h3 z hz hd, ?_⟩
      have : z.key ≠ x.key := fun e => by
        rw [key_one hnd hz hxm e, hc] at hd
        cases hd
      simpa using this⟩ (by rw [hkm]; exact hlt)
  · exact WPq.rnd (l, A ++ B, some (x.key, some x.g)) ⟨hsL, fun z hz hd => by
      have q3 := h2 z hz hd
      rw [hAB] at q3
      rcases List.mem_append.1 q3 with q | q
      · exact List.mem_append_left _ q
      · rcases List.mem_cons.1 q with q | q
        · have e := key_one hnd (hsL.subset hz) hxm (congrArg Prod.fst q)
          rw [e, hc] at hd
          cases hd
        · exact List.mem_append_right _ q, h3⟩ (by rw [hkm, hAB]; simp)
theorem pexpire_t (hl : L.length ≤ 1000000) (gJ : Nat) : Triple Tryz.prog 103 #[hJ gJ, .int .u64 (now : Int)] (jmA gJ m L) (RTurns (.int .i64 ((L.length : Int) - ((L.filter fun x => !deadB now x).length : Int))) [bx gJ 140 (jbc m), mp kyM m (jes (L.filter fun x => !deadB now x)), gbag jrow L]) := by
  have hlf := List.length_filter_le (fun x => !deadB now x) L
  have j1 := jes_len (l := L)
  have j2 := jes_len (l := L.filter fun x => !deadB now x)
  have c16 := fun g3 => pdelf_t m L now g3 hn hs
  show Triple _ _ _ [bx gJ 140 (jbc m), mp kyM m (jes L), gbag jrow L] _
  refine Triple.enter Tryz.func103 rfl Tryz.ntmps103 rfl (fun W => ?_)
  dsimp only [argsF, Nat.reduceAdd]
  repeat' (first
   | refine WPl.nil ?_ | refine WPq.then ?_ | refine WPc.seq ?_ | refine WPc.ret ?_ | refine WPc.region ?_
   | (refine isD 3 ?_; first | (refine isAl ?_; refine WPl.nw fun g3 => ?_) | (refine isBx ?_; refine WPl.nw fun g3 => ?_))
   | (refine isD 15 ?_; refine WPl.rdX (ReadR.mkF (xs := [_]) (vs := [.pointer (some ⟨g3, 0, none⟩)]) evsA) ?_)
   | (refine isD 10 ?_; refine WPl.rdX (ReadR.mlen rfl memA) ?_)
   | (refine isD 22 ?_; refine WPl.rdX (ReadR.mlen rfl memA) ?_)
   | (refine isD 23 ?_; refine WPl.rdX (ReadR.binE rfl rfl (BinR.subI (by omega) (by omega)) rfl) ?_)
   | (refine isC 16 ?_; refine WPl.cXs (c16 g3) fun v Γ1 hR => ?_; obtain ⟨rfl, rfl⟩ := hR; (try dsimp only [putF, List.cons_append, List.nil_append]))
   | (refine isOp ?_; first | refine WPl.rd ?_ | refine WPl.sk ?_ | refine WPl.rdB ?_)
   | fail)
  rw [j1, j2]
  exact WPq.dTs (ho := ownsJ)
omit hn hs in
end
theorem pnew_t : Triple Tryz.prog 26 #[] [] (fun v Γ => ∃ gJ m, v = hJ gJ ∧ Γ = [bx gJ 140 (jbc m), mp kyM m (jes []), gbag jrow []]) := by
  refine Triple.enter Tryz.func26 rfl Tryz.ntmps26 rfl (fun W => ?_)
  dsimp only [argsF, Nat.reduceAdd]
  repeat' (first
   | refine WPl.nil ?_ | refine WPq.then ?_ | refine WPc.seq ?_ | refine WPc.ret ?_ | refine WPc.region ?_
   | (refine isD 1 ?_; refine WPl.mnew kyM fun m => ?_)
   | (refine isD 2 ?_; refine WPl.rdX (ReadR.build (cs' := jbc m) buildA) ?_)
   | (refine isD 3 ?_; first | (refine isAl ?_; refine WPl.nw fun gJ => ?_) | (refine isBx ?_; refine WPl.nw fun gJ => ?_))
   | (refine isOp ?_; first | refine WPl.rd ?_ | refine WPl.sk ?_ | refine WPl.rdB ?_)
   | fail)
  refine WPq.gbag0 jrow ?_
  exact WPq.dX (ho := ownsJ) (vs := [hJ gJ]) [bx gJ 140 (jbc m), mp kyM m [], gbag jrow []] ⟨gJ, m, rfl, by with_unfolding_all rfl⟩
end Go.Proofs.YtpilenbdimhegaaGreatDoor
/- Layer 35 (parts): bags that are cut, or told in another order; what is read of them. -/
namespace Go.Proofs.YtpilenbdimhegaaGreatDoor
open Go.RowKit
set_option linter.unusedVariables false
set_option linter.unusedSimpArgs false
section
variable {P : Program} {n : Nat} {W : World} {S : Nat → Prop} {Γ : List Asn} {F : List (Nat × Value)} {Q : Exit → Act → World → Prop}
theorem Good.gbagSub {α : Type} {row : α → List Asn} {es es' rest : List α} {Γf : List Asn} {w : World} (ho : ∀ x A, A ∈ row x → A.own = true) (hp : es.Perm (es' ++ rest)) (h : Good W S (gbag row es :: Γf) w) : Good W S (gbag row es' :: Γf) w := by
  have h1 := h.open' (gbag_all ho es)
  have h2 : (es.flatMap row ++ Γf).Perm (es'.flatMap row ++ (Γf ++ rest.flatMap row)) := by
    have := hp.flatMap_right row
    rw [List.flatMap_append] at this
    refine (this.append_right Γf).trans ?_
    rw [List.append_assoc]
    exact List.Perm.append_left _ List.perm_append_comm
  have h3 := (h1.perm h2).close (gbag_all ho es')
  exact Good.left (Γ := gbag row es' :: Γf) (Γ' := rest.flatMap row) h3
theorem WPc.gbagSub {α : Type} {P : Program} {row : α → List Asn} {es : List α} (es' : List α) {c : Code} {Γf : List Asn} (ho : ∀ x A, A ∈ row x → A.own = true) (hs : es'.Sublist es) (k : WPc P n W S (gbag row es' :: Γf) F c Q) (ht : Take Γ (gbag row es) Γf := by first | exact takeA | fail) : WPc P n W S Γ F c Q := fun a w hf hg => by
  obtain ⟨rest, hp⟩ := hs.exists_perm_append
  exact k a w hf (Good.gbagSub ho hp (hg.perm (Takes.cons ht .nil)))
theorem WPq.gbagP {α : Type} {row : α → List Asn} {es : List α} (es' : List α) {e : Exit} {Γf : List Asn} (ho : ∀ x A, A ∈ row x → A.own = true) (hp : es.Perm es') (k : WPq n W S (gbag row es' :: Γf) F Q e) (ht : Take Γ (gbag row es) Γf := by first | exact takeA | fail) : WPq n W S Γ F Q e := fun a w hf hg =>
  k a w hf (Good.gbagSub (rest := []) ho (by rw [List.append_nil]; exact hp) (hg.perm (Takes.cons ht .nil)))
theorem Prov.prd {l : List Pt} (h : Go.Proofs.YtpilenbdimhegaaGreatDoor.gbag drow l ∈ Γ) : Prov Γ (Go.Proofs.YtpilenbdimhegaaGreatDoor.prd l) :=
  ⟨rfl, fun w hw p hp => row_reads ((hw _ h).1 _ (List.mem_flatMap.2 ⟨p, hp, List.mem_singleton.2 rfl⟩))⟩
theorem fpPrd {Γf : List Asn} {l : List Pt} (h : gbag drow l ∈ Γf) : ∀ A, A ∈ [prd l] → ∀ g, A.fp g → ∃ B, B ∈ Γf ∧ B.fp g := fun A hA g hg => by
  rw [List.mem_singleton.1 hA] at hg
  obtain ⟨p, hp, hg⟩ := hg
  exact ⟨_, h, ob p.v p.d, List.mem_flatMap.2 ⟨p, hp, List.mem_singleton.2 rfl⟩, hg.2⟩
end
end Go.Proofs.YtpilenbdimhegaaGreatDoor
/- Layer 35 (parts): a part is kept: contracts. -/
namespace Go.Proofs.YtpilenbdimhegaaGreatDoor
set_option linter.unusedVariables false
set_option linter.unusedSimpArgs false
def noPart (h : Hd) : Hd := { h with part := false }
def RAddJ (gJ m : Nat) (L : List PJ) (k : Ky) (p : Pt) (now : Nat) : Value → List Asn → Prop := fun v Γ =>
  (64 ≤ L.length ∧ (∀ x ∈ L, x.key ≠ k) ∧ v = .tuple #[.slice none 0 0, .int .i64 2] ∧ Γ = [bx gJ 140 (jbc m), mp kyM m (jes L), gbag jrow L]) ∨
  ∃ (x0 : PJ) (A B : List PJ), x0.key = k ∧ ((L = A ++ x0 :: B) ∨ (L = A ∧ B = [] ∧ (∀ x ∈ L, x.key ≠ k) ∧ L.length < 64 ∧ x0.ps = [] ∧ x0.since = now)) ∧
    ((againstP x0.ps p ≠ 0 ∧ v = .tuple #[.slice none 0 0, .int .i64 (againstP x0.ps p)] ∧ Γ = [bx gJ 140 (jbc m), mp kyM m (jes (A ++ B)), gbag jrow (A ++ B)]) ∨
     (againstP x0.ps p = 0 ∧ ∃ ps' : List Pt, ps'.Perm (x0.ps ++ [p]) ∧ ps'.Pairwise (fun a b => ltOf ptCf b a = false) ∧
       ((wholeB ps' = false ∧ ∃ v' : Value, v'.oneCell' = true ∧ v = .tuple #[.slice none 0 0, .int .i64 0] ∧ Γ = [bx gJ 140 (jbc m), mp kyM m (jes (A ++ ⟨x0.g, v', ps', x0.since, x0.key⟩ :: B)), gbag jrow (A ++ ⟨x0.g, v', ps', x0.since, x0.key⟩ :: B)]) ∨
        (wholeB ps' = true ∧ ∃ (p0 : Pt) (s : Value), ps'[0]? = some p0 ∧ s.oneCell' = true ∧ v = .tuple #[s, .int .i64 (fwerr (noPart p0.h) (dataP ps').length)] ∧ Γ = [bx gJ 140 (jbc m), mp kyM m (jes (A ++ B)), gbag jrow (A ++ B), ob s (fwL (noPart p0.h) (dataP ps'))]))))
theorem pts_hd {l : List Pt} {i : Nat} {p : Pt} (h : l[i]? = some p) : ((pts l).drop (i * 42 + 3)).take 39 = flat (hdc p.h) := by
  have h1 := pts_at h
  have h2 : ((flat (ptC p)).drop 3).take 39 = flat (hdc p.h) := by
    simp [flat_eq, u8s_length, p.h.src.len, p.h.dst.len]
    exact List.take_of_length_le (by simp [u8s_length, p.h.src.len, p.h.dst.len])
  rw [← h2, ← h1, List.drop_take, List.drop_drop, List.take_take]
  congr 1
theorem jes_get {l : List PJ} {k : Ky} {o : Option (Option Nat)} (h : mfind (jes l) k = o) : kyM.vc (mget kyM (jes l) k) = oPj (o.getD none) ∧ mhas (jes l) k = o.isSome := by
  subst h
  with_unfolding_all exact ⟨rfl, rfl⟩
theorem jes_at {l : List PJ} {i : Nat} {x : PJ} (h : l[i]? = some x) : (jes l)[i]? = some (x.key, some x.g) := by
  unfold jes; rw [List.getElem?_map, h]; rfl
theorem jes_mid {A B : List PJ} {x : PJ} (hn : ((jes (A ++ x :: B)).map (·.1)).Nodup) : mfind (jes (A ++ x :: B)) x.key = some (some x.g) :=
  (mfind_some hn (jes_at (i := A.length) (by rw [List.getElem?_append_right (Nat.le_refl _), Nat.sub_self]; rfl)) rfl).1
theorem jes_no {l : List PJ} {k : Ky} (h : ∀ x ∈ l, x.key ≠ k) : mfind (jes l) k = none := (mfind_none fun x hx => by
  obtain ⟨y, hy, rfl⟩ := List.mem_map.1 hx
  exact h y hy).1
theorem jes_put {l : List PJ} {x : PJ} (h : ∀ y ∈ l, y.key ≠ x.key) : mput (jes l) x.key (some x.g) = jes (l ++ [x]) := by
  rw [(mfind_none (mfind_none_of (jes_no h))).2.1]
  unfold jes
  rw [List.map_append]
  rfl
theorem jes_del {A B : List PJ} {x : PJ} (hn : ((jes (A ++ x :: B)).map (·.1)).Nodup) : mdel (jes (A ++ x :: B)) x.key = jes (A ++ B) := by
  rw [mdel_filter hn, jes_filter]
  congr 1
  rw [jes_keys, List.map_append, List.map_cons] at hn
  have h1 := List.nodup_append.1 hn
  have h2 := List.nodup_cons.1 h1.2.1
  rw [List.filter_append, List.filter_cons_of_neg (by simp)]
  congr 1
  · rw [List.filter_eq_self]
    intro b hb
    have : b.key ≠ x.key := fun e => h1.2.2 _ (List.mem_map.2 ⟨b, hb, rfl⟩) _ (List.mem_cons_self ..) e
    simpa using this
  · rw [List.filter_eq_self]
    intro b hb
    have : b.key ≠ x.key := fun e => h2.1 (List.mem_map.2 ⟨b, hb, e⟩)
    simpa using this
theorem jes_turn {A B : List PJ} {x y : PJ} (hk : y.key = x.key) (hg : y.g = x.g) : jes (A ++ y :: B) = jes (A ++ x :: B) := by
  unfold jes
  rw [List.map_append, List.map_cons, List.map_append, List.map_cons, hk, hg]
theorem whole_len {l : List Pt} {n : Nat} (hw : wholeB l = true) (h0 : 0 < l.length) (hf : ∀ p ∈ l, p.fin ≤ n) : (dataP l).length ≤ n := by
  unfold wholeB at hw
  rw [Bool.and_eq_true, List.all_eq_true] at hw
  have h1 := hw.1 (l.length - 1) (List.mem_range.2 (by omega))
  obtain ⟨p, hp⟩ : ∃ p, l[l.length - 1]? = some p := ⟨_, List.getElem?_eq_getElem (by omega)⟩
  unfold okAt at h1
  rw [hp] at h1
  have h1 := of_decide_eq_true h1
  have h2 := dataP_snoc hp
  rw [List.take_of_length_le (by omega)] at h2
  rw [h2, List.length_append]
  have h3 := hf p (List.mem_of_getElem? hp)
  have h4 : p.fin = p.pos + p.d.length := rfl
  omega
theorem hdc_ok (h : Hd) : FOk (hdc h) := .one1 rfl (.one1 rfl (.one1 rfl (.one1 rfl (.bytes h.src.len (.one1 rfl (.bytes h.dst.len (.one1 rfl (.one1 rfl .nil))))))))
open Go.RowKit
set_option linter.unusedSimpArgs false
set_option linter.unusedVariables false
set_option maxRecDepth 20000
set_option maxHeartbeats 4000000
attribute [local irreducible] WPc WPl WPq ReadR OpT BinR HasS bx rdN rowN Take Takes Prov Triple ResF BuildP Done ag Int.decLt Int.decLe Int.instDecidableEq
attribute [local irreducible] mp rmp rg rgo mput mget mfind mdel gbag jes pts Pt.v Pt.fin Pt.wf overB badB wholeB okAt dataP prd againstP fwL fwerr
section
variable (gJ m : Nat) (L : List PJ) (k : Ky) (p : Pt) (now : Nat) (hk1' : k.id < 65536) (hp : p.fin ≤ 100000) (hb : ∀ x ∈ L, x.ps.length ≤ 9998 ∧ ∀ o ∈ x.ps, o.fin ≤ 100000) (hLl : L.length ≤ 1000000)
include hk1' hp hb hLl
theorem padd_t : Triple Tryz.prog 104 #[hJ gJ, ag (ptC p), ag (kyC k), .int .u64 (now : Int)] (jmA gJ m L ++ [ob p.v p.d]) (RAddJ gJ m L k p now) := by
  have hkw : kyM.wf k := hk1'
  have hpv := p.v1
  have l1 := p.h.src.len
  have l2 := p.h.dst.len
  have l3 := k.src.len
  have l4 := k.dst.len
  have hfp := ptC_ok p
  have hjl := jes_len (l := L)
  have ez : pts [] = [] := by with_unfolding_all rfl
  show Triple _ _ _ [bx gJ 140 (jbc m), mp kyM m (jes L), gbag jrow L, ob p.v p.d] _
  refine Triple.enter Tryz.func104 rfl Tryz.ntmps104 rfl (fun W => ?_)
  dsimp only [argsF, Nat.reduceAdd]
  refine WPc.mkeys (M := kyM) (m := m) (l := jes L) memA fun hnd0 _ => ?_
  refine WPc.nilRowN 184 42 ?_
  refine WPc.gbag0 drow ?_
  repeat' (first
   | (refine isSeq1 1 ?_; refine Held.it ?_)
   | refine WPl.nil ?_ | refine WPq.then ?_ | refine WPc.seq ?_ | refine WPc.region ?_
   | (refine isD 5 ?_; first | (refine isAl ?_; refine WPl.nw fun g5 => ?_) | (refine isBx ?_; refine WPl.nw fun g5 => ?_))
   | (refine isD 6 ?_; first | (refine isAl ?_; refine WPl.nw fun g6 => ?_) | (refine isBx ?_; refine WPl.nw fun g6 => ?_))
   | (refine isOp ?_; first | refine WPl.rd ?_ | refine WPl.sk ?_ | refine WPl.rdB ?_)
   | fail)
  refine ⟨?_⟩
  obtain ⟨pv, hpv2⟩ : ∃ pv, kyM.vc (mget kyM (jes L) k) = pv := ⟨_, rfl⟩
  obtain ⟨b1, hb1⟩ : ∃ b1, mhas (jes L) k = b1 := ⟨_, rfl⟩
  repeat' (first
   | (refine isSeqR 2 ?_; refine WPc.join (σ := PJ × List PJ × List PJ) (fun st => st.1.key = k ∧ ((L = st.2.1 ++ st.1 :: st.2.2) ∨ (L = st.2.1 ∧ st.2.2 = [] ∧ (∀ x ∈ L, x.key ≠ k) ∧ L.length < 64 ∧ st.1.ps = [] ∧ st.1.since = now)) ∧ st.1.ps.length ≤ 9998 ∧ ∀ o ∈ st.1.ps, o.fin ≤ 100000) (fun st => [bx gJ 140 (jbc m), mp kyM m (jes (st.2.1 ++ st.1 :: st.2.2)), gbag jrow (st.2.1 ++ st.1 :: st.2.2), ob p.v p.d, bx g5 184 (ptC p), bx g6 163 (kyC k)]) (fun st => [(0, hJ gJ), (5, .pointer (some ⟨g5, 0, none⟩)), (6, .pointer (some ⟨g6, 0, none⟩)), (10, hJ st.1.g)]) ?_ (fun st hx => ?_))
   | (refine isSeq1 2 ?_; refine Held.it ?_)
   | (refine isSeq1 7 ?_; refine Held.it ?_)
   | refine WPq.then ?_ | refine WPc.seq ?_
   | (refine isReg 1 ?_; refine WPc.drA [([], [21]), ([0], [17, 21]), ([0, 1], [17, 18, 21]), ([0, 1, 2], [17, 18, 19, 21]), ([], [17, 18, 19, 20]), ([0, 1, 2, 3, 4], [17, 18, 19, 20, 21]), ([0, 1, 2, 3, 4, 5], [17, 18, 19, 20, 21, 22]), ([0, 1, 2, 3, 4, 5, 6], [16, 17, 18, 19, 20, 21, 22, 24]), ([0, 1, 2, 3, 4, 5, 6], [10, 16, 17, 18, 19, 20, 21, 22, 23]), ([0, 1, 2, 3, 4, 5, 6, 7], [16, 17, 18, 19, 20, 21, 22, 23, 24]), ([0, 1, 2, 3, 4, 5, 6, 7, 8, 9], [10, 16, 17, 18, 19, 20, 21, 22, 23, 24])] [] (Γx := []) ?_; dsimp only [prev0, List.length_nil, List.length_cons])
   | (refine gAny ?_; first | (refine gD 22 ?_; refine RGl.rdX (fun e hk => by (try dsimp only [bndR, ensR, oksR, fcutR, List.append_nil, List.nil_append, List.cons_append, List.append_assoc] at hk ⊢); exact ReadR.lookOk (M := kyM) (k := k) hkw rfl rfl memA hpv2 hb1) ?_) | (refine gOp ?_; first | refine RGl.rdA ?_ | refine RGl.rdX (fun e hk => by (try dsimp only [bndR, ensR, oksR, fcutR, List.append_nil, List.nil_append, List.cons_append, List.append_assoc] at hk ⊢); exact readB) ?_) | (refine RGl.fin (fun e hk => ?_); (try dsimp only [bndA, ensAR, oksA, List.append_nil, List.nil_append, List.cons_append, List.append_assoc] at hk ⊢); (repeat (obtain ⟨hk1, hk⟩ := hk))) | fail)
   | fail)
  · refine ⟨?_⟩
    by_cases hex : ∃ x ∈ L, x.key = k
    · obtain ⟨x0, hx0, rfl⟩ := hex
      obtain ⟨A, B, rfl⟩ := List.append_of_mem hx0
      obtain ⟨hget, hbm⟩ := jes_get (jes_mid hnd0)
      rw [hget] at hpv2
      rw [hbm] at hb1
      have hb1 : true = b1 := hb1
      have hpv2 : hJ x0.g = pv := hpv2
      subst hb1 hpv2
      repeat' (first
       | refine WPl.nil ?_ | refine WPq.then ?_ | refine WPc.seq ?_ | refine WPc.skip ?_ | refine WPc.region ?_
       | (refine isCond ?_; first | refine WPc.cT ?_ | refine WPc.cF ?_ | (refine WPc.cQ (fun hc => ?_) (fun hc => ?_) <;> try first | exact prA | (exfalso; first | omega)))
       | (refine isOp ?_; first | refine WPl.rd ?_ | refine WPl.sk ?_ | refine WPl.rdB ?_)
       | fail)
      exact WPq.join (x0, A, B) ⟨rfl, .inl rfl, hb x0 hx0⟩
    · have hno : ∀ x ∈ L, x.key ≠ k := fun x hx e => hex ⟨x, hx, e⟩
      obtain ⟨hget, hbm⟩ := jes_get (jes_no hno)
      rw [hbm] at hb1
      have hb1 : false = b1 := hb1
      subst hb1
      by_cases hf1 : 64 ≤ L.length
      · have hge : ((jes L).length : Int) ≥ 64 := by omega
        repeat' (first
         | refine WPl.nil ?_ | refine WPq.then ?_ | refine WPq.thenR ?_ | refine WPc.seq ?_ | refine WPc.ret ?_ | refine WPc.region ?_
         | (refine isCond ?_; first | refine WPc.cT ?_ | refine WPc.cF ?_ | (refine WPc.cQ (fun hc => ?_) (fun hc => ?_) <;> try first | exact prA | (exfalso; first | omega)))
         | (refine isD 31 ?_; refine WPl.rdX (ReadR.mlen rfl memA) ?_)
         | (refine isD 32 ?_; refine WPl.rdX (ReadR.binE rfl rfl BinR.geq (congrArg Value.bool (decide_eq_true hge))) ?_)
         | (refine isOp ?_; first | refine WPl.rd ?_ | refine WPl.sk ?_ | refine WPl.rdB ?_)
         | fail)
        exact WPq.dX (vs := [.slice none 0 0, .int .i64 2]) [bx gJ 140 (jbc m), mp kyM m (jes L), gbag jrow L] (.inl ⟨hf1, hno, rfl, rfl⟩) (ho := ownsJ)
      have hge : ¬ ((jes L).length : Int) ≥ 64 := by omega
      repeat' (first
       | refine WPl.nil ?_ | refine WPq.then ?_ | refine WPc.seq ?_ | refine WPc.skip ?_ | refine WPc.region ?_
       | (refine isReg 6 ?_; refine WPc.drA [([7], [40, 41]), ([0, 7], [36, 40, 41]), ([0, 1, 7], [36, 37, 40, 41]), ([0, 1, 2, 7], [36, 37, 38, 40, 41]), ([7], [36, 37, 38, 39, 41]), ([7], [36, 37, 38, 39, 40]), ([0, 1, 2, 3, 4, 5, 7], [36, 37, 38, 39, 40, 41])] [(7, 6), (7, 0), (7, 1), (7, 2), (7, 3), (7, 4), (7, 5)] (Γx := [mp kyM m (jes L)]) (hox := ownsA) ?_; dsimp only [prev0, List.length_nil, List.length_cons])
       | (refine gAny ?_; first | (refine gOp ?_; refine RGl.turn (fun e hk => by (try dsimp only [bndR, ensR, oksR, fcutR, List.append_nil, List.nil_append, List.cons_append, List.append_assoc] at hk ⊢); exact OpT.mput (k := k) (v := some g35) (hkw) rfl rfl rfl takesA) ?_) | (refine gOp ?_; first | refine RGl.rdA ?_ | refine RGl.rdX (fun e hk => by (try dsimp only [bndR, ensR, oksR, fcutR, List.append_nil, List.nil_append, List.cons_append, List.append_assoc] at hk ⊢); exact readB) ?_) | (refine RGl.fin (fun e hk => ?_); (try dsimp only [bndA, ensAR, oksA, List.append_nil, List.nil_append, List.cons_append, List.append_assoc] at hk ⊢); (repeat (obtain ⟨hk1, hk⟩ := hk))) | fail)
       | (refine isCond ?_; first | refine WPc.cT ?_ | refine WPc.cF ?_ | (refine WPc.cQ (fun hc => ?_) (fun hc => ?_) <;> try first | exact prA | (exfalso; first | omega)))
       | (refine isD 31 ?_; refine WPl.rdX (ReadR.mlen rfl memA) ?_)
       | (refine isD 32 ?_; refine WPl.rdX (ReadR.binE rfl rfl BinR.geq (congrArg Value.bool (decide_eq_false hge))) ?_)
       | (refine isD 34 ?_; refine WPl.rdX (ReadR.build (cs' := [(1, [.slice none 0 0]), (1, [.int .u64 (now : Int)])]) buildA) ?_)
       | (refine isD 35 ?_; first | (refine isAl ?_; refine WPl.nw fun g35 => ?_) | (refine isBx ?_; refine WPl.nw fun g35 => ?_))
       | (refine isOp ?_; first | refine WPl.rd ?_ | refine WPl.sk ?_ | refine WPl.rdB ?_)
       | fail)
      have hpt : mput (jes L) k (some g35) = jes (L ++ [⟨g35, .slice none 0 0, [], now, k⟩]) := jes_put (x := ⟨g35, .slice none 0 0, [], now, k⟩) hno
      rw [hpt]
      refine WPq.gbagI (row := jrow) (es := L ++ [⟨g35, .slice none 0 0, [], now, k⟩]) (es' := L) (x := ⟨g35, .slice none 0 0, [], now, k⟩) jrow_own List.perm_append_comm (by show Takes _ [gbag jrow L, bx g35 216 [(1, [.slice none 0 0]), (1, [.int .u64 (now : Int)])], rowN 184 42 (.slice none 0 0) 0 (pts []), gbag drow []] _; rw [ez]; exact takesA) ?_
      exact WPq.join (⟨g35, .slice none 0 0, [], now, k⟩, L, []) ⟨rfl, .inr ⟨rfl, rfl, hno, by omega, rfl, rfl⟩, Nat.zero_le _, fun o ho => by cases ho⟩
  refine ⟨?_⟩
  obtain ⟨x0, A, B⟩ := st
  obtain ⟨hxk, hor, hxl, hxf⟩ := hx
  dsimp only at hxk hor hxl hxf ⊢
  refine WPc.mkeys (M := kyM) (m := m) (l := jes (A ++ x0 :: B)) memA fun hnd _ => ?_
  refine WPc.gbagO (row := jrow) (es := A ++ x0 :: B) (es' := A ++ B) (x := x0) jrow_own List.perm_middle ?_
  rw [show jrow x0 = [bx x0.g 216 (pjC x0), rowN 184 42 x0.vP x0.ps.length (pts x0.ps), gbag drow x0.ps] from rfl]
  dsimp only [List.cons_append, List.nil_append]
  subst hxk
  have hdel := jes_del hnd
  have c44 := pagainst_t x0 p hp hxf (by omega)
  by_cases he : againstP x0.ps p = 0
  · rw [he] at c44
    repeat' (first
     | (refine isSeq1 12 ?_; refine Held.it ?_)
     | refine WPl.nil ?_ | refine WPq.then ?_ | refine WPc.seq ?_ | refine WPc.skip ?_ | refine WPc.region ?_
     | (refine isReg 11 ?_; refine WPc.drA [([11, 12], [54, 55, 56, 57, 58, 59, 60]), ([11, 12], [53, 58, 59]), ([1, 11, 12], [53, 54, 58, 59]), ([1, 2, 11, 12], [53, 54, 55, 58, 59]), ([1, 2, 3, 11, 12], [53, 54, 55, 56, 58, 59]), ([11, 12], [53, 54, 55, 56, 57]), ([5, 11, 12], [53, 54, 55, 56, 57, 58]), ([1, 2, 3, 4, 5, 6, 11, 12], [53, 54, 55, 56, 57, 58, 59]), ([0, 1, 2, 3, 4, 5, 6, 7, 11, 12], [53, 54, 55, 56, 57, 58, 59, 60]), ([0, 1, 2, 3, 4, 5, 6, 7, 8, 11, 12], [53, 54, 55, 56, 57, 58, 59, 60, 61]), ([0, 1, 2, 3, 4, 5, 6, 7, 8, 9, 11, 12], [53, 54, 55, 56, 57, 58, 59, 60, 61, 62])] [(12, 7), (11, 10), (12, 1), (12, 2), (12, 3), (12, 4), (12, 5), (12, 6), (11, 0), (11, 1), (11, 2), (11, 3), (11, 4), (11, 5), (11, 6), (11, 7), (11, 8), (11, 9)] (Γx := [bx x0.g 216 (pjC x0), rowN 184 42 x0.vP x0.ps.length (pts x0.ps)]) ?_; dsimp only [prev0, List.length_nil, List.length_cons])
     | (refine gAny ?_; first | (refine gD 59 ?_; refine RGl.row (Γ1 := fun _ => []) (fun e hk => by (try dsimp only [bndR, ensR, oksR, fcutR, List.append_nil, List.nil_append, List.cons_append, List.append_assoc] at hk ⊢); exact OpT.buildS1 (ds := ptC p) rfl hfp (by first | assumption | rfl) rfl) ?_) | (refine gD 60 ?_; refine RGl.row (Γ1 := fun e => [rowN 184 42 x0.vP x0.ps.length (pts x0.ps)]) (m := fun e => x0.ps.length + 1) (xs := fun e => pts x0.ps ++ flat (ptC p)) (fun e hk => by (try dsimp only [bndR, ensR, oksR, fcutR, List.append_nil, List.nil_append, List.cons_append, List.append_assoc] at hk ⊢); exact OpT.appendN (m := x0.ps.length) (m2 := 1) (xs := pts x0.ps) (ys := flat (ptC p)) rfl rfl takesA (hasA) (by rw [ptC_len]) hfp.one (by omega)) ?_) | (refine gSt ?_; refine RGl.turn (fun e hk => by (try dsimp only [bndR, ensR, oksR, fcutR, List.append_nil, List.nil_append, List.cons_append, List.append_assoc] at hk ⊢); exact OpT.store1 rfl rfl takesA (by (repeat (obtain ⟨hk1, hk⟩ := hk)) <;> assumption) (by dsimp only [sel, takeCh, upd, dropCh, appCh, setAt, chAt, Option.map_some, List.cons_append, List.nil_append, Nat.reduceSub, Nat.reduceAdd] <;> exact rfl)) ?_) | (refine gOp ?_; first | refine RGl.rdA ?_ | refine RGl.rdX (fun e hk => by (try dsimp only [bndR, ensR, oksR, fcutR, List.append_nil, List.nil_append, List.cons_append, List.append_assoc] at hk ⊢); exact readB) ?_) | (refine RGl.fin (fun e hk => ?_); (try dsimp only [bndA, ensAR, oksA, List.append_nil, List.nil_append, List.cons_append, List.append_assoc] at hk ⊢); (repeat (obtain ⟨hk1, hk⟩ := hk))) | fail)
     | (refine isCond ?_; first | refine WPc.cT ?_ | refine WPc.cF ?_ | (refine WPc.cQ (fun hc => ?_) (fun hc => ?_) <;> try first | exact prA | (exfalso; first | omega)))
     | (refine isC 44 ?_; refine WPl.cV c44 ?_ (hΔ := provsX))
     | (refine isD 46 ?_; refine WPl.rdX (ReadR.binE rfl rfl BinR.neq (congrArg (fun q => Value.bool (!q)) (decide_eq_true (rfl : (0 : Int) = 0)))) ?_)
     | (refine isOp ?_; first | refine WPl.rd ?_ | refine WPl.sk ?_ | refine WPl.rdB ?_)
     | fail)
    refine ⟨?_⟩
    have h7 : (e 7).1.oneCell' = true := by assumption
    obtain ⟨v60, hv60⟩ : ∃ v60, v60 = (e 7).1 := ⟨_, rfl⟩
    dsimp only [Nat.reduceAdd]
    rw [← hv60] at h7 ⊢
    clear hv60
    have hrow : rowN 184 42 v60 (x0.ps.length + 1) (pts x0.ps ++ flat (ptC p)) = rowN 184 42 v60 (x0.ps ++ [p]).length (pts (x0.ps ++ [p])) := by
      rw [pts_app, pts_one, List.length_append]; rfl
    rw [hrow]
    refine WPc.gbagI (row := drow) (es := x0.ps ++ [p]) (es' := x0.ps) (x := p) drow_own List.perm_append_comm (show Takes _ [gbag drow x0.ps, ob p.v p.d] _ from takesA) ?_
    have hfx : ∀ o ∈ x0.ps ++ [p], o.fin ≤ 100000 := fun o ho => by
      rcases List.mem_append.1 ho with ho | ho
      · exact hxf o ho
      · rw [List.mem_singleton.1 ho]; exact hp
    have hlx : (x0.ps ++ [p]).length ≤ 10000 := by rw [List.length_append]; simp; omega
    have c65 := pwhole_t ⟨x0.g, v60, x0.ps ++ [p], x0.since, x0.key⟩ hfx hlx
    have hdl2 : ∀ ps' : List Pt, ps'.Perm (x0.ps ++ [p]) → (dataP ps').length ≤ 1000000000 := fun ps' hpm => by
      have := dataP_len (l := ps') fun o ho => hfx o (hpm.mem_iff.1 ho)
      have h2 := hpm.length_eq
      omega
    repeat' (first
     | refine WPl.nil ?_ | refine WPq.then ?_ | refine WPq.thenR ?_ | refine WPc.seq ?_ | refine WPc.ret ?_ | refine WPc.skip ?_ | refine WPc.region ?_
     | (refine isReg 15 ?_; refine WPc.drA [([6], [74]), ([0, 6], [70, 74]), ([0, 1, 6], [70, 71, 74]), ([0, 1, 2, 6], [70, 71, 72, 74]), ([6], [70, 71, 72, 73]), ([0, 1, 2, 3, 4, 6], [70, 71, 72, 73, 74])] [(6, 5), (6, 0), (6, 1), (6, 2), (6, 3), (6, 4)] (Γx := [mp kyM m (jes (A ++ x0 :: B))]) (hox := ownsA) ?_; dsimp only [prev0, List.length_nil, List.length_cons])
     | (refine gAny ?_; first | (refine gOp ?_; refine RGl.turn (fun e hk => by (try dsimp only [bndR, ensR, oksR, fcutR, List.append_nil, List.nil_append, List.cons_append, List.append_assoc] at hk ⊢); exact OpT.mdel (k := x0.key) (hkw) rfl rfl takesA) ?_) | (refine gOp ?_; first | refine RGl.rdA ?_ | refine RGl.rdX (fun e hk => by (try dsimp only [bndR, ensR, oksR, fcutR, List.append_nil, List.nil_append, List.cons_append, List.append_assoc] at hk ⊢); exact readB) ?_) | (refine RGl.fin (fun e hk => ?_); (try dsimp only [bndA, ensAR, oksA, List.append_nil, List.nil_append, List.cons_append, List.append_assoc] at hk ⊢); (repeat (obtain ⟨hk1, hk⟩ := hk))) | fail)
     | (refine isCond ?_; first | refine WPc.cT ?_ | refine WPc.cF ?_ | (refine WPc.cQ (fun hc => ?_) (fun hc => ?_) <;> try first | exact prA | (exfalso; first | omega)))
     | (refine isC 65 ?_; refine WPl.callO c65 evsA takesA (Provs.cons (Prov.prd memA) Provs.nil) (fpPrd memA) (by kernel_rfl) rfl rfl (fun v65 Γ1 hR => ?_); obtain ⟨ps', vo, hperm, hsort, hvo, rfl, rfl⟩ := hR; have hperm : ps'.Perm (x0.ps ++ [p]) := hperm; obtain ⟨p0, hp0⟩ : ∃ p0, ps'[0]? = some p0 := ⟨_, List.getElem?_eq_getElem (by rw [hperm.length_eq, List.length_append]; simp)⟩; have hh0 := pts_hd hp0; have hf0 := hdc_ok p0.h; have k1 := p0.h.src.len; have k2 := p0.h.dst.len; have hpl := pts_len (l := ps'); have h0l : 0 < ps'.length := (List.getElem?_eq_some_iff.1 hp0).1; have c85 := fwrite_t (noPart p0.h) vo (dataP ps'); have hwl : wholeB ps' = true → (dataP ps').length ≤ 100000 := fun hw => whole_len hw h0l fun o ho => hfx o (hperm.mem_iff.1 ho); cases hwb : wholeB ps' <;> simp only [Bool.false_eq_true, if_false, if_true, List.cons_append, List.nil_append, putF])
     | (refine isD 79 ?_; refine WPl.rdX (ReadR.indexE (i := 0) rfl rfl hasA h0l) ?_)
     | (refine isD 80 ?_; refine WPl.rdX (ReadR.fieldE rfl hasA (by omega)) ?_)
     | (refine isD 81 ?_; refine WPl.rdX (ReadR.loadES (cs := hdc p0.h) hh0 (by omega) rfl hasA) ?_)
     | (refine isD 15 ?_; first | (refine isAl ?_; refine WPl.nw fun g15 => ?_) | (refine isBx ?_; refine WPl.nw fun g15 => ?_))
     | (show WPl _ _ _ _ _ _ _ (⟨_, .store _ (.tmp 15) _, _, _, _, _⟩ :: _) _; refine WPl.stA (new := hdc p0.h) ?_ (hn := hf0))
     | (refine isC 85 ?_; refine WPl.cR2 ((c85 (hwl hwb))) fun v85 hv85 => ?_)
     | (refine isOp ?_; first | refine WPl.rd ?_ | refine WPl.sk ?_ | refine WPl.rdB ?_)
     | (refine isSt ?_; first | refine WPl.st1 ?_ | refine WPl.stA ?_ | refine WPl.stEB ?_ | refine WPl.stRB ?_)
     | fail)
    · refine WPq.gbagP (row := drow) (es := x0.ps ++ [p]) ps' drow_own hperm.symm ?_
      refine WPq.gbagI (row := jrow) (es := A ++ ⟨x0.g, v60, ps', x0.since, x0.key⟩ :: B) (es' := A ++ B) (x := ⟨x0.g, v60, ps', x0.since, x0.key⟩) jrow_own List.perm_middle (show Takes _ [gbag jrow (A ++ B), bx x0.g 216 (pjC ⟨x0.g, v60, ps', x0.since, x0.key⟩), rowN 184 42 v60 ps'.length (pts ps'), gbag drow ps'] _ from takesA) ?_
      rw [show jes (A ++ x0 :: B) = jes (A ++ ⟨x0.g, v60, ps', x0.since, x0.key⟩ :: B) from (jes_turn (A := A) (B := B) (x := x0) (y := ⟨x0.g, v60, ps', x0.since, x0.key⟩) rfl rfl).symm]
      exact WPq.dX (vs := [.slice none 0 0, .int .i64 0]) [bx gJ 140 (jbc m), mp kyM m (jes (A ++ ⟨x0.g, v60, ps', x0.since, x0.key⟩ :: B)), gbag jrow (A ++ ⟨x0.g, v60, ps', x0.since, x0.key⟩ :: B)] (.inr ⟨x0, A, B, rfl, hor, .inr ⟨he, ps', hperm, hsort, .inl ⟨hwb, v60, h7, rfl, rfl⟩⟩⟩) (ho := ownsJ)
    · rw [hdel]
      exact WPq.dX (vs := [v85, .int .i64 (fwerr (noPart p0.h) (dataP ps').length)]) [bx gJ 140 (jbc m), mp kyM m (jes (A ++ B)), gbag jrow (A ++ B), ob v85 (fwL (noPart p0.h) (dataP ps'))] (.inr ⟨x0, A, B, rfl, hor, .inr ⟨he, ps', hperm, hsort, .inr ⟨hwb, p0, v85, hp0, hv85, rfl, rfl⟩⟩⟩) (ho := ownsJ)
  · skip
    repeat' (first
     | refine WPl.nil ?_ | refine WPq.then ?_ | refine WPq.thenR ?_ | refine WPc.seq ?_ | refine WPc.ret ?_ | refine WPc.region ?_
     | (refine isReg 9 ?_; refine WPc.drA [([6], [51]), ([0, 6], [47, 51]), ([0, 1, 6], [47, 48, 51]), ([0, 1, 2, 6], [47, 48, 49, 51]), ([6], [47, 48, 49, 50]), ([0, 1, 2, 3, 4, 6], [47, 48, 49, 50, 51])] [(6, 5), (6, 0), (6, 1), (6, 2), (6, 3), (6, 4)] (Γx := [mp kyM m (jes (A ++ x0 :: B))]) (hox := ownsA) ?_; dsimp only [prev0, List.length_nil, List.length_cons])
     | (refine gAny ?_; first | (refine gOp ?_; refine RGl.turn (fun e hk => by (try dsimp only [bndR, ensR, oksR, fcutR, List.append_nil, List.nil_append, List.cons_append, List.append_assoc] at hk ⊢); exact OpT.mdel (k := x0.key) (hkw) rfl rfl takesA) ?_) | (refine gOp ?_; first | refine RGl.rdA ?_ | refine RGl.rdX (fun e hk => by (try dsimp only [bndR, ensR, oksR, fcutR, List.append_nil, List.nil_append, List.cons_append, List.append_assoc] at hk ⊢); exact readB) ?_) | (refine RGl.fin (fun e hk => ?_); (try dsimp only [bndA, ensAR, oksA, List.append_nil, List.nil_append, List.cons_append, List.append_assoc] at hk ⊢); (repeat (obtain ⟨hk1, hk⟩ := hk))) | fail)
     | (refine isCond ?_; first | refine WPc.cT ?_ | refine WPc.cF ?_ | (refine WPc.cQ (fun hc => ?_) (fun hc => ?_) <;> try first | exact prA | (exfalso; first | omega)))
     | (refine isC 44 ?_; refine WPl.cV c44 ?_ (hΔ := provsX))
     | (refine isD 46 ?_; refine WPl.rdX (ReadR.binE rfl rfl BinR.neq (congrArg (fun q => Value.bool (!q)) (decide_eq_false he))) ?_)
     | (refine isOp ?_; first | refine WPl.rd ?_ | refine WPl.sk ?_ | refine WPl.rdB ?_)
     | fail)
    rw [hdel]
    exact WPq.dX (vs := [.slice none 0 0, .int .i64 (againstP x0.ps p)]) [bx gJ 140 (jbc m), mp kyM m (jes (A ++ B)), gbag jrow (A ++ B)] (.inr ⟨x0, A, B, rfl, hor, .inl ⟨he, rfl, rfl⟩⟩) (ho := ownsJ)
end
end Go.Proofs.YtpilenbdimhegaaGreatDoor
/- Layer 35 (parts): a packet comes: contracts. -/
namespace Go.Proofs.YtpilenbdimhegaaGreatDoor
set_option linter.unusedVariables false
set_option linter.unusedSimpArgs false
abbrev liveJ (L : List PJ) (now : Nat) : List PJ := L.filter fun x => !deadB now x
def RAddA (gJ m : Nat) (L : List PJ) (b : List UInt8) (now : Nat) : Value → List Asn → Prop := fun v Γ =>
  (ferr b ≠ 0 ∧ v = .tuple #[.slice none 0 0, .int .i64 (ferr b)] ∧ Γ = [bx gJ 140 (jbc m), mp kyM m (jes L), gbag jrow L]) ∨
  (ferr b = 0 ∧ (fhead b).part = false ∧ ∃ s : Value, s.oneCell' = true ∧ v = .tuple #[s, .int .i64 0] ∧ Γ = [bx gJ 140 (jbc m), mp kyM m (jes L), gbag jrow L, ob s b]) ∨
  (ferr b = 0 ∧ (fhead b).part = true ∧ ∃ a c, (aloneP (ptOf (fhead b) (ihl b) b a c) ≠ 0 ∧ v = .tuple #[.slice none 0 0, .int .i64 (aloneP (ptOf (fhead b) (ihl b) b a c))] ∧ Γ = [bx gJ 140 (jbc m), mp kyM m (jes L), gbag jrow L]) ∨
    (aloneP (ptOf (fhead b) (ihl b) b a c) = 0 ∧ RAddJ gJ m (liveJ L now) (keyB35 (fhead b) b) (ptOf (fhead b) (ihl b) b a c) now v Γ))
open Go.RowKit
set_option linter.unusedSimpArgs false
set_option linter.unusedVariables false
set_option maxRecDepth 20000
set_option maxHeartbeats 4000000
attribute [local irreducible] WPc WPl WPq ReadR OpT BinR HasS bx rdN rowN Take Takes Prov Triple ResF BuildP Done ag Int.decLt Int.decLe Int.instDecidableEq
attribute [local irreducible] mp rmp rg rgo mput mget mfind mdel gbag jes pts Pt.v Pt.fin Pt.wf overB badB wholeB okAt dataP prd againstP fwL fwerr ferr fhead aloneP ihl ptOf keyB35 lastW
section
variable (gJ m : Nat) (L : List PJ) (now : Nat) (hn : now ≤ 18446744073709551615) (hs : ∀ x ∈ L, x.since ≤ 18446744073709551615) (hb : ∀ x ∈ L, x.ps.length ≤ 9998 ∧ ∀ o ∈ x.ps, o.fin ≤ 100000) (hLl : L.length ≤ 1000000) (v : Value) (b : List UInt8) (hl : b.length ≤ 100000)
include hn hs hb hLl hl
theorem pAdd_t : Triple Tryz.prog 61 #[hJ gJ, v, .int .u64 (now : Int)] ([rb v b] ++ jmA gJ m L) (RAddA gJ m L b now) := by
  have c17 := fread_t v b (by omega)
  have c27 := clone_t v b (by omega)
  have w1 := (fhead b).src.len
  have w2 := (fhead b).dst.len
  show Triple _ _ _ [rb v b, bx gJ 140 (jbc m), mp kyM m (jes L), gbag jrow L] _
  by_cases he : ferr b = 0
  · have hfv : fVal b = .tuple #[ag (hdc (fhead b)), .int .i64 0] := by with_unfolding_all (unfold fVal fread; rw [if_pos he, he])
    rw [hfv] at c17
    have hz := ferr_zero he
    obtain ⟨z1, z2, z3, z4, z5, z6, z7, z8, z9⟩ := hz
    have hpos : (fhead b).pos = (ihl b : Int) := by with_unfolding_all rfl
    have c31 := pread_t (fhead b) (ihl b) hpos v b z2 hl z5
    cases hpart : (fhead b).part with
    | false =>
      have eh : hdc (fhead b) = [(1, [.bool (fhead b).six]), (1, [.int .u8 (((fhead b).proto.toNat : Nat) : Int)]), (1, [.int .i64 (fhead b).pos]), (1, [.bool (fhead b).src.six]), (16, u8s (fhead b).src.b), (1, [.bool (fhead b).dst.six]), (16, u8s (fhead b).dst.b), (1, [.bool false]), (1, [.int .u8 (((fhead b).hops.toNat : Nat) : Int)])] := by
        show [_, _, _, _, _, _, _, (1, [Value.bool (fhead b).part]), _] = _
        rw [hpart]
      have hok := hdc_ok (fhead b)
      rw [eh] at c17 hok
      refine Triple.enter Tryz.func61 rfl Tryz.ntmps61 rfl (fun W => ?_)
      dsimp only [argsF, Nat.reduceAdd]
      repeat' (first
       | refine WPl.nil ?_ | refine WPq.then ?_ | refine WPq.thenR ?_ | refine WPc.seq ?_ | refine WPc.ret ?_ | refine WPc.skip ?_ | refine WPc.region ?_
       | (refine isCond ?_; first | refine WPc.cT ?_ | refine WPc.cF ?_ | (refine WPc.cQ (fun hc => ?_) (fun hc => ?_) <;> try exact prA))
       | (refine isD 14 ?_; refine WPl.rdX (readP) ?_)
       | (refine isC 17 ?_; refine WPl.cV (c17) ?_)
       | (refine isD 8 ?_; first | (refine isAl ?_; refine WPl.nw fun g8 => ?_) | (refine isBx ?_; refine WPl.nw fun g8 => ?_))
       | (show WPl _ _ _ _ _ _ _ (⟨_, .store _ (.tmp 8) _, _, _, _, _⟩ :: _) _; refine WPl.stA ?_ (hn := hok))
       | (refine isD 21 ?_; refine WPl.rdX (ReadR.binE rfl rfl BinR.neq (congrArg (fun q => Value.bool (!q)) (decide_eq_true (rfl : (0 : Int) = 0)))) ?_)
       | (refine isC 27 ?_; refine WPl.cR (c27) fun v27 hv27 => ?_)
       | (refine isOp ?_; first | refine WPl.rd ?_ | refine WPl.sk ?_ | refine WPl.rdB ?_)
       | fail)
      exact WPq.dX (vs := [v27, .int .i64 0]) [bx gJ 140 (jbc m), mp kyM m (jes L), gbag jrow L, ob v27 b] (.inr (.inl ⟨he, hpart, v27, hv27, rfl, rfl⟩)) (ho := ownsJ)
    | true =>
      have eh : hdc (fhead b) = [(1, [.bool (fhead b).six]), (1, [.int .u8 (((fhead b).proto.toNat : Nat) : Int)]), (1, [.int .i64 (fhead b).pos]), (1, [.bool (fhead b).src.six]), (16, u8s (fhead b).src.b), (1, [.bool (fhead b).dst.six]), (16, u8s (fhead b).dst.b), (1, [.bool true]), (1, [.int .u8 (((fhead b).hops.toNat : Nat) : Int)])] := by
        show [_, _, _, _, _, _, _, (1, [Value.bool (fhead b).part]), _] = _
        rw [hpart]
      have hok := hdc_ok (fhead b)
      rw [eh] at c17 hok c31
      refine Triple.enter Tryz.func61 rfl Tryz.ntmps61 rfl (fun W => ?_)
      dsimp only [argsF, Nat.reduceAdd]
      repeat' (first
       | (refine isSeq1 9 ?_; refine Held.it ?_)
       | refine WPl.nil ?_ | refine WPq.then ?_ | refine WPc.seq ?_ | refine WPc.skip ?_ | refine WPc.region ?_
       | (refine isCond ?_; first | refine WPc.cT ?_ | refine WPc.cF ?_ | (refine WPc.cQ (fun hc => ?_) (fun hc => ?_) <;> try exact prA))
       | (refine isD 14 ?_; refine WPl.rdX (readP) ?_)
       | (refine isC 17 ?_; refine WPl.cV (c17) ?_)
       | (refine isD 8 ?_; first | (refine isAl ?_; refine WPl.nw fun g8 => ?_) | (refine isBx ?_; refine WPl.nw fun g8 => ?_))
       | (show WPl _ _ _ _ _ _ _ (⟨_, .store _ (.tmp 8) _, _, _, _, _⟩ :: _) _; refine WPl.stA ?_ (hn := hok))
       | (refine isD 21 ?_; refine WPl.rdX (ReadR.binE rfl rfl BinR.neq (congrArg (fun q => Value.bool (!q)) (decide_eq_true (rfl : (0 : Int) = 0)))) ?_)
       | (refine isC 31 ?_; refine WPl.cX c31 (fun v31 Γ1 hR => ?_); obtain ⟨a, c, rfl, rfl⟩ := hR; (try dsimp only [putF, List.cons_append, List.nil_append]))
       | (refine isD 10 ?_; first | (refine isAl ?_; refine WPl.nw fun g10 => ?_) | (refine isBx ?_; refine WPl.nw fun g10 => ?_))
       | (refine isD 11 ?_; first | (refine isAl ?_; refine WPl.nw fun g11 => ?_) | (refine isBx ?_; refine WPl.nw fun g11 => ?_))
       | (show WPl _ _ _ _ _ _ _ (⟨_, .store _ (.tmp 10) _, _, _, _, _⟩ :: _) _; refine WPl.stA (new := ptC (ptOf (fhead b) (ihl b) b a c)) ?_ (hn := ptC_ok (ptOf (fhead b) (ihl b) b a c)))
       | (show WPl _ _ _ _ _ _ _ (⟨_, .store _ (.tmp 11) _, _, _, _, _⟩ :: _) _; refine WPl.stA (new := kyC (keyB35 (fhead b) b)) ?_ (hn := kyC_ok (keyB35 (fhead b) b)))
       | (refine isOp ?_; first | refine WPl.rd ?_ | refine WPl.sk ?_ | refine WPl.rdB ?_)
       | fail)
      refine ⟨?_⟩
      have hfin : (ptOf (fhead b) (ihl b) b a c).fin ≤ 100000 := by
        have h1 : (ptOf (fhead b) (ihl b) b a c).fin = 8 * (val (seg b 6 2) % 8192) + (seg b (ihl b) (b.length - ihl b)).length := by with_unfolding_all rfl
        rw [h1, seg_length (by omega)]
        omega
      have hkid : (keyB35 (fhead b) b).id < 65536 := by
        with_unfolding_all exact val2_lt (l := b) (k := 4)
      have c35 := palone_t (ptOf (fhead b) (ihl b) b a c) (by omega)
      have c41 := pexpire_t m L now hn hs hLl gJ
      have c46 := padd_t gJ m (liveJ L now) (keyB35 (fhead b) b) (ptOf (fhead b) (ihl b) b a c) now hkid hfin (fun x hx => hb x (List.mem_filter.1 hx).1) (Nat.le_trans (List.length_filter_le _ _) hLl)
      have q1 := (ptOf (fhead b) (ihl b) b a c).v1
      have q2 : (ptOf (fhead b) (ihl b) b a c).h.src.b.length = 16 := (ptOf (fhead b) (ihl b) b a c).h.src.len
      have q3 : (ptOf (fhead b) (ihl b) b a c).h.dst.b.length = 16 := (ptOf (fhead b) (ihl b) b a c).h.dst.len
      have q4 := (keyB35 (fhead b) b).src.len
      have q5 := (keyB35 (fhead b) b).dst.len
      by_cases hal : aloneP (ptOf (fhead b) (ihl b) b a c) = 0
      · rw [hal] at c35
        repeat' (first
         | (refine isSeq1 13 ?_; refine Held.it ?_)
         | refine WPl.nil ?_ | refine WPq.then ?_ | refine WPc.seq ?_ | refine WPc.skip ?_ | refine WPc.region ?_
         | (refine isCond ?_; first | refine WPc.cT ?_ | refine WPc.cF ?_ | (refine WPc.cQ (fun hc => ?_) (fun hc => ?_) <;> try exact prA))
         | (refine isC 35 ?_; refine WPl.cV (c35) ?_)
         | (refine isD 37 ?_; refine WPl.rdX (ReadR.binE rfl rfl BinR.neq (congrArg (fun q => Value.bool (!q)) (decide_eq_true (rfl : (0 : Int) = 0)))) ?_)
         | (refine isC 41 ?_; refine WPl.cTs (c41) ?_; (try dsimp only [putF, List.cons_append, List.nil_append]))
         | (refine isOp ?_; first | refine WPl.rd ?_ | refine WPl.sk ?_ | refine WPl.rdB ?_)
         | fail)
        refine ⟨?_⟩
        refine WPc.gbagSub (row := jrow) (es := L) (liveJ L now) jrow_own List.filter_sublist ?_
        have hd : (ptOf (fhead b) (ihl b) b a c).d = seg b (ihl b) (b.length - ihl b) := by with_unfolding_all rfl
        rw [hd] at c46
        have c46 : Triple Tryz.prog 104 #[hJ gJ, ag (ptC (ptOf (fhead b) (ihl b) b a c)), ag (kyC (keyB35 (fhead b) b)), .int .u64 (now : Int)] [bx gJ 140 (jbc m), mp kyM m (jes (liveJ L now)), gbag jrow (liveJ L now), ob (ptOf (fhead b) (ihl b) b a c).v (seg b (ihl b) (b.length - ihl b))] (RAddJ gJ m (liveJ L now) (keyB35 (fhead b) b) (ptOf (fhead b) (ihl b) b a c) now) := c46
        repeat' (first
         | refine WPl.nil ?_ | refine WPq.then ?_ | refine WPc.seq ?_ | refine WPc.ret ?_ | refine WPc.region ?_
         | (refine isC 46 ?_; refine WPl.cXs (c46) fun v Γ1 hR => ?_; (have hR0 := hR; rcases hR with ⟨hf1, hf2, rfl, rfl⟩ | ⟨x0, A, B, hxk, hor, (⟨hne, rfl, rfl⟩ | ⟨heq, ps', hpm, hst, (⟨hw, vv, hvv, rfl, rfl⟩ | ⟨hw, p0, ss, hp0, hss, rfl, rfl⟩)⟩)⟩); (try dsimp only [putF, List.cons_append, List.nil_append]))
         | (refine isOp ?_; first | refine WPl.rd ?_ | refine WPl.sk ?_ | refine WPl.rdB ?_)
         | fail)
        · exact WPq.dX (vs := [.slice none 0 0, .int .i64 2]) [bx gJ 140 (jbc m), mp kyM m (jes (liveJ L now)), gbag jrow (liveJ L now)] (.inr (.inr ⟨he, hpart, a, c, .inr ⟨hal, hR0⟩⟩)) (ho := ownsJ)
        · exact WPq.dX (vs := [.slice none 0 0, .int .i64 (againstP x0.ps (ptOf (fhead b) (ihl b) b a c))]) [bx gJ 140 (jbc m), mp kyM m (jes (A ++ B)), gbag jrow (A ++ B)] (.inr (.inr ⟨he, hpart, a, c, .inr ⟨hal, hR0⟩⟩)) (ho := ownsJ)
        · exact WPq.dX (vs := [.slice none 0 0, .int .i64 0]) [bx gJ 140 (jbc m), mp kyM m (jes (A ++ ⟨x0.g, vv, ps', x0.since, x0.key⟩ :: B)), gbag jrow (A ++ ⟨x0.g, vv, ps', x0.since, x0.key⟩ :: B)] (.inr (.inr ⟨he, hpart, a, c, .inr ⟨hal, hR0⟩⟩)) (ho := ownsJ)
        · exact WPq.dX (vs := [ss, .int .i64 (fwerr (noPart p0.h) (dataP ps').length)]) [bx gJ 140 (jbc m), mp kyM m (jes (A ++ B)), gbag jrow (A ++ B), ob ss (fwL (noPart p0.h) (dataP ps'))] (.inr (.inr ⟨he, hpart, a, c, .inr ⟨hal, hR0⟩⟩)) (ho := ownsJ)
      · skip
        repeat' (first
         | refine WPl.nil ?_ | refine WPq.then ?_ | refine WPq.thenR ?_ | refine WPc.seq ?_ | refine WPc.ret ?_ | refine WPc.region ?_
         | (refine isCond ?_; first | refine WPc.cT ?_ | refine WPc.cF ?_ | (refine WPc.cQ (fun hc => ?_) (fun hc => ?_) <;> try exact prA))
         | (refine isC 35 ?_; refine WPl.cV (c35) ?_)
         | (refine isD 37 ?_; refine WPl.rdX (ReadR.binE rfl rfl BinR.neq (congrArg (fun q => Value.bool (!q)) (decide_eq_false hal))) ?_)
         | (refine isOp ?_; first | refine WPl.rd ?_ | refine WPl.sk ?_ | refine WPl.rdB ?_)
         | fail)
        exact WPq.dX (vs := [.slice none 0 0, .int .i64 (aloneP (ptOf (fhead b) (ihl b) b a c))]) [bx gJ 140 (jbc m), mp kyM m (jes L), gbag jrow L] (.inr (.inr ⟨he, hpart, a, c, .inl ⟨hal, rfl, rfl⟩⟩)) (ho := ownsJ)
  · have hfv : fVal b = .tuple #[ag (hdc Hd.none), .int .i64 (ferr b)] := by with_unfolding_all (unfold fVal fread; rw [if_neg he])
    rw [hfv] at c17
    refine Triple.enter Tryz.func61 rfl Tryz.ntmps61 rfl (fun W => ?_)
    dsimp only [argsF, Nat.reduceAdd]
    repeat' (first
     | refine WPl.nil ?_ | refine WPq.then ?_ | refine WPq.thenR ?_ | refine WPc.seq ?_ | refine WPc.ret ?_ | refine WPc.skip ?_ | refine WPc.region ?_
     | (refine isCond ?_; first | refine WPc.cT ?_ | refine WPc.cF ?_ | (refine WPc.cQ (fun hc => ?_) (fun hc => ?_) <;> try exact prA))
     | (refine isD 14 ?_; refine WPl.rdX (readP) ?_)
     | (refine isC 17 ?_; refine WPl.cV (c17) ?_)
     | (refine isD 8 ?_; first | (refine isAl ?_; refine WPl.nw fun g8 => ?_) | (refine isBx ?_; refine WPl.nw fun g8 => ?_))
     | (show WPl _ _ _ _ _ _ _ (⟨_, .store _ (.tmp 8) _, _, _, _, _⟩ :: _) _; refine WPl.stA (new := hdc Hd.none) ?_ (hn := hdc_ok _))
     | (refine isD 21 ?_; refine WPl.rdX (ReadR.binE rfl rfl BinR.neq (congrArg (fun q => Value.bool (!q)) (decide_eq_false he))) ?_)
     | (refine isOp ?_; first | refine WPl.rd ?_ | refine WPl.sk ?_ | refine WPl.rdB ?_)
     | fail)
    exact WPq.dX (vs := [.slice none 0 0, .int .i64 (ferr b)]) [bx gJ 140 (jbc m), mp kyM m (jes L), gbag jrow L] (.inl ⟨he, rfl, rfl⟩) (ho := ownsJ)
end
end Go.Proofs.YtpilenbdimhegaaGreatDoor
/- Layer 42 (gate): a gate of no rules: contracts. -/
namespace Go.Proofs.YtpilenbdimhegaaGreatDoor
open Go.RowKit
set_option linter.unusedSimpArgs false
set_option linter.unusedVariables false
set_option maxRecDepth 20000
set_option maxHeartbeats 4000000
attribute [local irreducible] WPc WPl WPq ReadR OpT BinR HasS bx rdN rowN Take Takes Prov Triple ResF BuildP Done ag Int.decLt Int.decLe Int.instDecidableEq
abbrev nilS : Value := .slice none 0 0
theorem indexN_t (fv : Value) : Triple Tryz.prog 56 #[nilS, fv] [] (RVal (.int .i64 (-1))) := by
  refine Triple.enter Tryz.func56 rfl Tryz.ntmps56 rfl (fun W => ?_)
  dsimp only [argsF, Nat.reduceAdd]
  refine WPc.nilRowN 58 40 ?_
  repeat' (first
   | refine WPl.nil ?_ | refine WPq.then ?_ | refine WPc.seq ?_ | refine WPc.block ?_ | refine WPc.region ?_
   | (refine isOp ?_; first | refine WPl.rd ?_ | refine WPl.sk ?_ | refine WPl.rdB ?_)
   | fail)
  first | refine WPc.loop (σ := Unit) (fun u => True) (fun u => []) (fun u => [(7, .int .i64 0), (8, .int .i64 0)]) (fun u => 0) (()) ?_ takesA frsA (fun st km hx hk => ?_)
  · trivial
  repeat' (first
   | refine WPl.nil ?_ | refine WPq.then ?_ | refine WPq.thenE ?_ | refine WPq.blockE ?_ | refine WPc.seq ?_ | refine WPc.ret ?_ | refine WPc.exit ?_ | refine WPc.region ?_
   | (refine isCond ?_; first | refine WPc.cT ?_ | refine WPc.cF ?_ | (refine WPc.cQ (fun hc => ?_) (fun hc => ?_) <;> try exact prA))
   | (refine isOp ?_; first | refine WPl.rd ?_ | refine WPl.sk ?_ | refine WPl.rdB ?_)
   | fail)
  all_goals try (first | exact WPq.dTp | exact WPq.dTs | exact WPq.dV | exact WPq.dR | exact WPq.dR2 | exact WPq.dH | exact WPq.dBH | exact WPq.dT)
theorem containsN_t (fv : Value) : Triple Tryz.prog 23 #[nilS, fv] [] (RVal (.bool false)) := by
  have c7 := indexN_t fv
  refine Triple.enter Tryz.func23 rfl Tryz.ntmps23 rfl (fun W => ?_)
  dsimp only [argsF, Nat.reduceAdd]
  repeat' (first
   | refine WPl.nil ?_ | refine WPq.then ?_ | refine WPc.seq ?_ | refine WPc.ret ?_ | refine WPc.region ?_
   | (refine isC 7 ?_; refine WPl.cV (c7) ?_)
   | (refine isD 8 ?_; refine WPl.rdX (ReadR.binE rfl rfl BinR.geq (congrArg Value.bool (decide_eq_false (show ¬ (0 : Int) ≤ -1 by omega)))) ?_)
   | (refine isOp ?_; first | refine WPl.rd ?_ | refine WPl.sk ?_ | refine WPl.rdB ?_)
   | fail)
  all_goals try (first | exact WPq.dTp | exact WPq.dTs | exact WPq.dV | exact WPq.dR | exact WPq.dR2 | exact WPq.dH | exact WPq.dBH | exact WPq.dT)
theorem slimN_t : Triple Tryz.prog 27 #[nilS] [] (RVal nilS) := by
  refine Triple.enter Tryz.func27 rfl Tryz.ntmps27 rfl (fun W => ?_)
  dsimp only [argsF, Nat.reduceAdd]
  refine WPc.nilRowN 58 40 ?_
  repeat' (first
   | refine WPl.nil ?_ | refine WPq.then ?_ | refine WPc.seq ?_ | refine WPc.block ?_ | refine WPc.region ?_
   | (refine isOp ?_; first | refine WPl.rd ?_ | refine WPl.sk ?_ | refine WPl.rdB ?_)
   | fail)
  first | refine WPc.loop (σ := Unit) (fun u => True) (fun u => []) (fun u => [(7, .int .i64 0), (8, .int .i64 0), (3, nilS)]) (fun u => 0) (()) ?_ takesA frsA (fun st km hx hk => ?_)
  · trivial
  repeat' (first
   | refine WPl.nil ?_ | refine WPq.then ?_ | refine WPq.thenE ?_ | refine WPq.blockE ?_ | refine WPc.seq ?_ | refine WPc.ret ?_ | refine WPc.exit ?_ | refine WPc.region ?_
   | (refine isCond ?_; first | refine WPc.cT ?_ | refine WPc.cF ?_ | (refine WPc.cQ (fun hc => ?_) (fun hc => ?_) <;> try exact prA))
   | (refine isOp ?_; first | refine WPl.rd ?_ | refine WPl.sk ?_ | refine WPl.rdB ?_)
   | fail)
  all_goals try (first | exact WPq.dTp | exact WPq.dTs | exact WPq.dV | exact WPq.dR | exact WPq.dR2 | exact WPq.dH | exact WPq.dBH | exact WPq.dT)
theorem firstN_t (f : Fl) : Triple Tryz.prog 32 #[nilS, ag (flc f)] [] (RVal (.tuple #[.int .i64 (-1), .bool true])) := by
  have ls := f.src.len
  have ld := f.dst.len
  have c9 := fun fv => indexN_t fv
  refine Triple.enter Tryz.func32 rfl Tryz.ntmps32 rfl (fun W => ?_)
  dsimp only [argsF, Nat.reduceAdd]
  repeat' (first
   | refine WPl.nil ?_ | refine WPq.then ?_ | refine WPc.seq ?_ | refine WPc.ret ?_ | refine WPc.region ?_
   | (refine isReg 2 ?_; refine WPc.drA [([], [11, 12, 13, 14, 15, 16, 17, 18, 19]), ([], [10]), ([1], [10, 11]), ([1, 2], [10, 11, 12]), ([1, 2, 3], [4, 10, 11, 12, 13, 15]), ([1, 2, 3], [4, 10, 11, 12, 13, 14]), ([1, 2, 3, 4, 5], [4, 10, 11, 12, 13, 14, 15]), ([1, 2, 3, 4, 5, 6], [4, 10, 11, 12, 13, 14, 15, 16]), ([1, 2, 3, 4, 5, 6, 7], [4, 10, 11, 12, 13, 14, 15, 16, 17]), ([1, 2, 3, 4, 5, 6, 7, 8], [4, 10, 11, 12, 13, 14, 15, 16, 17, 18]), ([0, 1, 2, 3], [10, 11, 12, 13, 14, 15, 16, 17, 18, 19]), ([0, 1, 2, 3, 4, 5, 6, 7, 8, 9, 10], [4, 10, 11, 12, 13, 14, 15, 16, 17, 18, 19])] [] (Γx := []) ?_; dsimp only [prev0, List.length_nil, List.length_cons])
   | (refine gAny ?_; first | (refine gGd ?_; refine RGl.skp ?_) | (refine gD 12 ?_; refine RGl.rdX (fun e hk => by (try dsimp only [bndR, ensR, oksR, fcutR, List.append_nil, List.nil_append, List.cons_append, List.append_assoc] at hk ⊢); exact ReadR.binE rfl rfl BinR.lss (congrArg Value.bool (decide_eq_true (show (-1 : Int) < 0 by omega)))) ?_) | (refine gOp ?_; first | refine RGl.rdA ?_ | refine RGl.rdX (fun e hk => by (try dsimp only [bndR, ensR, oksR, fcutR, List.append_nil, List.nil_append, List.cons_append, List.append_assoc] at hk ⊢); exact readB) ?_) | (refine RGl.fin (fun e hk => ?_); (try dsimp only [bndA, ensAR, oksA, List.append_nil, List.nil_append, List.cons_append, List.append_assoc] at hk ⊢); (repeat (obtain ⟨hk1, hk⟩ := hk))) | fail)
   | (refine isD 8 ?_; refine WPl.rdX (ReadR.mkF evsA) ?_)
   | (refine isC 9 ?_; refine WPl.cV ((c9 _)) ?_)
   | (refine isOp ?_; first | refine WPl.rd ?_ | refine WPl.sk ?_ | refine WPl.rdB ?_)
   | (refine isBx ?_; refine WPl.nw fun g => ?_)
   | fail)
  all_goals try (first | exact WPq.dTp | exact WPq.dTs | exact WPq.dV | exact WPq.dR | exact WPq.dR2 | exact WPq.dH | exact WPq.dBH | exact WPq.dT)
/-- What becomes of a packet. -/
abbrev psC (what : Int) (out : Value) (rule err : Int) : Ch := [(1, [.int .i64 what]), (1, [out]), (1, [.int .i64 rule]), (1, [.int .i64 err])]
end Go.Proofs.YtpilenbdimhegaaGreatDoor
/- Layer 42 (gate): a gate of no rules is made; a packet that is no part; a packet's client: contracts. -/
namespace Go.Proofs.YtpilenbdimhegaaGreatDoor
set_option linter.unusedVariables false
set_option linter.unusedSimpArgs false
theorem ownsG42 {Γ : List Asn} (h : ∀ A, A ∈ Γ → A.own = true := by ((repeat' (first | exact own_nil | refine own_cons (by first | exact bx_own | exact rowN_own | exact mp_own | exact gbag_own | exact pool_own | exact rfl) ?_ | fail)) <;> fail)) : ∀ A, A ∈ Γ → A.own = true := h
abbrev hG (g : Nat) : Value := .pointer (some ⟨g, 0, none⟩)
abbrev gtc (gB gT gJ : Nat) (vR : Value) (four six : Int) : Ch := [(1, [hP' gB]), (1, [hPt gT]), (1, [hJ gJ]), (1, [vR]), (1, [.int .i64 four]), (1, [.int .i64 six])]
/-- Clients that are held back, clients that are counted, packets in parts. -/
abbrev gbk (gB mB : Nat) (per burst clients : Int) (L : List Nd) (M : List (Pf × Option Nat)) (f : Nat → Option Ch) : List Asn := [bx gB 134 (bkc (hdO none L) (lsO none L) per burst clients mB), mp prM mB M, pool 150 f]
def RNewG (per burst : Int) (clients : Nat) (four six : Int) : Value → List Asn → Prop := fun v Γ => ∃ gG gB mB f gT mT gJ mJ, v = .tuple #[hG gG, .int .i64 0] ∧
  Γ = [bx gG 96 (gtc gB gT gJ nilS four six), bx gB 134 (bkc none none per burst (clients : Int) mB), mp prM mB [], pool 150 f, bx gT 137 (txc 200 mT 0), mp hyM mT [], bx gJ 140 (jbc mJ), mp kyM mJ (jes []), gbag jrow []] ∧ BkI burst clients [] [] f
open Go.RowKit
set_option linter.unusedSimpArgs false
set_option linter.unusedVariables false
set_option maxRecDepth 20000
set_option maxHeartbeats 4000000
attribute [local irreducible] WPc WPl WPq ReadR OpT BinR HasS bx rdN rowN Take Takes Prov Triple ResF BuildP Done ag Int.decLt Int.decLe Int.instDecidableEq
attribute [local irreducible] mp gbag jes pool
theorem gnew_t (per burst : Int) (clients : Nat) (hb : BOk per burst clients) (four six : Int) (f0 : 0 ≤ four) (f1 : four ≤ 32) (s0 : 0 ≤ six) (s1 : six ≤ 128) :
    Triple Tryz.prog 8 #[nilS, ag (rtc per burst (clients : Int)), .int .i64 four, .int .i64 six] [] (RNewG per burst clients four six) := by
  have c20 := fun fv => containsN_t fv
  have c40 := bnew_c per burst clients hb
  have c47 := tnew_t 200 (by omega) (by omega)
  have c55 := pnew_t
  have c57 := slimN_t
  have hn0 : Value.bool (!decide ((0 : Int) = 0)) = .bool false := by rw [decide_eq_true rfl]; rfl
  refine Triple.enter Tryz.func8 rfl Tryz.ntmps8 rfl (fun W => ?_)
  dsimp only [argsF, Nat.reduceAdd]
  refine WPc.nilRowN 58 40 ?_
  repeat' (first
   | refine WPl.nil ?_ | refine WPq.then ?_ | refine WPc.seq ?_ | refine WPc.ret ?_ | refine WPc.skip ?_ | refine WPc.region ?_
   | (refine isCond ?_; first | refine WPc.cT ?_ | refine WPc.cF ?_ | (refine WPc.cQ (fun hc => ?_) (fun hc => ?_) <;> try exact prA))
   | (refine isC 20 ?_; refine WPl.cV ((c20 _)) ?_)
   | (refine isD 24 ?_; refine WPl.rdX (ReadR.binE rfl rfl BinR.lss (congrArg Value.bool (decide_eq_false (show ¬ four < 0 by omega)))) ?_)
   | (refine isD 28 ?_; refine WPl.rdX (ReadR.binE rfl rfl BinR.gtr (congrArg Value.bool (decide_eq_false (show ¬ four > 32 by omega)))) ?_)
   | (refine isD 32 ?_; refine WPl.rdX (ReadR.binE rfl rfl BinR.lss (congrArg Value.bool (decide_eq_false (show ¬ six < 0 by omega)))) ?_)
   | (refine isD 36 ?_; refine WPl.rdX (ReadR.binE rfl rfl BinR.gtr (congrArg Value.bool (decide_eq_false (show ¬ six > 128 by omega)))) ?_)
   | (refine isC 40 ?_; refine WPl.cX c40 fun v40 Γ1 hR => ?_; obtain ⟨gB, mB, fB, rfl, rfl, hB⟩ := hR; (try dsimp only [putF, List.cons_append, List.nil_append]))
   | (refine isD 44 ?_; refine WPl.rdX (ReadR.binE rfl rfl BinR.neq hn0) ?_)
   | (refine isC 47 ?_; refine WPl.cX c47 fun v47 Γ1 hR => ?_; obtain ⟨gT, mT, rfl, rfl⟩ := hR; (try dsimp only [putF, List.cons_append, List.nil_append]))
   | (refine isD 51 ?_; refine WPl.rdX (ReadR.binE rfl rfl BinR.neq hn0) ?_)
   | (refine isC 55 ?_; refine WPl.cX c55 fun v55 Γ1 hR => ?_; obtain ⟨gJ, mJ, rfl, rfl⟩ := hR; (try dsimp only [putF, List.cons_append, List.nil_append]))
   | (refine isC 57 ?_; refine WPl.cV (c57) ?_)
   | (refine isD 60 ?_; refine WPl.rdX (ReadR.build (cs' := gtc gB gT gJ nilS four six) buildA) ?_)
   | (refine isD 61 ?_; first | (refine isAl ?_; refine WPl.nw fun gG => ?_) | (refine isBx ?_; refine WPl.nw fun gG => ?_))
   | (refine isOp ?_; first | refine WPl.rd ?_ | refine WPl.sk ?_ | refine WPl.rdB ?_)
   | (refine isBx ?_; refine WPl.nw fun g => ?_)
   | (refine WPl.spQ (fun hc => ?_) (fun hc => ?_) <;> try exact prA)
   | fail)
  exact WPq.dX (vs := [_, _]) _ ⟨gG, gB, mB, fB, gT, mT, gJ, mJ, rfl, rfl, hB⟩ (ho := ownsG42)
/-- A packet that is no part. -/
def RWh (gG gJ mJ : Nat) (cs : Ch) (L : List PJ) (b : List UInt8) : Value → List Asn → Prop := fun v Γ => ∃ s : Value, s.oneCell' = true ∧ v = .tuple #[s, ag (psC 0 nilS 0 0), .bool true] ∧
  Γ = [bx gG 96 cs, bx gJ 140 (jbc mJ), mp kyM mJ (jes L), gbag jrow L, ob s b]
theorem whole1_t (gG gB gT gJ mJ : Nat) (vR : Value) (four six : Int) (L : List PJ) (now : Nat) (hn : now ≤ 18446744073709551615) (hs : ∀ x ∈ L, x.since ≤ 18446744073709551615) (hb : ∀ x ∈ L, x.ps.length ≤ 9998 ∧ ∀ o ∈ x.ps, o.fin ≤ 100000) (hLl : L.length ≤ 1000000) (v : Value) (b : List UInt8) (hl : b.length ≤ 100000)
    (hb0 : b.length ≠ 0) (hb4 : byteN b 0 / 16 = 4) (he : ferr b = 0) (hp : (fhead b).part = false) :
    Triple Tryz.prog 30 #[hG gG, v, .int .u64 (now : Int)] ([rb v b] ++ [bx gG 96 (gtc gB gT gJ vR four six), bx gJ 140 (jbc mJ), mp kyM mJ (jes L), gbag jrow L]) (RWh gG gJ mJ (gtc gB gT gJ vR four six) L b) := by
  have c30 : Triple Tryz.prog 61 #[hJ gJ, v, .int .u64 (now : Int)] ([rb v b] ++ [bx gJ 140 (jbc mJ), mp kyM mJ (jes L), gbag jrow L]) (RAddA gJ mJ L b now) := pAdd_t gJ mJ L now hn hs hb hLl v b hl
  have hbt := byteN_lt b 0
  have hgd : (b.getD 0 0).toNat = byteN b 0 := rfl
  have hn0 : Value.bool (!decide ((0 : Int) = 0)) = .bool false := by rw [decide_eq_true rfl]; rfl
  refine Triple.enter Tryz.func30 rfl Tryz.ntmps30 rfl (fun W => ?_)
  dsimp only [argsF, Nat.reduceAdd]
  repeat' (first
   | refine WPl.nil ?_ | refine WPq.then ?_ | refine WPq.blockN ?_ | refine WPc.seq ?_ | refine WPc.block ?_ | refine WPc.ret ?_ | refine WPc.skip ?_ | refine WPc.region ?_
   | (refine isCond ?_; first | refine WPc.cT ?_ | refine WPc.cF ?_ | (refine WPc.cQ (fun hc => ?_) (fun hc => ?_) <;> try exact prA))
   | (refine isC 30 ?_; refine WPl.cO (c30) (fun v Γ1 hR => ?_) ?_; rotate_left; exact fpA; rcases hR with ⟨h1, _, _⟩ | ⟨_, _, s, hs1, rfl, rfl⟩ | ⟨_, h2, _⟩; exact absurd he h1; rotate_left; (rw [hp] at h2; cases h2); (try dsimp only [putF, List.cons_append, List.nil_append]))
   | (refine isOp ?_; first | refine WPl.rd ?_ | refine WPl.sk ?_ | refine WPl.rdB ?_)
   | (refine isAl ?_; refine WPl.nw fun g => ?_)
   | (refine isSt ?_; first | refine WPl.st1 ?_ | refine WPl.stA ?_ | refine WPl.stEB ?_ | refine WPl.stRB ?_)
   | (refine WPl.spQ (fun hc => ?_) (fun hc => ?_) <;> try exact prA)
   | fail)
  exact WPq.dX (vs := [s, ag (psC 0 nilS 0 0), .bool true]) [bx gG 96 (gtc gB gT gJ vR four six), bx gJ 140 (jbc mJ), mp kyM mJ (jes L), gbag jrow L, ob s b] ⟨s, hs1, rfl, rfl⟩ (ho := ownsG42)
/-- A packet's client. -/
theorem client_t (gG gB gT gJ : Nat) (vR : Value) (four six : Int) (f : Fl) (q1 : -9223372036854775808 ≤ four) (q2 : four ≤ 9223372036854775807) (q3 : -9223372036854775808 ≤ six) (q4 : six ≤ 9223372036854775807) :
    Triple Tryz.prog 34 #[hG gG, ag (flc f)] [rbx gG 96 (gtc gB gT gJ vR four six)] (RVal (ag (pfc (maskA f.src (if f.src.six then six else four)) (maskN f.src (if f.src.six then six else four))))) := by
  have ls := f.src.len
  have ld := f.dst.len
  have c1 := Mask_t f.src four q1 q2
  have c2 := Mask_t f.src six q3 q4
  simp only [maskV] at c1 c2
  have lm1 := (maskA f.src four).len
  have lm2 := (maskA f.src six).len
  cases h6 : f.src.six with
  | true =>
    rw [if_pos rfl]
    generalize maskA f.src six = mA at *
    generalize maskN f.src six = mN at *
    refine Triple.enter Tryz.func34 rfl Tryz.ntmps34 rfl (fun W => ?_)
    dsimp only [argsF, Nat.reduceAdd]
    repeat' (first
     | refine WPl.nil ?_ | refine WPq.then ?_ | refine WPc.seq ?_ | refine WPc.ret ?_ | refine WPc.region ?_
     | (refine isCond ?_; first | refine WPc.cT ?_ | refine WPc.cF ?_ | (refine WPc.cQ (fun hc => ?_) (fun hc => ?_) <;> try exact prA))
     | (refine isD 11 ?_; refine WPl.rdX (ReadR.loadO memA rfl rfl) ?_)
     | (refine isD 18 ?_; refine WPl.rdX (ReadR.loadO memA rfl rfl) ?_)
     | (refine isC 23 ?_; refine WPl.cV (c2) ?_)
     | (refine isOp ?_; first | refine WPl.rd ?_ | refine WPl.sk ?_ | refine WPl.rdB ?_)
     | (refine isAl ?_; refine WPl.nw fun g => ?_)
     | (refine isBx ?_; refine WPl.nw fun g => ?_)
     | (refine isSt ?_; first | refine WPl.st1 ?_ | refine WPl.stA ?_ | refine WPl.stEB ?_ | refine WPl.stRB ?_)
     | fail)
    all_goals try (first | exact WPq.dTp | exact WPq.dTs | exact WPq.dV | exact WPq.dR | exact WPq.dR2 | exact WPq.dH | exact WPq.dBH | exact WPq.dT)
  | false =>
    rw [if_neg (by decide)]
    generalize maskA f.src four = mA at *
    generalize maskN f.src four = mN at *
    refine Triple.enter Tryz.func34 rfl Tryz.ntmps34 rfl (fun W => ?_)
    dsimp only [argsF, Nat.reduceAdd]
    repeat' (first
     | refine WPl.nil ?_ | refine WPq.then ?_ | refine WPc.seq ?_ | refine WPc.ret ?_ | refine WPc.skip ?_ | refine WPc.region ?_
     | (refine isCond ?_; first | refine WPc.cT ?_ | refine WPc.cF ?_ | (refine WPc.cQ (fun hc => ?_) (fun hc => ?_) <;> try exact prA))
     | (refine isD 11 ?_; refine WPl.rdX (ReadR.loadO memA rfl rfl) ?_)
     | (refine isC 23 ?_; refine WPl.cV (c1) ?_)
     | (refine isOp ?_; first | refine WPl.rd ?_ | refine WPl.sk ?_ | refine WPl.rdB ?_)
     | (refine isAl ?_; refine WPl.nw fun g => ?_)
     | (refine isBx ?_; refine WPl.nw fun g => ?_)
     | (refine isSt ?_; first | refine WPl.st1 ?_ | refine WPl.stA ?_ | refine WPl.stEB ?_ | refine WPl.stRB ?_)
     | fail)
    all_goals try (first | exact WPq.dTp | exact WPq.dTs | exact WPq.dV | exact WPq.dR | exact WPq.dR2 | exact WPq.dH | exact WPq.dBH | exact WPq.dT)

end Go.Proofs.YtpilenbdimhegaaGreatDoor
/- Layer 42 (gate): a client that is masked by no bits; which kind a packet is: the plain law. -/
namespace Go.Proofs.YtpilenbdimhegaaGreatDoor
open Go.RowKit
set_option linter.unusedSimpArgs false
set_option linter.unusedVariables false
theorem mask0 (a : Adr) : maskN a 0 = 0 ∧ maskA a 0 = if a.six then ⟨true, List.replicate 16 0, by simp⟩ else Adr.zero := by
  refine ⟨by unfold maskN; split <;> rfl, ?_⟩
  have hl := a.len
  unfold maskA
  cases h6 : a.six with
  | true =>
    have hg : a.maskOk 0 = true := by unfold Adr.maskOk Adr.good; simp [h6]
    rw [if_pos hg, if_pos rfl]
    apply Adr.ext
    · exact h6
    · show (if a.six then maskB a.b 0 else _) = List.replicate 16 0
      rw [if_pos h6, maskB_zero, hl]
  | false =>
    split
    · apply Adr.ext
      · exact h6
      · show (if a.six then _ else List.replicate 12 0 ++ maskB (seg a.b 12 4) 0) = _
        rw [if_neg (by simp [h6]), maskB_zero]
        have : (seg a.b 12 4).length = 4 := by simp [seg, hl]
        rw [this]
        rfl
    · rfl
theorem ph_kind {b : List UInt8} (hE : phE b = 0) : (byteN b 0 / 16 = 4 ∧ ferr b = 0 ∧ phH b = fread b ∧ b.length ≠ 0) ∨ (byteN b 0 / 16 = 6 ∧ xerr b = 0 ∧ phH b = xread b ∧ b.length ≠ 0) := by
  unfold phE at hE
  by_cases h0 : b.length = 0
  · rw [if_pos h0] at hE; cases hE
  rw [if_neg h0] at hE
  by_cases h4 : byteN b 0 / 16 = 4
  · rw [if_pos h4] at hE
    exact Or.inl ⟨h4, hE, by unfold phH; rw [if_neg h0, if_pos h4], h0⟩
  rw [if_neg h4] at hE
  by_cases h6 : byteN b 0 / 16 = 6
  · rw [if_pos h6] at hE
    exact Or.inr ⟨h6, hE, by unfold phH; rw [if_neg h0, if_neg h4, if_pos h6], h0⟩
  · rw [if_neg h6] at hE; cases hE
/-- The client's kind is told by the first byte. -/
theorem src_kind {b : List UInt8} (h : pkE b = 0) : b.length ≠ 0 ∧ (pkR b).fl.src.six = decide (byteN b 0 / 16 = 6) ∧ (byteN b 0 / 16 = 4 ∨ byteN b 0 / 16 = 6) := by
  have hR : pkR b = pkOf (phH b) (sgR (phH b) (pkS b)) := by unfold pkR; rw [if_pos h]
  have hE : phE b = 0 := by
    unfold pkE at h
    by_cases h1 : phE b = 0
    · exact h1
    · rw [if_pos h1] at h; exact h
  rw [hR]
  show b.length ≠ 0 ∧ (phH b).src.six = _ ∧ _
  rcases ph_kind hE with ⟨h4, he, hp, h0⟩ | ⟨h6, he, hp, h0⟩
  · refine ⟨h0, ?_, .inl h4⟩
    rw [hp, h4]
    obtain ⟨_, q2, _⟩ := ferr_zero he
    have hl : (seg b 12 4).length = 4 := by simp [seg]; omega
    unfold fread
    rw [if_pos he]
    show (ofA (seg b 12 4)).six = _
    unfold ofA
    rw [dif_neg (by omega), dif_pos hl]
    rfl
  · refine ⟨h0, ?_, .inr h6⟩
    rw [hp, h6]
    have q2 : 40 ≤ b.length := by
      by_cases h40 : b.length < 40
      · exfalso
        have e0 : xerr0 b ≠ 0 := by
          unfold xerr0
          by_cases h9 : 2048 < b.length
          · rw [if_pos h9]; decide
          · rw [if_neg h9, if_pos h40]; decide
        unfold xerr at he
        rw [if_neg e0] at he
        exact e0 he
      · omega
    have hl : (seg b 8 16).length = 16 := by simp [seg]; omega
    unfold xread
    rw [if_pos he]
    show (ofA (seg b 8 16)).six = _
    unfold ofA
    rw [dif_pos hl]
    rfl
end Go.Proofs.YtpilenbdimhegaaGreatDoor
/- Layer 42 (gate): what comes of a packet that may be a part: contracts. -/
namespace Go.Proofs.YtpilenbdimhegaaGreatDoor
set_option linter.unusedVariables false
set_option linter.unusedSimpArgs false
/-- What is known of the packets that wait. -/
def JOk (now n : Nat) (L : List PJ) : Prop := L.length ≤ 64 ∧ ∀ x ∈ L, x.since ≤ now ∧ x.ps.length ≤ n ∧ ∀ o ∈ x.ps, o.fin ≤ 100000
theorem JOk.mono {now now' n n' : Nat} {L : List PJ} (h : JOk now n L) (h1 : now ≤ now') (h2 : n ≤ n') : JOk now' n' L :=
  ⟨h.1, fun x hx => ⟨Nat.le_trans (h.2 x hx).1 h1, Nat.le_trans (h.2 x hx).2.1 h2, (h.2 x hx).2.2⟩⟩
theorem JOk.sub {now n : Nat} {L L' : List PJ} (h : JOk now n L) (hs : L'.Sublist L) : JOk now n L' :=
  ⟨Nat.le_trans hs.length_le h.1, fun x hx => h.2 x (hs.subset hx)⟩
theorem fpkt_first (h : Hd) (d : List UInt8) : byteN (fpkt h d) 0 = 69 ∧ (fpkt h d).length ≠ 0 := by
  have e : (fpkt h d).head? = some 69 := by
    unfold fpkt fpre over nbs
    rfl
  cases hq : fpkt h d with
  | nil => rw [hq] at e; cases e
  | cons a r =>
    rw [hq] at e
    cases e
    exact ⟨rfl, by simp⟩
theorem fpkt_len {h : Hd} {d : List UInt8} (hh : fwerr h d.length = 0) : (fpkt h d).length = 20 + d.length := by
  have hb : fwBad h = false := by
    unfold fwerr at hh
    by_cases hb : fwBad h = true
    · rw [if_pos hb] at hh; cases hh
    · simpa using hb
  obtain ⟨_, _, _, h1, h2, _⟩ := fwBad_no hb
  have := fpre_len (n := d.length) h1 h2
  unfold fpkt over
  simp [this, be_length]
  omega
theorem alone_fin {p : Pt} (h : aloneP p = 0) : p.fin ≤ 2028 := by
  unfold aloneP at h
  split at h
  · cases h
  · split at h
    · cases h
    · omega
def RAG (gJ m n now : Nat) : Value → List Asn → Prop := fun v Γ => ∃ L' : List PJ, JOk now (n + 1) L' ∧
  ((∃ e : Int, e ≠ 0 ∧ v = .tuple #[.slice none 0 0, .int .i64 e] ∧ Γ = [bx gJ 140 (jbc m), mp kyM m (jes L'), gbag jrow L']) ∨
   (∃ (e : Int) (s : Value), e ≠ 0 ∧ s.oneCell' = true ∧ v = .tuple #[s, .int .i64 e] ∧ Γ = [bx gJ 140 (jbc m), mp kyM m (jes L'), gbag jrow L', ob s []]) ∨
   (v = .tuple #[.slice none 0 0, .int .i64 0] ∧ Γ = [bx gJ 140 (jbc m), mp kyM m (jes L'), gbag jrow L']) ∨
   (∃ (s : Value) (w : List UInt8), s.oneCell' = true ∧ w.length ≤ 100000 ∧ w.length ≠ 0 ∧ byteN w 0 / 16 = 4 ∧ v = .tuple #[s, .int .i64 0] ∧ Γ = [bx gJ 140 (jbc m), mp kyM m (jes L'), gbag jrow L', ob s w]))
theorem jok_mid {now n : Nat} {A B : List PJ} {x : PJ} (h : JOk now n (A ++ B)) (hl : (A ++ B).length < 64) (h1 : x.since ≤ now) (h2 : x.ps.length ≤ n) (h3 : ∀ o ∈ x.ps, o.fin ≤ 100000) : JOk now n (A ++ x :: B) := by
  refine ⟨by rw [List.length_append, List.length_cons]; rw [List.length_append] at hl; omega, fun y hy => ?_⟩
  rcases List.mem_append.1 hy with hy | hy
  · exact h.2 y (List.mem_append.2 (.inl hy))
  · rcases List.mem_cons.1 hy with rfl | hy
    · exact ⟨h1, h2, h3⟩
    · exact h.2 y (List.mem_append.2 (.inr hy))
theorem addJ_any {gJ m n now : Nat} {L : List PJ} {k : Ky} {p : Pt} (hL : JOk now n L) (hp : p.fin ≤ 100000) {v : Value} {Γ : List Asn} (h : RAddJ gJ m L k p now v Γ) : RAG gJ m n now v Γ := by
  rcases h with ⟨_, _, hv, hΓ⟩ | ⟨x0, A, B, hk, hAB, h⟩
  · exact ⟨L, hL.mono (Nat.le_refl _) (by omega), .inl ⟨2, by decide, hv, hΓ⟩⟩
  · have hsub : JOk now n (A ++ B) ∧ (A ++ B).length < 64 ∧ x0.since ≤ now ∧ x0.ps.length ≤ n ∧ ∀ o ∈ x0.ps, o.fin ≤ 100000 := by
      rcases hAB with rfl | ⟨rfl, rfl, _, hlt, h0, hs⟩
      · have hx := hL.2 x0 (by simp)
        refine ⟨hL.sub (List.Sublist.append (List.Sublist.refl _) (List.sublist_cons_self _ _)), ?_, hx.1, hx.2.1, hx.2.2⟩
        have := hL.1
        rw [List.length_append, List.length_cons] at this
        rw [List.length_append]
        omega
      · rw [List.append_nil]
        exact ⟨hL, hlt, by omega, by rw [h0]; simp, by rw [h0]; simp⟩
    obtain ⟨hJ, hlt, hs, hpl, hpf⟩ := hsub
    have hJ' := hJ.mono (Nat.le_refl now) (Nat.le_succ n)
    rcases h with ⟨he, hv, hΓ⟩ | ⟨_, ps', hperm, _, ⟨_, v', hv', hv, hΓ⟩ | ⟨hw, p0, s, hp0, hs1, hv, hΓ⟩⟩
    · exact ⟨_, hJ', .inl ⟨_, he, hv, hΓ⟩⟩
    · refine ⟨_, jok_mid (x := ⟨x0.g, v', ps', x0.since, x0.key⟩) hJ' hlt hs ?_ ?_, .inr (.inr (.inl ⟨hv, hΓ⟩))⟩
      · show ps'.length ≤ n + 1
        rw [hperm.length_eq, List.length_append]
        simp
        exact hpl
      · intro o ho
        rcases List.mem_append.1 (hperm.mem_iff.1 ho) with ho | ho
        · exact hpf o ho
        · rw [List.mem_singleton.1 ho]; exact hp
    · by_cases he : fwerr (noPart p0.h) (dataP ps').length = 0
      · have hw4 := fpkt_first (noPart p0.h) (dataP ps')
        have hwl := fpkt_len he
        have h2028 : (dataP ps').length ≤ 2028 := by
          unfold fwerr at he
          split at he
          · cases he
          · split at he
            · cases he
            · omega
        have e : fwL (noPart p0.h) (dataP ps') = fpkt (noPart p0.h) (dataP ps') := by unfold fwL; rw [if_pos he]
        rw [he] at hv
        rw [e] at hΓ
        exact ⟨_, hJ', .inr (.inr (.inr ⟨s, _, hs1, by omega, hw4.2, by rw [hw4.1], hv, hΓ⟩))⟩
      · have e : fwL (noPart p0.h) (dataP ps') = [] := by unfold fwL; rw [if_neg he]
        rw [e] at hΓ
        exact ⟨_, hJ', .inr (.inl ⟨_, s, he, hs1, hv, hΓ⟩)⟩
theorem addA_any {gJ m n now : Nat} {L : List PJ} {b : List UInt8} (hl : b.length ≤ 100000) (hL : JOk now n L) {v : Value} {Γ : List Asn} (h : RAddA gJ m L b now v Γ) : RAG gJ m n now v Γ := by
  have hL' := hL.mono (Nat.le_refl now) (Nat.le_succ n)
  rcases h with ⟨he, hv, hΓ⟩ | ⟨he, _, s, hs, hv, hΓ⟩ | ⟨he, _, a, c, ⟨ha, hv, hΓ⟩ | ⟨ha, h⟩⟩
  · exact ⟨L, hL', .inl ⟨_, he, hv, hΓ⟩⟩
  · obtain ⟨_, q2, q3, _⟩ := ferr_zero he
    exact ⟨L, hL', .inr (.inr (.inr ⟨s, b, hs, hl, by omega, q3, hv, hΓ⟩))⟩
  · exact ⟨L, hL', .inl ⟨_, ha, hv, hΓ⟩⟩
  · exact addJ_any (hL.sub (List.filter_sublist ..)) (Nat.le_trans (alone_fin ha) (by decide)) h
end Go.Proofs.YtpilenbdimhegaaGreatDoor
/- Layer 42 (gate): a packet that may be a part, at a gate: contracts. -/
namespace Go.Proofs.YtpilenbdimhegaaGreatDoor
set_option linter.unusedVariables false
set_option linter.unusedSimpArgs false
abbrev gwA (gG gJ mJ : Nat) (cs : Ch) (L : List PJ) : List Asn := [bx gG 96 cs, bx gJ 140 (jbc mJ), mp kyM mJ (jes L), gbag jrow L]
def RWhG (gG gJ mJ : Nat) (cs : Ch) (n now : Nat) : Value → List Asn → Prop := fun v Γ => ∃ L' : List PJ, JOk now (n + 1) L' ∧
  ((∃ what err : Int, what ≠ 4 ∧ what ≠ 5 ∧ v = .tuple #[nilS, ag (psC what nilS 0 err), .bool false] ∧ Γ = gwA gG gJ mJ cs L') ∨
   (∃ (s : Value) (w : List UInt8), s.oneCell' = true ∧ w.length ≤ 100000 ∧ w.length ≠ 0 ∧ byteN w 0 / 16 = 4 ∧ v = .tuple #[s, ag (psC 0 nilS 0 0), .bool true] ∧ Γ = gwA gG gJ mJ cs L' ++ [ob s w]))
open Go.RowKit
set_option linter.unusedSimpArgs false
set_option linter.unusedVariables false
set_option maxRecDepth 20000
set_option maxHeartbeats 4000000
attribute [local irreducible] WPc WPl WPq ReadR OpT BinR HasS bx rdN rowN Take Takes Prov Triple ResF BuildP Done ag Int.decLt Int.decLe Int.instDecidableEq
attribute [local irreducible] mp rmp rg rgo mput mget mfind mdel gbag jes ferr fhead pkE pkR ihl
theorem whG_t (gG gB gT gJ mJ : Nat) (vR : Value) (four six : Int) (L : List PJ) (n now : Nat) (hn : now ≤ 18446744073709551615) (hn9 : n ≤ 9998) (hL : JOk now n L) (v : Value) (b : List UInt8) (hl : b.length ≤ 100000)
    (hb0 : b.length ≠ 0) (hb4 : byteN b 0 / 16 = 4) :
    Triple Tryz.prog 30 #[hG gG, v, .int .u64 (now : Int)] ([rb v b] ++ [bx gG 96 (gtc gB gT gJ vR four six), bx gJ 140 (jbc mJ), mp kyM mJ (jes L), gbag jrow L]) (RWhG gG gJ mJ (gtc gB gT gJ vR four six) n now) := by
  have c30 : Triple Tryz.prog 61 #[hJ gJ, v, .int .u64 (now : Int)] ([rb v b] ++ [bx gJ 140 (jbc mJ), mp kyM mJ (jes L), gbag jrow L]) (RAG gJ mJ n now) :=
    (pAdd_t gJ mJ L now hn (fun x hx => Nat.le_trans (hL.2 x hx).1 hn) (fun x hx => ⟨Nat.le_trans (hL.2 x hx).2.1 hn9, (hL.2 x hx).2.2⟩) (Nat.le_trans hL.1 (by decide)) v b hl).mono fun v Γ h => addA_any hl hL h
  have hbt := byteN_lt b 0
  have hgd : (b.getD 0 0).toNat = byteN b 0 := rfl
  have hn0 : Value.bool (!decide ((0 : Int) = 0)) = .bool false := by rw [decide_eq_true rfl]; rfl
  refine Triple.enter Tryz.func30 rfl Tryz.ntmps30 rfl (fun W => ?_)
  dsimp only [argsF, Nat.reduceAdd]
  refine WPc.nilRowN 5 1 ?_
  repeat' (first
   | refine WPl.nil ?_ | refine WPq.then ?_ | refine WPc.seq ?_ | refine WPc.skip ?_ | refine WPc.region ?_
   | (refine isCond ?_; first | refine WPc.cT ?_ | refine WPc.cF ?_ | (refine WPc.cQ (fun hc => ?_) (fun hc => ?_) <;> try exact prA))
   | (refine isC 30 ?_; refine WPl.cO (c30) (fun v Γ1 hR => ?_) ?_; rotate_left; exact fpA; skip; (try dsimp only [putF, List.cons_append, List.nil_append]))
   | (refine isOp ?_; first | refine WPl.rd ?_ | refine WPl.sk ?_ | refine WPl.rdB ?_)
   | (refine isAl ?_; refine WPl.nw fun g => ?_)
   | (refine WPl.spQ (fun hc => ?_) (fun hc => ?_) <;> try exact prA)
   | fail)
  rcases hR with ⟨L', hL', ⟨e, he, rfl, rfl⟩ | ⟨e, s, he, hs, rfl, rfl⟩ | ⟨rfl, rfl⟩ | ⟨s, w, hs, hwl, hw0, hw4, rfl, rfl⟩⟩
  · (try dsimp only [putF, List.cons_append, List.nil_append])
    repeat' (first
     | refine WPl.nil ?_ | refine WPq.then ?_ | refine WPq.thenR ?_ | refine WPq.blockR ?_ | refine WPc.seq ?_ | refine WPc.block ?_ | refine WPc.ret ?_ | refine WPc.region ?_
     | (refine isCond ?_; first | refine WPc.cT ?_ | refine WPc.cF ?_ | (refine WPc.cQ (fun hc => ?_) (fun hc => ?_) <;> try exact prA))
     | (refine isD 35 ?_; refine WPl.rdX (ReadR.binE rfl rfl BinR.neq (congrArg (fun q => Value.bool (!q)) (decide_eq_false he))) ?_)
     | (refine isOp ?_; first | refine WPl.rd ?_ | refine WPl.sk ?_ | refine WPl.rdB ?_)
     | (refine isSt ?_; first | refine WPl.st1 ?_ | refine WPl.stA ?_ | refine WPl.stEB ?_ | refine WPl.stRB ?_)
     | fail)
    exact WPq.dX (vs := [nilS, ag (psC 2 nilS 0 e), .bool false]) (gwA gG gJ mJ (gtc gB gT gJ vR four six) L') ⟨L', hL', .inl ⟨2, e, by omega, by omega, rfl, rfl⟩⟩ (ho := ownsG42)
  · (try dsimp only [putF, List.cons_append, List.nil_append])
    repeat' (first
     | refine WPl.nil ?_ | refine WPq.then ?_ | refine WPq.thenR ?_ | refine WPq.blockR ?_ | refine WPc.seq ?_ | refine WPc.block ?_ | refine WPc.ret ?_ | refine WPc.region ?_
     | (refine isCond ?_; first | refine WPc.cT ?_ | refine WPc.cF ?_ | (refine WPc.cQ (fun hc => ?_) (fun hc => ?_) <;> try exact prA))
     | (refine isD 35 ?_; refine WPl.rdX (ReadR.binE rfl rfl BinR.neq (congrArg (fun q => Value.bool (!q)) (decide_eq_false he))) ?_)
     | (refine isOp ?_; first | refine WPl.rd ?_ | refine WPl.sk ?_ | refine WPl.rdB ?_)
     | (refine isSt ?_; first | refine WPl.st1 ?_ | refine WPl.stA ?_ | refine WPl.stEB ?_ | refine WPl.stRB ?_)
     | fail)
    exact WPq.dX (vs := [nilS, ag (psC 2 nilS 0 e), .bool false]) (gwA gG gJ mJ (gtc gB gT gJ vR four six) L') ⟨L', hL', .inl ⟨2, e, by omega, by omega, rfl, rfl⟩⟩ (ho := ownsG42)
  · (try dsimp only [putF, List.cons_append, List.nil_append])
    repeat' (first
     | refine WPl.nil ?_ | refine WPq.then ?_ | refine WPq.thenR ?_ | refine WPq.blockR ?_ | refine WPc.seq ?_ | refine WPc.block ?_ | refine WPc.ret ?_ | refine WPc.region ?_
     | (refine isCond ?_; first | refine WPc.cT ?_ | refine WPc.cF ?_ | (refine WPc.cQ (fun hc => ?_) (fun hc => ?_) <;> try exact prA))
     | (refine isD 35 ?_; refine WPl.rdX (ReadR.binE rfl rfl BinR.neq hn0) ?_)
     | (refine isOp ?_; first | refine WPl.rd ?_ | refine WPl.sk ?_ | refine WPl.rdB ?_)
     | (refine isSt ?_; first | refine WPl.st1 ?_ | refine WPl.stA ?_ | refine WPl.stEB ?_ | refine WPl.stRB ?_)
     | fail)
    exact WPq.dX (vs := [nilS, ag (psC 1 nilS 0 0), .bool false]) (gwA gG gJ mJ (gtc gB gT gJ vR four six) L') ⟨L', hL', .inl ⟨1, 0, by omega, by omega, rfl, rfl⟩⟩ (ho := ownsG42)
  · (try dsimp only [putF, List.cons_append, List.nil_append])
    repeat' (first
     | refine WPl.nil ?_ | refine WPq.then ?_ | refine WPq.blockN ?_ | refine WPc.seq ?_ | refine WPc.block ?_ | refine WPc.ret ?_ | refine WPc.skip ?_ | refine WPc.region ?_
     | (refine isCond ?_; first | refine WPc.cT ?_ | refine WPc.cF ?_ | (refine WPc.cQ (fun hc => ?_) (fun hc => ?_) <;> try exact prA))
     | (refine isD 35 ?_; refine WPl.rdX (ReadR.binE rfl rfl BinR.neq hn0) ?_)
     | (refine isD 41 ?_; refine WPl.rdX (ReadR.binE rfl rfl BinR.eql (congrArg Value.bool (decide_eq_false (show ¬ (w.length : Int) = 0 by omega)))) ?_)
     | (refine isOp ?_; first | refine WPl.rd ?_ | refine WPl.sk ?_ | refine WPl.rdB ?_)
     | (refine isSt ?_; first | refine WPl.st1 ?_ | refine WPl.stA ?_ | refine WPl.stEB ?_ | refine WPl.stRB ?_)
     | fail)
    exact WPq.dX (vs := [s, ag (psC 0 nilS 0 0), .bool true]) (gwA gG gJ mJ (gtc gB gT gJ vR four six) L' ++ [ob s w]) ⟨L', hL', .inr ⟨s, w, hs, hwl, hw0, hw4, rfl, rfl⟩⟩ (ho := ownsG42)
theorem wh0_t (gG : Nat) (v w : Value) (b : List UInt8) (hb4 : b.length = 0 ∨ byteN b 0 / 16 ≠ 4) (hv : v.oneCell' = true) :
    Triple Tryz.prog 30 #[hG gG, v, w] [rb v b] (RVal (.tuple #[v, ag (psC 0 nilS 0 0), .bool true])) := by
  have hbt := byteN_lt b 0
  have hgd : (b.getD 0 0).toNat = byteN b 0 := rfl
  by_cases h0 : b.length = 0
  · skip
    refine Triple.enter Tryz.func30 rfl Tryz.ntmps30 rfl (fun W => ?_)
    dsimp only [argsF, Nat.reduceAdd]
    repeat' (first
     | refine WPl.nil ?_ | refine WPq.then ?_ | refine WPq.thenR ?_ | refine WPc.seq ?_ | refine WPc.ret ?_ | refine WPc.region ?_
     | (refine isCond ?_; first | refine WPc.cT ?_ | refine WPc.cF ?_ | (refine WPc.cQ (fun hc => ?_) (fun hc => ?_) <;> try exact prA))
     | (refine isD 13 ?_; refine WPl.rdX (ReadR.binE rfl rfl BinR.eql (congrArg Value.bool (decide_eq_true (show (b.length : Int) = 0 by omega)))) ?_)
     | (refine isOp ?_; first | refine WPl.rd ?_ | refine WPl.sk ?_ | refine WPl.rdB ?_)
     | (refine isAl ?_; refine WPl.nw fun g => ?_)
     | (refine isSt ?_; first | refine WPl.st1 ?_ | refine WPl.stA ?_ | refine WPl.stEB ?_ | refine WPl.stRB ?_)
     | fail)
    all_goals try (first | exact WPq.dTp | exact WPq.dTs | exact WPq.dV | exact WPq.dR | exact WPq.dR2 | exact WPq.dH | exact WPq.dBH | exact WPq.dT)
  · have h4 : byteN b 0 / 16 ≠ 4 := hb4.resolve_left h0
    refine Triple.enter Tryz.func30 rfl Tryz.ntmps30 rfl (fun W => ?_)
    dsimp only [argsF, Nat.reduceAdd]
    repeat' (first
     | refine WPl.nil ?_ | refine WPq.then ?_ | refine WPq.thenR ?_ | refine WPc.seq ?_ | refine WPc.ret ?_ | refine WPc.region ?_
     | (refine isCond ?_; first | refine WPc.cT ?_ | refine WPc.cF ?_ | (refine WPc.cQ (fun hc => ?_) (fun hc => ?_) <;> try exact prA))
     | (refine isD 13 ?_; refine WPl.rdX (ReadR.binE rfl rfl BinR.eql (congrArg Value.bool (decide_eq_false (show ¬ (b.length : Int) = 0 by omega)))) ?_)
     | (refine isOp ?_; first | refine WPl.rd ?_ | refine WPl.sk ?_ | refine WPl.rdB ?_)
     | (refine isAl ?_; refine WPl.nw fun g => ?_)
     | (refine isSt ?_; first | refine WPl.st1 ?_ | refine WPl.stA ?_ | refine WPl.stEB ?_ | refine WPl.stRB ?_)
     | fail)
    all_goals try (first | exact WPq.dTp | exact WPq.dTs | exact WPq.dV | exact WPq.dR | exact WPq.dR2 | exact WPq.dH | exact WPq.dBH | exact WPq.dT)
end Go.Proofs.YtpilenbdimhegaaGreatDoor
/- Layer 42 (gate): what becomes of a packet that is no part, at a gate of no rules: contracts. -/
namespace Go.Proofs.YtpilenbdimhegaaGreatDoor
set_option linter.unusedVariables false
set_option linter.unusedSimpArgs false
abbrev GBS := List Nd × List (Pf × Option Nat) × (Nat → Option Ch)
/-- A gate's state. -/
abbrev gst (gG gB mB gT mT gJ mJ : Nat) (four six per burst clients : Int) (s : GBS) (all : Int) (tl : TL) (L : List PJ) : List Asn :=
  [bx gG 96 (gtc gB gT gJ nilS four six), bx gB 134 (bkc (hdO none s.1) (lsO none s.1) per burst clients mB), mp prM mB s.2.1, pool 150 s.2.2, bx gT 137 (txc 200 mT all), mp hyM mT tl, bx gJ 140 (jbc mJ), mp kyM mJ (jes L), gbag jrow L]
open Go.RowKit
set_option linter.unusedSimpArgs false
set_option linter.unusedVariables false
set_option maxRecDepth 20000
set_option maxHeartbeats 4000000
attribute [local irreducible] WPc WPl WPq ReadR OpT BinR HasS bx rdN rowN Take Takes Prov Triple ResF BuildP Done ag Int.decLt Int.decLe Int.instDecidableEq
attribute [local irreducible] mp gbag jes pool pickG pkE pkR ferr fhead maskA maskN mput takeD
section
variable (gG gB mB gT mT gJ mJ : Nat) (four six : Int) (q0 : 0 ≤ four) (q2 : four ≤ 32) (q3 : 0 ≤ six) (q4 : six ≤ 128) (per burst : Int) (clients : Nat) (hbk : BOk per burst clients) (s0 : GBS) (hI : BkI burst clients s0.1 s0.2.1 s0.2.2) (D D' : List Cl) (hD : s0.1.map (·.2) = D)
variable (all : Int) (tl : TL) (L : List PJ) (now : Nat) (hn : now ≤ 18446744073709551615) (hs : ∀ x ∈ L, x.since ≤ 18446744073709551615) (hb : ∀ x ∈ L, x.ps.length ≤ 9998 ∧ ∀ o ∈ x.ps, o.fin ≤ 100000) (hLl : L.length ≤ 1000000)
variable (v : Value) (b : List UInt8) (hl : b.length ≤ 100000) (hb0 : b.length ≠ 0) (hb4 : byteN b 0 / 16 = 4) (he : ferr b = 0) (hp : (fhead b).part = false) (X : Pk) (hpE : pkE b = 0) (hpR : pkR b = X)
variable (p : Pf) (hpf : p = (maskA X.fl.src (if X.fl.src.six then six else four), maskN X.fl.src (if X.fl.src.six then six else four))) (hp64 : in64 p.2)
include q0 q2 q3 q4 hbk hI hD hn hs hb hLl hl hb0 hb4 he hp hpE hpR hpf hp64
def RPassH : Value → List Asn → Prop := fun v Γ => v = ag (psC 4 nilS 0 0) ∧ ∃ s : GBS, Γ = gst gG gB mB gT mT gJ mJ four six per burst (clients : Int) s all tl L ∧ BkI burst clients s.1 s.2.1 s.2.2 ∧ s.1.map (·.2) = D'
theorem passH_t (ht : takeD per burst clients D p 1 now = (D', false)) : Triple Tryz.prog 10 #[hG gG, v, .int .u64 (now : Int)] ([rb v b] ++ gst gG gB mB gT mT gJ mJ four six per burst (clients : Int) s0 all tl L)
    (RPassH gG gB mB gT mT gJ mJ four six per burst clients D' all tl L) := by
  have c22 := whole1_t gG gB gT gJ mJ nilS four six L now hn hs hb hLl v b hl hb0 hb4 he hp
  have c31 := fun u => parse_t u b hl
  simp only [pkVal] at c31
  rw [hpE, hpR] at c31
  have c45 := firstN_t X.fl
  have c57 : Triple Tryz.prog 34 #[hG gG, ag (flc X.fl)] [rbx gG 96 (gtc gB gT gJ nilS four six)] (RVal (ag (pfxc p))) := by
    rw [hpf]
    exact client_t gG gB gT gJ nilS four six X.fl (by omega) (by omega) (by omega) (by omega)
  have c64 := take_c per burst clients hbk gB mB hI hD p 1 (now : Int) hp64 (by omega) (by omega) ht
  have hv64 : ∀ v Γ', RBk gB mB per burst clients D' (.bool false) v Γ' → v = .bool false ∧ ∃ s : GBS, Γ' = [bx gB 134 (bkc (hdO none s.1) (lsO none s.1) per burst (clients : Int) mB), mp prM mB s.2.1, pool 150 s.2.2] ∧ (BkI burst clients s.1 s.2.1 s.2.2 ∧ s.1.map (·.2) = D') := fun v Γ' h => by
    obtain ⟨L', M', f', h1, h2, h3, h4⟩ := h
    exact ⟨h1, (L', M', f'), h2, h3, h4⟩
  have k1 := X.hd.src.len
  have k2 := X.hd.dst.len
  have k3 := X.fl.src.len
  have k4 := X.fl.dst.len
  have k5 := p.1.len
  have hn0 : Value.bool (!decide ((0 : Int) = 0)) = .bool false := by rw [decide_eq_true rfl]; rfl
  clear hpf hpE hpR
  obtain ⟨l0, M0, f0⟩ := s0
  dsimp only at hI hD c64
  refine Triple.enter Tryz.func10 rfl Tryz.ntmps10 rfl (fun W => ?_)
  dsimp only [argsF, Nat.reduceAdd]
  refine WPc.nilRowN 58 40 ?_
  repeat' (first
   | refine WPl.nil ?_ | refine WPq.then ?_ | refine WPc.seq ?_ | refine WPc.skip ?_ | refine WPc.region ?_
   | (refine isReg 9 ?_; refine WPc.drA [([], [43, 44]), ([0], [39, 43, 44]), ([0, 1], [39, 40, 43, 44]), ([0, 1, 2], [39, 40, 41, 43, 44]), ([], [39, 40, 41, 42]), ([4], [39, 40, 41, 42, 43]), ([0, 1, 2, 3, 4, 5], [39, 40, 41, 42, 43, 44]), ([0, 1, 2, 3, 4, 5, 6], [39, 40, 41, 42, 43, 44, 45]), ([0, 1, 2, 3, 4, 5, 6, 7], [38, 39, 40, 41, 42, 43, 44, 45, 47]), ([0, 1, 2, 3, 4, 5, 6, 7], [12, 38, 39, 40, 41, 42, 43, 44, 45, 46]), ([0, 1, 2, 3, 4, 5, 6, 7, 8], [38, 39, 40, 41, 42, 43, 44, 45, 46, 47]), ([0, 1, 2, 3, 4, 5, 6, 7, 8, 9, 10], [12, 38, 39, 40, 41, 42, 43, 44, 45, 46, 47])] [] (Γx := []) ?_; dsimp only [prev0, List.length_nil, List.length_cons])
   | (refine gAny ?_; first | (refine gC 45 ?_; refine RGl.vl (fun e hk => OpT.callN (c45)) ?_) | (refine gOp ?_; first | refine RGl.rdA ?_ | refine RGl.rdX (fun e hk => by (try dsimp only [bndR, ensR, oksR, fcutR, List.append_nil, List.nil_append, List.cons_append, List.append_assoc] at hk ⊢); exact readB) ?_) | (refine RGl.fin (fun e hk => ?_); (try dsimp only [bndA, ensAR, oksA, List.append_nil, List.nil_append, List.cons_append, List.append_assoc] at hk ⊢); (repeat (obtain ⟨hk1, hk⟩ := hk))) | fail)
   | (refine isCond ?_; first | refine WPc.cT ?_ | refine WPc.cF ?_ | (refine WPc.cQ (fun hc => ?_) (fun hc => ?_) <;> try exact prA))
   | (refine isD 16 ?_; refine WPl.rdX (readP) ?_)
   | (refine isC 22 ?_; refine WPl.cO (c22) (fun v Γ1 hR => ?_) ?_; rotate_left; exact fpA; obtain ⟨s1, hs1, rfl, rfl⟩ := hR; (try dsimp only [putF, List.cons_append, List.nil_append]))
   | (refine isC 31 ?_; refine WPl.cV ((c31 _)) ?_)
   | (show WPl _ _ _ _ _ _ _ (⟨_, .store 51 (.tmp 10) _, _, _, _, _⟩ :: _) _; refine WPl.stA (new := pkc X) ?_ (ht := by kernel_rfl))
   | (refine isD 35 ?_; refine WPl.rdX (ReadR.binE rfl rfl BinR.neq hn0) ?_)
   | (refine isC 57 ?_; refine WPl.cV (c57) ?_ (hΔ := provsX))
   | (refine isOp ?_; first | refine WPl.rd ?_ | refine WPl.sk ?_ | refine WPl.rdB ?_)
   | (refine isAl ?_; refine WPl.nw fun g => ?_)
   | (refine isSt ?_; first | refine WPl.st1 ?_ | refine WPl.stA ?_ | refine WPl.stEB ?_ | refine WPl.stRB ?_)
   | fail)
  repeat' (first
   | refine WPl.nil ?_ | refine WPq.then ?_ | refine WPq.thenR ?_ | refine WPc.seq ?_ | refine WPc.ret ?_ | refine WPc.region ?_
   | (refine isReg 13 ?_; refine WPc.drA [([8, 9, 10], [62, 63]), ([0, 8, 9, 10], [58, 62, 63]), ([0, 1, 8, 9, 10], [58, 59, 62, 63]), ([0, 1, 2, 8, 9, 10], [58, 59, 60, 62, 63]), ([8, 9, 10], [58, 59, 60, 61, 63]), ([8, 9, 10], [58, 59, 60, 61, 62]), ([0, 1, 2, 3, 4, 5, 8, 9, 10], [58, 59, 60, 61, 62, 63]), ([0, 1, 2, 3, 4, 5, 6, 8, 9, 10], [58, 59, 60, 61, 62, 63, 64])] [(8, 6), (9, 6), (10, 6), (8, 0), (8, 1), (8, 2), (8, 3), (8, 4), (8, 5), (9, 0), (9, 1), (9, 2), (9, 3), (9, 4), (9, 5), (10, 0), (10, 1), (10, 2), (10, 3), (10, 4), (10, 5)] (Γx := [bx gB 134 (bkc (hdO none l0) (lsO none l0) per burst (clients : Int) mB), mp prM mB M0, pool 150 f0]) (hox := ownsP) ?_; dsimp only [prev0, List.length_nil, List.length_cons])
   | (refine gAny ?_; first | (refine gC 64 ?_; refine RGl.relG (.bool false) (fun s : GBS => [bx gB 134 (bkc (hdO none s.1) (lsO none s.1) per burst (clients : Int) mB), mp prM mB s.2.1, pool 150 s.2.2]) (fun s => BkI burst clients s.1 s.2.1 s.2.2 ∧ s.1.map (·.2) = D') (hv64) (fun e hk => by (try dsimp only [bndR, ensR, oksR, fcutR, List.append_nil, List.nil_append, List.cons_append, List.append_assoc] at hk ⊢); exact OpT.callTs (c64)) ?_) | (refine gOp ?_; first | refine RGl.rdA ?_ | refine RGl.rdX (fun e hk => by (try dsimp only [bndR, ensR, oksR, fcutR, List.append_nil, List.nil_append, List.cons_append, List.append_assoc] at hk ⊢); exact readB) ?_) | (refine RGl.fin (fun e hk => ?_); (try dsimp only [bndA, ensAR, oksA, List.append_nil, List.nil_append, List.cons_append, List.append_assoc] at hk ⊢); (repeat (obtain ⟨hk1, hk⟩ := hk))) | fail)
   | (refine isCond ?_; first | refine WPc.cT ?_ | refine WPc.cF ?_ | (refine WPc.cQ (fun hc => ?_) (fun hc => ?_) <;> try exact prA))
   | (refine isOp ?_; first | refine WPl.rd ?_ | refine WPl.sk ?_ | refine WPl.rdB ?_)
   | (refine isSt ?_; first | refine WPl.st1 ?_ | refine WPl.stA ?_ | refine WPl.stEB ?_ | refine WPl.stRB ?_)
   | fail)
  dsimp only [Nat.reduceAdd]
  have hA : (fun s : GBS => BkI burst clients s.1 s.2.1 s.2.2 ∧ s.1.map (·.2) = D') (pickG (fun s : GBS => [bx gB 134 (bkc (hdO none s.1) (lsO none s.1) per burst (clients : Int) mB), mp prM mB s.2.1, pool 150 s.2.2]) (fun s : GBS => BkI burst clients s.1 s.2.1 s.2.2 ∧ s.1.map (·.2) = D') (e 6).2) := by assumption
  exact WPq.dX (vs := [ag (psC 4 nilS 0 0)]) _ ⟨rfl, pickG (fun s : GBS => [bx gB 134 (bkc (hdO none s.1) (lsO none s.1) per burst (clients : Int) mB), mp prM mB s.2.1, pool 150 s.2.2]) (fun s : GBS => BkI burst clients s.1 s.2.1 s.2.2 ∧ s.1.map (·.2) = D') (e 6).2, rfl, hA.1, hA.2⟩ (ho := ownsG42)
def RPassO (all' : Int) (TL' : TL) : Value → List Asn → Prop := fun v Γ => ∃ w : Value, w.oneCell' = true ∧ v = ag (psC 5 w 0 0) ∧ ∃ s : GBS, Γ = gst gG gB mB gT mT gJ mJ four six per burst (clients : Int) s all' TL' L ++ [ob w b] ∧ BkI burst clients s.1 s.2.1 s.2.2 ∧ s.1.map (·.2) = D'
theorem passO_t (all' : Int) (TL' : TL) (c72 : Triple Tryz.prog 36 #[hPt gT, ag (pfxc p), .int .u64 1] [bx gT 137 (txc 200 mT all), mp hyM mT tl] (RTurns (resV []) [bx gT 137 (txc 200 mT all'), mp hyM mT TL'])) (ht : takeD per burst clients D p 1 now = (D', true)) : Triple Tryz.prog 10 #[hG gG, v, .int .u64 (now : Int)] ([rb v b] ++ gst gG gB mB gT mT gJ mJ four six per burst (clients : Int) s0 all tl L)
    (RPassO gG gB mB gT mT gJ mJ four six per burst clients D' L b all' TL') := by
  have c22 := whole1_t gG gB gT gJ mJ nilS four six L now hn hs hb hLl v b hl hb0 hb4 he hp
  have c31 := fun u => parse_t u b hl
  simp only [pkVal] at c31
  rw [hpE, hpR] at c31
  have c45 := firstN_t X.fl
  have c57 : Triple Tryz.prog 34 #[hG gG, ag (flc X.fl)] [rbx gG 96 (gtc gB gT gJ nilS four six)] (RVal (ag (pfxc p))) := by
    rw [hpf]
    exact client_t gG gB gT gJ nilS four six X.fl (by omega) (by omega) (by omega) (by omega)
  have c64 := take_c per burst clients hbk gB mB hI hD p 1 (now : Int) hp64 (by omega) (by omega) ht
  have hv64 : ∀ v Γ', RBk gB mB per burst clients D' (.bool true) v Γ' → v = .bool true ∧ ∃ s : GBS, Γ' = [bx gB 134 (bkc (hdO none s.1) (lsO none s.1) per burst (clients : Int) mB), mp prM mB s.2.1, pool 150 s.2.2] ∧ (BkI burst clients s.1 s.2.1 s.2.2 ∧ s.1.map (·.2) = D') := fun v Γ' h => by
    obtain ⟨L', M', f', h1, h2, h3, h4⟩ := h
    exact ⟨h1, (L', M', f'), h2, h3, h4⟩
  have k1 := X.hd.src.len
  have k2 := X.hd.dst.len
  have k3 := X.fl.src.len
  have k4 := X.fl.dst.len
  have k5 := p.1.len
  have hn0 : Value.bool (!decide ((0 : Int) = 0)) = .bool false := by rw [decide_eq_true rfl]; rfl
  clear hpf hpE hpR
  obtain ⟨l0, M0, f0⟩ := s0
  dsimp only at hI hD c64
  refine Triple.enter Tryz.func10 rfl Tryz.ntmps10 rfl (fun W => ?_)
  dsimp only [argsF, Nat.reduceAdd]
  refine WPc.nilRowN 58 40 ?_
  repeat' (first
   | refine WPl.nil ?_ | refine WPq.then ?_ | refine WPc.seq ?_ | refine WPc.skip ?_ | refine WPc.region ?_
   | (refine isReg 9 ?_; refine WPc.drA [([], [43, 44]), ([0], [39, 43, 44]), ([0, 1], [39, 40, 43, 44]), ([0, 1, 2], [39, 40, 41, 43, 44]), ([], [39, 40, 41, 42]), ([4], [39, 40, 41, 42, 43]), ([0, 1, 2, 3, 4, 5], [39, 40, 41, 42, 43, 44]), ([0, 1, 2, 3, 4, 5, 6], [39, 40, 41, 42, 43, 44, 45]), ([0, 1, 2, 3, 4, 5, 6, 7], [38, 39, 40, 41, 42, 43, 44, 45, 47]), ([0, 1, 2, 3, 4, 5, 6, 7], [12, 38, 39, 40, 41, 42, 43, 44, 45, 46]), ([0, 1, 2, 3, 4, 5, 6, 7, 8], [38, 39, 40, 41, 42, 43, 44, 45, 46, 47]), ([0, 1, 2, 3, 4, 5, 6, 7, 8, 9, 10], [12, 38, 39, 40, 41, 42, 43, 44, 45, 46, 47])] [] (Γx := []) ?_; dsimp only [prev0, List.length_nil, List.length_cons])
   | (refine gAny ?_; first | (refine gC 45 ?_; refine RGl.vl (fun e hk => OpT.callN (c45)) ?_) | (refine gOp ?_; first | refine RGl.rdA ?_ | refine RGl.rdX (fun e hk => by (try dsimp only [bndR, ensR, oksR, fcutR, List.append_nil, List.nil_append, List.cons_append, List.append_assoc] at hk ⊢); exact readB) ?_) | (refine RGl.fin (fun e hk => ?_); (try dsimp only [bndA, ensAR, oksA, List.append_nil, List.nil_append, List.cons_append, List.append_assoc] at hk ⊢); (repeat (obtain ⟨hk1, hk⟩ := hk))) | fail)
   | (refine isCond ?_; first | refine WPc.cT ?_ | refine WPc.cF ?_ | (refine WPc.cQ (fun hc => ?_) (fun hc => ?_) <;> try exact prA))
   | (refine isD 16 ?_; refine WPl.rdX (readP) ?_)
   | (refine isC 22 ?_; refine WPl.cO (c22) (fun v Γ1 hR => ?_) ?_; rotate_left; exact fpA; obtain ⟨s1, hs1, rfl, rfl⟩ := hR; (try dsimp only [putF, List.cons_append, List.nil_append]))
   | (refine isC 31 ?_; refine WPl.cV ((c31 _)) ?_)
   | (show WPl _ _ _ _ _ _ _ (⟨_, .store 51 (.tmp 10) _, _, _, _, _⟩ :: _) _; refine WPl.stA (new := pkc X) ?_ (ht := by kernel_rfl))
   | (refine isD 35 ?_; refine WPl.rdX (ReadR.binE rfl rfl BinR.neq hn0) ?_)
   | (refine isC 57 ?_; refine WPl.cV (c57) ?_ (hΔ := provsX))
   | (refine isOp ?_; first | refine WPl.rd ?_ | refine WPl.sk ?_ | refine WPl.rdB ?_)
   | (refine isAl ?_; refine WPl.nw fun g => ?_)
   | (refine isSt ?_; first | refine WPl.st1 ?_ | refine WPl.stA ?_ | refine WPl.stEB ?_ | refine WPl.stRB ?_)
   | fail)
  repeat' (first
   | refine WPq.then ?_ | refine WPc.seq ?_ | refine WPc.skip ?_
   | (refine isReg 13 ?_; refine WPc.drA [([8, 9, 10], [62, 63]), ([0, 8, 9, 10], [58, 62, 63]), ([0, 1, 8, 9, 10], [58, 59, 62, 63]), ([0, 1, 2, 8, 9, 10], [58, 59, 60, 62, 63]), ([8, 9, 10], [58, 59, 60, 61, 63]), ([8, 9, 10], [58, 59, 60, 61, 62]), ([0, 1, 2, 3, 4, 5, 8, 9, 10], [58, 59, 60, 61, 62, 63]), ([0, 1, 2, 3, 4, 5, 6, 8, 9, 10], [58, 59, 60, 61, 62, 63, 64])] [(8, 6), (9, 6), (10, 6), (8, 0), (8, 1), (8, 2), (8, 3), (8, 4), (8, 5), (9, 0), (9, 1), (9, 2), (9, 3), (9, 4), (9, 5), (10, 0), (10, 1), (10, 2), (10, 3), (10, 4), (10, 5)] (Γx := [bx gB 134 (bkc (hdO none l0) (lsO none l0) per burst (clients : Int) mB), mp prM mB M0, pool 150 f0]) (hox := ownsP) ?_; dsimp only [prev0, List.length_nil, List.length_cons])
   | (refine gAny ?_; first | (refine gC 64 ?_; refine RGl.relG (.bool true) (fun s : GBS => [bx gB 134 (bkc (hdO none s.1) (lsO none s.1) per burst (clients : Int) mB), mp prM mB s.2.1, pool 150 s.2.2]) (fun s => BkI burst clients s.1 s.2.1 s.2.2 ∧ s.1.map (·.2) = D') (hv64) (fun e hk => by (try dsimp only [bndR, ensR, oksR, fcutR, List.append_nil, List.nil_append, List.cons_append, List.append_assoc] at hk ⊢); exact OpT.callTs (c64)) ?_) | (refine gOp ?_; first | refine RGl.rdA ?_ | refine RGl.rdX (fun e hk => by (try dsimp only [bndR, ensR, oksR, fcutR, List.append_nil, List.nil_append, List.cons_append, List.append_assoc] at hk ⊢); exact readB) ?_) | (refine RGl.fin (fun e hk => ?_); (try dsimp only [bndA, ensAR, oksA, List.append_nil, List.nil_append, List.cons_append, List.append_assoc] at hk ⊢); (repeat (obtain ⟨hk1, hk⟩ := hk))) | fail)
   | (refine isCond ?_; first | refine WPc.cT ?_ | refine WPc.cF ?_ | (refine WPc.cQ (fun hc => ?_) (fun hc => ?_) <;> try exact prA))
   | fail)
  dsimp only [Nat.reduceAdd]
  have hA : (fun s : GBS => BkI burst clients s.1 s.2.1 s.2.2 ∧ s.1.map (·.2) = D') (pickG (fun s : GBS => [bx gB 134 (bkc (hdO none s.1) (lsO none s.1) per burst (clients : Int) mB), mp prM mB s.2.1, pool 150 s.2.2]) (fun s : GBS => BkI burst clients s.1 s.2.1 s.2.2 ∧ s.1.map (·.2) = D') (e 6).2) := by assumption
  generalize pickG (fun s : GBS => [bx gB 134 (bkc (hdO none s.1) (lsO none s.1) per burst (clients : Int) mB), mp prM mB s.2.1, pool 150 s.2.2]) (fun s : GBS => BkI burst clients s.1 s.2.1 s.2.2 ∧ s.1.map (·.2) = D') (e 6).2 = T at *
  have c74 := clone_t s1 b (by omega)
  repeat' (first
   | refine WPl.nil ?_ | refine WPq.then ?_ | refine WPc.seq ?_ | refine WPc.ret ?_ | refine WPc.region ?_
   | (refine isReg 15 ?_; refine WPc.drA [([6, 7], [71]), ([0, 6, 7], [67, 71]), ([0, 1, 6, 7], [67, 68, 71]), ([0, 1, 2, 6, 7], [67, 68, 69, 71]), ([6, 7], [67, 68, 69, 70]), ([0, 1, 2, 3, 4, 6, 7], [67, 68, 69, 70, 71])] [(6, 5), (7, 5), (6, 0), (6, 1), (6, 2), (6, 3), (6, 4), (7, 0), (7, 1), (7, 2), (7, 3), (7, 4)] (Γx := [bx gT 137 (txc 200 mT all), mp hyM mT tl]) (hox := ownsA) ?_; dsimp only [prev0, List.length_nil, List.length_cons])
   | (refine gAny ?_; first | (refine gC 72 ?_; refine RGl.turns (fun e hk => by (try dsimp only [bndR, ensR, oksR, fcutR, List.append_nil, List.nil_append, List.cons_append, List.append_assoc] at hk ⊢); exact OpT.callTs (c72)) ?_) | (refine gOp ?_; first | refine RGl.rdA ?_ | refine RGl.rdX (fun e hk => by (try dsimp only [bndR, ensR, oksR, fcutR, List.append_nil, List.nil_append, List.cons_append, List.append_assoc] at hk ⊢); exact readB) ?_) | (refine RGl.fin (fun e hk => ?_); (try dsimp only [bndA, ensAR, oksA, List.append_nil, List.nil_append, List.cons_append, List.append_assoc] at hk ⊢); (repeat (obtain ⟨hk1, hk⟩ := hk))) | fail)
   | (refine isC 74 ?_; refine WPl.cR (c74) fun v74 hv74 => ?_)
   | (refine isOp ?_; first | refine WPl.rd ?_ | refine WPl.sk ?_ | refine WPl.rdB ?_)
   | (refine isSt ?_; first | refine WPl.st1 ?_ | refine WPl.stA ?_ | refine WPl.stEB ?_ | refine WPl.stRB ?_)
   | fail)
  exact WPq.dX (vs := [ag (psC 5 v74 0 0)]) _ ⟨v74, hv74, rfl, T, rfl, hA.1, hA.2⟩ (ho := ownsG42)
end
end Go.Proofs.YtpilenbdimhegaaGreatDoor
