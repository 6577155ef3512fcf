/- Layer 21 (health): Down: contract. -/
import Derived.Test.YtncgponcedkihaaHi
import Derived.Test.YtncgponcedkihaaSt
import Derived.Test.YtncgponcedkihaaRw
namespace Go.Proofs.Ytncgponcedkihaa
open Go.RowKit
set_option linter.unusedSimpArgs false
set_option linter.unusedVariables false
set_option maxRecDepth 20000
set_option maxHeartbeats 4000000
attribute [local irreducible] WPc WPl WPq ReadR OpT BinR HasS bx rdN rowN Take Takes Prov Triple ResF BuildP Done ag Int.decLt Int.decLe Int.instDecidableEq
instance intEltN : EltN Try.prog 3 1 := ⟨by kernel_rfl⟩
theorem intsV_one {l : List Int} : ∀ u ∈ intsV l, u.oneCell' = true := fun u hu => by
  unfold intsV at hu
  obtain ⟨i, _, rfl⟩ := List.mem_map.1 hu
  rfl
theorem intsV_snoc {l : List Int} {i : Int} : intsV l ++ [.int .i64 i] = intsV (l ++ [i]) := by simp [intsV]
theorem intsV_len {l : List Int} : (intsV l).length = l.length := by simp [intsV]
theorem perm_mid {α : Type} {a : α} {A B : List α} : ([a] ++ (A ++ B)).Perm (A ++ a :: B) := by
  have h := (List.perm_middle (a := a) (l₁ := A) (l₂ := B)).symm
  simpa using h
def dnF (s : Int) (x : (Int × Int) × (Bool × Int)) : Option Int := if x.1.1 = s ∧ x.2.1 = true then some x.1.2 else none
structure DnSt where
  td : HL
  dn : HL
  cu : Option ((Int × Int) × (Bool × Int))
  vo : Value
  o : List Int
def RDown (gh m : Nat) (rise fall s : Int) (L : HL) : Value → List Asn → Prop := fun v Γ => ∃ o : List Int, v.oneCell' = true ∧ Γ = [rowN 3 1 v o.length (intsV o), bx gh 164 (hbc rise fall m), mp whoM m L] ∧ o.Pairwise (· < ·) ∧ o.length ≤ L.length ∧ ∀ b, b ∈ o ↔ ∃ row, mfind L (s, b) = some (true, row)
theorem dn_facts {s : Int} {L dn : HL} {o : List Int} (hn : (L.map (·.1)).Nodup) (hp : dn.Perm L) (ho : o = dn.filterMap (dnF s)) : (o.mergeSort fun x y => decide (x ≤ y)).Pairwise (· < ·) ∧ (o.mergeSort fun x y => decide (x ≤ y)).length ≤ L.length ∧ ∀ b, b ∈ (o.mergeSort fun x y => decide (x ≤ y)) ↔ ∃ row, mfind L (s, b) = some (true, row) := by
  have hmem : ∀ b, b ∈ o ↔ ∃ row, ((s, b), (true, row)) ∈ L := fun b => by
    rw [ho, List.mem_filterMap]
    constructor
    · rintro ⟨x, hx, h⟩
      unfold dnF at h
      split at h
      · rename_i hc
        cases h
        obtain ⟨⟨x1, x2⟩, ⟨x3, x4⟩⟩ := x
        simp only at hc
        obtain ⟨rfl, rfl⟩ := hc
        exact ⟨x4, hp.mem_iff.1 hx⟩
      · cases h
    · rintro ⟨row, h⟩
      exact ⟨_, hp.mem_iff.2 h, by simp [dnF]⟩
  have hnd : o.Nodup := by
    rw [ho]
    have hn2 : (dn.map (·.1)).Nodup := (hp.map _).nodup_iff.2 hn
    have key : ∀ {l : HL}, (l.map (·.1)).Nodup → (l.filterMap (dnF s)).Nodup := by
      intro l
      induction l with
      | nil => intro _; exact .nil
      | cons x l ih =>
        intro h
        rw [List.map_cons, List.nodup_cons] at h
        rw [List.filterMap_cons]
        cases hx : dnF s x with
        | none => exact ih h.2
        | some b =>
          refine List.nodup_cons.2 ⟨fun hb => ?_, ih h.2⟩
          obtain ⟨y, hy, hyb⟩ := List.mem_filterMap.1 hb
          unfold dnF at hx hyb
          split at hx
          · rename_i h1
            split at hyb
            · rename_i h2
              cases hx
              simp only [Option.some.injEq] at hyb
              apply h.1
              rw [show x.1 = y.1 from Prod.ext (h1.1.trans h2.1.symm) hyb.symm]
              exact List.mem_map.2 ⟨y, hy, rfl⟩
            · cases hyb
          · cases hx
    exact key hn2
  have hsp := List.mergeSort_perm o (fun x y => decide (x ≤ y))
  have hsrt : (o.mergeSort fun x y => decide (x ≤ y)).Pairwise (fun a b => decide (a ≤ b) = true) := List.pairwise_mergeSort (fun a b c h1 h2 => by simp at *; omega) (fun a b => by simp; omega) o
  have hnd2 : (o.mergeSort fun x y => decide (x ≤ y)).Nodup := hsp.nodup_iff.2 hnd
  refine ⟨?_, ?_, fun b => ?_⟩
  · exact (List.pairwise_and_iff.2 ⟨hsrt, hnd2⟩).imp fun ⟨h1, h2⟩ => by simp at h1; omega
  · rw [List.length_mergeSort, ho, ← hp.length_eq]; exact List.length_filterMap_le ..
  · rw [hsp.mem_iff, hmem]
    constructor
    · rintro ⟨row, h⟩; exact ⟨row, mfind_at hn h⟩
    · rintro ⟨row, h⟩; exact ⟨row, mfind_mem h⟩
attribute [local irreducible] mp rg mput mget mfind mdel
section
variable (gh m : Nat) (rise fall s : Int) (L : HL)
theorem hdown_t (hL : L.length ≤ 100000) : Triple Try.prog 55 #[hP gh, .int .i64 s] [bx gh 164 (hbc rise fall m), mp whoM m L] (RDown gh m rise fall s L) := by
  refine Triple.enter Try.func55 rfl Try.ntmps55 rfl (fun W => ?_)
  dsimp only [argsF, Nat.reduceAdd]
  refine WPc.mkeys (M := whoM) (m := m) (l := L) memA fun hnd _ => ?_
  refine WPc.nilRowN 3 1 ?_
  repeat' (first
   | refine WPl.nil ?_ | refine WPq.then ?_ | refine WPq.thenR ?_ | refine WPq.thenE ?_ | refine WPq.blockN ?_ | refine WPq.blockR ?_ | refine WPq.blockE ?_ | refine WPq.blockO rfl ?_ | refine WPc.seq ?_ | refine WPc.block ?_ | refine WPc.ret ?_ | refine WPc.exit ?_ | refine WPc.skip ?_ | refine WPc.region ?_
   | (refine isCond ?_; first | refine WPc.cT ?_ | refine WPc.cF ?_ | (refine WPc.cQ (fun hc => ?_) (fun hc => ?_) <;> try exact prA))
   | (refine isD 9 ?_; refine WPl.rdX (readP) ?_)
   | (refine isD 14 ?_; refine WPl.mrange fun r => ?_)
   | (refine isOp ?_; first | refine WPl.rd ?_ | refine WPl.sk ?_ | refine WPl.rdB ?_)
   | (refine isAl ?_; refine WPl.nw fun g => ?_)
   | (refine isSt ?_; first | refine WPl.st1 ?_ | refine WPl.stA ?_ | refine WPl.stEB ?_ | refine WPl.stRB ?_)
   | (show WPl _ _ _ _ _ _ _ (⟨_, .indexAddr _ _ _, _, _, _, _⟩ :: _) _; refine WPl.rdX (ReadR.indexE rfl rfl hasA (by first | assumption | omega)) ?_)
   | (show WPl _ _ _ _ _ _ _ (⟨_, .fieldAddr _ _ _, _, _, _, _⟩ :: _) _; refine WPl.rdX (ReadR.fieldE rfl hasA (by first | assumption | omega)) ?_)
   | (show WPl _ _ _ _ _ _ _ (⟨_, .load _ _, _, _, _, _⟩ :: _) _; first | refine WPl.rdX (ReadR.loadE rfl hasA (by assumption)) ?_ | refine WPl.rdX (ReadR.loadES (by assumption) (by first | assumption | omega) rfl hasA) ?_)
   | (show WPl _ _ _ _ _ _ _ (⟨_, .slice _ _ _ _ _, _, _, _, _⟩ :: _) _; first | refine WPl.rdX (ReadR.sliceH rfl rfl hasA (by omega)) ?_ | refine WPl.rdX (ReadR.sliceL rfl rfl hasA (by omega)) ?_ | refine WPl.rdX (ReadR.sliceLH rfl rfl rfl hasA (by omega) (by omega)) ?_)
   | (refine WPl.spQ (fun hc => ?_) (fun hc => ?_) <;> try exact prA)
   | fail)
  first | refine WPc.loop (σ := DnSt) (fun st => (st.dn ++ st.td).Perm L ∧ st.o = st.dn.filterMap (dnF s) ∧ st.vo.oneCell' = true) (fun st => [rowN 3 1 st.vo st.o.length (intsV st.o), bx gh 164 (hbc rise fall m), rg whoM m r L st.td st.cu]) (fun st => [(1, .int .i64 s), (5, st.vo), (14, .pointer (some ⟨r, 0, none⟩))]) (fun st => st.td.length) (⟨L, [], none, .slice none 0 0, []⟩) ?_ takesA frsA (fun st km hx hk => ?_)
  · exact ⟨.refl _, rfl, rfl⟩
  obtain ⟨td, dn, cu, vo, o⟩ := st
  obtain ⟨hp, ho, hone⟩ := hx
  dsimp only at hp ho hone hk ⊢
  have hol : o.length ≤ 100000 := by
    have h1 := hp.length_eq
    have h2 : o.length ≤ dn.length := by rw [ho]; exact List.length_filterMap_le ..
    simp at h1; omega
  repeat' (first
   | refine WPl.nil ?_ | refine WPq.then ?_ | refine WPq.thenR ?_ | refine WPq.thenE ?_ | refine WPq.blockN ?_ | refine WPq.blockR ?_ | refine WPq.blockE ?_ | refine WPq.blockO rfl ?_ | refine WPc.seq ?_ | refine WPc.block ?_ | refine WPc.ret ?_ | refine WPc.exit ?_ | refine WPc.skip ?_ | refine WPc.region ?_
   | (refine isCond ?_; first | refine WPc.cT ?_ | refine WPc.cF ?_ | (refine WPc.cQ (fun hc => ?_) (fun hc => ?_) <;> try exact prA))
   | (refine isD 15 ?_; refine WPl.mnext (M := whoM) (fun k => ag (whoC k)) (fun s => ag (staC s)) (fun h0 => ?_) (fun A y B hAB => ?_))
   | (refine isD 17 ?_; refine WPl.rdX (ReadR.entry (kv := ag (whoC y.1)) (vv := ag (staC y.2)) rfl rfl memA rfl) ?_)
   | (refine isC 34 ?_; refine WPl.cTs (sortInts_t vo o (by omega)) ?_; (try dsimp only [putF, List.cons_append, List.nil_append]))
   | (refine isLit ?_; refine WPl.lits fun wv hwv => ?_)
   | (refine isD 32 ?_; refine WPl.appN (m := o.length) (m2 := 1) (xs := intsV o) (ys := [.int .i64 y.1.2]) rfl (fun u hu => by rw [List.mem_singleton.1 hu]; rfl) (by omega) fun v2 hv2 => ?_)
   | (refine isOp ?_; first | refine WPl.rd ?_ | refine WPl.sk ?_ | refine WPl.rdB ?_)
   | (refine isAl ?_; refine WPl.nw fun g => ?_)
   | (refine isSt ?_; first | refine WPl.st1 ?_ | refine WPl.stA ?_ | refine WPl.stEB ?_ | refine WPl.stRB ?_)
   | (show WPl _ _ _ _ _ _ _ (⟨_, .indexAddr _ _ _, _, _, _, _⟩ :: _) _; refine WPl.rdX (ReadR.indexE rfl rfl hasA (by first | assumption | omega)) ?_)
   | (show WPl _ _ _ _ _ _ _ (⟨_, .fieldAddr _ _ _, _, _, _, _⟩ :: _) _; refine WPl.rdX (ReadR.fieldE rfl hasA (by first | assumption | omega)) ?_)
   | (show WPl _ _ _ _ _ _ _ (⟨_, .load _ _, _, _, _, _⟩ :: _) _; first | refine WPl.rdX (ReadR.loadE rfl hasA (by assumption)) ?_ | refine WPl.rdX (ReadR.loadES (by assumption) (by first | assumption | omega) rfl hasA) ?_)
   | (show WPl _ _ _ _ _ _ _ (⟨_, .slice _ _ _ _ _, _, _, _, _⟩ :: _) _; first | refine WPl.rdX (ReadR.sliceH rfl rfl hasA (by omega)) ?_ | refine WPl.rdX (ReadR.sliceL rfl rfl hasA (by omega)) ?_ | refine WPl.rdX (ReadR.sliceLH rfl rfl rfl hasA (by omega) (by omega)) ?_)
   | (refine WPl.spQ (fun hc => ?_) (fun hc => ?_) <;> try exact prA)
   | fail)
  · refine WPq.rgOut (M := whoM) (m := m) (r := r) (l := L) (td := td) (c := cu) takeA ?_
    subst h0
    rw [List.append_nil] at hp
    obtain ⟨f1, f2, f3⟩ := dn_facts hnd hp ho
    exact WPq.dX (vs := [_]) [rowN 3 1 vo o.length (intsV (o.mergeSort fun x y => decide (x ≤ y))), bx gh 164 (hbc rise fall m), mp whoM m L] ⟨o.mergeSort fun x y => decide (x ≤ y), hone, by rw [List.length_mergeSort]; rfl, f1, f2, f3⟩
  · have e1 : intsV o ++ [Value.int .i64 y.1.2] = intsV (o ++ [y.1.2]) := intsV_snoc
    have e2 : o.length + 1 = (o ++ [y.1.2]).length := by simp
    rw [e1, e2]
    rename_i hc1
    exact WPq.rnd ⟨A ++ B, dn ++ [y], some y, v2, o ++ [y.1.2]⟩ ⟨by
      refine List.Perm.trans ?_ hp
      rw [hAB, List.append_assoc]
      exact List.Perm.append_left dn perm_mid, by
      rw [List.filterMap_append, ← ho]
      congr 1
      have h9 : y.1.1 = s := by first | assumption | simpa using hc1
      have h8 : y.2.1 = true := by first | assumption | simpa using hc
      simp [dnF, h9, h8], hv2⟩ (by rw [hk, hAB]; simp)
  · exact WPq.rnd ⟨A ++ B, dn ++ [y], some y, vo, o⟩ ⟨by
      refine List.Perm.trans ?_ hp
      rw [hAB, List.append_assoc]
      exact List.Perm.append_left dn perm_mid, by
      rw [List.filterMap_append, ← ho]
      simp [dnF, hc], hone⟩ (by rw [hk, hAB]; simp)
  · exact WPq.rnd ⟨A ++ B, dn ++ [y], some y, vo, o⟩ ⟨by
      refine List.Perm.trans ?_ hp
      rw [hAB, List.append_assoc]
      exact List.Perm.append_left dn perm_mid, by
      rw [List.filterMap_append, ← ho]
      simp [dnF, hc], hone⟩ (by rw [hk, hAB]; simp)
end
end Go.Proofs.Ytncgponcedkihaa
