/- Laws 03 (dev): Crash that only reads; what is told of nothing that waits. -/
import Derived.Test.YtepmikgjnmjheaaDa
namespace Go.Proofs.Ytepmikgjnmjheaa
section
open Go.RowKit
set_option linter.unusedSimpArgs false
set_option linter.unusedVariables false
theorem Triple.permΓ {P : Program} {f : FuncId} {args : Array Value} {Γ Γ' : List Asn} {R : Value → List Asn → Prop} (hp : Γ'.Perm Γ) (h : Triple P f args Γ R) : Triple P f args Γ' R := by
  intro w hw ha
  refine (h w (fun A hA => hw A (hp.mem_iff.2 hA)) (apart_perm hp ha)).mono ?_
  rintro e w' ⟨v, Γ1, rfl, hR, hP⟩
  have hown : ∀ g, ownFp Γ g → ownFp Γ' g := by
    rintro g ⟨A, hA, ho, hg⟩
    exact ⟨A, hp.mem_iff.2 hA, ho, hg⟩
  exact ⟨v, Γ1, rfl, hR, ⟨hP.mod.weaken fun g _ hg => hown g hg, hP.all, hP.apart, fun A hA g hg => (hP.new A hA g hg).imp id (hown g)⟩⟩
end
open Go.RowKit
set_option linter.unusedSimpArgs false
set_option linter.unusedVariables false
set_option maxRecDepth 20000
set_option maxHeartbeats 4000000
attribute [local irreducible] WPc WPl WPq ReadR OpT BinR HasS bx rdN rowN Take Takes Prov Triple ResF BuildP Done ag Int.decLt Int.decLe Int.instDecidableEq
attribute [local irreducible] mp rmp rg rgo bag vrow secs mput mget mfind mdel intsV skeys
section
variable (gV mD : Nat) (vd : Value) (cn : Int) (ls : List Sec) (es : List (Int × Vs))
theorem crashR_t (fu : List Int) (lv : Value) (l : List Int) (hl : l.length ≤ 1000000) (hli : ∀ a ∈ l, in64 a) (hn : ls.length ≤ 1000000) (he : es.length ≤ 1000000) (h4 : fu.length = 4) (hok : EOk ls.length es) :
    Triple Try.prog 17 #[hD gV, lv] ([rdN lv l.length (intsV l)] ++ [bx gV 79 (dvc fu vd mD cn), rowN 81 256 vd ls.length (secs ls), mp secM mD es, bag es]) (RTurns (resV []) [bx gV 79 (dvc f4 vd mD cn), rowN 81 256 vd ls.length (secs (crashT es l (skeys es) es.length ls)), mp secM mD [], bag []]) :=
  Triple.permΓ (List.perm_append_comm (l₁ := [rdN lv l.length (intsV l)])) (crash_t gV mD vd fu cn ls es lv l hl hli hn he h4 hok)
theorem waiting0_t (fu : List Int) : Triple Try.prog 19 #[hD gV] [rbx gV 79 (dvc fu vd mD cn), rmp secM mD []] (RRow 3 1 0 []) := by
  have := Waiting_t gV mD vd fu cn [] (by simp)
  have h0 : intsV (skeys []) = [] := by rw [skeys_nil]; with_unfolding_all rfl
  rw [h0] at this
  exact this
end
/-! ### One sector that is written -/
def K5 (es : List (Int × Vs)) (ws : List Sec) : Prop := (ws = [] ∧ es = []) ∨ (ws ≠ [] ∧ ∃ wv, es = [((5 : Int), ⟨wv, ws⟩)])
theorem K5.nil : K5 [] [] := .inl ⟨rfl, rfl⟩
theorem K5.step {es es' : List (Int × Vs)} {ws : List Sec} {cn cn' : Int} {b : UInt8} (h : K5 es ws) (hs : WStep 16 es cn 5 b es' cn') : K5 es' (ws ++ [secF b]) := by
  unfold WStep at hs
  rw [if_pos (by with_unfolding_all rfl)] at hs
  obtain ⟨⟨wv, rfl⟩, rfl⟩ := hs
  refine .inr ⟨by simp, wv, ?_⟩
  rcases h with ⟨rfl, rfl⟩ | ⟨hne, wv0, rfl⟩
  · with_unfolding_all rfl
  · with_unfolding_all rfl
def wantK (l : List UInt8) (kept : Int) : UInt8 := if 0 < min kept l.length then l.getD ((min kept l.length).toNat - 1) 0 else 0
theorem rep_set5 : (List.replicate 16 (secF 0)).set 5 (secF 0) = List.replicate 16 (secF 0) := by with_unfolding_all rfl
theorem K5.crash {es : List (Int × Vs)} {l : List UInt8} (h : K5 es (l.map secF)) (kept : Int) : crashT es [kept] (skeys es) es.length (List.replicate 16 (secF 0)) = (List.replicate 16 (secF 0)).set 5 (secF (wantK l kept)) := by
  rcases h with ⟨h0, rfl⟩ | ⟨hne, wv, rfl⟩
  · have hl : l = [] := by simpa using h0
    subst hl
    have : wantK [] kept = 0 := by
      unfold wantK
      split
      · rfl
      · rfl
    rw [this, rep_set5]
    rfl
  · have hk : skeys [((5 : Int), (⟨wv, l.map secF⟩ : Vs))] = [5] := by with_unfolding_all (unfold skeys; simp)
    rw [hk]
    show crash1 _ [kept] (List.replicate 16 (secF 0)) 0 5 = _
    unfold crash1
    show (if kept ≤ 0 then List.replicate 16 (secF 0) else (List.replicate 16 (secF 0)).set (5 : Int).toNat _) = _
    have hm : mget secM [((5 : Int), (⟨wv, l.map secF⟩ : Vs))] 5 = ⟨wv, l.map secF⟩ := by with_unfolding_all rfl
    have hl : 0 < l.length := by
      rcases l with _ | ⟨a, l⟩
      · exact absurd rfl hne
      · simp
    rw [hm]
    unfold wantK
    by_cases h0 : kept ≤ 0
    · rw [if_pos h0, if_neg (by omega), rep_set5]
    · rw [if_neg h0, if_pos (by omega)]
      show List.set _ 5 ((l.map secF).getD ((min kept ((l.map secF).length : Nat)).toNat - 1) (secF 0)) = _
      rw [List.length_map]
      congr 1
      rw [List.getD_eq_getElem?_getD, List.getD_eq_getElem?_getD, List.getElem?_map]
      cases l[(min kept (l.length : Nat)).toNat - 1]? <;> rfl
end Go.Proofs.Ytepmikgjnmjheaa
