/- Bags: what belongs to the elements of a list, as one assertion. -/
import Derived.Test.YtpjfkomicehinaaCm
namespace Go.Proofs.Ytpjfkomicehinaa
open Go.RowKit
set_option linter.unusedSimpArgs false
set_option linter.unusedVariables false
/-- What belongs to the elements of a list. -/
def gbag {α : Type} (row : α → List Asn) (es : List α) : Asn := star (es.flatMap row)
theorem gbag_own {α : Type} {row : α → List Asn} {es : List α} : (gbag row es).own = true := rfl
section
variable {P : Program} {n : Nat} {W : World} {S : Nat → Prop} {Γ : List Asn} {F : List (Nat × Value)} {Q : Exit → Act → World → Prop} {ops : Array Oper} {os : List Oper}
theorem gbag_all {α : Type} {row : α → List Asn} (ho : ∀ x A, A ∈ row x → A.own = true) (es : List α) : ∀ A, A ∈ es.flatMap row → A.own = true := by
  intro A hA
  obtain ⟨x, _, h⟩ := List.mem_flatMap.1 hA
  exact ho x A h
theorem gbag_perm {α : Type} {row : α → List Asn} {es es' : List α} {x : α} (hp : es.Perm (x :: es')) (Γf : List Asn) : (es.flatMap row ++ Γf).Perm (es'.flatMap row ++ (row x ++ Γf)) := by
  have h1 : (es.flatMap row).Perm (row x ++ es'.flatMap row) := by
    have := hp.flatMap_right row
    rwa [List.flatMap_cons] at this
  refine (h1.append_right Γf).trans ?_
  rw [← List.append_assoc]
  exact (List.perm_append_comm).append_right Γf
theorem Good.gbagOut {α : Type} {row : α → List Asn} {es es' : List α} {x : α} {Γf : List Asn} {w : World} (ho : ∀ x A, A ∈ row x → A.own = true) (hp : es.Perm (x :: es')) (h : Good W S (gbag row es :: Γf) w) : Good W S (gbag row es' :: (row x ++ Γf)) w :=
  ((h.open' (gbag_all ho es)).perm (gbag_perm hp Γf)).close (gbag_all ho es')
theorem Good.gbagIn {α : Type} {row : α → List Asn} {es es' : List α} {x : α} {Γf : List Asn} {w : World} (ho : ∀ x A, A ∈ row x → A.own = true) (hp : es.Perm (x :: es')) (h : Good W S (gbag row es' :: (row x ++ Γf)) w) : Good W S (gbag row es :: Γf) w :=
  ((h.open' (gbag_all ho es')).perm (gbag_perm hp Γf).symm).close (gbag_all ho es)
theorem Good.gbag0 {α : Type} {row : α → List Asn} {w : World} (h : Good W S Γ w) : Good W S (gbag row [] :: Γ) w := Good.close (Γ1 := []) (by intro A hA; cases hA) h
theorem WPc.gbagO {α : Type} {row : α → List Asn} {es es' : List α} {x : α} {c : Code} {Γf : List Asn} (ho : ∀ x A, A ∈ row x → A.own = true) (hp : es.Perm (x :: es')) (k : WPc P n W S (gbag row es' :: (row x ++ Γf)) F c Q) (ht : Take Γ (gbag row es) Γf := by first | exact takeA | fail) : WPc P n W S Γ F c Q := fun a w hf hg => k a w hf ((hg.perm ht).gbagOut ho hp)
theorem WPl.gbagO {α : Type} {row : α → List Asn} {es es' : List α} {x : α} {Γf : List Asn} (ho : ∀ x A, A ∈ row x → A.own = true) (hp : es.Perm (x :: es')) (k : WPl P n W S (gbag row es' :: (row x ++ Γf)) F ops os Q) (ht : Take Γ (gbag row es) Γf := by first | exact takeA | fail) : WPl P n W S Γ F ops os Q := fun a w hf hg => k a w hf ((hg.perm ht).gbagOut ho hp)
theorem WPq.gbagI {α : Type} {row : α → List Asn} {es es' : List α} {x : α} {e : Exit} {Γf : List Asn} (ho : ∀ x A, A ∈ row x → A.own = true) (hp : es.Perm (x :: es')) (ht : Takes Γ (gbag row es' :: row x) Γf) (k : WPq n W S (gbag row es :: Γf) F Q e) : WPq n W S Γ F Q e := fun a w hf hg => k a w hf (Good.gbagIn ho hp (hg.perm ht))
theorem WPc.gbagI {α : Type} {row : α → List Asn} {es es' : List α} {x : α} {c : Code} {Γf : List Asn} (ho : ∀ x A, A ∈ row x → A.own = true) (hp : es.Perm (x :: es')) (ht : Takes Γ (gbag row es' :: row x) Γf) (k : WPc P n W S (gbag row es :: Γf) F c Q) : WPc P n W S Γ F c Q := fun a w hf hg => k a w hf (Good.gbagIn ho hp (hg.perm ht))
theorem WPc.gbag0 {α : Type} (row : α → List Asn) {c : Code} (k : WPc P n W S (gbag row [] :: Γ) F c Q) : WPc P n W S Γ F c Q := fun a w hf hg => k a w hf hg.gbag0
theorem WPq.gbag0 {α : Type} (row : α → List Asn) {e : Exit} (k : WPq n W S (gbag row [] :: Γ) F Q e) : WPq n W S Γ F Q e := fun a w hf hg => k a w hf hg.gbag0
theorem WPl.gbag0 {α : Type} (row : α → List Asn) (k : WPl P n W S (gbag row [] :: Γ) F ops os Q) : WPl P n W S Γ F ops os Q := fun a w hf hg => k a w hf hg.gbag0
/-- What is only read of a bag. -/
theorem Prov.gbag {α : Type} {row : α → List Asn} {es : List α} {x : α} {A B : Asn} (h : Go.Proofs.Ytpjfkomicehinaa.gbag row es ∈ Γ) (hx : x ∈ es) (hA : A ∈ row x) (hB : B.own = false) (hh : ∀ w, A.holds w → B.holds w) : Prov Γ B :=
  ⟨hB, fun w hw => hh w ((hw _ h).1 A (List.mem_flatMap.2 ⟨x, hx, hA⟩))⟩
section
variable {ty : TypeId} {pos : String} {af : Array Edge} {gd : Option (Nat × Bool)} {T T' : TypeId}
theorem ReadR.loadOA {sz g off : Nat} {cs ds : Ch} [hT : TyI P T true sz] {d : Option Tmp} {x : Operand} (hm : rbx g T' cs ∈ Γ) (hs : sel cs off sz = some ds) (hx : evF F x = some (.pointer (some ⟨g, off, none⟩))) :
    ReadR P n Γ F ⟨d, .load T x, ty, pos, af, gd⟩ (ag ds) := fun ρ w hff hw => by
  have h0 : (bx g T' cs).holds w := hw (rbx g T' cs) hm
  simp [execOp, hff.eval hx, Instr.loadAt, Instr.sureAddr, run_loadA (T := T) hs h0]
end
section
variable {K V : Type} [DecidableEq K] {M : MK K V} {T : TypeId} {ty : TypeId} {pos : String} {af : Array Edge} {gd : Option (Nat × Bool)}
theorem ReadR.lookOkM [h : MapI P T M] {d : Option Tmp} {x i : Operand} {g : Nat} {l : List (K × V)} {k : K} {c : Value} {b : Bool} (hkw : M.wf k) (hx : evF F x = some (.map (some g))) (hi : evF F i = some (M.kc k)) (hm : rmp M g l ∈ Γ) (hc : M.vc (mget M l k) = c) (hb : mhas l k = b) :
    ReadR P n Γ F ⟨d, .lookup T x i true, ty, pos, af, gd⟩ (.tuple #[c, .bool b]) := fun ρ w hf hw =>
  ReadR.lookOk (Γ := [mp M g l]) hkw hx hi (List.mem_cons_self ..) hc hb ρ w hf (fun A hA => by rw [List.mem_singleton.1 hA]; have h0 : (rmp M g l).holds w := hw _ hm; exact h0)
theorem ReadR.lookM [h : MapI P T M] {d : Option Tmp} {x i : Operand} {g : Nat} {l : List (K × V)} {k : K} {c : Value} (hkw : M.wf k) (hx : evF F x = some (.map (some g))) (hi : evF F i = some (M.kc k)) (hm : rmp M g l ∈ Γ) (hc : M.vc (mget M l k) = c) :
    ReadR P n Γ F ⟨d, .lookup T x i false, ty, pos, af, gd⟩ c := fun ρ w hf hw =>
  ReadR.look (Γ := [mp M g l]) hkw hx hi (List.mem_cons_self ..) hc ρ w hf (fun A hA => by rw [List.mem_singleton.1 hA]; have h0 : (rmp M g l).holds w := hw _ hm; exact h0)
end
end
end Go.Proofs.Ytpjfkomicehinaa
