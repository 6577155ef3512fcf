/- Separation: a block that is only read. -/
import Derived.Test.YtpjfkomicehinaaRw
namespace Go.Proofs.Ytpjfkomicehinaa
open Go.RowKit
set_option linter.unusedSimpArgs false
set_option linter.unusedVariables false
def rbx (g : Nat) (T : TypeId) (cs : Ch) : Asn where
  own := false
  fp := fun g' => g' = g
  holds := (bx g T cs).holds
  lt := (bx g T cs).lt
  loc := (bx g T cs).loc
theorem Prov.bx {Γ : List Asn} {g : Nat} {T : TypeId} {cs : Ch} (h : Go.Proofs.Ytpjfkomicehinaa.bx g T cs ∈ Γ) : Prov Γ (rbx g T cs) := ⟨rfl, fun w hw => hw (Go.Proofs.Ytpjfkomicehinaa.bx g T cs) h⟩
theorem Prov.rbx {Γ : List Asn} {g : Nat} {T : TypeId} {cs : Ch} (h : Go.Proofs.Ytpjfkomicehinaa.rbx g T cs ∈ Γ) : Prov Γ (Go.Proofs.Ytpjfkomicehinaa.rbx g T cs) := ⟨rfl, fun w hw => hw _ h⟩
theorem provsX {Γ Δ : List Asn} (h : Provs Γ Δ := by ((repeat' (first | exact Provs.nil | apply Provs.cons | exact Prov.bx memA | exact Prov.rbx memA | exact provA | fail)) <;> fail)) : Provs Γ Δ := h
section
variable {P : Program} {n : Nat} {Γ : List Asn} {F : List (Nat × Value)}
variable {d : Option Tmp} {ty : TypeId} {pos : String} {af : Array Edge} {gd : Option (Nat × Bool)}
theorem ReadR.loadO {T T' : TypeId} [hT : TyI P T false 1] {x : Operand} {g off : Nat} {cs : Ch} {v : Value} (hm : rbx g T' cs ∈ Γ) (hs : sel cs off 1 = some [(1, [v])]) (hx : evF F x = some (.pointer (some ⟨g, off, none⟩))) :
    ReadR P n Γ F ⟨d, .load T x, ty, pos, af, gd⟩ v := fun ρ w hf hw => by
  have hb : (bx g T' cs).holds w := hw (rbx g T' cs) hm
  have hc : w.cell? ⟨g, off, none⟩ = some v := by
    rw [bx_cell hb]
    exact sel_cells hs hb.2.len 0 v rfl
  simp [execOp, hf.eval hx, Instr.loadAt, Instr.sureAddr, run_load1 (T := T) hc]
end
end Go.Proofs.Ytpjfkomicehinaa
