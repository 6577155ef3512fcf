/- Prefixes of addresses, as they stand in cells. -/
import Derived.Test.YtncgponcedkihaaPo
import Derived.Test.YtncgponcedkihaaAdr
namespace Go.Proofs.Ytncgponcedkihaa
open Go.RowKit
set_option linter.unusedSimpArgs false
set_option linter.unusedVariables false

abbrev Pf := Adr × Int
abbrev pfc (p : Pf) : Ch := [(1, [.bool p.1.six]), (16, u8s p.1.b), (1, [.int .i64 p.2])]
def pfK : List (Option IntKind) := none :: (List.replicate 16 (some .u8) ++ [some .i64])
theorem pf_flat (p : Pf) : flat (pfc p) = .bool p.1.six :: (u8s p.1.b ++ [.int .i64 p.2]) := by simp [pfc, flat]
theorem pf_inj {a b : Pf} (h : flat (pfc a) = flat (pfc b)) : a = b := by
  rw [pf_flat, pf_flat] at h
  obtain ⟨h1, h2⟩ := List.cons.inj h
  have hl : (u8s a.1.b).length = (u8s b.1.b).length := by simp [u8s, a.1.len, b.1.len]
  obtain ⟨h3, h4⟩ := List.append_inj h2 hl
  have e1 : a.1 = b.1 := Adr.ext (by simpa using h1) (u8s_inj.1 h3)
  have e2 : a.2 = b.2 := by simpa using h4
  exact Prod.ext e1 e2
theorem pf_shp (p : Pf) : Shp pfK (flat (pfc p)) := by
  rw [pf_flat]
  refine ⟨⟨_, rfl⟩, ?_⟩
  have := shp_u8s p.1.b
  rw [p.1.len] at this
  exact this.append ⟨⟨_, rfl⟩, trivial⟩
theorem pf_keyed {p : Pf} (hp : in64 p.2) : Shp pfK (flat (pfc p)) ∧ ∀ v ∈ flat (pfc p), inR v := ⟨pf_shp p, fun v hv => by
      rw [pf_flat, List.mem_cons, List.mem_append, List.mem_singleton] at hv
      rcases hv with rfl | hv | rfl
      · trivial
      · exact inR_u8 v hv
      · exact in64_wf hp⟩
end Go.Proofs.Ytncgponcedkihaa
