/- What came in, opened: an argument's reading gives its shape. -/
import Derived.Test.YtopcecgkbmdmeaaLib
import Derived.ProofKit
import Derived.OpenShut
import Derived.ShutString
import Derived.ChangeOld
namespace Go.Proofs.Ytopcecgkbmdmeaa
open Go.ChangeShapes Go.WideShapes Go.ChangeAt Go.RowKit
set_option linter.unusedSimpArgs false
set_option linter.unusedVariables false

theorem Try.own : ownKnob Try.prog.godebug = none := by kernel_rfl
theorem Try.laidOut : laidOutB Try.prog = true := by kernel_rfl

section
variable {H : Type} {enc : TypeId × Value → H} {P : Program} {W : World} {base : Nat} {v : Value} {d : DataW H} {p : List MemPlace} {t : TypeId}

theorem open_nat {k : IntKind} (ht : P.underlying t = some (.int k)) (hk : k.signed = false) (hval : Value.okWide P W .any base t v) (h : DataW.Trod enc P W 0 (fun _ => true) true t v d p) :
    ∃ n : Nat, v = .int k n ∧ n < 2 ^ k.bits := by
  obtain ⟨n, rfl, _, _, hw⟩ := open_int ht hval h
  cases k <;> simp [IntKind.signed] at hk
  · have := bounds_u8 hw; exact ⟨n.toNat, by rw [Int.toNat_of_nonneg (by omega)], by simp [IntKind.bits]; omega⟩
  · have := bounds_u16 hw; exact ⟨n.toNat, by rw [Int.toNat_of_nonneg (by omega)], by simp [IntKind.bits]; omega⟩
  · have := bounds_u32 hw; exact ⟨n.toNat, by rw [Int.toNat_of_nonneg (by omega)], by simp [IntKind.bits]; omega⟩
  · have := bounds_u64 hw; exact ⟨n.toNat, by rw [Int.toNat_of_nonneg (by omega)], by simp [IntKind.bits]; omega⟩

theorem open_i64 (ht : P.underlying t = some (.int .i64)) (hval : Value.okWide P W .any base t v) (h : DataW.Trod enc P W 0 (fun _ => true) true t v d p) :
    ∃ n : Int, v = .int .i64 n ∧ -9223372036854775808 ≤ n ∧ n ≤ 9223372036854775807 := by
  obtain ⟨n, rfl, _, _, hw⟩ := open_int ht hval h
  have := bounds_i64 hw
  exact ⟨n, rfl, by omega, by omega⟩

theorem open_boolv (ht : P.underlying t = some .bool) (hval : Value.okWide P W .any base t v) (h : DataW.Trod enc P W 0 (fun _ => true) true t v d p) : ∃ b : Bool, v = .bool b := by
  obtain ⟨b, rfl, _, _⟩ := open_bool ht hval h
  exact ⟨b, rfl⟩

/-- Bytes that came in. -/
theorem open_bytes {e : TypeId} (ht : P.underlying t = some (.slice e)) (he : P.underlying e = some (.int .u8)) (hc : P.cellsOf e = 1)
    (hval : Value.okWide P W .any base t v) (h : DataW.Trod enc P W 0 (fun _ => true) true t v d p) : ∃ l : List Nat, SlW W v l ∧ (∀ x ∈ l, x < 256) := by
  obtain ⟨a0, len0, cap0, rfl⟩ := okWide_slice ht hval
  obtain ⟨fuel, hf⟩ := h
  rcases open_ints ht he hc hf with ⟨hcs, _⟩ | ⟨x, ln, c, zs, hcs, _, hl, hm, hz, _, hcell, hwz⟩
  · simp [Value.cells] at hcs
    obtain ⟨rfl, rfl, rfl⟩ := hcs
    exact ⟨[], .inl (.inl ⟨rfl, rfl⟩), by simp⟩
  · simp [Value.cells] at hcs
    obtain ⟨rfl, rfl, rfl⟩ := hcs
    simp only [if_true] at hz
    have hlt : ∀ n ∈ zs, 0 ≤ n ∧ n ≤ 255 := fun n hn => by have := bounds_u8 (hwz n hn); omega
    refine ⟨(zs.take len0).map Int.toNat, ?_, ?_⟩
    · have hlen : ((zs.take len0).map Int.toNat).length = len0 := by simp; omega
      by_cases hcap : cap0 = 0
      · refine .inr ⟨x, ?_, List.length_eq_zero_iff.1 (by omega)⟩
        rw [hcap, show len0 = 0 by omega]
      · left; right
        have h0 := hcell 0 (by omega)
        have hsp : x.spot = none := by
          cases hs : x.spot with
          | none => rfl
          | some s =>
            simp only [Addr.add, if_true] at h0
            unfold World.cell? at h0
            split at h0
            · simp [hs] at h0
            · cases h0
        refine ⟨x.block, x.off, cap0, ?_, by omega, hm, fun i hi => ?_⟩
        · rw [hlen]
          cases x with
          | mk b o s => simp only at hsp; subst hsp; rfl
        · rw [hlen] at hi
          have hi' := hcell i (by omega)
          have e1 : x.add i = ⟨x.block, x.off + i, none⟩ := by
            cases x with
            | mk b o s =>
              simp only at hsp
              subst hsp
              unfold Addr.add
              split
              · rename_i h; subst h; rfl
              · rfl
          rw [← e1, hi']
          have hiz : i < zs.length := by omega
          have := hlt zs[i] (List.getElem_mem hiz)
          simp only [Option.some.injEq, Value.int.injEq, true_and]
          rw [List.getD_eq_getElem?_getD, List.getD_eq_getElem?_getD, List.getElem?_map, List.getElem?_take, if_pos hi, List.getElem?_eq_getElem hiz]
          simp only [Option.map_some, Option.getD_some]
          omega
    · intro n hn
      rw [List.mem_map] at hn
      obtain ⟨z, hz', rfl⟩ := hn
      have := hlt z (List.mem_of_mem_take hz')
      omega

end

end Go.Proofs.Ytopcecgkbmdmeaa
