/- The keys of a map of ints, sorted: slices.Sorted(maps.Keys(m)). -/
import Derived.Test.YtpjfkomicehinaaCm
import Derived.Shelf.Slices.In.SortNone
import Derived.Shelf.Sort.Plain
import Derived.Test.YtpjfkomicehinaaSz
namespace Go.Proofs.Ytpjfkomicehinaa
open Go.RowKit Go.Sort Go.Shelf
set_option linter.unusedSimpArgs false
set_option linter.unusedVariables false
def intsV (l : List Int) : List Value := l.map (Value.int .i64)
/-- A map of ints, whatever it holds. -/
theorem mapI_int {V : Type} {P : Program} {T kT eT : TypeId} {M : MK Int V} (hu : P.underlying T = some (.map kT eT)) (hk : P.underlying kT = some (.int .i64)) (hkt : P.keyType kT = true) (hM : ∀ k, M.kc k = .int .i64 k) (hwf : ∀ k, M.wf k → in64 k) (hz : (P.info? eT).bind (·.zero) = some (M.vc M.v0)) : MapI P T M where
  law := ⟨kT, eT, hu, Go.Maps.int_keyed hk, fun k h => by
    have h1 := hwf k h
    have h2 : (Lit.int .i64 k).wf = true := in64_wf h1
    rw [hM]
    exact ⟨.int .i64 k, by simp [keyOf, hk, mapKey, h2]⟩, fun w => run_zero hz w⟩
  inj := fun a b h => by rw [hM, hM] at h; simpa using h
theorem mod_below {T : Nat → Prop} {w w' : World} (h : Below w.heap.size w w') : Mod T w w' := ⟨h.os, h.tape, h.output, h.size, h.size, fun g hg _ => h.block g hg⟩
/-- How its values are read: not at all. -/
def anyR : Value → Option (DataW Unit × List MemPlace) := fun _ => some (.nil, [])
theorem mp_owns {V : Type} {P : Program} {M : MK Int V} {m : Nat} {l : List (Int × V)} {w : World} {k : TypeId} (hk : P.underlying k = some (.int .i64)) (hM : ∀ k, M.kc k = .int .i64 k) (hwf : ∀ k, M.wf k → in64 k) (hl : l.length ≤ maxLen) (h : (mp M m l).holds w) :
    ∃ D : DataW Unit, w.ownsMap P k anyR m l.length D ∧ (intKeys D).Perm (l.map (·.1)) ∧ Maps.size D = l.length := by
  obtain ⟨es, clock, hb, he, h1, h2, hn, hw⟩ := h
  have hlen : es.toList.length = l.length := by have := congrArg List.length he; simpa using this
  have hsz : es.size = l.length := by simpa using hlen
  have hrd : ∀ x ∈ es.toList, ∃ k0 : Int, x.key = .int .i64 k0 ∧ Go.WideElems.rd P k anyR x = some (.int .i64 k0, .nil) := fun x hx => by
    obtain ⟨y, hy, hyk⟩ := mp_key he hx
    have h3 : (Lit.int .i64 y.1).wf = true := in64_wf (hwf _ (hw y hy))
    refine ⟨y.1, by rw [hyk, hM], ?_⟩
    unfold Go.WideElems.rd
    rw [hyk, hM]
    simp [keyOf, hk, mapKey, h3, anyR]
  have hkeys : es.toList.map (·.key) = l.map (fun x => Value.int .i64 x.1) := by
    have := congrArg (List.map Prod.fst) he
    rw [List.map_map, List.map_map] at this
    refine this.trans (List.map_congr_left fun x _ => ?_)
    simp [hM]
  refine ⟨_, ⟨es, clock, hb, ⟨by omega, ⟨h2, h1.imp (fun h => Nat.ne_of_lt h), ?_⟩, fun x hx => ?_⟩, Nat.le_of_eq hsz, rfl⟩, ?_, ?_⟩
  · rw [hkeys]
    have : (l.map (fun x => Value.int .i64 x.1)) = (l.map (·.1)).map (Value.int .i64) := by rw [List.map_map]; rfl
    rw [this]
    exact hn.map _ (fun a b hab h => hab (by simpa using h))
  · obtain ⟨k0, _, h4⟩ := hrd x hx
    exact ⟨_, h4⟩
  · show (List.map (fun p : Lit × DataW Unit => Go.intOf p.1) (List.foldr DataW.insert [] (List.map (Go.WideElems.rg P k anyR) es.toList))).Perm _
    refine ((Go.WideShapes.sorted_perm _).map _).trans (.of_eq ?_)
    rw [List.map_map]
    have h5 : es.toList.map (fun x => Go.intOf (Go.WideElems.rg P k anyR x).1) = es.toList.map (fun x => match x.key with | .int _ a => a | _ => 0) := List.map_congr_left fun x hx => by
      obtain ⟨k0, h6, h7⟩ := hrd x hx
      rw [Go.WideElems.rg_of h7, h6]
      rfl
    refine h5.trans ?_
    have h8 : es.toList.map (fun x => match x.key with | .int _ a => a | _ => 0) = (es.toList.map (·.key)).map (fun v => match v with | Value.int _ a => a | _ => 0) := by rw [List.map_map]; rfl
    rw [h8, hkeys, List.map_map]
    rfl
  · show (List.foldr DataW.insert [] (List.map (Go.WideElems.rg P k anyR) es.toList)).length = _
    rw [(Go.WideShapes.sorted_perm _).length_eq, List.length_map, hlen]
theorem enters_isCode {P : Program} {g : FuncId} (hc : isCode P g = true) (args : Array Value) (w : World) : (callFunc g args).run P w = .ok (.enter g args) w := by
  unfold isCode at hc
  cases hf : P.funcs[g]? with
  | none => rw [hf] at hc; cases hc
  | some fn =>
    rw [hf] at hc
    simp only [Bool.and_eq_true, decide_eq_true_eq] at hc
    obtain ⟨h1, h2⟩ := hc
    obtain ⟨b, hb⟩ := Option.isSome_iff_exists.1 h2
    simp [callFunc, Sem.run_bind, hf, h1, hb, go_sem]
def RKeys (m : Nat) : Value → List Asn → Prop := fun v Γ => ∃ g, v = .func (.func 56) #[] #[.pointer (some ⟨g, 0, none⟩)] ∧ Γ = [bx g 63 [(1, [.map (some m)])]]
theorem keys_t (m : Nat) : Triple Try.prog 31 #[.map (some m)] [] (RKeys m) := by
  intro w hw ha
  have h := callsIn_wide.1 (AnyZI.keys_in Try.keysA Fence.wide 5 trivial rfl (some m) w)
  refine Calls.mono h ?_
  rintro e w' ⟨rfl, rfl⟩
  exact ⟨_, _, rfl, ⟨_, rfl, rfl⟩, .one (Mod.alloc _ _ _) ⟨alloc_new _ _, fokA⟩ fun g hg => by cases hg; exact .inl (Nat.le_refl _)⟩
theorem sorts_a (m : Nat) : AnyZI.SortsIn Try.prog Try.sortedA_ren Fence.wide m :=
  ⟨fun blk off cap ss W hH hblk hsz => callsIn_wide.2 (Any.slices_Sort_int Try.sortI blk off cap ss W hH hblk hsz),
   fun p cap W => callsIn_wide.2 (Any.slices_Sort_int_none Try.sortI p cap W)⟩
theorem sorted_t {V : Type} {M : MK Int V} (hM : ∀ k, M.kc k = .int .i64 k) (hwf : ∀ k, M.wf k → in64 k) (g m : Nat) (l : List (Int × V)) (hl : l.length ≤ 1000000000) :
    Triple Try.prog 30 #[.func (.func 56) #[] #[.pointer (some ⟨g, 0, none⟩)]] [rbx g 63 [(1, [.map (some m)])], rmp M m l] (RRow 3 1 l.length (intsV ((l.map (·.1)).mergeSort (fun x y => decide (x ≤ y))))) := by
  intro w hw ha
  have hg := hw _ (List.mem_cons_self ..)
  have hm0 : (rmp M m l).holds w := hw _ (List.mem_cons_of_mem _ (List.mem_cons_self ..))
  have hm : (mp M m l).holds w := hm0
  obtain ⟨D, hown, hperm, hsize⟩ := mp_owns (P := Try.prog) (k := 3) Try.underlying3 hM hwf (by unfold maxLen; omega) hm
  have hcell : w.cell? ⟨g, 0, none⟩ = some (.map (some m)) := by
    rw [bx_cell hg]; rfl
  have hglt := (rbx g 63 [(1, [.map (some m)])]).lt w hg g rfl
  have hseq : SeqGives Fence.wide 2 Try.prog 56 #[.pointer (some ⟨g, 0, none⟩)] encZ (fun ss => ss.Perm (intKeys D)) (Maps.size D) w :=
    AnyZI.keys_gives (ρ := Try.keysA_ren) { Try.keysA with } Fence.wide _ trivial rfl (by omega) g m l.length D w hglt hcell hown
  have h := AnyZI.sorted_in Try.sortedA Fence.wide 5 trivial trivial trivial trivial rfl (by omega) (sorts_a _) (fun args w => enters_isCode (by kernel_rfl) args w) 56 #[.pointer (some ⟨g, 0, none⟩)] trivial (fun args w => enters_isCode (by kernel_rfl) args w) _ (Maps.size D) (by rw [hsize]; unfold maxLen; omega) (by rw [hsize]; omega) w hseq
  refine Calls.mono (callsIn_wide.1 h) ?_
  rintro e w' ⟨v, ss, rfl, hS, hrow, hnil, hb⟩
  have hp2 : ss.Perm (l.map (·.1)) := hS.trans hperm
  have hlen : ss.length = l.length := by have := hp2.length_eq; simpa using this
  have hone : v.oneCell' = true := by
    rcases hrow.2 with ⟨rfl, _⟩ | ⟨g, c, cu, rfl, _⟩ <;> rfl
  refine ⟨_, _, rfl, ⟨hone, rfl⟩, .one (mod_below hb) ?_ fun g' hg' => .inl ?_⟩
  · show w'.ownsRow 0 _ _ _ _ _
    rw [← mergeSort_of_perm_i hp2, ← hlen]
    obtain ⟨h1, h2 | ⟨g2, c, cu, h3, hB, h4⟩⟩ := hrow
    · exact ⟨h1, .inl h2⟩
    · exact ⟨h1, .inr ⟨g2, c, cu, h3, Nat.zero_le _, h4⟩⟩
  · rcases hrow.2 with ⟨rfl, _⟩ | ⟨g2, c, cu, rfl, hB, _⟩
    · cases hg'
    · cases hg'; exact hB
end Go.Proofs.Ytpjfkomicehinaa
