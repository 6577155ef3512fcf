/- Maps: an entry that is made, and stored into (assignments of several values). -/
import Derived.Test.YtpjfkomicehinaaPo
namespace Go.Proofs.Ytpjfkomicehinaa
open Go.RowKit
set_option linter.unusedSimpArgs false
set_option linter.unusedVariables false
set_option linter.unusedSectionVars false
section
variable {K V : Type} [DecidableEq K]
/-- A map of one's own in which a key's entry is known by its stamp. -/
def mpe (M : MK K V) (g : Nat) (l : List (K × V)) (k : K) (s : Int) : Asn where
  own := true
  fp := fun g' => g' = g
  holds := fun w => ∃ es clock, w.heap[g]? = some (.map es clock) ∧ es.toList.map (fun e => (e.key, e.val)) = l.map (fun x => (M.kc x.1, M.vc x.2)) ∧ (es.toList.map (·.born)).Pairwise (· < ·) ∧ (∀ e ∈ es.toList, e.born < clock) ∧ (l.map (·.1)).Nodup ∧ (∀ x ∈ l, M.wf x.1) ∧ ∃ (j : Nat) (e : MapEntry) (x : K × V), es.toList[j]? = some e ∧ ((e.born : Nat) : Int) = s ∧ l[j]? = some x ∧ x.1 = k
  lt := fun w h g' hg => by
    subst hg
    obtain ⟨es, clock, h, _⟩ := h
    rcases Nat.lt_or_ge g' w.heap.size with h1 | h1
    · exact h1
    · rw [Array.getElem?_eq_none h1] at h; cases h
  loc := fun w w' h hl => by
    obtain ⟨es, clock, h, h2⟩ := h
    exact ⟨es, clock, by rw [hl g rfl]; exact h, h2⟩
theorem mpe_own {M : MK K V} {g : Nat} {l : List (K × V)} {k : K} {s : Int} : (mpe M g l k s).own = true := rfl
theorem mput_mput {l : List (K × V)} {k : K} {a b : V} : mput (mput l k a) k b = mput l k b := by
  induction l with
  | nil => simp [mput]
  | cons x l ih =>
    by_cases h : x.1 = k
    · simp [h, mput]
    · simp only [mput, if_neg h, ih]
variable {P : Program} {T : TypeId} {M : MK K V}
theorem run_mapEntry [h : MapI P T M] {g : Nat} {l : List (K × V)} {w : World} (hm : (mp M g l).holds w) (k : K) (hkw : M.wf k) :
    ∃ o s, (Instr.mapEntry T (.map (some g)) (M.kc k)).run P w = .ok (.tuple #[M.vc (mget M l k), .int .i64 s]) (ChangeMaps.setBlock w g o) ∧ (mpe M g (mput l k (mget M l k)) k s).holds (ChangeMaps.setBlock w g o) := by
  obtain ⟨kT, eT, hu, hK, hk, hz⟩ := h.law
  obtain ⟨es, clock, hb, he, h1, h2, hn, hwf⟩ := hm
  obtain ⟨kl, hkl⟩ := hk k hkw
  have hall : ∀ e ∈ es.toList, ∃ l, keyOf P kT e.key = some l := fun e hm => by
    obtain ⟨x', hx', hk'⟩ := mp_key he hm
    rw [hk']; exact hk _ (hwf x' hx')
  have hlen : es.toList.length = l.length := by have := congrArg List.length he; simpa using this
  rcases hK.find w hkl es.toList hall with ⟨f1, f2⟩ | ⟨j, e0, f1, f2, f3⟩
  · have hno := mfind_none (mp_no he f2)
    have hg0 : mget M l k = M.v0 := by unfold mget; rw [hno.1]; rfl
    refine ⟨.map (es.push ⟨M.kc k, M.vc M.v0, clock⟩) (clock + 1), clock, ?_, ?_⟩
    · simp [Instr.mapEntry, run_underlying hu, MapKept.run_getObj_map hb, hK.check w false hkl, f1, hz, MapKept.run_setObj_map _ hb, Result.andThen, ChangeMaps.setBlock, goInt, hg0]
    · refine ⟨_, _, block_set hb, ?_, ?_, ?_, mput_keys hn, mput_wf hwf hkw, l.length, ⟨M.kc k, M.vc M.v0, clock⟩, (k, M.v0), ?_, rfl, ?_, rfl⟩
      · rw [hno.2.1, hg0, Array.toList_push, List.map_append, List.map_append, he]; rfl
      · rw [Array.toList_push, List.map_append, List.pairwise_append]
        refine ⟨h1, List.pairwise_singleton _ _, fun a ha b hb' => ?_⟩
        obtain ⟨e, he', rfl⟩ := List.mem_map.1 ha
        simp only [List.map_cons, List.map_nil, List.mem_singleton] at hb'
        subst hb'
        exact h2 e he'
      · intro e he'
        rw [Array.toList_push, List.mem_append, List.mem_singleton] at he'
        rcases he' with he' | rfl
        · exact Nat.lt_succ_of_lt (h2 e he')
        · exact Nat.lt_succ_self _
      · rw [Array.toList_push, List.getElem?_append_right (by omega)]
        simp [hlen]
      · rw [hno.2.1, hg0, List.getElem?_append_right (by omega)]
        simp
  · obtain ⟨x, g1, g2, g3⟩ := mp_at he f2
    have hx : x.1 = k := h.inj _ _ (g2.symm.trans f3)
    have hj : es[j]? = some e0 := by simpa using f2
    have hso := mfind_some hn g1 hx
    have hg0 : mget M l k = x.2 := by unfold mget; rw [hso.1]; rfl
    refine ⟨.map (es.modify j fun e => { e with key := M.kc k }) clock, e0.born, ?_, ?_⟩
    · have hst := hK.stays w hkl
      simp [Instr.mapEntry, run_underlying hu, MapKept.run_getObj_map hb, hK.check w false hkl, f1, hj, f3, hst, MapKept.run_setObj_map _ hb, Result.andThen, ChangeMaps.setBlock, goInt, hg0, g3]
    · have hs : (es.modify j fun e => { e with key := M.kc k }).toList = es.toList.set j { e0 with key := M.kc k } := by
        rw [Array.toList_modify, ChangeMaps.modify_eq_set _ _ _ _ f2]
      have hjl : j < es.toList.length := (List.getElem?_eq_some_iff.1 f2).1
      refine ⟨_, _, block_set hb, ?_, ?_, ?_, mput_keys hn, mput_wf hwf hkw, j, { e0 with key := M.kc k }, (k, x.2), ?_, rfl, ?_, rfl⟩
      · rw [hs, hso.2.1, hg0, List.map_set, List.map_set, he, g3]
      · rw [hs, List.map_set]
        have : (es.toList.map (·.born))[j]? = some e0.born := by rw [List.getElem?_map, f2]; rfl
        have h3 : (es.toList.map (·.born)).set j e0.born = es.toList.map (·.born) := by
          apply List.ext_getElem?
          intro i
          rw [List.getElem?_set]
          split
          · rename_i e; subst e
            split
            · exact this.symm
            · rename_i h4
              rw [List.getElem?_eq_none (by omega)]
          · rfl
        show List.Pairwise _ ((es.toList.map (·.born)).set j e0.born)
        rw [h3]; exact h1
      · intro e he'
        rw [hs] at he'
        rcases List.mem_or_eq_of_mem_set he' with h4 | rfl
        · exact h2 e h4
        · exact h2 e0 (List.mem_of_getElem? f2)
      · rw [hs, List.getElem?_set_self hjl]
      · rw [hso.2.1, hg0, List.getElem?_set_self (by omega)]
theorem find_born {es : List MapEntry} (h1 : (es.map (·.born)).Pairwise (· < ·)) {j : Nat} {e : MapEntry} (he : es[j]? = some e) : es.findIdx? (fun x => ((x.born : Nat) : Int) == ((e.born : Nat) : Int)) = some j := by
  induction es generalizing j with
  | nil => simp at he
  | cons a es ih =>
    rw [List.map_cons, List.pairwise_cons] at h1
    cases j with
    | zero =>
      simp only [List.getElem?_cons_zero, Option.some.injEq] at he
      subst he
      simp [List.findIdx?_cons]
    | succ j =>
      simp only [List.getElem?_cons_succ] at he
      have hlt := h1.1 e.born (List.mem_map.2 ⟨e, List.mem_of_getElem? he, rfl⟩)
      have hne : ¬ a.born = e.born := by omega
      rw [List.findIdx?_cons]
      have := ih h1.2 he
      have hne2 : ¬ ((a.born : Nat) : Int) = ((e.born : Nat) : Int) := by omega
      simp only [beq_iff_eq, hne2, if_false, this, Option.map_some]
theorem run_entryStore {g : Nat} {l : List (K × V)} {w : World} {k : K} {s : Int} (hm : (mpe M g l k s).holds w) (v : V) :
    ∃ o, (Instr.entryStore T (.map (some g)) (.int .i64 s) (M.vc v)).run P w = .ok () (ChangeMaps.setBlock w g o) ∧ (mp M g (mput l k v)).holds (ChangeMaps.setBlock w g o) := by
  obtain ⟨es, clock, hb, he, h1, h2, hn, hwf, j, e, x, k1, k2, k3, k4⟩ := hm
  subst k2
  have hf := find_born h1 k1
  have hf2 : es.findIdx? (fun x => ((x.born : Nat) : Int) == ((e.born : Nat) : Int)) = some j := by
    rw [show es = es.toList.toArray by simp, List.findIdx?_toArray]; exact hf
  have hj : es[j]? = some e := by simpa using k1
  refine ⟨.map (es.modify j fun e => { e with val := M.vc v }) clock, ?_, ?_⟩
  · simp [Instr.entryStore, MapKept.run_getObj_map hb, asInt, asIntOf, hf2, MapKept.run_setObj_map _ hb, Result.andThen, ChangeMaps.setBlock]
  · have hs : (es.modify j fun e => { e with val := M.vc v }).toList = es.toList.set j { e with val := M.vc v } := by
      rw [Array.toList_modify, ChangeMaps.modify_eq_set _ _ _ _ k1]
    obtain ⟨y, y1, y2, y3⟩ := mp_at he k1
    rw [k3] at y1
    cases y1
    refine ⟨_, _, block_set hb, ?_, ?_, ?_, mput_keys hn, mput_wf hwf (k4 ▸ hwf x (List.mem_of_getElem? k3)), ⟩
    · rw [hs, (mfind_some hn k3 k4).2.1 v, List.map_set, List.map_set, he, y2, k4]
    · rw [hs, List.map_set]
      have : (es.toList.map (·.born))[j]? = some e.born := by rw [List.getElem?_map, k1]; rfl
      have h3 : (es.toList.map (·.born)).set j e.born = es.toList.map (·.born) := by
        apply List.ext_getElem?
        intro i
        rw [List.getElem?_set]
        split
        · rename_i e'; subst e'
          split
          · exact this.symm
          · rename_i h4
            rw [List.getElem?_eq_none (by omega)]
        · rfl
      show List.Pairwise _ ((es.toList.map (·.born)).set j e.born)
      rw [h3]; exact h1
    · intro e' he'
      rw [hs] at he'
      rcases List.mem_or_eq_of_mem_set he' with h4 | rfl
      · exact h2 e' h4
      · exact h2 e (List.mem_of_getElem? k1)
variable {n : Nat} {W : World} {S : Nat → Prop} {Γ : List Asn} {F : List (Nat × Value)} {Q : Exit → Act → World → Prop} {ops : Array Oper} {os : List Oper}
variable {d : Option Tmp} {ty : TypeId} {pos : String} {af : Array Edge} {gd : Option (Nat × Bool)}
def stampOf : Value → Int
  | .tuple vs => match (vs[1]? : Option Value) with | some (Value.int _ s) => s | _ => 0
  | _ => 0
def REntry (M : MK K V) (g : Nat) (l : List (K × V)) (k : K) : Value → List Asn → Prop := fun v Γ => ∃ s, v = .tuple #[M.vc (mget M l k), .int .i64 s] ∧ Γ = [mpe M g (Go.Proofs.Ytpjfkomicehinaa.mput l k (mget M l k)) k s]
theorem OpT.mapEntry [h : MapI P T M] {x i : Operand} {g : Nat} {l : List (K × V)} {k : K} {Γf : List Asn} (hkw : M.wf k) (hx : evF F x = some (.map (some g))) (hi : evF F i = some (M.kc k)) (hp : Takes Γ [mp M g l] Γf) :
    OpT P n Γ F ⟨d, .mapEntry T x i, ty, pos, af, gd⟩ [mp M g l] (REntry M g l k) := fun ρ w hf hw _ => by
  have hb : (mp M g l).holds w := hw _ (hp.mem_iff.2 (List.mem_cons_self ..))
  obtain ⟨o, s, h1, h2⟩ := run_mapEntry (P := P) (T := T) hb k hkw
  have : (execOp ρ.eval ⟨d, .mapEntry T x i, ty, pos, af, gd⟩).run P w = .ok (.value (.tuple #[M.vc (mget M l k), .int .i64 s])) (ChangeMaps.setBlock w g o) := by
    simp [execOp, hf.eval hx, hf.eval hi, Sem.run_bind, h1]
  unfold DoesW
  rw [this]
  have hg : ownFp [mp M g l] g := ⟨_, List.mem_singleton.2 rfl, rfl, rfl⟩
  exact ⟨_, ⟨s, rfl, rfl⟩, .one (mod_block hg _ _) h2 fun g' hg' => .inr (by rw [show g' = g from hg']; exact hg)⟩
theorem OpT.entryStore [h : MapI P T M] {x i y : Operand} {g : Nat} {l : List (K × V)} {k : K} {s : Int} {v : V} {Γf : List Asn} (hx : evF F x = some (.map (some g))) (hi : evF F i = some (.int .i64 s)) (hy : evF F y = some (M.vc v)) (hp : Takes Γ [mpe M g l k s] Γf) :
    OpT P n Γ F ⟨d, .entryStore T x i y, ty, pos, af, gd⟩ [mpe M g l k s] (RLeave [mp M g (Go.Proofs.Ytpjfkomicehinaa.mput l k v)]) := fun ρ w hf hw _ => by
  have hb : (mpe M g l k s).holds w := hw _ (hp.mem_iff.2 (List.mem_cons_self ..))
  obtain ⟨o, h1, h2⟩ := run_entryStore (P := P) (T := T) hb v
  have : (execOp ρ.eval ⟨d, .entryStore T x i y, ty, pos, af, gd⟩).run P w = .ok .skip (ChangeMaps.setBlock w g o) := by
    simp [execOp, hf.eval hx, hf.eval hi, hf.eval hy, Sem.run_bind, h1]
  unfold DoesW
  rw [this]
  have hg : ownFp [mpe M g l k s] g := ⟨_, List.mem_singleton.2 rfl, rfl, rfl⟩
  exact ⟨_, rfl, .one (mod_block hg _ _) h2 fun g' hg' => .inr (by rw [show g' = g from hg']; exact hg)⟩
variable {eats : List (Nat × Nat)} {KK : Prev → Prop} {j : Nat} {o : Oper} {D bad : List Nat} {Ds : List (List Nat × List Nat)} {prev : Prev}
theorem RGl.mapE {gm : Nat} {lm : List (K × V)} {km : K} {A : Env → Asn} (h : ∀ e, oksR D e prev → OpT P n (ensR eats D j e prev ++ Γ) (bndR D e prev ++ fcutR bad F) o [A e] (REntry M gm lm km))
    (k : RGl P n Γ F ops eats KK (j + 1) os Ds ((j, o.dst, ⟨fun _ r => .tuple #[M.vc (mget M lm km), .int .i64 (stampOf r.1)], fun e r => [mpe M gm (Go.Proofs.Ytpjfkomicehinaa.mput lm km (mget M lm km)) km (stampOf r.1)], fun _ _ => True⟩) :: prev)) (hs : ∀ e, [A e] = eaten1R eats j e prev := by intro e; first | rfl | fail) (hw : ∀ e, wantG (bndR D e prev ++ fcutR bad F) ops o.guard = some true := by intro e; first | rfl | fail) :
    RGl P n Γ F ops eats KK j (o :: os) ((D, bad) :: Ds) prev :=
  RGl.stepR (fun e he => .op (hw e) (h e he) (fun B hB => by rw [← hs e]; exact hB) (by rintro v Γ' ⟨s, rfl, rfl⟩; exact ⟨rfl, rfl, trivial⟩)) (fun e _ => ⟨rfl, rfl, rfl⟩) k
end
end Go.Proofs.Ytpjfkomicehinaa
