/- DevFlushed: the plain facts. -/
import Derived.Test.YtepmikgjnmjheaaDb
namespace Go.Proofs.Ytepmikgjnmjheaa
set_option linter.unusedSimpArgs false
set_option linter.unusedVariables false
def w0 (s : Sec) : UInt8 := s.b.getD 0 0
theorem sec_at0 (s : Sec) : (u8s s.b)[0]? = some (.int .u8 (((w0 s).toNat : Nat) : Int)) := u8s_get (by rw [s.len]; omega)
def wasI (ls : List Sec) (i : Nat) : List UInt8 := (ls.map w0).take i ++ (List.replicate 20 (0 : UInt8)).drop i
theorem wasI_len {ls : List Sec} {i : Nat} (h : ls.length = 20) (hi : i ≤ 20) : (wasI ls i).length = 20 := by
  unfold wasI; simp; omega
theorem cut_set {α : Type} {A B : List α} {i : Nat} {a : α} (ha : A[i]? = some a) (hb : i < B.length) : (A.take i ++ B.drop i).set i a = A.take (i + 1) ++ B.drop (i + 1) := by
  have hia : i < A.length := (List.getElem?_eq_some_iff.1 ha).1
  have hl : (A.take i).length = i := by rw [List.length_take]; omega
  rw [List.set_append_right _ _ (by omega), hl, Nat.sub_self, List.drop_eq_getElem_cons hb, List.set_cons_zero, List.take_add_one, ha, List.append_assoc]
  rfl
theorem wasI_set {ls : List Sec} {i : Nat} {s : Sec} (hs : ls[i]? = some s) (hi : i < 20) : (wasI ls i).set i (w0 s) = wasI ls (i + 1) := by
  unfold wasI
  exact cut_set (by rw [List.getElem?_map, hs]; rfl) (by simpa using hi)
theorem wasI_at {ls : List Sec} {j : Nat} {s : Sec} (h : ls.length = 20) (hs : ls[j]? = some s) : (u8s (wasI ls 20))[j]? = some (.int .u8 (((w0 s).toNat : Nat) : Int)) := by
  have : wasI ls 20 = ls.map w0 := by
    unfold wasI
    rw [List.take_of_length_le (by rw [List.length_map]; omega), List.drop_of_length_le (by simp), List.append_nil]
  rw [this]
  unfold u8s
  rw [List.getElem?_map, List.getElem?_map, hs]
  rfl
/-- What is not dirty does not wait. -/
def DirtyI (es : List (Int × Vs)) (dl : List Bool) : Prop := dl.length = 20 ∧ ∀ j : Nat, dl[j]? = some false → mhas es (j : Int) = false
theorem DirtyI.nil : DirtyI [] (List.replicate 20 false) := ⟨by simp, fun j _ => rfl⟩
theorem DirtyI.put {es es' : List (Int × Vs)} {dl : List Bool} {cn cn' : Int} {j : Nat} {b : UInt8} (h : DirtyI es dl) (hw : wok 20 (j : Int) = true) (hs : WStep 20 es cn (j : Int) b es' cn') : DirtyI es' (dl.set j true) := by
  unfold WStep at hs
  rw [if_pos hw] at hs
  obtain ⟨⟨wv, rfl⟩, rfl⟩ := hs
  refine ⟨by rw [List.length_set]; exact h.1, fun k hk => ?_⟩
  rw [List.getElem?_set] at hk
  split at hk
  · split at hk
    · cases hk
    · cases hk
  · rename_i hne
    rw [mhas_put, h.2 k hk, Bool.or_false, decide_eq_false_iff_not]
    omega
theorem DirtyI.no {es es' : List (Int × Vs)} {dl : List Bool} {cn cn' i : Int} {b : UInt8} (h : DirtyI es dl) (hw : ¬ wok 20 i = true) (hs : WStep 20 es cn i b es' cn') : DirtyI es' dl := by
  unfold WStep at hs
  rw [if_neg hw] at hs
  rw [hs.1]
  exact h
theorem crashT_keep {es : List (Int × Vs)} {l : List Int} {ls : List Sec} {j n : Nat} (hok : EOk n es) (h : mhas es (j : Int) = false) : ∀ k, k ≤ es.length → (crashT es l (skeys es) k ls)[j]? = ls[j]?
  | 0, _ => rfl
  | k + 1, hk => by
    have hst : k < (skeys es).length := by rw [skeys_len]; omega
    obtain ⟨y, hy, hyk⟩ := skeys_mem (es := es) (List.getElem_mem hst)
    obtain ⟨⟨jj, hjj, _⟩, _⟩ := hok y hy
    have hne : jj ≠ j := by
      rintro rfl
      rw [mhas_any, List.any_eq_false] at h
      exact h y hy (by simpa using hjj)
    have hd : (skeys es).getD k 0 = (jj : Int) := by rw [List.getD_eq_getElem?_getD, List.getElem?_eq_getElem hst, ← hjj, hyk]; rfl
    show (crash1 es l (crashT es l (skeys es) k ls) k ((skeys es).getD k 0))[j]? = _
    have ih := crashT_keep (l := l) (ls := ls) hok h k (by omega)
    rw [← ih, hd]
    unfold crash1
    cases l[k]? with
    | none => rfl
    | some a =>
      dsimp only
      split
      · rfl
      · rw [List.getElem?_set, if_neg (by rw [Int.toNat_natCast]; exact hne)]
end Go.Proofs.Ytepmikgjnmjheaa
