/- Layer 5 (cache): what its calls do, in plain words. -/
import Derived.Test.YtepmikgjnmjheaaCx
namespace Go.Proofs.Ytepmikgjnmjheaa
set_option linter.unusedSimpArgs false
set_option linter.unusedVariables false
def Cv.at (C : Cv) (no : Int) : Option Nat := C.fs.findIdx? fun o => match o with | some f => decide (f.no = no) | none => false
def Cv.empty (C : Cv) : Option Nat := C.fs.findIdx? Option.isNone
def opins (o : Option Fp) : Int := match o with | some f => f.pins | none => 0
def oused (o : Option Fp) : Bool := match o with | some f => f.used | none => false
def ounuse (o : Option Fp) : Option Fp := o.map fun f => { f with used := false }
def vicP (m : Nat) : Nat → List (Option Fp) → Nat → List (Option Fp) × Option (Nat × Nat)
  | 0, fs, _ => (fs, none)
  | t + 1, fs, k => match fs[k]? with
    | none => (fs, none)
    | some o => if 0 < opins o then vicP m t fs ((k + 1) % m) else if oused o = true then vicP m t (fs.set k (ounuse o)) ((k + 1) % m) else (fs, some (k, (k + 1) % m))
def Cv.vic (C : Cv) : List (Option Fp) × Option (Nat × Nat) := vicP C.fs.length (2 * C.fs.length) C.fs C.hand
/-- Room, where the one that is given up is told. -/
def giveUp (fs : List (Option Fp)) (i h : Nat) (D : Dv) : Cv × Dv × Option Nat × Int := match fs[i]? with
  | some (some f) => if f.dirty then (if (D.wr f.no.toNat f.s).2 = 0 then (⟨fs.set i none, h⟩, (D.wr f.no.toNat f.s).1, some i, 0) else (⟨fs, h⟩, (D.wr f.no.toNat f.s).1, none, (D.wr f.no.toNat f.s).2)) else (⟨fs.set i none, h⟩, D, some i, 0)
  | _ => (⟨fs, h⟩, D, none, 0)
def Cv.room (C : Cv) (D : Dv) : Cv × Dv × Option Nat × Int := match C.empty with
  | some i => (C, D, some i, 0)
  | none => match C.vic.2 with
    | none => (⟨C.vic.1, C.hand⟩, D, none, 11)
    | some x => giveUp C.vic.1 x.1 x.2 D
def setF (C : Cv) (i : Nat) (o : Option Fp) : Cv := ⟨C.fs.set i o, C.hand⟩
def Cv.get (C : Cv) (D : Dv) (no : Nat) : Cv × Dv × List UInt8 × Int := match C.at (no : Int) with
  | some i => (match C.fs[i]? with
    | some (some f) => (setF C i (some { f with used := true }), D, f.s.b, 0)
    | _ => (C, D, [], 0))
  | none => match (C.room D).2.2.1 with
    | none => ((C.room D).1, (C.room D).2.1, [], (C.room D).2.2.2)
    | some i => if (C.room D).2.1.fails 1 then ((C.room D).1, (C.room D).2.1.burn 1, [], 3) else (setF (C.room D).1 i (some ⟨no, 0, false, true, (C.room D).2.1.now no⟩), (C.room D).2.1.burn 1, ((C.room D).2.1.now no).b, 0)
def Cv.put (C : Cv) (D : Dv) (no : Nat) (s : Sec) : Cv × Dv × Int := match C.at (no : Int) with
  | some i => (match C.fs[i]? with
    | some (some f) => (setF C i (some { f with s := s, dirty := true, used := true }), D, 0)
    | _ => (C, D, 0))
  | none => match (C.room D).2.2.1 with
    | none => ((C.room D).1, (C.room D).2.1, (C.room D).2.2.2)
    | some i => (setF (C.room D).1 i (some ⟨no, 0, true, true, s⟩), (C.room D).2.1, 0)
theorem vw_full {f : Frm} : (match f.vw with | some g => true | none => false) = f.full := by
  unfold Frm.vw; cases f.full <;> rfl
theorem at_vw {C : CS} {no : Int} : atF C.fs no = C.vw.at no := by
  unfold Cv.at CS.vw atF
  rw [List.findIdx?_map]
  congr 1
  funext f
  show _ = (match f.vw with | some g => decide (g.no = no) | none => false)
  unfold Frm.vw
  cases f.full <;> rfl
theorem empty_vw {C : CS} : emptyF C.fs = C.vw.empty := by
  unfold Cv.empty CS.vw emptyF
  rw [List.findIdx?_map]
  congr 1
  funext f
  show _ = f.vw.isNone
  unfold Frm.vw
  cases f.full <;> rfl
theorem opins_vw {n p : Nat} {rs : List (Value × Sec)} {f : Frm} (h : FInv n p rs f) : opins f.vw = f.pins := by
  unfold Frm.vw
  cases hf : f.full with
  | true => rfl
  | false => exact (h.gone hf).2.2.2.1.symm
theorem oused_vw {n p : Nat} {rs : List (Value × Sec)} {f : Frm} (h : FInv n p rs f) : oused f.vw = f.used := by
  unfold Frm.vw
  cases hf : f.full with
  | true => rfl
  | false => exact (h.gone hf).2.1.symm
theorem ounuse_vw {f : Frm} : ounuse f.vw = (unuse f).vw := by
  unfold Frm.vw unuse
  cases hf : f.full <;> rfl
theorem FInv.unuse {n p : Nat} {rs : List (Value × Sec)} {f : Frm} (h : FInv n p rs f) : FInv n p rs (unuse f) := ⟨h.one, h.here, fun hf => ⟨(h.gone hf).1, rfl, (h.gone hf).2.2⟩, h.pin0, h.pin1⟩
theorem vic_vw {m n p : Nat} {rs : List (Value × Sec)} : ∀ {t : Nat} {fs : List Frm} {k : Nat}, (∀ f ∈ fs, FInv n p rs f) → vicP m t (fs.map Frm.vw) k = ((vicF m t fs k).1.map Frm.vw, (vicF m t fs k).2) ∧ ∀ f ∈ (vicF m t fs k).1, FInv n p rs f
  | 0, fs, k, h => ⟨rfl, h⟩
  | t + 1, fs, k, h => by
    unfold vicP vicF
    rw [List.getElem?_map]
    cases hf : fs[k]? with
    | none => exact ⟨rfl, h⟩
    | some f =>
      have hi := h f (List.mem_of_getElem? hf)
      show (if 0 < opins f.vw then _ else if oused f.vw = true then _ else _) = _ ∧ _
      rw [opins_vw hi, oused_vw hi, ounuse_vw]
      dsimp only
      split
      · exact vic_vw h
      · split
        · rw [← List.map_set]
          exact vic_vw fun x hx => by
            rcases mem_set_or hx with rfl | hx
            · exact hi.unuse
            · exact h x hx
        · exact ⟨rfl, h⟩
theorem vicF_hit {m : Nat} : ∀ {t : Nat} {fs : List Frm} {k i h : Nat}, (vicF m t fs k).2 = some (i, h) → i < fs.length ∧ h = (i + 1) % m
  | 0, _, _, _, _, hx => by cases hx
  | t + 1, fs, k, i, h, hx => by
    unfold vicF at hx
    cases hf : fs[k]? with
    | none => rw [hf] at hx; cases hx
    | some f =>
      rw [hf] at hx
      dsimp only at hx
      split at hx
      · exact vicF_hit hx
      · split at hx
        · have := vicF_hit hx
          rwa [List.length_set] at this
        · cases hx
          exact ⟨(List.getElem?_eq_some_iff.1 hf).1, rfl⟩
theorem vicF_full {m : Nat} : ∀ {t : Nat} {fs : List Frm} {k : Nat}, (∀ f ∈ fs, f.full = true) → ∀ f ∈ (vicF m t fs k).1, f.full = true
  | 0, _, _, h => h
  | t + 1, fs, k, h => by
    unfold vicF
    cases hf : fs[k]? with
    | none => exact h
    | some f =>
      dsimp only
      split
      · exact vicF_full h
      · split
        · exact vicF_full fun x hx => by
            rcases mem_set_or hx with rfl | hx
            · exact h f (List.mem_of_getElem? hf)
            · exact h x hx
        · exact h
theorem emptyF_none {fs : List Frm} (h : emptyF fs = none) : ∀ f ∈ fs, f.full = true := by
  intro f hf
  unfold emptyF at h
  rw [List.findIdx?_eq_none_iff] at h
  have := h f hf
  simpa using this
theorem findIdx_spec {α : Type} {p : α → Bool} {l : List α} {i : Nat} (h : l.findIdx? p = some i) : ∃ f, l[i]? = some f ∧ p f = true := by
  rw [List.findIdx?_eq_some_iff_getElem] at h
  obtain ⟨h1, h2, _⟩ := h
  exact ⟨l[i], List.getElem?_eq_getElem h1, h2⟩
end Go.Proofs.Ytepmikgjnmjheaa
