/- Layer 5 (cache): what a cache that does not fail keeps: plain. -/
import Derived.Test.YtepmikgjnmjheaaCk
namespace Go.Proofs.Ytepmikgjnmjheaa
set_option linter.unusedSimpArgs false
set_option linter.unusedVariables false
/-- A frame without its mark. -/
structure Fq where
  no : Int
  pins : Int
  dirty : Bool
  s : Sec
def stF (o : Option Fp) : Option Fq := o.map fun f => ⟨f.no, f.pins, f.dirty, f.s⟩
def Cv.abs (C : Cv) : List (Option Fq) := C.fs.map stF
def qpins (o : Option Fq) : Int := match o with | some f => f.pins | none => 0
theorem opins_st {o : Option Fp} : opins o = qpins (stF o) := by cases o <;> rfl
theorem abs_get {C : Cv} {i : Nat} {o : Option Fp} (h : C.fs[i]? = some o) : C.abs[i]? = some (stF o) := by unfold Cv.abs; rw [List.getElem?_map, h]; rfl
theorem abs_of {C : Cv} {i : Nat} {f : Fq} (h : C.abs[i]? = some (some f)) : ∃ g, C.fs[i]? = some (some g) ∧ f = ⟨g.no, g.pins, g.dirty, g.s⟩ := by
  unfold Cv.abs at h
  rw [List.getElem?_map] at h
  cases hi : C.fs[i]? with
  | none => rw [hi] at h; cases h
  | some o =>
    rw [hi] at h
    cases o with
    | none => cases h
    | some g =>
      refine ⟨g, rfl, ?_⟩
      have : stF (some g) = some f := Option.some.inj h
      exact (Option.some.inj this).symm
theorem at_some {C : Cv} {no : Int} {i : Nat} (h : C.at no = some i) : ∃ g, C.fs[i]? = some (some g) ∧ g.no = no := by
  obtain ⟨o, ho, hp⟩ := findIdx_spec h
  cases o with
  | none => cases hp
  | some g => exact ⟨g, ho, by simpa using hp⟩
theorem at_none {C : Cv} {no : Int} (h : C.at no = none) : ∀ (i : Nat) (f : Fq), C.abs[i]? = some (some f) → f.no ≠ no := by
  intro i f hf
  obtain ⟨g, hg, rfl⟩ := abs_of hf
  unfold Cv.at at h
  rw [List.findIdx?_eq_none_iff] at h
  have := h _ (List.mem_of_getElem? hg)
  simpa using this
/-! ### The hand -/
theorem set_same {α : Type} {l : List α} {i : Nat} {a : α} (h : l[i]? = some a) : l.set i a = l := by
  apply List.ext_getElem?
  intro j
  rw [List.getElem?_set]
  split
  · rename_i hij
    subst hij
    rw [h, if_pos (List.getElem?_eq_some_iff.1 h).1]
  · rfl
theorem vicP_same {m : Nat} : ∀ {t : Nat} {fs : List (Option Fp)} {k : Nat}, (vicP m t fs k).1.map stF = fs.map stF
  | 0, _, _ => rfl
  | t + 1, fs, k => by
    unfold vicP
    cases hk : fs[k]? with
    | none => rfl
    | some o =>
      dsimp only
      split
      · exact vicP_same
      · split
        · rw [vicP_same, List.map_set, show stF (ounuse o) = stF o by cases o <;> rfl]
          exact set_same (by rw [List.getElem?_map, hk]; rfl)
        · rfl
theorem vicP_hit {m : Nat} : ∀ {t : Nat} {fs : List (Option Fp)} {k i h : Nat}, (vicP m t fs k).2 = some (i, h) → ∃ o, (vicP m t fs k).1[i]? = some o ∧ ¬ 0 < opins o ∧ h = (i + 1) % m
  | 0, _, _, _, _, hx => by cases hx
  | t + 1, fs, k, i, h, hx => by
    unfold vicP at hx ⊢
    cases hk : fs[k]? with
    | none => rw [hk] at hx; cases hx
    | some o =>
      rw [hk] at hx
      dsimp only at hx ⊢
      by_cases hp : 0 < opins o
      · rw [if_pos hp] at hx ⊢
        exact vicP_hit hx
      · rw [if_neg hp] at hx ⊢
        by_cases hu : oused o = true
        · rw [if_pos hu] at hx ⊢
          exact vicP_hit hx
        · rw [if_neg hu] at hx ⊢
          cases hx
          exact ⟨o, hk, hp, rfl⟩
def dst (m k p : Nat) : Nat := if k ≤ p then p - k else p + m - k
theorem nxt {m k : Nat} (h : k < m) : (k + 1) % m = if k + 1 = m then 0 else k + 1 := by
  split
  · rename_i h1; rw [h1, Nat.mod_self]
  · rw [Nat.mod_eq_of_lt (by omega)]
theorem dst_next {m k p : Nat} (hk : k < m) (hp : p < m) (hne : k ≠ p) : dst m ((k + 1) % m) p + 1 = dst m k p := by
  rw [nxt hk]
  unfold dst
  split
  · split
    · split <;> omega
    · split <;> omega
  · split
    · split <;> omega
    · split <;> omega
theorem vicP_A {m p : Nat} {o : Option Fp} (hp : p < m) (ho : ¬ 0 < opins o) (hu : oused o = false) : ∀ {t : Nat} {fs : List (Option Fp)} {k : Nat}, fs.length = m → k < m → fs[p]? = some o → dst m k p < t → ∃ x, (vicP m t fs k).2 = some x
  | 0, _, _, _, _, _, ht => absurd ht (Nat.not_lt_zero _)
  | t + 1, fs, k, hl, hk, hf, ht => by
    obtain ⟨ok, hok⟩ : ∃ ok, fs[k]? = some ok := ⟨_, List.getElem?_eq_getElem (by omega)⟩
    unfold vicP
    rw [hok]
    dsimp only
    by_cases hkp : k = p
    · subst hkp
      rw [hf] at hok
      cases hok
      rw [if_neg ho, if_neg (by rw [hu]; simp)]
      exact ⟨_, rfl⟩
    have hd := dst_next hk hp hkp
    have hk' : (k + 1) % m < m := Nat.mod_lt _ (by omega)
    by_cases h1 : 0 < opins ok
    · rw [if_pos h1]
      exact vicP_A hp ho hu hl hk' hf (by omega)
    · rw [if_neg h1]
      by_cases h2 : oused ok = true
      · rw [if_pos h2]
        exact vicP_A hp ho hu (by rw [List.length_set]; exact hl) hk' (by rw [List.getElem?_set_ne hkp]; exact hf) (by omega)
      · rw [if_neg h2]
        exact ⟨_, rfl⟩
theorem vicP_B {m p : Nat} {o : Option Fp} (hp : p < m) (ho : ¬ 0 < opins o) : ∀ {t : Nat} {fs : List (Option Fp)} {k : Nat}, fs.length = m → k < m → fs[p]? = some o → dst m k p + m < t → ∃ x, (vicP m t fs k).2 = some x
  | 0, _, _, _, _, _, ht => absurd ht (Nat.not_lt_zero _)
  | t + 1, fs, k, hl, hk, hf, ht => by
    obtain ⟨ok, hok⟩ : ∃ ok, fs[k]? = some ok := ⟨_, List.getElem?_eq_getElem (by omega)⟩
    have hk' : (k + 1) % m < m := Nat.mod_lt _ (by omega)
    unfold vicP
    rw [hok]
    dsimp only
    by_cases hkp : k = p
    · subst hkp
      rw [hf] at hok
      cases hok
      rw [if_neg ho]
      by_cases h2 : oused o = true
      · rw [if_pos h2]
        have hd : dst m ((k + 1) % m) k < t := by
          have h3 : dst m ((k + 1) % m) k < m := by
            rw [nxt hk]
            unfold dst
            split
            · split <;> omega
            · split <;> omega
          omega
        exact vicP_A (o := ounuse o) hk (by cases o <;> exact ho) (by cases o <;> rfl) (by rw [List.length_set]; exact hl) hk' (List.getElem?_set_self (by omega)) hd
      · rw [if_neg h2]
        exact ⟨_, rfl⟩
    have hd := dst_next hk hp hkp
    by_cases h1 : 0 < opins ok
    · rw [if_pos h1]
      exact vicP_B hp ho hl hk' hf (by omega)
    · rw [if_neg h1]
      by_cases h2 : oused ok = true
      · rw [if_pos h2]
        exact vicP_B hp ho (by rw [List.length_set]; exact hl) hk' (by rw [List.getElem?_set_ne hkp]; exact hf) (by omega)
      · rw [if_neg h2]
        exact ⟨_, rfl⟩
/-! ### A device that does not fail -/
def Dv.put (D : Dv) (j : Nat) (s : Sec) : Dv := { D with ws := updW D.ws j (D.ws j ++ [s]), cn := D.cn + 1 }
theorem burn_f4 {D : Dv} (h : D.fu = f4) {k : Nat} (hk : k < 4) : D.burn k = D := by
  unfold Dv.burn
  rw [h, show f4.getD k 0 = -1 by match k, hk with | 0, _ => rfl | 1, _ => rfl | 2, _ => rfl | 3, _ => rfl, burn4 hk, ← h]
theorem fails_f4 {D : Dv} (h : D.fu = f4) {k : Nat} (hk : k < 4) : D.fails k = false := by
  unfold Dv.fails
  rw [h, show f4.getD k 0 = -1 by match k, hk with | 0, _ => rfl | 1, _ => rfl | 2, _ => rfl | 3, _ => rfl]
  rfl
theorem wr_f4 {D : Dv} (h : D.fu = f4) {j : Nat} {s : Sec} : D.wr j s = (D.put j s, 0) := by
  unfold Dv.wr
  rw [fails_f4 h (by omega), burn_f4 h (by omega)]
  rfl
theorem flush_f4 {D : Dv} (h : D.fu = f4) : D.flush = ({ D with ls := D.nows, ws := fun _ => [] }, 0) := by
  unfold Dv.flush
  rw [fails_f4 h (by omega), burn_f4 h (by omega)]
  rfl
theorem now_put {D : Dv} {j i : Nat} {s : Sec} : (D.put j s).now i = if i = j then s else D.now i := by
  unfold Dv.now Dv.put updW
  dsimp only
  split
  · simp
  · rfl
/-- What comes to the device of a frame that is given up. -/
def outD (D : Dv) (x : Option Fq) : Dv := match x with | some f => if f.dirty then D.put f.no.toNat f.s else D | none => D
theorem outD_fu {D : Dv} {x : Option Fq} : (outD D x).fu = D.fu := by
  unfold outD
  cases x with
  | none => rfl
  | some f => dsimp only; split <;> rfl
theorem outD_ls {D : Dv} {x : Option Fq} : (outD D x).ls = D.ls := by
  unfold outD
  cases x with
  | none => rfl
  | some f => dsimp only; split <;> rfl
theorem room_spec {C : Cv} {D : Dv} (hf : D.fu = f4) (hm : 0 < C.fs.length) (hh : C.hand < C.fs.length) :
    (∃ (i : Nat) (x : Option Fq), C.abs[i]? = some x ∧ ¬ 0 < qpins x ∧ (C.room D).2.2 = (some i, 0) ∧ (C.room D).1.abs = C.abs.set i none ∧ (C.room D).2.1 = outD D x) ∨
    ((∀ (i : Nat) (x : Option Fq), C.abs[i]? = some x → 0 < qpins x) ∧ (C.room D).2.2 = (none, 11) ∧ (C.room D).1.abs = C.abs ∧ (C.room D).2.1 = D) := by
  unfold Cv.room
  cases he : C.empty with
  | some i =>
    obtain ⟨o, ho, hn⟩ := findIdx_spec he
    have hon : o = none := by simpa using hn
    subst hon
    have ha : C.abs[i]? = some none := abs_get ho
    exact .inl ⟨i, none, ha, by show ¬ (0 : Int) < 0; omega, rfl, (set_same ha).symm, rfl⟩
  | none =>
    have hfull : ∀ (i : Nat) (x : Option Fq), C.abs[i]? = some x → ∃ f, x = some f := by
      intro i x hx
      unfold Cv.abs at hx
      rw [List.getElem?_map] at hx
      cases hi : C.fs[i]? with
      | none => rw [hi] at hx; cases hx
      | some o =>
        rw [hi] at hx
        unfold Cv.empty at he
        rw [List.findIdx?_eq_none_iff] at he
        have := he o (List.mem_of_getElem? hi)
        cases o with
        | none => cases this
        | some g => exact ⟨⟨g.no, g.pins, g.dirty, g.s⟩, (Option.some.inj hx).symm⟩
    have hsame : C.vic.1.map stF = C.abs := vicP_same
    cases hv : C.vic.2 with
    | none =>
      refine .inr ⟨fun i x hx => ?_, rfl, hsame, rfl⟩
      refine Decidable.byContradiction fun hp => ?_
      have hil : i < C.fs.length := by have := (List.getElem?_eq_some_iff.1 hx).1; unfold Cv.abs at this; simpa using this
      obtain ⟨o, ho⟩ : ∃ o, C.fs[i]? = some o := ⟨_, List.getElem?_eq_getElem hil⟩
      have hxo : x = stF o := by rw [abs_get ho] at hx; exact (Option.some.inj hx).symm
      have := vicP_B (m := C.fs.length) (t := 2 * C.fs.length) hil (by rw [opins_st, ← hxo]; exact hp) rfl hh ho (by unfold dst; split <;> omega)
      obtain ⟨y, hy⟩ := this
      have h2 : C.vic.2 = some y := hy
      rw [hv] at h2
      cases h2
    | some y =>
      obtain ⟨i, h⟩ := y
      obtain ⟨o, ho, hop, _⟩ := vicP_hit hv
      have ho' : C.vic.1[i]? = some o := ho
      have hx : C.abs[i]? = some (stF o) := by rw [← hsame, List.getElem?_map, ho']; rfl
      obtain ⟨f, hfo⟩ := hfull i _ hx
      cases o with
      | none => cases hfo
      | some g =>
        refine .inl ⟨i, stF (some g), hx, by rw [← opins_st]; exact hop, ?_⟩
        have hset : (C.vic.1.set i none).map stF = C.abs.set i none := by rw [List.map_set, hsame]; rfl
        have hgu : giveUp C.vic.1 i h D = (⟨C.vic.1.set i none, h⟩, outD D (stF (some g)), some i, 0) := by
          unfold giveUp
          rw [ho']
          dsimp only
          rw [wr_f4 hf]
          show (if g.dirty = true then _ else _) = ((⟨_, h⟩ : Cv), (if g.dirty = true then _ else _), _, _)
          split
          · rfl
          · rfl
        show (giveUp C.vic.1 i h D).2.2 = _ ∧ (giveUp C.vic.1 i h D).1.abs = _ ∧ (giveUp C.vic.1 i h D).2.1 = _
        rw [hgu]
        exact ⟨rfl, hset, rfl⟩
/-! ### What is kept -/
structure KI (A : List (Option Fq)) (D : Dv) (has : Nat → Sec) (n : Nat) : Prop where
  fu : D.fu = f4
  nl : D.ls.length = n
  rng : ∀ (i : Nat) (f : Fq), A[i]? = some (some f) → ∃ j : Nat, j < n ∧ f.no = (j : Int) ∧ f.s = has j ∧ (f.dirty = false → D.now j = has j)
  uniq : ∀ (i i' : Nat) (f f' : Fq), A[i]? = some (some f) → A[i']? = some (some f') → f.no = f'.no → i = i'
  cold : ∀ j : Nat, j < n → (∀ (i : Nat) (f : Fq), A[i]? = some (some f) → f.no ≠ (j : Int)) → D.now j = has j
theorem set_get {α : Type} {A : List α} {i k : Nat} {a b : α} (h : (A.set i a)[k]? = some b) : (k = i ∧ b = a) ∨ (k ≠ i ∧ A[k]? = some b) := by
  rw [List.getElem?_set] at h
  split at h
  · rename_i hik
    split at h
    · exact .inl ⟨hik.symm, (Option.some.inj h).symm⟩
    · cases h
  · rename_i hik
    exact .inr ⟨fun e => hik e.symm, h⟩
theorem KI.out {A : List (Option Fq)} {D : Dv} {has : Nat → Sec} {n i : Nat} {x : Option Fq} (h : KI A D has n) (hx : A[i]? = some x) : KI (A.set i none) (outD D x) has n := by
  have hnow : ∀ j : Nat, (∀ f, x = some f → f.dirty = true → f.no ≠ (j : Int)) → (outD D x).now j = D.now j := by
    intro j hj
    unfold outD
    cases x with
    | none => rfl
    | some f =>
      dsimp only
      split
      · rename_i hd
        have h1 := hj f rfl hd
        obtain ⟨j', _, h2, _⟩ := h.rng i f hx
        rw [now_put, if_neg (by rw [h2] at h1 ⊢; omega)]
      · rfl
  refine ⟨by rw [outD_fu]; exact h.fu, by rw [outD_ls]; exact h.nl, fun k f hk => ?_, fun k k' f f' hk hk' hn => ?_, fun j hj hc => ?_⟩
  · rcases set_get hk with ⟨_, h1⟩ | ⟨hne, hk⟩
    · cases h1
    · obtain ⟨j, h1, h2, h3, h4⟩ := h.rng k f hk
      refine ⟨j, h1, h2, h3, fun hd => ?_⟩
      rw [hnow j fun g hg _ hgn => ?_]
      · exact h4 hd
      · subst hg
        exact hne (h.uniq k i f g hk hx (by rw [h2, hgn]))
  · rcases set_get hk with ⟨_, h1⟩ | ⟨_, hk⟩
    · cases h1
    · rcases set_get hk' with ⟨_, h1⟩ | ⟨_, hk'⟩
      · cases h1
      · exact h.uniq k k' f f' hk hk' hn
  · by_cases hxj : ∃ f, x = some f ∧ f.no = (j : Int)
    · obtain ⟨f, rfl, hfn⟩ := hxj
      obtain ⟨j', h1, h2, h3, h4⟩ := h.rng i f hx
      have hjj : j' = j := by omega
      subst hjj
      unfold outD
      dsimp only
      split
      · rw [now_put, if_pos (by rw [h2]; omega), h3]
      · rename_i hd
        exact h4 (by simpa using hd)
    · rw [hnow j fun g hg _ hgn => hxj ⟨g, hg, hgn⟩]
      refine h.cold j hj fun k f hk hkn => ?_
      by_cases hki : k = i
      · subst hki
        rw [hx] at hk
        exact hxj ⟨f, Option.some.inj hk, hkn⟩
      · exact hc k f (by rw [List.getElem?_set_ne (fun e => hki e.symm)]; exact hk) hkn
theorem KI.new {A : List (Option Fq)} {D : Dv} {has : Nat → Sec} {n i j : Nat} (h : KI A D has n) (hi : A[i]? = some none) (hj : j < n) (hc : ∀ (k : Nat) (f : Fq), A[k]? = some (some f) → f.no ≠ (j : Int)) (d : Bool) (s : Sec) (hd : d = false → s = has j) : KI (A.set i (some ⟨(j : Int), 0, d, s⟩)) D (fun k => if k = j then s else has k) n := by
  have hne : ∀ (k : Nat) (f : Fq) (j' : Nat), A[k]? = some (some f) → f.no = (j' : Int) → j' ≠ j := by
    intro k f j' hk hn e
    subst e
    exact hc k f hk hn
  refine ⟨h.fu, h.nl, fun k f hk => ?_, fun k k' f f' hk hk' hn => ?_, fun j' hj' hc' => ?_⟩
  · rcases set_get hk with ⟨rfl, h1⟩ | ⟨_, hk⟩
    · cases h1
      refine ⟨j, hj, rfl, (if_pos rfl).symm, fun hdd => ?_⟩
      dsimp only at hdd
      rw [if_pos rfl, hd hdd]
      exact h.cold j hj hc
    · obtain ⟨j', h1, h2, h3, h4⟩ := h.rng k f hk
      exact ⟨j', h1, h2, by rw [if_neg (hne k f j' hk h2)]; exact h3, by rw [if_neg (hne k f j' hk h2)]; exact h4⟩
  · rcases set_get hk with ⟨hki, h1⟩ | ⟨_, hk2⟩
    · cases h1
      rcases set_get hk' with ⟨hki', _⟩ | ⟨_, hk2'⟩
      · rw [hki, hki']
      · exact absurd hn.symm (hc k' f' hk2')
    · rcases set_get hk' with ⟨_, h1⟩ | ⟨_, hk2'⟩
      · cases h1
        exact absurd hn (hc k f hk2)
      · exact h.uniq k k' f f' hk2 hk2' hn
  · have hjj : j' ≠ j := by
      rintro rfl
      exact hc' i ⟨(j' : Int), 0, d, s⟩ (List.getElem?_set_self (List.getElem?_eq_some_iff.1 hi).1) rfl
    rw [if_neg hjj]
    refine h.cold j' hj' fun k f hk hkn => ?_
    have hki : k ≠ i := by rintro rfl; rw [hi] at hk; cases hk
    exact hc' k f (by rw [List.getElem?_set_ne (fun e => hki e.symm)]; exact hk) hkn
/-- A frame that is held, told anew: its number is as it was. -/
theorem KI.hit {A : List (Option Fq)} {D : Dv} {has : Nat → Sec} {n i j : Nat} {f : Fq} (h : KI A D has n) (hi : A[i]? = some (some f)) (hfj : f.no = (j : Int)) (p : Int) (d : Bool) (s : Sec) (hd : d = false → s = has j ∧ f.dirty = false) : KI (A.set i (some ⟨f.no, p, d, s⟩)) D (fun k => if k = j then s else has k) n := by
  obtain ⟨j0, hj, hj0, hs0, hd0⟩ := h.rng i f hi
  have hjj : j0 = j := by omega
  subst hjj
  have hne : ∀ (k : Nat) (g : Fq) (j' : Nat), k ≠ i → A[k]? = some (some g) → g.no = (j' : Int) → j' ≠ j0 := by
    intro k g j' hki hk hn e
    subst e
    exact hki (h.uniq k i g f hk hi (by rw [hn, hfj]))
  refine ⟨h.fu, h.nl, fun k g hk => ?_, fun k k' g g' hk hk' hn => ?_, fun j' hj' hc' => ?_⟩
  · rcases set_get hk with ⟨rfl, h1⟩ | ⟨hki, hk⟩
    · cases h1
      refine ⟨j0, hj, hfj, (if_pos rfl).symm, fun hdd => ?_⟩
      dsimp only at hdd
      rw [if_pos rfl, (hd hdd).1]
      exact hd0 (hd hdd).2
    · obtain ⟨j', h1, h2, h3, h4⟩ := h.rng k g hk
      exact ⟨j', h1, h2, by rw [if_neg (hne k g j' hki hk h2)]; exact h3, by rw [if_neg (hne k g j' hki hk h2)]; exact h4⟩
  · rcases set_get hk with ⟨hki, h1⟩ | ⟨hki, hk2⟩
    · cases h1
      rcases set_get hk' with ⟨hki', _⟩ | ⟨hki', hk2'⟩
      · rw [hki, hki']
      · rw [hki]
        exact h.uniq i k' f g' hi hk2' hn
    · rcases set_get hk' with ⟨hki', h1⟩ | ⟨hki', hk2'⟩
      · cases h1
        rw [hki']
        exact h.uniq k i g f hk2 hi hn
      · exact h.uniq k k' g g' hk2 hk2' hn
  · have hjj : j' ≠ j0 := by
      rintro rfl
      exact hc' i ⟨f.no, p, d, s⟩ (List.getElem?_set_self (List.getElem?_eq_some_iff.1 hi).1) hfj
    rw [if_neg hjj]
    refine h.cold j' hj' fun k g hk hkn => ?_
    by_cases hki : k = i
    · subst hki
      rw [hi] at hk
      cases hk
      exact absurd hkn (by rw [hfj]; omega)
    · exact hc' k g (by rw [List.getElem?_set_ne (fun e => hki e.symm)]; exact hk) hkn
theorem upd_same {has : Nat → Sec} {j : Nat} {s : Sec} (h : s = has j) : (fun k => if k = j then s else has k) = has := by
  funext k
  by_cases hk : k = j
  · subst hk; rw [if_pos rfl, h]
  · rw [if_neg hk]
theorem setF_abs {C : Cv} {i : Nat} {g : Fp} : (setF C i (some g)).abs = C.abs.set i (some ⟨g.no, g.pins, g.dirty, g.s⟩) := by
  unfold setF Cv.abs
  dsimp only
  rw [List.map_set]
  rfl
/-- Room was made: something is free, where nothing is held of j. -/
theorem KI.room {C : Cv} {D : Dv} {has : Nat → Sec} {n j : Nat} (h : KI C.abs D has n) (hm : 0 < C.fs.length) (hh : C.hand < C.fs.length) (hat : C.at (j : Int) = none) (hp : ∃ (i : Nat) (x : Option Fq), C.abs[i]? = some x ∧ ¬ 0 < qpins x) :
    ∃ (i : Nat) (x : Option Fq), C.abs[i]? = some x ∧ ¬ 0 < qpins x ∧ (C.room D).2.2 = (some i, 0) ∧ (C.room D).1.abs = C.abs.set i none ∧ KI (C.room D).1.abs (C.room D).2.1 has n ∧ (C.room D).1.abs[i]? = some none ∧ (∀ (k : Nat) (f : Fq), (C.room D).1.abs[k]? = some (some f) → f.no ≠ (j : Int)) := by
  rcases room_spec (C := C) (D := D) h.fu hm hh with ⟨i, x, h1, h2, h3, h4, h5⟩ | ⟨h1, _⟩
  · refine ⟨i, x, h1, h2, h3, h4, by rw [h4, h5]; exact h.out h1, by rw [h4]; exact List.getElem?_set_self (List.getElem?_eq_some_iff.1 h1).1, fun k f hk => ?_⟩
    rw [h4] at hk
    rcases set_get hk with ⟨_, e⟩ | ⟨_, hk⟩
    · cases e
    · exact at_none hat k f hk
  · obtain ⟨i, x, hx, hn⟩ := hp
    exact absurd (h1 i x hx) hn
/-- Get, where there is room. -/
theorem KI.get {C : Cv} {D : Dv} {has : Nat → Sec} {n j : Nat} (h : KI C.abs D has n) (hm : 0 < C.fs.length) (hh : C.hand < C.fs.length) (hj : j < n) (hp : C.at (j : Int) = none → ∃ (i : Nat) (x : Option Fq), C.abs[i]? = some x ∧ ¬ 0 < qpins x) :
    (C.get D j).2.2 = ((has j).b, 0) ∧ KI (C.get D j).1.abs (C.get D j).2.1 has n ∧ ((C.get D j).1.abs = C.abs ∨ ∃ (i : Nat) (x : Option Fq) (s : Sec), C.abs[i]? = some x ∧ ¬ 0 < qpins x ∧ (C.get D j).1.abs = C.abs.set i (some ⟨(j : Int), 0, false, s⟩)) ∧ ∃ (i : Nat) (f : Fq), (C.get D j).1.abs[i]? = some (some f) ∧ f.no = (j : Int) := by
  cases hat : C.at (j : Int) with
  | some i =>
    obtain ⟨g, hg, hgn⟩ := at_some hat
    have ha := abs_get hg
    obtain ⟨j', hj', hn', hs', hd'⟩ := h.rng i _ ha
    have hjj : j' = j := by have : g.no = (j' : Int) := hn'; omega
    subst hjj
    have hget : C.get D j' = (setF C i (some { g with used := true }), D, g.s.b, 0) := by
      unfold Cv.get
      rw [hat]
      dsimp only
      rw [hg]
    rw [hget]
    have habs : (setF C i (some { g with used := true })).abs = C.abs := by rw [setF_abs]; exact set_same ha
    dsimp only
    rw [habs]
    exact ⟨by rw [show g.s = has j' from hs'], h, .inl rfl, i, _, ha, hgn⟩
  | none =>
    obtain ⟨i, x, h1, h2, h3, h4, h5, h6, h7⟩ := h.room hm hh hat (hp hat)
    have hget : C.get D j = (setF (C.room D).1 i (some ⟨(j : Int), 0, false, true, (C.room D).2.1.now j⟩), (C.room D).2.1, ((C.room D).2.1.now j).b, 0) := by
      unfold Cv.get
      rw [hat]
      dsimp only
      rw [show (C.room D).2.2.1 = some i by rw [h3]]
      dsimp only
      rw [fails_f4 h5.fu (by omega), burn_f4 h5.fu (by omega)]
      rfl
    have hnow : (C.room D).2.1.now j = has j := h5.cold j hj h7
    rw [hget, hnow]
    have hk := h5.new h6 hj h7 false (has j) (fun _ => rfl)
    rw [upd_same rfl] at hk
    have habs : (setF (C.room D).1 i (some ⟨(j : Int), 0, false, true, has j⟩)).abs = (C.room D).1.abs.set i (some ⟨(j : Int), 0, false, has j⟩) := setF_abs
    dsimp only
    rw [habs]
    refine ⟨rfl, hk, .inr ⟨i, x, has j, h1, h2, by rw [h4, List.set_set]⟩, i, _, List.getElem?_set_self (List.getElem?_eq_some_iff.1 h6).1, rfl⟩
/-- Put, where there is room. -/
theorem KI.put {C : Cv} {D : Dv} {has : Nat → Sec} {n j : Nat} {s : Sec} (h : KI C.abs D has n) (hm : 0 < C.fs.length) (hh : C.hand < C.fs.length) (hj : j < n) (hp : C.at (j : Int) = none → ∃ (i : Nat) (x : Option Fq), C.abs[i]? = some x ∧ ¬ 0 < qpins x) :
    (C.put D j s).2.2 = 0 ∧ KI (C.put D j s).1.abs (C.put D j s).2.1 (fun k => if k = j then s else has k) n ∧ (∃ (i : Nat) (p : Int), (C.put D j s).1.abs = C.abs.set i (some ⟨(j : Int), p, true, s⟩) ∧ (p = 0 ∨ ∃ f : Fq, C.abs[i]? = some (some f) ∧ p = f.pins)) := by
  cases hat : C.at (j : Int) with
  | some i =>
    obtain ⟨g, hg, hgn⟩ := at_some hat
    have ha := abs_get hg
    have hput : C.put D j s = (setF C i (some { g with s := s, dirty := true, used := true }), D, 0) := by
      unfold Cv.put
      rw [hat]
      dsimp only
      rw [hg]
    rw [hput]
    have hk := h.hit ha hgn g.pins true s (fun e => by cases e)
    have habs : (setF C i (some { g with s := s, dirty := true, used := true })).abs = C.abs.set i (some ⟨g.no, g.pins, true, s⟩) := setF_abs
    dsimp only
    rw [habs]
    exact ⟨rfl, hk, i, g.pins, by rw [hgn], .inr ⟨_, ha, rfl⟩⟩
  | none =>
    obtain ⟨i, x, h1, h2, h3, h4, h5, h6, h7⟩ := h.room hm hh hat (hp hat)
    have hput : C.put D j s = (setF (C.room D).1 i (some ⟨(j : Int), 0, true, true, s⟩), (C.room D).2.1, 0) := by
      unfold Cv.put
      rw [hat]
      dsimp only
      rw [show (C.room D).2.2.1 = some i by rw [h3]]
    rw [hput]
    have hk := h5.new h6 hj h7 true s (fun e => by cases e)
    have habs : (setF (C.room D).1 i (some ⟨(j : Int), 0, true, true, s⟩)).abs = (C.room D).1.abs.set i (some ⟨(j : Int), 0, true, s⟩) := setF_abs
    dsimp only
    rw [habs]
    exact ⟨rfl, hk, i, 0, by rw [h4, List.set_set], .inl rfl⟩
end Go.Proofs.Ytepmikgjnmjheaa
/- Layer 5 (cache): what Sync does where nothing fails: plain. What is done to a cache. -/
namespace Go.Proofs.Ytepmikgjnmjheaa
open Go.RowKit
set_option linter.unusedSimpArgs false
set_option linter.unusedVariables false
theorem mem_dirty {C : Cv} {no : Int} : no ∈ C.dirty ↔ ∃ (i : Nat) (f : Fq), C.abs[i]? = some (some f) ∧ f.dirty = true ∧ f.no = no := by
  unfold Cv.dirty Cv.dnos
  rw [List.mem_mergeSort, List.mem_filterMap]
  constructor
  · rintro ⟨o, ho, h⟩
    cases o with
    | none => cases h
    | some g =>
      dsimp only at h
      split at h
      · rename_i hd
        cases h
        obtain ⟨i, hi⟩ := List.getElem?_of_mem ho
        exact ⟨i, _, abs_get hi, hd, rfl⟩
      · cases h
  · rintro ⟨i, f, hf, hd, hn⟩
    obtain ⟨g, hg, rfl⟩ := abs_of hf
    refine ⟨some g, List.mem_of_getElem? hg, ?_⟩
    dsimp only at hd hn ⊢
    rw [if_pos hd, hn]
theorem dirty_nil {C : Cv} (h : ∀ (i : Nat) (f : Fq), C.abs[i]? = some (some f) → f.dirty = false) : C.dirty = [] := by
  refine List.eq_nil_iff_forall_not_mem.2 fun no hno => ?_
  obtain ⟨i, f, hf, hd, _⟩ := mem_dirty.1 hno
  rw [h i f hf] at hd
  cases hd
theorem KI.sync1 {A : List (Option Fq)} {D : Dv} {has : Nat → Sec} {n i j : Nat} {f : Fq} (h : KI A D has n) (hi : A[i]? = some (some f)) (hfj : f.no = (j : Int)) : KI (A.set i (some ⟨f.no, f.pins, false, f.s⟩)) (D.put j f.s) has n := by
  obtain ⟨j0, hj, hj0, hs0, _⟩ := h.rng i f hi
  have hjj : j0 = j := by omega
  subst hjj
  have hne : ∀ (k : Nat) (g : Fq) (j' : Nat), k ≠ i → A[k]? = some (some g) → g.no = (j' : Int) → j' ≠ j0 := by
    intro k g j' hki hk hn e
    subst e
    exact hki (h.uniq k i g f hk hi (by rw [hn, hfj]))
  refine ⟨h.fu, h.nl, fun k g hk => ?_, fun k k' g g' hk hk' hn => ?_, fun j' hj' hc' => ?_⟩
  · rcases set_get hk with ⟨hki, h1⟩ | ⟨hki, hk2⟩
    · cases h1
      exact ⟨j0, hj, hfj, hs0, fun _ => by rw [now_put, if_pos rfl, hs0]⟩
    · obtain ⟨j', h1, h2, h3, h4⟩ := h.rng k g hk2
      exact ⟨j', h1, h2, h3, fun hd => by rw [now_put, if_neg (hne k g j' hki hk2 h2)]; exact h4 hd⟩
  · rcases set_get hk with ⟨hki, h1⟩ | ⟨hki, hk2⟩
    · cases h1
      rcases set_get hk' with ⟨hki', _⟩ | ⟨hki', hk2'⟩
      · rw [hki, hki']
      · rw [hki]
        exact h.uniq i k' f g' hi hk2' hn
    · rcases set_get hk' with ⟨hki', h1⟩ | ⟨hki', hk2'⟩
      · cases h1
        rw [hki']
        exact h.uniq k i g f hk2 hi hn
      · exact h.uniq k k' g g' hk2 hk2' hn
  · have hjj : j' ≠ j0 := by
      rintro rfl
      exact hc' i _ (List.getElem?_set_self (List.getElem?_eq_some_iff.1 hi).1) hfj
    rw [now_put, if_neg hjj]
    refine h.cold j' hj' fun k g hk hkn => ?_
    by_cases hki : k = i
    · subst hki
      rw [hi] at hk
      cases hk
      exact absurd hkn (by rw [hfj]; omega)
    · exact hc' k g (by rw [List.getElem?_set_ne (fun e => hki e.symm)]; exact hk) hkn
theorem now_flush {D : Dv} {j : Nat} (hj : j < D.ls.length) : (Dv.mk D.fu D.nows (fun _ => []) D.cn).now j = D.now j := by
  show ([] : List Sec).getLastD (D.nows.getD j (secF 0)) = _
  unfold Dv.nows
  rw [List.getLastD_nil, List.getD_eq_getElem?_getD, List.getElem?_mapIdx, List.getElem?_eq_getElem hj]
  rfl
def P0 (A : List (Option Fq)) : Prop := ∀ (i : Nat) (f : Fq), A[i]? = some (some f) → f.pins = 0
theorem P0.set {A : List (Option Fq)} {i : Nat} {x : Option Fq} (h : P0 A) (hx : ∀ f, x = some f → f.pins = 0) : P0 (A.set i x) := by
  intro k f hk
  rcases set_get hk with ⟨_, h1⟩ | ⟨_, hk2⟩
  · exact hx f h1.symm
  · exact h k f hk2
theorem P0.room {C : Cv} (h : P0 C.abs) (hm : 0 < C.fs.length) : ∃ (i : Nat) (x : Option Fq), C.abs[i]? = some x ∧ ¬ 0 < qpins x := by
  have h0 : 0 < C.abs.length := by unfold Cv.abs; rw [List.length_map]; exact hm
  refine ⟨0, C.abs[0], List.getElem?_eq_getElem h0, ?_⟩
  cases hx : C.abs[0] with
  | none => show ¬ (0 : Int) < 0; omega
  | some f =>
    have := h 0 f (by rw [List.getElem?_eq_getElem h0, hx])
    show ¬ 0 < f.pins
    omega
theorem syncL_spec {has : Nat → Sec} {n : Nat} : ∀ {L : List Int} {C : Cv} {D : Dv}, KI C.abs D has n → (∀ no ∈ L, ∃ (i : Nat) (f : Fq), C.abs[i]? = some (some f) ∧ f.no = no) → (∀ (i : Nat) (f : Fq), C.abs[i]? = some (some f) → f.dirty = true → f.no ∈ L) →
    (syncL L C D).2.2 = 0 ∧ KI (syncL L C D).1.abs (syncL L C D).2.1 has n ∧ (∀ (i : Nat) (f : Fq), (syncL L C D).1.abs[i]? = some (some f) → f.dirty = false) ∧ (syncL L C D).2.1.ws = (fun _ => []) ∧ (P0 C.abs → P0 (syncL L C D).1.abs)
  | [], C, D, h, _, hd => by
    have hc : ∀ (i : Nat) (f : Fq), C.abs[i]? = some (some f) → f.dirty = false := fun i f hf => by
      cases hfd : f.dirty with
      | false => rfl
      | true => have := hd i f hf hfd; cases this
    show D.flush.2 = 0 ∧ KI C.abs D.flush.1 has n ∧ _ ∧ D.flush.1.ws = _ ∧ _
    rw [flush_f4 h.fu]
    have hl : D.nows.length = D.ls.length := by unfold Dv.nows; rw [List.length_mapIdx]
    have hnow : ∀ j, j < n → ({ D with ls := D.nows, ws := fun _ => [] } : Dv).now j = D.now j := fun j hj => now_flush (by rw [h.nl]; exact hj)
    refine ⟨rfl, ⟨h.fu, by rw [← h.nl]; exact hl, fun i f hf => ?_, h.uniq, fun j hj hcc => ?_⟩, hc, rfl, fun hp => hp⟩
    · obtain ⟨j, h1, h2, h3, h4⟩ := h.rng i f hf
      exact ⟨j, h1, h2, h3, fun hd => by rw [hnow j h1]; exact h4 hd⟩
    · rw [hnow j hj]
      exact h.cold j hj hcc
  | no :: l, C, D, h, hL, hd => by
    obtain ⟨i0, f0, hf0, hn0⟩ := hL no (List.mem_cons_self ..)
    cases hat : C.at no with
    | none => exact absurd hn0 (at_none hat i0 f0 hf0)
    | some i =>
      obtain ⟨g, hg, hgn⟩ := at_some hat
      have ha := abs_get hg
      obtain ⟨j, hj, hjn, hsj, _⟩ := h.rng i _ ha
      have hgj : g.no = (j : Int) := hjn
      have hnoj : no = (j : Int) := by rw [← hgn]; exact hgj
      have hst : syncL (no :: l) C D = syncL l (setF C i (some { g with dirty := false })) (D.put j g.s) := by
        show (match C.at no with | some i => _ | none => _) = _
        rw [hat]
        dsimp only
        rw [hg]
        dsimp only
        rw [wr_f4 h.fu, if_pos rfl, hnoj, Int.toNat_natCast]
      rw [hst]
      have habs : (setF C i (some { g with dirty := false })).abs = C.abs.set i (some ⟨g.no, g.pins, false, g.s⟩) := setF_abs
      have h1 := h.sync1 ha hgj
      rw [← habs] at h1
      have a1 : ∀ x ∈ l, ∃ (k : Nat) (f : Fq), (setF C i (some { g with dirty := false })).abs[k]? = some (some f) ∧ f.no = x := by
        intro x hx
        obtain ⟨k, f, hk, hfn⟩ := hL x (List.mem_cons_of_mem _ hx)
        rw [habs]
        by_cases hki : k = i
        · subst hki
          rw [ha] at hk
          have e : f = ⟨g.no, g.pins, g.dirty, g.s⟩ := (Option.some.inj (Option.some.inj hk)).symm
          subst e
          exact ⟨k, _, List.getElem?_set_self (List.getElem?_eq_some_iff.1 ha).1, hfn⟩
        · exact ⟨k, f, by rw [List.getElem?_set_ne (fun e => hki e.symm)]; exact hk, hfn⟩
      have a2 : ∀ (k : Nat) (f : Fq), (setF C i (some { g with dirty := false })).abs[k]? = some (some f) → f.dirty = true → f.no ∈ l := by
        intro k f hk hfd
        rw [habs] at hk
        rcases set_get hk with ⟨_, e⟩ | ⟨hki, hk2⟩
        · cases e
          cases hfd
        · rcases List.mem_cons.1 (hd k f hk2 hfd) with e | hm
          · exact absurd (h.uniq k i f _ hk2 ha (by rw [e]; exact hgn.symm)) hki
          · exact hm
      obtain ⟨r1, r2, r3, r4, r5⟩ := syncL_spec (L := l) h1 a1 a2
      refine ⟨r1, r2, r3, r4, fun hp => r5 ?_⟩
      rw [habs]
      exact hp.set fun f hf => by cases hf; exact (show g.pins = 0 from hp i ⟨g.no, g.pins, g.dirty, g.s⟩ ha)
theorem KI.sync {C : Cv} {D : Dv} {has : Nat → Sec} {n : Nat} (h : KI C.abs D has n) : (C.sync D).2.2 = 0 ∧ KI (C.sync D).1.abs (C.sync D).2.1 has n ∧ (C.sync D).1.dirty = [] ∧ (C.sync D).2.1.ws = (fun _ => []) ∧ (P0 C.abs → P0 (C.sync D).1.abs) := by
  obtain ⟨r1, r2, r3, r4, r5⟩ := syncL_spec (L := C.dirty) h (fun no hno => by
    obtain ⟨i, f, h1, _, h3⟩ := mem_dirty.1 hno
    exact ⟨i, f, h1, h3⟩) (fun i f hf hd => mem_dirty.2 ⟨i, f, hf, hd, rfl⟩)
  exact ⟨r1, r2, dirty_nil r3, r4, r5⟩
/-- All that is told is on the device, where nothing is dirty. -/
theorem KI.clean {C : Cv} {D : Dv} {has : Nat → Sec} {n : Nat} (h : KI C.abs D has n) (hd : C.dirty = []) {j : Nat} (hj : j < n) : D.now j = has j := by
  cases hat : C.at (j : Int) with
  | none => exact h.cold j hj (at_none hat)
  | some i =>
    obtain ⟨g, hg, hgn⟩ := at_some hat
    have ha := abs_get hg
    obtain ⟨j', h1, h2, h3, h4⟩ := h.rng i _ ha
    have hjj : j' = j := by have : g.no = (j' : Int) := h2; omega
    subst hjj
    refine h4 ?_
    cases hgd : g.dirty with
    | false => exact hgd
    | true =>
      have : g.no ∈ C.dirty := mem_dirty.2 ⟨i, _, ha, hgd, rfl⟩
      rw [hd] at this
      cases this
theorem KI.start {n m : Nat} : KI (Cv.mk (List.replicate m none) 0).abs ⟨f4, List.replicate n (secF 0), fun _ => [], 0⟩ (fun _ => secF 0) n := by
  have hno : ∀ (i : Nat) (f : Fq), (Cv.mk (List.replicate m none) 0).abs[i]? = some (some f) → False := by
    intro i f hf
    obtain ⟨g, hg, _⟩ := abs_of hf
    have : (List.replicate m (none : Option Fp))[i]? = some (some g) := hg
    rw [List.getElem?_replicate] at this
    split at this <;> cases this
  refine ⟨rfl, List.length_replicate, fun i f hf => (hno i f hf).elim, fun i i' f f' hf => (hno i f hf).elim, fun j hj _ => ?_⟩
  show ([] : List Sec).getLastD ((List.replicate n (secF 0)).getD j (secF 0)) = secF 0
  rw [List.getLastD_nil, List.getD_eq_getElem?_getD, List.getElem?_replicate]
  split <;> rfl
theorem P0.start {m : Nat} : P0 (Cv.mk (List.replicate m none) 0).abs := by
  intro i f hf
  obtain ⟨g, hg, _⟩ := abs_of hf
  have : (List.replicate m (none : Option Fp))[i]? = some (some g) := hg
  rw [List.getElem?_replicate] at this
  split at this <;> cases this
theorem P0.get {C : Cv} {D : Dv} {j : Nat} (h : P0 C.abs) (hg : (C.get D j).1.abs = C.abs ∨ ∃ (i : Nat) (x : Option Fq) (s : Sec), C.abs[i]? = some x ∧ ¬ 0 < qpins x ∧ (C.get D j).1.abs = C.abs.set i (some ⟨(j : Int), 0, false, s⟩)) : P0 (C.get D j).1.abs := by
  rcases hg with e | ⟨i, x, s, _, _, e⟩
  · rw [e]; exact h
  · rw [e]; exact h.set fun f hf => by cases hf; rfl
theorem P0.put {C : Cv} {D : Dv} {j : Nat} {s : Sec} (h : P0 C.abs) (hg : ∃ (i : Nat) (p : Int), (C.put D j s).1.abs = C.abs.set i (some ⟨(j : Int), p, true, s⟩) ∧ (p = 0 ∨ ∃ f : Fq, C.abs[i]? = some (some f) ∧ p = f.pins)) : P0 (C.put D j s).1.abs := by
  obtain ⟨i, p, e, hp⟩ := hg
  rw [e]
  refine h.set fun f hf => ?_
  cases hf
  rcases hp with hp | ⟨f, hf, hp⟩
  · exact hp
  · rw [hp]; exact h i f hf
/-! ### What is done -/
structure KA where
  k : Int
  no : Int
  b : UInt8
abbrev kaC (x : KA) : Ch := [(1, [.int .i64 x.k]), (1, [.int .i64 x.no]), (1, [.int .u8 ((x.b.toNat : Nat) : Int)])]
def kaW (x : KA) : Prop := in64 x.k ∧ in64 x.no
def kas (l : List KA) : List Value := (l.map fun x => flat (kaC x)).flatten
theorem kaC_len (x : KA) : (flat (kaC x)).length = 3 := rfl
theorem kas_len {l : List KA} : (kas l).length = l.length * 3 := rows_len kaC_len
theorem kas_at {l : List KA} {i : Nat} {x : KA} (h : l[i]? = some x) : ((kas l).drop (i * 3)).take 3 = flat (kaC x) := rows_drop kaC_len h
theorem kas_s {l : List KA} {i : Nat} {x : KA} (h : l[i]? = some x) : (kas l)[i * 3 + 1]? = some (.int .i64 x.no) ∧ (kas l)[i * 3 + 2]? = some (.int .u8 ((x.b.toNat : Nat) : Int)) := by
  have h1 := kas_at h
  have h2 : (flat (kaC x))[1]? = some (.int .i64 x.no) := rfl
  have h3 : (flat (kaC x))[2]? = some (.int .u8 ((x.b.toNat : Nat) : Int)) := rfl
  rw [← h1] at h2 h3
  rw [List.getElem?_take_of_lt (by omega), List.getElem?_drop] at h2 h3
  exact ⟨h2, h3⟩
def hasL (l : List UInt8) (j : Nat) : Sec := secF (l.getD j 0)
theorem hasL_set {l : List UInt8} {j : Nat} {b : UInt8} (hj : j < l.length) : (fun k => if k = j then secF b else hasL l k) = hasL (l.set j b) := by
  funext k
  unfold hasL
  rw [List.getD_eq_getElem?_getD, List.getD_eq_getElem?_getD, List.getElem?_set]
  by_cases hk : k = j
  · subst hk; rw [if_pos rfl, if_pos rfl, if_pos hj]; rfl
  · rw [if_neg hk, if_neg (fun e => hk e.symm)]
theorem hasL_0 {n : Nat} : (fun _ => secF 0) = hasL (List.replicate n 0) := by
  funext k
  unfold hasL
  rw [List.getD_eq_getElem?_getD, List.getElem?_replicate]
  split <;> rfl
end Go.Proofs.Ytepmikgjnmjheaa
