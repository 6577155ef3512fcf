/- Layer 20 (farm): what changes do, plain. -/
import Derived.Test.YtpjfkomicehinaaGg
namespace Go.Proofs.Ytpjfkomicehinaa
set_option linter.unusedSimpArgs false
set_option linter.unusedVariables false
def insS (L : List Sb) (y : Sb) : List Sb := (L.filter fun x => decide (x.s.id < y.s.id)) ++ y :: (L.filter fun x => !decide (x.s.id < y.s.id))
def addS (L : List Sb) (s : Sh) (nb : Nat) : List Sb × Int :=
  if mayS s nb = true then
    (if (findS L s.id).isSome = true ∨ (doorS L s.door).isSome = true then (L, 7) else if 8 ≤ L.length then (L, 2) else (insS L ⟨s, []⟩, 0))
  else (L, 1)
def dropS (L : List Sb) (id : Int) : List Sb × Int := if (findS L id).isSome = true then (L.filter fun x => !decide (x.s.id = id), 0) else (L, 6)
def updB (L : List Sb) (id : Int) (f : List Bk → List Bk) : List Sb := L.map fun y => if y.s.id = id then ⟨y.s, f y.bs⟩ else y
def turnS (L : List Sb) (id b : Int) (f : List Bk → List Bk) : List Sb × Int := match findS L id with
  | none => (L, 6)
  | some y => if hasB y.bs b = true then (updB L id f, 0) else (L, 6)
def setBy (b : Int) (g : Bk → Bk) (bs : List Bk) : List Bk := bs.map fun k => if k.id = b then g k else k
def delBy (b : Int) (bs : List Bk) : List Bk := bs.filter fun k => !decide (k.id = b)
def insB (c : Bk) (bs : List Bk) : List Bk := (bs.filter fun x => decide (x.id < c.id)) ++ c :: (bs.filter fun x => !decide (x.id < c.id))
def canB (s : Sh) (c : Bk) : Bool := decide (0 ≤ c.id ∧ c.id ≤ 65535) && (c.ad.good && (decide (c.ad.six = s.ad.six) && (decide ((c.port : Int) ≠ 0) && (decide (0 ≤ c.wt ∧ c.wt ≤ 10) && !c.dr))))
def addB (L : List Sb) (id : Int) (c : Bk) : List Sb × Int := match findS L id with
  | none => (L, 6)
  | some y => if canB y.s c = true then (if hasB y.bs c.id = true then (L, 7) else if 16 ≤ y.bs.length then (L, 2) else (updB L id (insB c), 0)) else (L, 1)
theorem door_iff {L : List Sb} (h : LInv L) {ds : List (Dr × Int)} : (∀ d, mfind ds d = (doorS L d).map (·.s.id)) ↔ ∀ d v, mfind ds d = some v ↔ ∃ y ∈ L, y.s.door = d ∧ y.s.id = v := by
  constructor
  · intro hd d v
    rw [hd d]
    constructor
    · intro h1
      cases hh : doorS L d with
      | none => rw [hh] at h1; cases h1
      | some y =>
        rw [hh] at h1
        obtain ⟨h2, h3⟩ := doorS_some hh
        exact ⟨y, h2, h3, Option.some.inj h1⟩
    · rintro ⟨y, hy, rfl, rfl⟩
      rw [h.doorMem hy]; rfl
  · intro hd d
    cases hh : doorS L d with
    | some y =>
      obtain ⟨h2, h3⟩ := doorS_some hh
      exact (hd d y.s.id).2 ⟨y, h2, h3, rfl⟩
    | none =>
      cases hm : mfind ds d with
      | none => rfl
      | some v =>
        obtain ⟨y, hy, h1, _⟩ := (hd d v).1 hm
        exact absurd h1 (doorS_none hh y hy)
theorem insS_mem {L : List Sb} {y x : Sb} : x ∈ insS L y ↔ x = y ∨ x ∈ L := by
  unfold insS
  rw [List.mem_append, List.mem_cons, List.mem_filter, List.mem_filter]
  by_cases h : x.s.id < y.s.id
  · simp [h]; exact Or.comm
  · simp [h]
theorem insS_perm {L : List Sb} {y : Sb} : (insS L y).Perm (y :: L) := by
  unfold insS
  refine List.perm_middle.trans (List.Perm.cons _ ?_)
  exact List.filter_append_perm _ _
theorem insS_srt {L : List Sb} {y : Sb} (h : SrtL L) (hn : findS L y.s.id = none) : SrtL (insS L y) := by
  unfold insS SrtL
  rw [List.pairwise_append]
  refine ⟨h.filter _, List.pairwise_cons.2 ⟨fun b hb => ?_, h.filter _⟩, fun a ha b hb => ?_⟩
  · obtain ⟨h1, h2⟩ := List.mem_filter.1 hb
    have h3 := findS_none hn b h1
    have h2 : ¬ b.s.id < y.s.id := by simpa using h2
    omega
  · obtain ⟨h1, h2⟩ := List.mem_filter.1 ha
    have h2 : a.s.id < y.s.id := by simpa using h2
    rcases List.mem_cons.1 hb with rfl | hb
    · exact h2
    · obtain ⟨h4, h5⟩ := List.mem_filter.1 hb
      have h5 : ¬ b.s.id < y.s.id := by simpa using h5
      omega
def shW (s : Sh) : Prop := in64 s.id ∧ s.port < 65536
theorem mayS_id {s : Sh} {nb : Nat} (h : mayS s nb = true) : 0 ≤ s.id ∧ s.id ≤ 65535 := by
  unfold mayS at h
  rw [Bool.and_eq_true, decide_eq_true_eq] at h
  exact h.1
theorem insS_inv {L : List Sb} {s : Sh} {nb : Nat} (h : LInv L) (hw : shW s) (hm : mayS s nb = true) (h1 : findS L s.id = none) (h2 : doorS L s.door = none) (h3 : L.length < 8) : LInv (insS L ⟨s, []⟩) := by
  refine ⟨insS_srt h.srt h1, fun x hx => ?_, fun x hx y hy hd => ?_, ?_, fun x hx => ?_, fun x hx => ?_, fun x hx => ?_⟩
  · rcases insS_mem.1 hx with rfl | hx
    · exact List.Pairwise.nil
    · exact h.bsrt x hx
  · rcases insS_mem.1 hx with rfl | hx
    · rcases insS_mem.1 hy with rfl | hy
      · rfl
      · exact absurd hd.symm (doorS_none h2 y hy)
    · rcases insS_mem.1 hy with rfl | hy
      · exact absurd hd (doorS_none h2 x hx)
      · exact h.uniq x hx y hy hd
  · rw [insS_perm.length_eq, List.length_cons]; omega
  · rcases insS_mem.1 hx with rfl | hx
    · exact Nat.zero_le _
    · exact h.blen x hx
  · rcases insS_mem.1 hx with rfl | hx
    · exact mayS_id hm
    · exact h.idr x hx
  · rcases insS_mem.1 hx with rfl | hx
    · exact hw.2
    · exact h.portr x hx
theorem mput_new {K V : Type} [DecidableEq K] {l : List (K × V)} {k : K} (h : mfind l k = none) (v : V) : mput l k v = l ++ [(k, v)] := (mfind_none (mfind_none_of h)).2.1 v
theorem PInv.ins {L : List Sb} {F : FM} {s : Sh} {nb g : Nat} (h : PInv L F) (hw : shW s) (hm : mayS s nb = true) (h1 : findS L s.id = none) (h2 : doorS L s.door = none) (h3 : L.length < 8) :
    PInv (insS L ⟨s, []⟩) ⟨F.ps ++ [⟨g, .slice none 0 0, s, []⟩], F.ds ++ [(s.door, s.id)]⟩ ∧ mput (ies F.ps) s.id (some g) = ies (F.ps ++ [⟨g, .slice none 0 0, s, []⟩]) ∧ mput F.ds s.door s.id = F.ds ++ [(s.door, s.id)] := by
  have hli := insS_inv h.toLInv hw hm h1 h2 h3
  have hdn : mfind F.ds s.door = none := by rw [h.door, h2]; rfl
  have hp2 := mput_new hdn s.id
  refine ⟨⟨hli, ?_, ?_, ?_, fun x hx => ?_⟩, ?_, hp2⟩
  · show ((F.ps ++ [_]).map PS.sb).Perm _
    rw [List.map_append]
    refine (List.perm_append_comm).trans ?_
    show (_ :: F.ps.map PS.sb).Perm _
    exact (List.Perm.cons _ h.perm).trans insS_perm.symm
  · rw [door_iff hli]
    intro d v
    show mfind (F.ds ++ [(s.door, s.id)]) d = some v ↔ _
    rw [← hp2, mfind_put]
    have hd := (door_iff h.toLInv).1 h.door
    by_cases hs : s.door = d
    · rw [if_pos hs]
      constructor
      · intro h4
        exact ⟨⟨s, []⟩, insS_mem.2 (.inl rfl), hs, Option.some.inj h4⟩
      · rintro ⟨y, hy, h4, h5⟩
        rcases insS_mem.1 hy with rfl | hy
        · rw [← h5]
        · exact absurd (h4.trans hs.symm) (doorS_none h2 y hy)
    · rw [if_neg hs, hd d v]
      constructor
      · rintro ⟨y, hy, h4⟩
        exact ⟨y, insS_mem.2 (.inr hy), h4⟩
      · rintro ⟨y, hy, h4, h5⟩
        rcases insS_mem.1 hy with rfl | hy
        · exact absurd h4 hs
        · exact ⟨y, hy, h4, h5⟩
  · show ((F.ds ++ [(s.door, s.id)]).map (·.1)).Nodup
    rw [← hp2]
    exact mput_keys h.dnd
  · rcases List.mem_append.1 hx with hx | hx
    · exact h.one x hx
    · rw [List.mem_singleton.1 hx]; rfl
  · rw [mput_new (h.no h1)]
    unfold ies
    rw [List.map_append]
    rfl
/-! ### A service goes -/
theorem filt_inv {L : List Sb} (h : LInv L) (q : Sb → Bool) : LInv (L.filter q) :=
  ⟨h.srt.filter _, fun x hx => h.bsrt x (List.mem_filter.1 hx).1, fun x hx y hy hd => h.uniq x (List.mem_filter.1 hx).1 y (List.mem_filter.1 hy).1 hd, Nat.le_trans (List.length_filter_le _ _) h.len, fun x hx => h.blen x (List.mem_filter.1 hx).1, fun x hx => h.idr x (List.mem_filter.1 hx).1, fun x hx => h.portr x (List.mem_filter.1 hx).1⟩
theorem PInv.del {L : List Sb} {F : FM} (h : PInv L F) {A B : List PS} {x : PS} (hps : F.ps = A ++ x :: B) (hx : findS L x.s.id = some x.sb) :
    PInv (L.filter fun y => !decide (y.s.id = x.s.id)) ⟨A ++ B, mdel F.ds x.s.door⟩ ∧ mdel (ies F.ps) x.s.id = ies (A ++ B) := by
  have hli := filt_inv h.toLInv (fun y => !decide (y.s.id = x.s.id))
  obtain ⟨hxL, _⟩ := findS_some hx
  refine ⟨⟨hli, ?_, ?_, mdel_keys h.dnd, fun y hy => ?_⟩, ?_⟩
  · have hnd : (F.ps.map PS.sb).Perm L := h.perm
    have hids := h.ids
    rw [ies_keys] at hids
    have e : ((A ++ B).map PS.sb) = (F.ps.map PS.sb).filter fun y => !decide (y.s.id = x.s.id) := by
      rw [hps] at hids ⊢
      rw [List.map_map, List.map_append, List.map_cons] at hids
      have h1 := List.nodup_append.1 hids
      have h2 := List.nodup_cons.1 h1.2.1
      simp only [List.map_append, List.map_cons]
      rw [List.filter_append, List.filter_cons_of_neg (by simp)]
      congr 1
      · symm
        rw [List.filter_eq_self]
        intro y hy
        obtain ⟨z, hz, rfl⟩ := List.mem_map.1 hy
        have : z.s.id ≠ x.s.id := fun e => h1.2.2 _ (List.mem_map.2 ⟨z, hz, rfl⟩) _ (List.mem_cons_self ..) e
        simpa using this
      · symm
        rw [List.filter_eq_self]
        intro y hy
        obtain ⟨z, hz, rfl⟩ := List.mem_map.1 hy
        have : z.s.id ≠ x.s.id := fun e => h2.1 (List.mem_map.2 ⟨z, hz, e⟩)
        simpa using this
    show ((A ++ B).map PS.sb).Perm _
    rw [e]
    exact hnd.filter _
  · rw [door_iff hli]
    intro d v
    show mfind (mdel F.ds x.s.door) d = some v ↔ _
    rw [mfind_del h.dnd]
    have hd := (door_iff h.toLInv).1 h.door
    by_cases hs : x.s.door = d
    · rw [if_pos hs]
      constructor
      · intro h4; cases h4
      · rintro ⟨y, hy, h4, h5⟩
        obtain ⟨h6, h7⟩ := List.mem_filter.1 hy
        have := h.uniq y h6 x.sb hxL (h4.trans hs.symm)
        rw [this] at h7
        simp at h7
    · rw [if_neg hs, hd d v]
      constructor
      · rintro ⟨y, hy, h4, h5⟩
        refine ⟨y, List.mem_filter.2 ⟨hy, ?_⟩, h4, h5⟩
        have : y.s.id ≠ x.s.id := fun e => by
          have := h.srt.uniq hy hxL e
          rw [this] at h4
          exact hs h4
        simpa using this
      · rintro ⟨y, hy, h4, h5⟩
        exact ⟨y, (List.mem_filter.1 hy).1, h4, h5⟩
  · refine h.one y ?_
    rw [hps]
    rcases List.mem_append.1 hy with hy | hy
    · exact List.mem_append_left _ hy
    · exact List.mem_append_right _ (List.mem_cons_of_mem _ hy)
  · have hi : (ies F.ps)[A.length]? = some (x.s.id, some x.g) := ies_at (by rw [hps, List.getElem?_append_right (Nat.le_refl _), Nat.sub_self]; rfl)
    rw [(mfind_some h.ids hi rfl).2.2, hps]
    unfold ies
    rw [List.map_append, List.map_cons, List.map_append, List.eraseIdx_append_of_length_le (by rw [List.length_map]; exact Nat.le_refl _), List.length_map, Nat.sub_self]
    rfl
/-! ### Backends change -/
theorem updB_mem {L : List Sb} {id : Int} {f : List Bk → List Bk} {y : Sb} (h : y ∈ updB L id f) : ∃ z ∈ L, y.s = z.s ∧ (y = z ∨ (z.s.id = id ∧ y.bs = f z.bs)) := by
  unfold updB at h
  obtain ⟨z, hz, rfl⟩ := List.mem_map.1 h
  by_cases hi : z.s.id = id
  · rw [if_pos hi]; exact ⟨z, hz, rfl, .inr ⟨hi, rfl⟩⟩
  · rw [if_neg hi]; exact ⟨z, hz, rfl, .inl rfl⟩
theorem updB_s {L : List Sb} {id : Int} {f : List Bk → List Bk} : (updB L id f).map (·.s) = L.map (·.s) := by
  unfold updB
  rw [List.map_map]
  refine List.map_congr_left fun y _ => ?_
  show (if y.s.id = id then (⟨y.s, f y.bs⟩ : Sb) else y).s = y.s
  split <;> rfl
theorem updB_inv {L : List Sb} {id : Int} {f : List Bk → List Bk} {y : Sb} (h : LInv L) (hy : findS L id = some y) (h1 : SrtB (f y.bs)) (h2 : (f y.bs).length ≤ 16) : LInv (updB L id f) := by
  obtain ⟨hyL, hyi⟩ := findS_some hy
  have hfb : ∀ z ∈ L, z.s.id = id → z = y := fun z hz hi => h.srt.uniq hz hyL (by rw [hi, hyi])
  refine ⟨?_, fun x hx => ?_, fun x hx z hz hd => ?_, ?_, fun x hx => ?_, fun x hx => ?_, fun x hx => ?_⟩
  · have e : (updB L id f).map (fun x => x.s.id) = L.map (fun x => x.s.id) := by
      have := congrArg (List.map Sh.id) (updB_s (L := L) (id := id) (f := f))
      rw [List.map_map, List.map_map] at this
      exact this
    have h3 : ((updB L id f).map (fun x => x.s.id)).Pairwise (· < ·) := by rw [e, List.pairwise_map]; exact h.srt
    rw [List.pairwise_map] at h3
    exact h3
  · obtain ⟨z, hz, _, rfl | ⟨hi, hb⟩⟩ := updB_mem hx
    · exact h.bsrt _ hz
    · rw [hb, hfb z hz hi]; exact h1
  · unfold updB at hx hz
    obtain ⟨x', hx', rfl⟩ := List.mem_map.1 hx
    obtain ⟨z', hz', rfl⟩ := List.mem_map.1 hz
    have e1 : ∀ w : Sb, (if w.s.id = id then (⟨w.s, f w.bs⟩ : Sb) else w).s = w.s := fun w => by split <;> rfl
    have hd : x'.s.door = z'.s.door := by rw [e1 x', e1 z'] at hd; exact hd
    rw [h.uniq x' hx' z' hz' hd]
  · unfold updB; rw [List.length_map]; exact h.len
  · obtain ⟨z, hz, _, rfl | ⟨hi, hb⟩⟩ := updB_mem hx
    · exact h.blen _ hz
    · rw [hb, hfb z hz hi]; exact h2
  · obtain ⟨z, hz, hs, _⟩ := updB_mem hx
    rw [hs]; exact h.idr z hz
  · obtain ⟨z, hz, hs, _⟩ := updB_mem hx
    rw [hs]; exact h.portr z hz
theorem PInv.upd {L : List Sb} {F : FM} (h : PInv L F) {A B : List PS} {x : PS} (hps : F.ps = A ++ x :: B) (hx : findS L x.s.id = some x.sb) {f : List Bk → List Bk} {v : Value} (hv : v.oneCell' = true) (h1 : SrtB (f x.bs)) (h2 : (f x.bs).length ≤ 16) :
    PInv (updB L x.s.id f) ⟨A ++ ⟨x.g, v, x.s, f x.bs⟩ :: B, F.ds⟩ ∧ ies (A ++ ⟨x.g, v, x.s, f x.bs⟩ :: B) = ies F.ps := by
  have hli := updB_inv h.toLInv hx h1 h2
  have hids := h.ids
  rw [ies_keys, hps, List.map_map, List.map_append, List.map_cons] at hids
  have n1 := List.nodup_append.1 hids
  have n2 := List.nodup_cons.1 n1.2.1
  refine ⟨⟨hli, ?_, ?_, h.dnd, fun y hy => ?_⟩, ?_⟩
  · have e : (A ++ (⟨x.g, v, x.s, f x.bs⟩ : PS) :: B).map PS.sb = updB (F.ps.map PS.sb) x.s.id f := by
      rw [hps]
      unfold updB
      rw [List.map_append, List.map_cons, List.map_append, List.map_cons, List.map_append, List.map_cons, if_pos rfl]
      congr 1
      · symm
        conv => rhs; rw [← List.map_id (A.map PS.sb)]
        refine List.map_congr_left fun y hy => ?_
        obtain ⟨z, hz, rfl⟩ := List.mem_map.1 hy
        have hne : ¬ z.sb.s.id = x.s.id := fun e => n1.2.2 _ (List.mem_map.2 ⟨z, hz, rfl⟩) _ (List.mem_cons_self ..) e
        rw [if_neg hne]
        rfl
      · congr 1
        symm
        conv => rhs; rw [← List.map_id (B.map PS.sb)]
        refine List.map_congr_left fun y hy => ?_
        obtain ⟨z, hz, rfl⟩ := List.mem_map.1 hy
        have hne : ¬ z.sb.s.id = x.s.id := fun e => n2.1 (List.mem_map.2 ⟨z, hz, e⟩)
        rw [if_neg hne]
        rfl
    show ((A ++ (⟨x.g, v, x.s, f x.bs⟩ : PS) :: B).map PS.sb).Perm _
    rw [e]
    exact h.perm.map _
  · rw [door_iff hli]
    intro d w
    have hd := (door_iff h.toLInv).1 h.door
    show mfind F.ds d = some w ↔ _
    rw [hd d w]
    constructor
    · rintro ⟨y, hy, h4, h5⟩
      refine ⟨_, List.mem_map.2 ⟨y, hy, rfl⟩, ?_⟩
      split
      · exact ⟨h4, h5⟩
      · exact ⟨h4, h5⟩
    · rintro ⟨y, hy, h4, h5⟩
      obtain ⟨z, hz, hs, _⟩ := updB_mem hy
      rw [hs] at h4 h5
      exact ⟨z, hz, h4, h5⟩
  · rcases List.mem_append.1 hy with hy | hy
    · exact h.one y (by rw [hps]; exact List.mem_append_left _ hy)
    · rcases List.mem_cons.1 hy with rfl | hy
      · exact hv
      · exact h.one y (by rw [hps]; exact List.mem_append_right _ (List.mem_cons_of_mem _ hy))
  · rw [hps]
    unfold ies
    rw [List.map_append, List.map_append, List.map_cons, List.map_cons]
/-! ### Backends in order -/
theorem srtB_uniq {l : List Bk} (h : SrtB l) {i j : Nat} {a b : Bk} (ha : l[i]? = some a) (hb : l[j]? = some b) (he : a.id = b.id) : i = j := by
  rcases Nat.lt_trichotomy i j with h1 | h1 | h1
  · have := srt_lt h ha hb h1; omega
  · exact h1
  · have := srt_lt h hb ha h1; omega
theorem set_setBy {l : List Bk} (h : SrtB l) {i : Nat} {y : Bk} (hy : l[i]? = some y) (g : Bk → Bk) : l.set i (g y) = setBy y.id g l := by
  apply List.ext_getElem?
  intro j
  unfold setBy
  rw [List.getElem?_map, List.getElem?_set]
  by_cases hij : i = j
  · subst hij
    rw [if_pos rfl, if_pos (List.getElem?_eq_some_iff.1 hy).1, hy]
    show _ = some (if y.id = y.id then g y else y)
    rw [if_pos rfl]
  · rw [if_neg hij]
    cases hj : l[j]? with
    | none => rfl
    | some z =>
      show _ = some (if z.id = y.id then g z else z)
      rw [if_neg fun e => hij (srtB_uniq h hy hj e.symm)]
theorem erase_delBy {l : List Bk} (h : SrtB l) {i : Nat} {y : Bk} (hy : l[i]? = some y) : l.take i ++ l.drop (i + 1) = delBy y.id l := by
  have hi := (List.getElem?_eq_some_iff.1 hy).1
  have e : l = l.take i ++ y :: l.drop (i + 1) := by
    conv => lhs; rw [← List.take_append_drop i l, List.drop_eq_getElem_cons hi]
    rw [(List.getElem?_eq_some_iff.1 hy).2]
  unfold delBy
  conv => rhs; rw [e]
  rw [List.filter_append, List.filter_cons_of_neg (by simp)]
  congr 1
  · symm
    rw [List.filter_eq_self]
    intro b hb
    obtain ⟨k, hk⟩ := List.getElem?_of_mem hb
    have hlt : k < i := by have := (List.getElem?_eq_some_iff.1 hk).1; rw [List.length_take] at this; omega
    rw [List.getElem?_take_of_lt hlt] at hk
    have := srt_lt h hk hy hlt
    simp; omega
  · symm
    rw [List.filter_eq_self]
    intro b hb
    obtain ⟨k, hk⟩ := List.getElem?_of_mem hb
    rw [List.getElem?_drop] at hk
    have := srt_lt h hy hk (by omega)
    simp; omega
theorem setBy_srt {l : List Bk} (h : SrtB l) {b : Int} {g : Bk → Bk} (hg : ∀ k, (g k).id = k.id) : SrtB (setBy b g l) := by
  unfold SrtB setBy
  rw [List.pairwise_map]
  refine List.Pairwise.imp ?_ h
  intro x y hxy
  have e : ∀ k : Bk, (if k.id = b then g k else k).id = k.id := fun k => by split; exact hg k; rfl
  rw [e, e]; exact hxy
theorem setBy_len {l : List Bk} {b : Int} {g : Bk → Bk} : (setBy b g l).length = l.length := by unfold setBy; rw [List.length_map]
theorem delBy_srt {l : List Bk} (h : SrtB l) {b : Int} : SrtB (delBy b l) := h.filter _
theorem delBy_len {l : List Bk} {b : Int} : (delBy b l).length ≤ l.length := List.length_filter_le _ _
theorem insB_srt {l : List Bk} {c : Bk} (h : SrtB l) (hn : hasB l c.id = false) : SrtB (insB c l) := by
  have hno : ∀ x ∈ l, x.id ≠ c.id := fun x hx e => by
    unfold hasB at hn
    rw [List.any_eq_false] at hn
    exact hn x hx (by simpa using e)
  unfold insB SrtB
  rw [List.pairwise_append]
  refine ⟨h.filter _, List.pairwise_cons.2 ⟨fun b hb => ?_, h.filter _⟩, fun a ha b hb => ?_⟩
  · obtain ⟨h1, h2⟩ := List.mem_filter.1 hb
    have h3 := hno b h1
    have h2 : ¬ b.id < c.id := by simpa using h2
    omega
  · obtain ⟨h1, h2⟩ := List.mem_filter.1 ha
    have h2 : a.id < c.id := by simpa using h2
    rcases List.mem_cons.1 hb with rfl | hb
    · exact h2
    · obtain ⟨h4, h5⟩ := List.mem_filter.1 hb
      have h5 : ¬ b.id < c.id := by simpa using h5
      omega
theorem insB_len {l : List Bk} {c : Bk} : (insB c l).length = l.length + 1 := by
  unfold insB
  have := (List.filter_append_perm (fun x : Bk => decide (x.id < c.id)) l).length_eq
  rw [List.length_append] at this ⊢
  rw [List.length_cons]
  omega
theorem insB_at {l : List Bk} {c : Bk} (h : SrtB l) : insB c l = l.take (lbB l c.id) ++ c :: l.drop (lbB l c.id) := by
  have hsp : ∃ i, i ≤ l.length ∧ (∀ k b, k < i → l[k]? = some b → b.id < c.id) ∧ (∀ k b, i ≤ k → l[k]? = some b → ¬ b.id < c.id) := by
    induction l with
    | nil => exact ⟨0, Nat.le_refl _, fun k b hk => absurd hk (Nat.not_lt_zero _), fun k b _ hb => by cases hb⟩
    | cons x l ih =>
      by_cases hx : x.id < c.id
      · obtain ⟨i, h1, h2, h3⟩ := ih (List.pairwise_cons.1 h).2
        refine ⟨i + 1, by simpa using h1, fun k b hk hb => ?_, fun k b hk hb => ?_⟩
        · cases k with
          | zero => cases hb; exact hx
          | succ k => exact h2 k b (by omega) (by simpa using hb)
        · cases k with
          | zero => omega
          | succ k => exact h3 k b (by omega) (by simpa using hb)
      · refine ⟨0, Nat.zero_le _, fun k b hk => absurd hk (Nat.not_lt_zero _), fun k b _ hb => ?_⟩
        cases k with
        | zero => cases hb; exact hx
        | succ k =>
          have := srt_lt (l := x :: l) h (i := 0) (j := k + 1) rfl hb (by omega)
          omega
  obtain ⟨i, h1, h2, h3⟩ := hsp
  have hlb := lb_of h1 h2 h3
  obtain ⟨f1, f2⟩ := filter_split (q := fun b => decide (b.id < c.id)) h1 (fun k b hk hb => decide_eq_true (h2 k b hk hb)) (fun k b hk hb => decide_eq_false (h3 k b hk hb))
  unfold insB
  rw [hlb, f1, f2]
theorem has_lb {l : List Bk} (h : SrtB l) {id : Int} (hh : hasB l id = true) : ∃ y, l[lbB l id]? = some y ∧ y.id = id := by
  unfold hasB at hh
  rw [List.any_eq_true] at hh
  obtain ⟨y, hy, hid⟩ := hh
  have hid : y.id = id := by simpa using hid
  obtain ⟨i, hi⟩ := List.getElem?_of_mem hy
  have hil := (List.getElem?_eq_some_iff.1 hi).1
  have := lb_of (l := l) (id := id) (i := i) (by omega) (fun k b hk hb => by have := srt_lt h hb hi hk; omega) (fun k b hk hb => by
    rcases Nat.lt_or_ge i k with h1 | h1
    · have := srt_lt h hi hb h1; omega
    · have : k = i := by omega
      subst this; rw [hi] at hb; cases hb; omega)
  rw [this]
  exact ⟨y, hi, hid⟩
theorem lb_le {l : List Bk} {id : Int} : lbB l id ≤ l.length := List.length_filter_le _ _
end Go.Proofs.Ytpjfkomicehinaa
