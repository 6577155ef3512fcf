/- Layer 33 (bucket): a client is kept: contract. -/
import Derived.Test.YtncgponcedkihaaBy
namespace Go.Proofs.Ytncgponcedkihaa
open Go.RowKit
set_option linter.unusedSimpArgs false
set_option linter.unusedVariables false
set_option maxRecDepth 20000
set_option maxHeartbeats 4000000
attribute [local irreducible] WPc WPl WPq ReadR OpT BinR HasS bx rdN rowN Take Takes Prov Triple ResF BuildP Done ag Int.decLt Int.decLe Int.instDecidableEq
section
variable {burst : Int} {clients : Nat} {L L' : List Nd} {M : List (Pf × Option Nat)} {f f' : Nat → Option Ch}
theorem BkI.perm (h : BkI burst clients L M f) (hp : L.Perm L') (hl : lnk f' none L' none) : BkI burst clients L' M f' :=
  ⟨hp.pairwise h.nod (fun h => h.symm), hl, fun p v => by rw [h.key]; simp only [hp.mem_iff], by rw [h.len, hp.length_eq], hp.pairwise h.keys (fun h => h.symm), fun c hc => h.ok c (hp.mem_iff.2 hc), by rw [← hp.length_eq]; exact h.few, h.mkn⟩
theorem BkI.none' (h : BkI burst clients L M f) {p : Pf} (hno : ∀ c ∈ L, c.2.p ≠ p) : mfind M p = none := by
  cases hm : mfind M p with
  | none => rfl
  | some v =>
    obtain ⟨c, hc, hp, _⟩ := (h.key p v).1 hm
    exact absurd hp (hno c hc)
theorem BkI.new (h : BkI burst clients L M f) {c : Nd} (hno : ∀ x ∈ L, x.2.p ≠ c.2.p) (hg : ∀ x ∈ L, x.1 ≠ c.1) (hf : L.length < clients) (hl : lnk f' none (c :: L) none) (hok : in64 c.2.p.2 ∧ 0 ≤ c.2.tok ∧ c.2.tok ≤ burst ∧ 0 ≤ c.2.at' ∧ c.2.at' < 18446744073709551616) :
    BkI burst clients (c :: L) (mput M c.2.p (some c.1)) f' := by
  have hn := h.none' hno
  refine ⟨List.pairwise_cons.2 ⟨fun x hx => (hg x hx).symm, h.nod⟩, hl, fun p v => ?_, ?_, List.pairwise_cons.2 ⟨fun x hx => (hno x hx).symm, h.keys⟩, fun x hx => ?_, hf, mput_keys h.mkn⟩
  · rw [mfind_put]
    by_cases hp : c.2.p = p
    · rw [if_pos hp]
      constructor
      · intro e; cases e; exact ⟨c, List.mem_cons_self .., hp, rfl⟩
      · rintro ⟨x, hx, h1, h2⟩
        rcases List.mem_cons.1 hx with rfl | hx
        · rw [h2]
        · exact absurd (h1.trans hp.symm) (hno x hx)
    · rw [if_neg hp, h.key]
      constructor
      · rintro ⟨x, hx, h1⟩; exact ⟨x, List.mem_cons_of_mem _ hx, h1⟩
      · rintro ⟨x, hx, h1, h2⟩
        rcases List.mem_cons.1 hx with rfl | hx
        · exact absurd h1 hp
        · exact ⟨x, hx, h1, h2⟩
  · rw [mput_len, show mhas M c.2.p = false by unfold mhas; rw [hn]; rfl]
    simp [h.len]
  · rcases List.mem_cons.1 hx with rfl | hx
    · exact hok
    · exact h.ok x hx
theorem BkI.drop {A : List Nd} {e : Nd} (h : BkI burst clients (A ++ [e]) M f) (hl : lnk f' none A none) : BkI burst clients A (mdel M e.2.p) f' := by
  obtain ⟨n1, _, _⟩ := List.pairwise_append.1 h.nod
  obtain ⟨k1, _, k3⟩ := List.pairwise_append.1 h.keys
  refine ⟨n1, hl, fun p v => ?_, ?_, k1, fun c hc => h.ok c (List.mem_append_left _ hc), ?_, mdel_keys h.mkn⟩
  · rw [mfind_del h.mkn]
    by_cases hp : e.2.p = p
    · rw [if_pos hp]
      refine ⟨(fun h => by cases h), ?_⟩
      rintro ⟨x, hx, h1, h2⟩
      exact absurd (h1.trans hp.symm) (k3 x hx e (List.mem_singleton.2 rfl))
    · rw [if_neg hp, h.key]
      constructor
      · rintro ⟨x, hx, h1, h2⟩
        rcases List.mem_append.1 hx with hx | hx
        · exact ⟨x, hx, h1, h2⟩
        · rw [List.mem_singleton.1 hx] at h1; exact absurd h1 hp
      · rintro ⟨x, hx, h1⟩; exact ⟨x, List.mem_append_left _ hx, h1⟩
  · have := h.len
    have h2 : mfind M e.2.p = some (some e.1) := (h.key _ _).2 ⟨e, by simp, rfl, rfl⟩
    rw [mdel_len, show mhas M e.2.p = true by unfold mhas; rw [h2]; rfl]
    simp at this ⊢
    omega
  · have := h.few; simp at this; omega
theorem keptD_found {A B : List Nd} {c : Nd} {p : Pf} {now : Int} (hc : c.2.p = p) (hA : ∀ x ∈ A, x.2.p ≠ p) : keptD burst clients ((A ++ c :: B).map (·.2)) p now = (c.2, (A ++ B).map (·.2)) := by
  unfold keptD
  have h1 : ((A ++ c :: B).map (·.2)).find? (fun c => decide (c.p = p)) = some c.2 := by
    rw [List.map_append, List.find?_append, List.find?_eq_none.2 (by intro x hx; obtain ⟨y, hy, rfl⟩ := List.mem_map.1 hx; simpa using hA y hy)]
    simp [hc]
  have h2 : ((A ++ c :: B).map (·.2)).eraseP (fun c => decide (c.p = p)) = (A ++ B).map (·.2) := by
    rw [List.map_append, List.eraseP_append_right _ (by intro x hx; obtain ⟨y, hy, rfl⟩ := List.mem_map.1 hx; simpa using hA y hy)]
    simp [hc]
  rw [h1, h2]
theorem keptD_new {p : Pf} {now : Int} (hA : ∀ x ∈ L, x.2.p ≠ p) : keptD burst clients (L.map (·.2)) p now = (⟨p, burst, now⟩, (if clients ≤ L.length then L.dropLast else L).map (·.2)) := by
  unfold keptD
  have h1 : (L.map (·.2)).find? (fun c => decide (c.p = p)) = none := List.find?_eq_none.2 (by intro x hx; obtain ⟨y, hy, rfl⟩ := List.mem_map.1 hx; simpa using hA y hy)
  simp only [h1, List.length_map]
  split
  · rw [List.map_dropLast]
  · rfl
end
attribute [local irreducible] pool fset lnk mp mget mfind mput mdel
section
variable (gB m : Nat) (per burst : Int) (clients : Nat) (f : Nat → Option Ch)
def RKept (D : List Cl) (p : Pf) (now : Int) : Value → List Asn → Prop := fun v Γ => ∃ g c0 rest M' f', v = hP' g ∧ Γ = [(bx gB 131 (bkc (hdO none ((g, c0) :: rest)) (lsO none ((g, c0) :: rest)) per burst (clients : Int) m)), mp prM m M', (pool 135 f')] ∧ BkI burst clients ((g, c0) :: rest) M' f' ∧ keptD burst clients D p now = (c0, rest.map (·.2))
theorem kept_t (L : List Nd) (M : List (Pf × Option Nat)) (hI : BkI burst clients L M f) (p : Pf) (now : Int) (hp : in64 p.2) (n1 : 0 ≤ now) (n2 : now < 18446744073709551616) (hb : 0 ≤ burst) (hcl : 1 ≤ clients) :
    Triple Try.prog 56 #[hP' gB, ag (pfc p), .int .u64 now] [(bx gB 131 (bkc (hdO none L) (lsO none L) per burst (clients : Int) m)), mp prM m M, (pool 135 f)] (RKept gB m per burst clients (L.map (·.2)) p now) := by
  have hwf : prM.wf p := hp
  rcases Classical.em (∃ c ∈ L, c.2.p = p) with hex | hno
  · obtain ⟨x, hx, hxp⟩ := hex
    obtain ⟨A, B, rfl⟩ := List.append_of_mem hx
    have hA : ∀ y ∈ A, y.2.p ≠ p := fun y hy => by rw [← hxp]; exact (List.pairwise_append.1 hI.keys).2.2 y hy x (List.mem_cons_self ..)
    have hfind : mfind M p = some (some x.1) := (hI.key _ _).2 ⟨x, hx, hxp, rfl⟩
    have hget : prM.vc (mget prM M p) = hP' x.1 := by unfold mget; rw [hfind]; rfl
    have hhas : mhas M p = true := by unfold mhas; rw [hfind]; rfl
    obtain ⟨f1, c1, l1, e1⟩ := out_l gB m per burst (clients : Int) f A B x hI.lk hI.nod
    obtain ⟨q1, q2, q3⟩ := ne_of_pw hI.nod rfl
    obtain ⟨f2, c2, l2⟩ := ahead_l gB m per burst (clients : Int) f1 (A ++ B) x l1 e1 (fun y hy => (List.mem_append.1 hy).elim (q1 y) (q2 y)) q3
    have hR : RKept gB m per burst clients ((A ++ x :: B).map (·.2)) p now (hP' x.1) [(bx gB 131 (bkc (some x.1) (lsO none (x :: (A ++ B))) per burst (clients : Int) m)), mp prM m M, (pool 135 f2)] := ⟨x.1, x.2, A ++ B, M, f2, rfl, rfl, hI.perm List.perm_middle l2, keptD_found hxp hA⟩
    clear hI hx hfind l1 e1 q1 q2 q3 l2
    generalize hdO none (A ++ x :: B) = fi at c1 ⊢
    generalize lsO none (A ++ x :: B) = la at c1 ⊢
    generalize hdO none (A ++ B) = fi1 at c1 c2
    generalize lsO none (A ++ B) = la1 at c1 c2
    generalize lsO none (x :: (A ++ B)) = la2 at c2 hR
    generalize ((A ++ x :: B).map (·.2)) = D at hR ⊢
    refine Triple.enter Try.func56 rfl Try.ntmps56 rfl (fun W => ?_)
    dsimp only [argsF, Nat.reduceAdd]
    repeat' (first
     | refine WPl.nil ?_ | refine WPq.then ?_ | refine WPq.thenR ?_ | refine WPq.thenE ?_ | refine WPq.blockN ?_ | refine WPq.blockR ?_ | refine WPq.blockE ?_ | refine WPq.blockO rfl ?_ | refine WPc.seq ?_ | refine WPc.block ?_ | refine WPc.ret ?_ | refine WPc.exit ?_ | refine WPc.skip ?_ | refine WPc.region ?_
     | (refine isReg 1 ?_; refine WPc.drA [([], [15]), ([0], [11, 15]), ([0, 1], [11, 12, 15]), ([0, 1, 2], [11, 12, 13, 15]), ([], [11, 12, 13, 14]), ([0, 1, 2, 3, 4], [11, 12, 13, 14, 15]), ([0, 1, 2, 3, 4, 5], [11, 12, 13, 14, 15, 16]), ([0, 1, 2, 3, 4, 5, 6], [10, 11, 12, 13, 14, 15, 16, 18]), ([0, 1, 2, 3, 4, 5, 6], [7, 10, 11, 12, 13, 14, 15, 16, 17]), ([0, 1, 2, 3, 4, 5, 6, 7], [10, 11, 12, 13, 14, 15, 16, 17, 18]), ([0, 1, 2, 3, 4, 5, 6, 7, 8, 9], [7, 10, 11, 12, 13, 14, 15, 16, 17, 18])] [] (Γx := []) ?_; dsimp only [prev0, List.length_nil, List.length_cons])
     | (refine isReg 3 ?_; refine WPc.drA [([], [27, 28, 29, 30, 31]), ([0], [22, 27, 28, 29, 30, 31]), ([0, 1], [22, 23, 27, 28, 29, 30, 31]), ([0, 1, 2], [22, 23, 24, 27, 28, 29, 30, 31]), ([0, 1, 2, 3], [22, 23, 24, 25, 27, 28, 29, 30, 31]), ([], [22, 23, 24, 25, 26]), ([5], [22, 23, 24, 25, 26, 27]), ([5, 6], [22, 23, 24, 25, 26, 27, 28]), ([5, 6, 7], [22, 23, 24, 25, 26, 27, 28, 29]), ([5, 6, 7, 8], [22, 23, 24, 25, 26, 27, 28, 29, 30]), ([0, 1, 2, 3, 4, 5, 6, 7, 8, 9], [22, 23, 24, 25, 26, 27, 28, 29, 30, 31]), ([0, 1, 2, 3, 4, 5, 6, 7, 8, 9, 10], [22, 23, 24, 25, 26, 27, 28, 29, 30, 31, 32])] [] (Γx := []) ?_; dsimp only [prev0, List.length_nil, List.length_cons])
     | (refine isReg 7 ?_; refine WPc.drA [([], [52, 53, 54, 55]), ([0], [48, 52, 53, 54, 55]), ([0, 1], [48, 49, 52, 53, 54, 55]), ([0, 1, 2], [48, 49, 50, 52, 53, 54, 55]), ([], [48, 49, 50, 51]), ([4], [48, 49, 50, 51, 52]), ([4, 5], [48, 49, 50, 51, 52, 53]), ([4, 5, 6], [48, 49, 50, 51, 52, 53, 54]), ([0, 1, 2, 3, 4, 5, 6, 7], [48, 49, 50, 51, 52, 53, 54, 55])] [] (Γx := []) ?_; dsimp only [prev0, List.length_nil, List.length_cons])
     | (refine isReg 8 ?_; refine WPc.drA [([], [57, 58, 59, 60, 61, 62]), ([], [56, 62]), ([1], [56, 57, 62]), ([1, 2], [56, 57, 58, 62]), ([1, 2, 3], [56, 57, 58, 59, 62]), ([1, 2, 3, 4], [56, 57, 58, 59, 60, 62]), ([], [56, 57, 58, 59, 60, 61]), ([0, 1, 2, 3, 4, 5, 6], [56, 57, 58, 59, 60, 61, 62]), ([0, 1, 2, 3, 4, 5, 6, 7], [56, 57, 58, 59, 60, 61, 62, 63]), ([0, 1, 2, 3, 4, 5, 6, 7, 8], [56, 57, 58, 59, 60, 61, 62, 63, 64])] [] (Γx := []) ?_; dsimp only [prev0, List.length_nil, List.length_cons])
     | (refine isReg 9 ?_; refine WPc.drA [([], [69, 70]), ([0], [65, 69, 70]), ([0, 1], [65, 66, 69, 70]), ([0, 1, 2], [65, 66, 67, 69, 70]), ([], [65, 66, 67, 68, 70]), ([], [65, 66, 67, 68, 69]), ([0, 1, 2, 3, 4, 5], [65, 66, 67, 68, 69, 70])] [] (Γx := []) ?_; dsimp only [prev0, List.length_nil, List.length_cons])
     | (refine gAny ?_; first | (refine gC 37 ?_; refine RGl.turns (fun e hk => by (try dsimp only [bndR, ensR, oksR, fcutR, List.append_nil, List.nil_append, List.cons_append, List.append_assoc] at hk ⊢); exact OpT.callTs (c1)) ?_) | (refine gC 75 ?_; refine RGl.turns (fun e hk => by (try dsimp only [bndR, ensR, oksR, fcutR, List.append_nil, List.nil_append, List.cons_append, List.append_assoc] at hk ⊢); exact OpT.callTs (c2)) ?_) | (refine gD 16 ?_; refine RGl.rdX (fun e hk => by (try dsimp only [bndR, ensR, oksR, fcutR, List.append_nil, List.nil_append, List.cons_append, List.append_assoc] at hk ⊢); exact ReadR.lookOk (M := prM) (k := p) hwf rfl rfl memA hget hhas) ?_) | (refine gOp ?_; first | refine RGl.rdA ?_ | refine RGl.rdX (fun e hk => by (try dsimp only [bndR, ensR, oksR, fcutR, List.append_nil, List.nil_append, List.cons_append, List.append_assoc] at hk ⊢); exact readB) ?_) | (refine gBx ?_; refine RGl.nwA ?_) | (refine RGl.fin (fun e hk => ?_); (try dsimp only [bndA, ensAR, oksA, List.append_nil, List.nil_append, List.cons_append, List.append_assoc] at hk ⊢); (repeat (obtain ⟨hk1, hk⟩ := hk))) | fail)
     | (refine isCond ?_; first | refine WPc.cT ?_ | refine WPc.cF ?_ | (refine WPc.cQ (fun hc => ?_) (fun hc => ?_) <;> try exact prA))
     | (refine isD 16 ?_; refine WPl.rdX (ReadR.lookOk (M := prM) (k := p) hwf rfl rfl memA hget hhas) ?_)
     | (refine isC 37 ?_; refine WPl.cTs (c1) ?_; (try dsimp only [putF, List.cons_append, List.nil_append]))
     | (refine isC 75 ?_; refine WPl.cTs (c2) ?_; (try dsimp only [putF, List.cons_append, List.nil_append]))
     | (refine isOp ?_; first | refine WPl.rd ?_ | refine WPl.sk ?_ | refine WPl.rdB ?_)
     | (refine isBx ?_; refine WPl.nw fun g => ?_)
     | (show WPl _ _ _ _ _ _ _ (⟨_, .indexAddr _ _ _, _, _, _, _⟩ :: _) _; refine WPl.rdX (ReadR.indexE rfl rfl hasA (by first | assumption | omega)) ?_)
     | (show WPl _ _ _ _ _ _ _ (⟨_, .fieldAddr _ _ _, _, _, _, _⟩ :: _) _; refine WPl.rdX (ReadR.fieldE rfl hasA (by first | assumption | omega)) ?_)
     | (show WPl _ _ _ _ _ _ _ (⟨_, .load _ _, _, _, _, _⟩ :: _) _; first | refine WPl.rdX (ReadR.loadE rfl hasA (by assumption)) ?_ | refine WPl.rdX (ReadR.loadES (by assumption) (by first | assumption | omega) rfl hasA) ?_)
     | (show WPl _ _ _ _ _ _ _ (⟨_, .slice _ _ _ _ _, _, _, _, _⟩ :: _) _; first | refine WPl.rdX (ReadR.sliceH rfl rfl hasA (by omega)) ?_ | refine WPl.rdX (ReadR.sliceL rfl rfl hasA (by omega)) ?_ | refine WPl.rdX (ReadR.sliceLH rfl rfl rfl hasA (by omega) (by omega)) ?_)
     | (refine WPl.spQ (fun hc => ?_) (fun hc => ?_) <;> try exact prA)
     | fail)
    exact WPq.dX (vs := [_]) _ hR
  · have hno' : ∀ c ∈ L, c.2.p ≠ p := fun c hc e => hno ⟨c, hc, e⟩
    clear hno
    have hfind := hI.none' hno'
    have hget : prM.vc (mget prM M p) = .pointer none := by unfold mget; rw [hfind]; rfl
    have hhas : mhas M p = false := by unfold mhas; rw [hfind]; rfl
    have hk := keptD_new (burst := burst) (clients := clients) (now := now) hno'
    have hML := hI.len
    by_cases hfull : clients ≤ L.length
    · have hfl : (M.length : Int) ≥ (clients : Int) := by omega
      obtain ⟨A, eo, rfl⟩ := snoc_of (A := L) (by rintro rfl; simp at hfull; omega)
      rw [if_pos hfull, List.dropLast_concat] at hk
      obtain ⟨f1, c1, l1, e1⟩ := out_l gB m per burst (clients : Int) f A [] eo hI.lk hI.nod
      rw [List.append_nil] at c1 l1
      have hD := hI.drop l1
      have hwe : prM.wf eo.2.p := (hI.ok eo (by simp)).1
      have hAn : ∀ c ∈ A, c.2.p ≠ p := fun c hc => hno' c (List.mem_append_left _ hc)
      have hlen : A.length < clients := by have := hI.few; simp at this; omega
      rw [show lsO none (A ++ [eo]) = some eo.1 from lsO_snoc] at c1 ⊢
      obtain ⟨D, hDD⟩ : ∃ D, D = (A ++ [eo]).map (·.2) := ⟨_, rfl⟩
      rw [← hDD] at hk ⊢
      clear hI hfind hML hno' hDD hfull
      generalize hdO none (A ++ [eo]) = fi at c1 ⊢
      refine Triple.enter Try.func56 rfl Try.ntmps56 rfl (fun W => ?_)
      dsimp only [argsF, Nat.reduceAdd]
      repeat' (first
       | (refine isReg 9 ?_; refine WPc.poolIn (T := 135) (cs := clc ⟨p, burst, now⟩ none none) (fun hg0 => ?_); generalize blk (e (0 + 1 + 1 + 1 + 1 + 1 + 1 + 1 + 1)).fst = g0 at hg0 ⊢; obtain ⟨f2, c2, l2⟩ := ahead_l gB m per burst (clients : Int) (fset f1 g0 (clc ⟨p, burst, now⟩ none none)) A (g0, ⟨p, burst, now⟩) (lnk_set (fun c hc he => by obtain ⟨y1, y2, hy⟩ := lnk_mem hc hD.lk; rw [he, hg0] at hy; cases hy) hD.lk) fset_same (fun c hc he => by obtain ⟨y1, y2, hy⟩ := lnk_mem hc hD.lk; rw [show c.1 = g0 from he, hg0] at hy; cases hy) hD.nod; dsimp only at c2)
       | refine WPl.nil ?_ | refine WPq.then ?_ | refine WPq.thenR ?_ | refine WPq.thenE ?_ | refine WPq.blockN ?_ | refine WPq.blockR ?_ | refine WPq.blockE ?_ | refine WPq.blockO rfl ?_ | refine WPc.seq ?_ | refine WPc.block ?_ | refine WPc.ret ?_ | refine WPc.exit ?_ | refine WPc.skip ?_ | refine WPc.region ?_
       | (refine isReg 1 ?_; refine WPc.drA [([], [15]), ([0], [11, 15]), ([0, 1], [11, 12, 15]), ([0, 1, 2], [11, 12, 13, 15]), ([], [11, 12, 13, 14]), ([0, 1, 2, 3, 4], [11, 12, 13, 14, 15]), ([0, 1, 2, 3, 4, 5], [11, 12, 13, 14, 15, 16]), ([0, 1, 2, 3, 4, 5, 6], [10, 11, 12, 13, 14, 15, 16, 18]), ([0, 1, 2, 3, 4, 5, 6], [7, 10, 11, 12, 13, 14, 15, 16, 17]), ([0, 1, 2, 3, 4, 5, 6, 7], [10, 11, 12, 13, 14, 15, 16, 17, 18]), ([0, 1, 2, 3, 4, 5, 6, 7, 8, 9], [7, 10, 11, 12, 13, 14, 15, 16, 17, 18])] [] (Γx := []) ?_; dsimp only [prev0, List.length_nil, List.length_cons])
       | (refine isReg 3 ?_; refine WPc.drA [([], [27, 28, 29, 30, 31]), ([0], [22, 27, 28, 29, 30, 31]), ([0, 1], [22, 23, 27, 28, 29, 30, 31]), ([0, 1, 2], [22, 23, 24, 27, 28, 29, 30, 31]), ([0, 1, 2, 3], [22, 23, 24, 25, 27, 28, 29, 30, 31]), ([], [22, 23, 24, 25, 26]), ([5], [22, 23, 24, 25, 26, 27]), ([5, 6], [22, 23, 24, 25, 26, 27, 28]), ([5, 6, 7], [22, 23, 24, 25, 26, 27, 28, 29]), ([5, 6, 7, 8], [22, 23, 24, 25, 26, 27, 28, 29, 30]), ([0, 1, 2, 3, 4, 5, 6, 7, 8, 9], [22, 23, 24, 25, 26, 27, 28, 29, 30, 31]), ([0, 1, 2, 3, 4, 5, 6, 7, 8, 9, 10], [22, 23, 24, 25, 26, 27, 28, 29, 30, 31, 32])] [] (Γx := []) ?_; dsimp only [prev0, List.length_nil, List.length_cons])
       | (refine isReg 7 ?_; refine WPc.drA [([9], [52, 53, 54, 55]), ([0, 9], [48, 52, 53, 54, 55]), ([0, 1, 9], [48, 49, 52, 53, 54, 55]), ([0, 1, 2, 9], [48, 49, 50, 52, 53, 54, 55]), ([9], [48, 49, 50, 51]), ([4, 9], [48, 49, 50, 51, 52]), ([4, 5, 9], [48, 49, 50, 51, 52, 53]), ([4, 5, 6, 9], [48, 49, 50, 51, 52, 53, 54]), ([0, 1, 2, 3, 4, 5, 6, 7, 9], [48, 49, 50, 51, 52, 53, 54, 55])] [(9, 8), (9, 0), (9, 1), (9, 2), (9, 3), (9, 4), (9, 5), (9, 6), (9, 7)] (Γx := [mp prM m M]) (hox := ownsA) ?_; dsimp only [prev0, List.length_nil, List.length_cons])
       | (refine isReg 8 ?_; refine WPc.drA [([], [57, 58, 59, 60, 61, 62]), ([], [56, 62]), ([1], [56, 57, 62]), ([1, 2], [56, 57, 58, 62]), ([1, 2, 3], [56, 57, 58, 59, 62]), ([1, 2, 3, 4], [56, 57, 58, 59, 60, 62]), ([], [56, 57, 58, 59, 60, 61]), ([0, 1, 2, 3, 4, 5, 6], [56, 57, 58, 59, 60, 61, 62]), ([0, 1, 2, 3, 4, 5, 6, 7], [56, 57, 58, 59, 60, 61, 62, 63]), ([0, 1, 2, 3, 4, 5, 6, 7, 8], [56, 57, 58, 59, 60, 61, 62, 63, 64])] [] (Γx := []) ?_; dsimp only [prev0, List.length_nil, List.length_cons])
       | (refine isReg 9 ?_; refine WPc.drA [([7], [69, 70]), ([0, 7], [65, 69, 70]), ([0, 1, 7], [65, 66, 69, 70]), ([0, 1, 2, 7], [65, 66, 67, 69, 70]), ([7], [65, 66, 67, 68, 70]), ([7], [65, 66, 67, 68, 69]), ([0, 1, 2, 3, 4, 5, 7], [65, 66, 67, 68, 69, 70])] [(7, 6), (7, 0), (7, 1), (7, 2), (7, 3), (7, 4), (7, 5)] (Γx := [mp prM m (mdel M eo.2.p)]) (hox := ownsA) ?_; dsimp only [prev0, List.length_nil, List.length_cons])
       | (refine gAny ?_; first | (refine gC 47 ?_; refine RGl.turns (fun e hk => by (try dsimp only [bndR, ensR, oksR, fcutR, List.append_nil, List.nil_append, List.cons_append, List.append_assoc] at hk ⊢); exact OpT.callTs (c1)) ?_) | (refine gOp ?_; refine RGl.turn (fun e hk => by (try dsimp only [bndR, ensR, oksR, fcutR, List.append_nil, List.nil_append, List.cons_append, List.append_assoc] at hk ⊢); exact OpT.mdel (k := eo.2.p) (hwe) rfl rfl takesA) ?_) | (refine gOp ?_; refine RGl.turn (fun e hk => by (try dsimp only [bndR, ensR, oksR, fcutR, List.append_nil, List.nil_append, List.cons_append, List.append_assoc] at hk ⊢); exact OpT.mput (k := p) (v := some g0) (hwf) rfl rfl rfl takesA) ?_) | (refine gC 75 ?_; refine RGl.turns (fun e hk => by (try dsimp only [bndR, ensR, oksR, fcutR, List.append_nil, List.nil_append, List.cons_append, List.append_assoc] at hk ⊢); exact OpT.callTs (c2)) ?_) | (refine gD 16 ?_; refine RGl.rdX (fun e hk => by (try dsimp only [bndR, ensR, oksR, fcutR, List.append_nil, List.nil_append, List.cons_append, List.append_assoc] at hk ⊢); exact ReadR.lookOk (M := prM) (k := p) hwf rfl rfl memA hget hhas) ?_) | (refine gD 26 ?_; refine RGl.rdX (fun e hk => by (try dsimp only [bndR, ensR, oksR, fcutR, List.append_nil, List.nil_append, List.cons_append, List.append_assoc] at hk ⊢); exact ReadR.mlen rfl memA) ?_) | (refine gD 32 ?_; refine RGl.rdX (fun e hk => by (try dsimp only [bndR, ensR, oksR, fcutR, List.append_nil, List.nil_append, List.cons_append, List.append_assoc] at hk ⊢); exact ReadR.binE rfl rfl BinR.geq (congrArg Value.bool (decide_eq_true hfl))) ?_) | (refine gD 55 ?_; refine RGl.rdX (fun e hk => by (try dsimp only [bndR, ensR, oksR, fcutR, List.append_nil, List.nil_append, List.cons_append, List.append_assoc] at hk ⊢); exact ReadR.loadPA memA e1 rfl rfl) ?_) | (refine gOp ?_; first | refine RGl.rdA ?_ | refine RGl.rdX (fun e hk => by (try dsimp only [bndR, ensR, oksR, fcutR, List.append_nil, List.nil_append, List.cons_append, List.append_assoc] at hk ⊢); exact readB) ?_) | (refine gBx ?_; refine RGl.nwA ?_) | (refine RGl.fin (fun e hk => ?_); (try dsimp only [bndA, ensAR, oksA, List.append_nil, List.nil_append, List.cons_append, List.append_assoc] at hk ⊢); (repeat (obtain ⟨hk1, hk⟩ := hk))) | fail)
       | (refine isCond ?_; first | refine WPc.cT ?_ | refine WPc.cF ?_ | (refine WPc.cQ (fun hc => ?_) (fun hc => ?_) <;> try exact prA))
       | (refine isD 16 ?_; refine WPl.rdX (ReadR.lookOk (M := prM) (k := p) hwf rfl rfl memA hget hhas) ?_)
       | (refine isD 26 ?_; refine WPl.rdX (ReadR.mlen rfl memA) ?_)
       | (refine isD 32 ?_; refine WPl.rdX (ReadR.binE rfl rfl BinR.geq (congrArg Value.bool (decide_eq_true hfl))) ?_)
       | (refine isC 47 ?_; refine WPl.cTs (c1) ?_; (try dsimp only [putF, List.cons_append, List.nil_append]))
       | (refine isD 55 ?_; refine WPl.rdX (ReadR.loadPA memA e1 rfl rfl) ?_)
       | (refine WPl.mdel (eo.2.p) (hwe) ?_)
       | (refine WPl.mput (p) (some g0) (hwf) ?_)
       | (refine isC 75 ?_; refine WPl.cTs (c2) ?_; (try dsimp only [putF, List.cons_append, List.nil_append]))
       | (refine isOp ?_; first | refine WPl.rd ?_ | refine WPl.sk ?_ | refine WPl.rdB ?_)
       | (refine isBx ?_; refine WPl.nw fun g => ?_)
       | (show WPl _ _ _ _ _ _ _ (⟨_, .indexAddr _ _ _, _, _, _, _⟩ :: _) _; refine WPl.rdX (ReadR.indexE rfl rfl hasA (by first | assumption | omega)) ?_)
       | (show WPl _ _ _ _ _ _ _ (⟨_, .fieldAddr _ _ _, _, _, _, _⟩ :: _) _; refine WPl.rdX (ReadR.fieldE rfl hasA (by first | assumption | omega)) ?_)
       | (show WPl _ _ _ _ _ _ _ (⟨_, .load _ _, _, _, _, _⟩ :: _) _; first | refine WPl.rdX (ReadR.loadE rfl hasA (by assumption)) ?_ | refine WPl.rdX (ReadR.loadES (by assumption) (by first | assumption | omega) rfl hasA) ?_)
       | (show WPl _ _ _ _ _ _ _ (⟨_, .slice _ _ _ _ _, _, _, _, _⟩ :: _) _; first | refine WPl.rdX (ReadR.sliceH rfl rfl hasA (by omega)) ?_ | refine WPl.rdX (ReadR.sliceL rfl rfl hasA (by omega)) ?_ | refine WPl.rdX (ReadR.sliceLH rfl rfl rfl hasA (by omega) (by omega)) ?_)
       | (refine WPl.spQ (fun hc => ?_) (fun hc => ?_) <;> try exact prA)
       | fail)
      exact WPq.dX (vs := [_]) _ ⟨g0, ⟨p, burst, now⟩, A, mput (mdel M eo.2.p) p (some g0), f2, rfl, rfl, hD.new (c := (g0, ⟨p, burst, now⟩)) hAn (fun c hc he => by obtain ⟨y1, y2, hy⟩ := lnk_mem hc hD.lk; rw [show c.1 = g0 from he, hg0] at hy; cases hy) hlen l2 ⟨hp, hb, Int.le_refl _, n1, n2⟩, hk⟩
    · have hfl : ¬ (M.length : Int) ≥ (clients : Int) := by omega
      rw [if_neg hfull] at hk
      have hlen : L.length < clients := by omega
      obtain ⟨D, hDD⟩ : ∃ D, D = L.map (·.2) := ⟨_, rfl⟩
      rw [← hDD] at hk ⊢
      clear hfind hML hfull
      obtain ⟨fi, hfi⟩ : ∃ fi, fi = hdO none L := ⟨_, rfl⟩
      obtain ⟨la, hla⟩ : ∃ la, la = lsO none L := ⟨_, rfl⟩
      rw [← hfi, ← hla]
      refine Triple.enter Try.func56 rfl Try.ntmps56 rfl (fun W => ?_)
      dsimp only [argsF, Nat.reduceAdd]
      repeat' (first
       | (refine isReg 9 ?_; refine WPc.poolIn (T := 135) (cs := clc ⟨p, burst, now⟩ none none) (fun hg0 => ?_); generalize blk (e (0 + 1 + 1 + 1 + 1 + 1 + 1 + 1 + 1)).fst = g0 at hg0 ⊢; obtain ⟨f2, c2, l2⟩ := ahead_l gB m per burst (clients : Int) (fset f g0 (clc ⟨p, burst, now⟩ none none)) L (g0, ⟨p, burst, now⟩) (lnk_set (fun c hc he => by obtain ⟨y1, y2, hy⟩ := lnk_mem hc hI.lk; rw [he, hg0] at hy; cases hy) hI.lk) fset_same (fun c hc he => by obtain ⟨y1, y2, hy⟩ := lnk_mem hc hI.lk; rw [show c.1 = g0 from he, hg0] at hy; cases hy) hI.nod; rw [← hfi, ← hla] at c2; dsimp only at c2)
       | refine WPl.nil ?_ | refine WPq.then ?_ | refine WPq.thenR ?_ | refine WPq.thenE ?_ | refine WPq.blockN ?_ | refine WPq.blockR ?_ | refine WPq.blockE ?_ | refine WPq.blockO rfl ?_ | refine WPc.seq ?_ | refine WPc.block ?_ | refine WPc.ret ?_ | refine WPc.exit ?_ | refine WPc.skip ?_ | refine WPc.region ?_
       | (refine isReg 1 ?_; refine WPc.drA [([], [15]), ([0], [11, 15]), ([0, 1], [11, 12, 15]), ([0, 1, 2], [11, 12, 13, 15]), ([], [11, 12, 13, 14]), ([0, 1, 2, 3, 4], [11, 12, 13, 14, 15]), ([0, 1, 2, 3, 4, 5], [11, 12, 13, 14, 15, 16]), ([0, 1, 2, 3, 4, 5, 6], [10, 11, 12, 13, 14, 15, 16, 18]), ([0, 1, 2, 3, 4, 5, 6], [7, 10, 11, 12, 13, 14, 15, 16, 17]), ([0, 1, 2, 3, 4, 5, 6, 7], [10, 11, 12, 13, 14, 15, 16, 17, 18]), ([0, 1, 2, 3, 4, 5, 6, 7, 8, 9], [7, 10, 11, 12, 13, 14, 15, 16, 17, 18])] [] (Γx := []) ?_; dsimp only [prev0, List.length_nil, List.length_cons])
       | (refine isReg 3 ?_; refine WPc.drA [([], [27, 28, 29, 30, 31]), ([0], [22, 27, 28, 29, 30, 31]), ([0, 1], [22, 23, 27, 28, 29, 30, 31]), ([0, 1, 2], [22, 23, 24, 27, 28, 29, 30, 31]), ([0, 1, 2, 3], [22, 23, 24, 25, 27, 28, 29, 30, 31]), ([], [22, 23, 24, 25, 26]), ([5], [22, 23, 24, 25, 26, 27]), ([5, 6], [22, 23, 24, 25, 26, 27, 28]), ([5, 6, 7], [22, 23, 24, 25, 26, 27, 28, 29]), ([5, 6, 7, 8], [22, 23, 24, 25, 26, 27, 28, 29, 30]), ([0, 1, 2, 3, 4, 5, 6, 7, 8, 9], [22, 23, 24, 25, 26, 27, 28, 29, 30, 31]), ([0, 1, 2, 3, 4, 5, 6, 7, 8, 9, 10], [22, 23, 24, 25, 26, 27, 28, 29, 30, 31, 32])] [] (Γx := []) ?_; dsimp only [prev0, List.length_nil, List.length_cons])
       | (refine isReg 7 ?_; refine WPc.drA [([], [52, 53, 54, 55]), ([0], [48, 52, 53, 54, 55]), ([0, 1], [48, 49, 52, 53, 54, 55]), ([0, 1, 2], [48, 49, 50, 52, 53, 54, 55]), ([], [48, 49, 50, 51]), ([4], [48, 49, 50, 51, 52]), ([4, 5], [48, 49, 50, 51, 52, 53]), ([4, 5, 6], [48, 49, 50, 51, 52, 53, 54]), ([0, 1, 2, 3, 4, 5, 6, 7], [48, 49, 50, 51, 52, 53, 54, 55])] [] (Γx := []) ?_; dsimp only [prev0, List.length_nil, List.length_cons])
       | (refine isReg 8 ?_; refine WPc.drA [([], [57, 58, 59, 60, 61, 62]), ([], [56, 62]), ([1], [56, 57, 62]), ([1, 2], [56, 57, 58, 62]), ([1, 2, 3], [56, 57, 58, 59, 62]), ([1, 2, 3, 4], [56, 57, 58, 59, 60, 62]), ([], [56, 57, 58, 59, 60, 61]), ([0, 1, 2, 3, 4, 5, 6], [56, 57, 58, 59, 60, 61, 62]), ([0, 1, 2, 3, 4, 5, 6, 7], [56, 57, 58, 59, 60, 61, 62, 63]), ([0, 1, 2, 3, 4, 5, 6, 7, 8], [56, 57, 58, 59, 60, 61, 62, 63, 64])] [] (Γx := []) ?_; dsimp only [prev0, List.length_nil, List.length_cons])
       | (refine isReg 9 ?_; refine WPc.drA [([7], [69, 70]), ([0, 7], [65, 69, 70]), ([0, 1, 7], [65, 66, 69, 70]), ([0, 1, 2, 7], [65, 66, 67, 69, 70]), ([7], [65, 66, 67, 68, 70]), ([7], [65, 66, 67, 68, 69]), ([0, 1, 2, 3, 4, 5, 7], [65, 66, 67, 68, 69, 70])] [(7, 6), (7, 0), (7, 1), (7, 2), (7, 3), (7, 4), (7, 5)] (Γx := [mp prM m M]) (hox := ownsA) ?_; dsimp only [prev0, List.length_nil, List.length_cons])
       | (refine gAny ?_; first | (refine gOp ?_; refine RGl.turn (fun e hk => by (try dsimp only [bndR, ensR, oksR, fcutR, List.append_nil, List.nil_append, List.cons_append, List.append_assoc] at hk ⊢); exact OpT.mput (k := p) (v := some g0) (hwf) rfl rfl rfl takesA) ?_) | (refine gC 75 ?_; refine RGl.turns (fun e hk => by (try dsimp only [bndR, ensR, oksR, fcutR, List.append_nil, List.nil_append, List.cons_append, List.append_assoc] at hk ⊢); exact OpT.callTs (c2)) ?_) | (refine gD 16 ?_; refine RGl.rdX (fun e hk => by (try dsimp only [bndR, ensR, oksR, fcutR, List.append_nil, List.nil_append, List.cons_append, List.append_assoc] at hk ⊢); exact ReadR.lookOk (M := prM) (k := p) hwf rfl rfl memA hget hhas) ?_) | (refine gD 26 ?_; refine RGl.rdX (fun e hk => by (try dsimp only [bndR, ensR, oksR, fcutR, List.append_nil, List.nil_append, List.cons_append, List.append_assoc] at hk ⊢); exact ReadR.mlen rfl memA) ?_) | (refine gD 32 ?_; refine RGl.rdX (fun e hk => by (try dsimp only [bndR, ensR, oksR, fcutR, List.append_nil, List.nil_append, List.cons_append, List.append_assoc] at hk ⊢); exact ReadR.binE rfl rfl BinR.geq (congrArg Value.bool (decide_eq_false hfl))) ?_) | (refine gOp ?_; first | refine RGl.rdA ?_ | refine RGl.rdX (fun e hk => by (try dsimp only [bndR, ensR, oksR, fcutR, List.append_nil, List.nil_append, List.cons_append, List.append_assoc] at hk ⊢); exact readB) ?_) | (refine gBx ?_; refine RGl.nwA ?_) | (refine RGl.fin (fun e hk => ?_); (try dsimp only [bndA, ensAR, oksA, List.append_nil, List.nil_append, List.cons_append, List.append_assoc] at hk ⊢); (repeat (obtain ⟨hk1, hk⟩ := hk))) | fail)
       | (refine isCond ?_; first | refine WPc.cT ?_ | refine WPc.cF ?_ | (refine WPc.cQ (fun hc => ?_) (fun hc => ?_) <;> try exact prA))
       | (refine isD 16 ?_; refine WPl.rdX (ReadR.lookOk (M := prM) (k := p) hwf rfl rfl memA hget hhas) ?_)
       | (refine isD 26 ?_; refine WPl.rdX (ReadR.mlen rfl memA) ?_)
       | (refine isD 32 ?_; refine WPl.rdX (ReadR.binE rfl rfl BinR.geq (congrArg Value.bool (decide_eq_false hfl))) ?_)
       | (refine WPl.mput (p) (some g0) (hwf) ?_)
       | (refine isC 75 ?_; refine WPl.cTs (c2) ?_; (try dsimp only [putF, List.cons_append, List.nil_append]))
       | (refine isOp ?_; first | refine WPl.rd ?_ | refine WPl.sk ?_ | refine WPl.rdB ?_)
       | (refine isBx ?_; refine WPl.nw fun g => ?_)
       | (show WPl _ _ _ _ _ _ _ (⟨_, .indexAddr _ _ _, _, _, _, _⟩ :: _) _; refine WPl.rdX (ReadR.indexE rfl rfl hasA (by first | assumption | omega)) ?_)
       | (show WPl _ _ _ _ _ _ _ (⟨_, .fieldAddr _ _ _, _, _, _, _⟩ :: _) _; refine WPl.rdX (ReadR.fieldE rfl hasA (by first | assumption | omega)) ?_)
       | (show WPl _ _ _ _ _ _ _ (⟨_, .load _ _, _, _, _, _⟩ :: _) _; first | refine WPl.rdX (ReadR.loadE rfl hasA (by assumption)) ?_ | refine WPl.rdX (ReadR.loadES (by assumption) (by first | assumption | omega) rfl hasA) ?_)
       | (show WPl _ _ _ _ _ _ _ (⟨_, .slice _ _ _ _ _, _, _, _, _⟩ :: _) _; first | refine WPl.rdX (ReadR.sliceH rfl rfl hasA (by omega)) ?_ | refine WPl.rdX (ReadR.sliceL rfl rfl hasA (by omega)) ?_ | refine WPl.rdX (ReadR.sliceLH rfl rfl rfl hasA (by omega) (by omega)) ?_)
       | (refine WPl.spQ (fun hc => ?_) (fun hc => ?_) <;> try exact prA)
       | fail)
      exact WPq.dX (vs := [_]) _ ⟨g0, ⟨p, burst, now⟩, L, mput M p (some g0), f2, rfl, rfl, hI.new (c := (g0, ⟨p, burst, now⟩)) hno' (fun c hc he => by obtain ⟨y1, y2, hy⟩ := lnk_mem hc hI.lk; rw [show c.1 = g0 from he, hg0] at hy; cases hy) hlen l2 ⟨hp, hb, Int.le_refl _, n1, n2⟩, hDD ▸ hk⟩
end
end Go.Proofs.Ytncgponcedkihaa
