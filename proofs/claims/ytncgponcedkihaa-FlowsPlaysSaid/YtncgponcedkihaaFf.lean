/- Layer 23 (flows): Put where there is no room. -/
import Derived.Test.YtncgponcedkihaaFe
namespace Go.Proofs.Ytncgponcedkihaa
open Go.RowKit
set_option linter.unusedSimpArgs false
set_option linter.unusedVariables false
set_option maxRecDepth 20000
set_option maxHeartbeats 4000000
attribute [local irreducible] WPc WPl WPq ReadR OpT BinR HasS bx rdN rowN Take Takes Prov Triple ResF BuildP Done ag Int.decLt Int.decLe Int.instDecidableEq
theorem mhas_filter {L : LL} {f : Fl} {q : Fl × En → Bool} (h : mhas L f = false) : mhas (L.filter q) f = false := by
  unfold mhas at h ⊢
  have h1 : mfind L f = none := by simpa using h
  have h2 := mfind_none_of h1
  rw [(mfind_none (fun x hx => h2 x (List.mem_filter.1 hx).1)).1]
  rfl
theorem lkd.sub {L : LL} {R R' : RR} {q : Fl × En → Bool} {r : Fl} (h : lkd L R) (h' : lkd (L.filter q) R') (hb : mhas R r = false) : mhas R' r = false := by
  cases hc : mfind R' r with
  | none => unfold mhas; rw [hc]; rfl
  | some f =>
    obtain ⟨a, h1, h2⟩ := (h'.li r f).1 hc
    have h3 := (List.mem_filter.1 (mfind_mem h1)).1
    have h4 := (h.li r f).2 ⟨a, mfind_at h.kn h3, h2⟩
    unfold mhas at hb
    rw [h4] at hb
    cases hb
section
variable (gT m1 m2 : Nat) (most : Int)
attribute [local irreducible] mp rg mpe mget mfind mput mdel
def RPutE (most now : Int) (L : LL) (f : Fl) (a : En) (m1 m2 : Nat) (A : Asn) : Value → List Asn → Prop := fun v Γ => ∃ (l : LL) (R' : RR), lkd l R' ∧ l = L.filter (fun x => !pExp now x.2) ∧ mhas R' (replyF f a) = false ∧
  (most ≤ (l.length : Int) ∧ v = .int .i64 2 ∧ Γ = [A, mp flM m1 l, mp rpM m2 R'] ∨ (l.length : Int) < most ∧ v = .int .i64 0 ∧ Γ = [A, mp flM m1 (mput l f a), mp rpM m2 (mput R' (replyF f a) f)])
theorem fputE_t (L : LL) (R : RR) (f : Fl) (a : En) (now : Int) (hk0 : lkd L R) (hlen : L.length ≤ 4096) (hf : flW f) (hr : flW (replyF f a)) (hb1 : mhas R (replyF f a) = false) (hb2 : mhas L f = false) (hm : (L.length : Int) ≥ most) :
    Triple Try.prog 25 #[hPf gT, ag (flc f), ag (enC a), .int .u64 now] [(bx gT 141 (fxc most m1 m2)), mp flM m1 L, mp rpM m2 R] (RPutE most now L f a m1 m2 ((bx gT 141 (fxc most m1 m2)))) := by
  have l1 := f.src.len
  have l2 := f.dst.len
  have l3 := a.ad.len
  have hwf : flM.wf f := hf
  have hwr : rpM.wf (replyF f a) := hr
  have c1 := freply_t f a
  unfold RPutE
  obtain ⟨r, hrr⟩ : ∃ r, r = replyF f a := ⟨_, rfl⟩
  rw [← hrr] at hwr c1 hb1 ⊢
  have l4 := r.src.len
  have l5 := r.dst.len
  obtain ⟨f2, hf2⟩ : ∃ f2, mget rpM R r = f2 := ⟨_, rfl⟩
  have hget : rpM.vc (mget rpM R r) = ag (flc f2) := by rw [hf2]; rfl
  have l6 := f2.src.len
  have l7 := f2.dst.len
  obtain ⟨a2, ha2⟩ : ∃ a2, mget flM L f = a2 := ⟨_, rfl⟩
  have hget2 : flM.vc (mget flM L f) = ag (enC a2) := by rw [ha2]; rfl
  have l8 := a2.ad.len
  clear hrr hf2 ha2 hr
  refine Triple.enter Try.func25 rfl Try.ntmps25 rfl (fun W => ?_)
  dsimp only [argsF, Nat.reduceAdd]
  repeat' (first
   | refine WPl.nil ?_ | refine WPq.then ?_ | refine WPq.thenR ?_ | refine WPq.thenE ?_ | refine WPq.blockN ?_ | refine WPq.blockR ?_ | refine WPq.blockE ?_ | refine WPq.blockO rfl ?_ | refine WPc.seq ?_ | refine WPc.block ?_ | refine WPc.ret ?_ | refine WPc.exit ?_ | refine WPc.skip ?_ | refine WPc.region ?_
   | (refine isReg 4 ?_; refine WPc.drA [([], [10, 26]), ([0], [10, 22, 26]), ([0, 1], [10, 22, 23, 26]), ([0, 1, 2], [10, 22, 23, 24, 26]), ([], [10, 22, 23, 24, 25]), ([0, 1, 2, 3, 4], [10, 22, 23, 24, 25, 26]), ([0, 1, 2, 3, 4, 5], [10, 22, 23, 24, 25, 26, 27]), ([0, 1, 2, 3, 4, 5, 6], [10, 21, 22, 23, 24, 25, 26, 27, 29]), ([0, 1, 2, 3, 4, 5, 6], [10, 21, 22, 23, 24, 25, 26, 27, 28]), ([], [21, 22, 23, 24, 25, 26, 27, 28, 29]), ([0, 1, 2, 3, 4, 5, 6, 7, 9], [10, 21, 22, 23, 24, 25, 26, 27, 28, 29]), ([0, 1, 2, 3, 4, 5, 6, 7, 8, 9, 10], [10, 21, 22, 23, 24, 25, 26, 27, 28, 29])] [(9, 10)] (Γx := []) ?_; dsimp only [prev0, List.length_nil, List.length_cons])
   | (refine isReg 10 ?_; refine WPc.drA [([], [14, 52]), ([0], [14, 48, 52]), ([0, 1], [14, 48, 49, 52]), ([0, 1, 2], [14, 48, 49, 50, 52]), ([], [14, 48, 49, 50, 51]), ([0, 1, 2, 3, 4], [14, 48, 49, 50, 51, 52]), ([0, 1, 2, 3, 4, 5], [14, 48, 49, 50, 51, 52, 53]), ([0, 1, 2, 3, 4, 5, 6], [14, 47, 48, 49, 50, 51, 52, 53, 55]), ([0, 1, 2, 3, 4, 5, 6], [14, 47, 48, 49, 50, 51, 52, 53, 54]), ([], [47, 48, 49, 50, 51, 52, 53, 54, 55]), ([0, 1, 2, 3, 4, 5, 6, 7, 9], [14, 47, 48, 49, 50, 51, 52, 53, 54, 55]), ([0, 1, 2, 3, 4, 5, 6, 7, 8, 9, 10], [14, 47, 48, 49, 50, 51, 52, 53, 54, 55])] [(9, 10)] (Γx := []) ?_; dsimp only [prev0, List.length_nil, List.length_cons])
   | (refine isReg 11 ?_; refine WPc.drA [([], []), ([0], [56]), ([0, 1], [56, 57]), ([0, 1, 2], [56, 57, 58, 64, 65, 66, 67]), ([0, 1, 2, 3], [56, 57, 58, 59, 64, 65, 66, 67]), ([0, 1, 2, 3, 4], [56, 57, 58, 59, 60, 64, 65, 66, 67]), ([0, 1, 2, 3, 4, 5], [56, 57, 58, 59, 60, 61, 64, 65, 66, 67]), ([0, 1, 2, 3, 4, 5, 6], [56, 57, 58, 59, 60, 61, 62, 64, 65, 66, 67]), ([0, 1, 2], [56, 57, 58, 59, 60, 61, 62, 63]), ([0, 1, 2, 8], [56, 57, 58, 59, 60, 61, 62, 63, 64]), ([0, 1, 2, 8, 9], [56, 57, 58, 59, 60, 61, 62, 63, 64, 65]), ([0, 1, 2, 8, 9, 10], [56, 57, 58, 59, 60, 61, 62, 63, 64, 65, 66]), ([0, 1, 2, 3, 4, 5, 6, 7, 8, 9, 10, 11], [56, 57, 58, 59, 60, 61, 62, 63, 64, 65, 66, 67]), ([0, 1, 2, 3, 4, 5, 6, 7, 8, 9, 10, 11, 12], [56, 57, 58, 59, 60, 61, 62, 63, 64, 65, 66, 67, 68])] [] (Γx := []) ?_; dsimp only [prev0, List.length_nil, List.length_cons])
   | (refine isReg 13 ?_; refine WPc.drA [([], [78, 79, 80, 81]), ([0], [73, 78, 79, 80, 81]), ([0, 1], [73, 74, 78, 79, 80, 81]), ([0, 1, 2], [73, 74, 75, 78, 79, 80, 81]), ([0, 1, 2, 3], [73, 74, 75, 76, 78, 79, 80, 81]), ([], [73, 74, 75, 76, 77]), ([5], [73, 74, 75, 76, 77, 78]), ([5, 6], [73, 74, 75, 76, 77, 78, 79]), ([5, 6, 7], [73, 74, 75, 76, 77, 78, 79, 80]), ([0, 1, 2, 3, 4, 5, 6, 7, 8], [73, 74, 75, 76, 77, 78, 79, 80, 81])] [] (Γx := []) ?_; dsimp only [prev0, List.length_nil, List.length_cons])
   | (refine isReg 16 ?_; refine WPc.drA [([18, 19], [90, 91, 92, 93, 94, 95, 96, 97]), ([0, 18, 19], [86, 90, 91, 92, 93, 94, 95, 96, 97]), ([0, 1, 18, 19], [86, 87, 90, 91, 92, 93, 94, 95, 96, 97]), ([0, 1, 2, 18, 19], [86, 87, 88, 90, 91, 92, 93, 94, 95, 96, 97]), ([18, 19], [86, 87, 88, 89, 91, 92, 93, 94, 95, 96, 97]), ([18, 19], [86, 87, 88, 89, 90, 95, 96, 97]), ([5, 18, 19], [86, 87, 88, 89, 90, 91, 95, 96, 97]), ([5, 6, 18, 19], [86, 87, 88, 89, 90, 91, 92, 95, 96, 97]), ([5, 6, 7, 18, 19], [86, 87, 88, 89, 90, 91, 92, 93, 95, 96, 97]), ([18, 19], [86, 87, 88, 89, 90, 91, 92, 93, 94, 96, 97, 98, 99]), ([18, 19], [86, 87, 88, 89, 90, 91, 92, 93, 94, 95, 97, 98, 99]), ([18, 19], [86, 87, 88, 89, 90, 91, 92, 93, 94, 95, 96, 98, 99, 100, 101]), ([0, 1, 2, 3, 4, 5, 6, 7, 8, 18, 19], [86, 87, 88, 89, 90, 91, 92, 93, 94, 95, 96, 97]), ([0, 1, 2, 3, 4, 5, 6, 7, 8, 12, 18, 19], [86, 87, 88, 89, 90, 91, 92, 93, 94, 95, 96, 97, 98]), ([0, 1, 2, 3, 4, 5, 6, 7, 8, 10, 12, 13, 18, 19], [86, 87, 88, 89, 90, 91, 92, 93, 94, 95, 96, 97, 98, 99]), ([0, 1, 2, 3, 4, 5, 6, 7, 8, 9, 10, 12, 13, 14, 18, 19], [86, 87, 88, 89, 90, 91, 92, 93, 94, 95, 96, 97, 98, 99]), ([0, 1, 2, 3, 4, 5, 6, 7, 8, 9, 10, 12, 13, 14, 15, 18, 19], [86, 87, 88, 89, 90, 91, 92, 93, 94, 95, 96, 97, 98, 99, 100]), ([0, 1, 2, 3, 4, 5, 6, 7, 8, 9, 10, 11, 12, 13, 14, 15, 16, 18, 19], [86, 87, 88, 89, 90, 91, 92, 93, 94, 95, 96, 97, 98, 99, 100, 101])] [(18, 12), (12, 14), (19, 15), (15, 17), (18, 0), (18, 1), (18, 2), (18, 3), (18, 4), (18, 5), (18, 6), (18, 7), (18, 8), (12, 13), (19, 0), (19, 1), (19, 2), (19, 3), (19, 4), (19, 5), (19, 6), (19, 7), (19, 8), (19, 9), (19, 10), (19, 12), (19, 13), (19, 14), (15, 16)] (Γx := [mp flM m1 l', mp rpM m2 R']) (hox := ownsA) ?_; dsimp only [prev0, List.length_nil, List.length_cons])
   | (refine gAny ?_; first | (refine gGd ?_; refine RGl.skp ?_) | (refine gC 20 ?_; refine RGl.vl (fun e hk => OpT.callN (c1)) ?_) | (refine gC 85 ?_; refine RGl.turns (fun e hk => by (try dsimp only [bndR, ensR, oksR, fcutR, List.append_nil, List.nil_append, List.cons_append, List.append_assoc] at hk ⊢); exact OpT.callTs (fdrop0_t gT m1 m2 most l' f hf hb3)) ?_) | (refine gD 17 ?_; refine RGl.rdX (fun e hk => by (try dsimp only [bndR, ensR, oksR, fcutR, List.append_nil, List.nil_append, List.cons_append, List.append_assoc] at hk ⊢); exact readP) ?_) | (refine gD 27 ?_; refine RGl.rdX (fun e hk => by (try dsimp only [bndR, ensR, oksR, fcutR, List.append_nil, List.nil_append, List.cons_append, List.append_assoc] at hk ⊢); exact ReadR.lookOk (M := rpM) (k := r) hwr rfl rfl memA hget hb1) ?_) | (refine gD 53 ?_; refine RGl.rdX (fun e hk => by (try dsimp only [bndR, ensR, oksR, fcutR, List.append_nil, List.nil_append, List.cons_append, List.append_assoc] at hk ⊢); exact ReadR.lookOk (M := flM) (k := f) hwf rfl rfl memA hget2 hb2) ?_) | (refine gD 63 ?_; refine RGl.rdX (fun e hk => by (try dsimp only [bndR, ensR, oksR, fcutR, List.append_nil, List.nil_append, List.cons_append, List.append_assoc] at hk ⊢); exact ReadR.mlen rfl memA) ?_) | (refine gD 68 ?_; refine RGl.rdX (fun e hk => by (try dsimp only [bndR, ensR, oksR, fcutR, List.append_nil, List.nil_append, List.cons_append, List.append_assoc] at hk ⊢); exact ReadR.binE rfl rfl BinR.geq (congrArg Value.bool (decide_eq_true hm))) ?_) | (refine gD 77 ?_; refine RGl.rdX (fun e hk => by (try dsimp only [bndR, ensR, oksR, fcutR, List.append_nil, List.nil_append, List.cons_append, List.append_assoc] at hk ⊢); exact ReadR.mlen rfl memA) ?_) | (refine gD 82 ?_; refine RGl.rdX (fun e hk => by (try dsimp only [bndR, ensR, oksR, fcutR, List.append_nil, List.nil_append, List.cons_append, List.append_assoc] at hk ⊢); exact ReadR.binE rfl rfl BinR.geq (congrArg Value.bool (decide_eq_true hq))) ?_) | (refine gD 82 ?_; refine RGl.rdX (fun e hk => by (try dsimp only [bndR, ensR, oksR, fcutR, List.append_nil, List.nil_append, List.cons_append, List.append_assoc] at hk ⊢); exact ReadR.binE rfl rfl BinR.geq (congrArg Value.bool (decide_eq_false hq))) ?_) | (refine gOp ?_; refine RGl.mapE (gm := m1) (lm := l') (km := f) (A := fun _ => mp flM m1 l') (fun e hk => by (try dsimp only [bndR, ensR, oksR, fcutR, List.append_nil, List.nil_append, List.cons_append, List.append_assoc] at hk ⊢); exact OpT.mapEntry hwf rfl rfl takesA) ?_) | (refine gOp ?_; refine RGl.mapE (gm := m2) (lm := R') (km := r) (A := fun _ => mp rpM m2 R') (fun e hk => by (try dsimp only [bndR, ensR, oksR, fcutR, List.append_nil, List.nil_append, List.cons_append, List.append_assoc] at hk ⊢); exact OpT.mapEntry hwr rfl rfl takesA) ?_) | (refine gOp ?_; refine RGl.turn (fun e hk => by (try dsimp only [bndR, ensR, oksR, fcutR, List.append_nil, List.nil_append, List.cons_append, List.append_assoc] at hk ⊢); exact OpT.entryStore (M := flM) (v := a) rfl rfl rfl takesA) ?_) | (refine gOp ?_; refine RGl.turn (fun e hk => by (try dsimp only [bndR, ensR, oksR, fcutR, List.append_nil, List.nil_append, List.cons_append, List.append_assoc] at hk ⊢); exact OpT.entryStore (M := rpM) (v := f) rfl rfl rfl takesA) ?_) | (refine gOp ?_; first | refine RGl.rdA ?_ | refine RGl.rdX (fun e hk => by (try dsimp only [bndR, ensR, oksR, fcutR, List.append_nil, List.nil_append, List.cons_append, List.append_assoc] at hk ⊢); exact readB) ?_) | (refine gAl ?_; refine RGl.nwA ?_) | (refine gSt ?_; refine RGl.stA ?_) | (refine RGl.fin (fun e hk => ?_); (try dsimp only [bndA, ensAR, oksA, List.append_nil, List.nil_append, List.cons_append, List.append_assoc] at hk ⊢); (repeat (obtain ⟨hk1, hk⟩ := hk))) | fail)
   | (refine isCond ?_; first | refine WPc.cT ?_ | refine WPc.cF ?_ | (refine WPc.cQ (fun hc => ?_) (fun hc => ?_) <;> try exact prA))
   | (refine isD 17 ?_; refine WPl.rdX (readP) ?_)
   | (refine isC 20 ?_; refine WPl.cV (c1) ?_)
   | (refine isD 27 ?_; refine WPl.rdX (ReadR.lookOk (M := rpM) (k := r) hwr rfl rfl memA hget hb1) ?_)
   | (refine isD 53 ?_; refine WPl.rdX (ReadR.lookOk (M := flM) (k := f) hwf rfl rfl memA hget2 hb2) ?_)
   | (refine isD 63 ?_; refine WPl.rdX (ReadR.mlen rfl memA) ?_)
   | (refine isD 68 ?_; refine WPl.rdX (ReadR.binE rfl rfl BinR.geq (congrArg Value.bool (decide_eq_true hm))) ?_)
   | (refine isC 72 ?_; refine WPl.cXs (fexpire_t gT m1 m2 most L R now hk0 hlen) fun v Γ1 hR => ?_; (obtain ⟨l', R', n', rfl, rfl, hl1, hl2, hl3⟩ := hR; have hb3 : mhas l' f = false := hl2 ▸ mhas_filter hb2; have hb4 : mhas R' r = false := hk0.sub (hl2 ▸ hl1) hb1; rcases Decidable.em ((l'.length : Int) ≥ most) with hq | hq); (try dsimp only [putF, List.cons_append, List.nil_append]))
   | (refine isD 77 ?_; refine WPl.rdX (ReadR.mlen rfl memA) ?_)
   | (refine isD 82 ?_; refine WPl.rdX (ReadR.binE rfl rfl BinR.geq (congrArg Value.bool (decide_eq_true hq))) ?_)
   | (refine isD 82 ?_; refine WPl.rdX (ReadR.binE rfl rfl BinR.geq (congrArg Value.bool (decide_eq_false hq))) ?_)
   | (refine isC 85 ?_; refine WPl.cTs (fdrop0_t gT m1 m2 most l' f hf hb3) ?_; (try dsimp only [putF, List.cons_append, List.nil_append]))
   | (refine isOp ?_; first | refine WPl.rd ?_ | refine WPl.sk ?_ | refine WPl.rdB ?_)
   | (refine isAl ?_; refine WPl.nw fun g => ?_)
   | (refine isBx ?_; refine WPl.nw fun g => ?_)
   | (refine isSt ?_; first | refine WPl.st1 ?_ | refine WPl.stA ?_ | refine WPl.stEB ?_ | refine WPl.stRB ?_)
   | (show WPl _ _ _ _ _ _ _ (⟨_, .indexAddr _ _ _, _, _, _, _⟩ :: _) _; refine WPl.rdX (ReadR.indexE rfl rfl hasA (by first | assumption | omega)) ?_)
   | (show WPl _ _ _ _ _ _ _ (⟨_, .fieldAddr _ _ _, _, _, _, _⟩ :: _) _; refine WPl.rdX (ReadR.fieldE rfl hasA (by first | assumption | omega)) ?_)
   | (show WPl _ _ _ _ _ _ _ (⟨_, .load _ _, _, _, _, _⟩ :: _) _; first | refine WPl.rdX (ReadR.loadE rfl hasA (by assumption)) ?_ | refine WPl.rdX (ReadR.loadES (by assumption) (by first | assumption | omega) rfl hasA) ?_)
   | (show WPl _ _ _ _ _ _ _ (⟨_, .slice _ _ _ _ _, _, _, _, _⟩ :: _) _; first | refine WPl.rdX (ReadR.sliceH rfl rfl hasA (by omega)) ?_ | refine WPl.rdX (ReadR.sliceL rfl rfl hasA (by omega)) ?_ | refine WPl.rdX (ReadR.sliceLH rfl rfl rfl hasA (by omega) (by omega)) ?_)
   | (refine WPl.spQ (fun hc => ?_) (fun hc => ?_) <;> try exact prA)
   | fail)
  all_goals (show WPq _ _ _ _ _ _ _)
  · exact WPq.dX (vs := [_]) [(bx gT 141 (fxc most m1 m2)), mp flM m1 l', mp rpM m2 R'] ⟨l', R', hl1, hl2, hb4, .inl ⟨hq, rfl, rfl⟩⟩
  all_goals exact WPq.dX (vs := [_]) [(bx gT 141 (fxc most m1 m2)), mp flM m1 (mput (mput l' f (mget flM l' f)) f a), mp rpM m2 (mput (mput R' r (mget rpM R' r)) r f)] ⟨l', R', hl1, hl2, hb4, .inr ⟨by omega, rfl, by rw [mput_mput, mput_mput]⟩⟩
theorem flen_t (L : LL) : Triple Try.prog 26 #[hPf gT] [(bx gT 141 (fxc most m1 m2)), mp flM m1 L] (RTurns (.int .i64 (L.length : Int)) [(bx gT 141 (fxc most m1 m2)), mp flM m1 L]) := by
  refine Triple.enter Try.func26 rfl Try.ntmps26 rfl (fun W => ?_)
  dsimp only [argsF, Nat.reduceAdd]
  repeat' (first
   | refine WPl.nil ?_ | refine WPq.then ?_ | refine WPq.thenR ?_ | refine WPq.thenE ?_ | refine WPq.blockN ?_ | refine WPq.blockR ?_ | refine WPq.blockE ?_ | refine WPq.blockO rfl ?_ | refine WPc.seq ?_ | refine WPc.block ?_ | refine WPc.ret ?_ | refine WPc.exit ?_ | refine WPc.skip ?_ | refine WPc.region ?_
   | (refine isCond ?_; first | refine WPc.cT ?_ | refine WPc.cF ?_ | (refine WPc.cQ (fun hc => ?_) (fun hc => ?_) <;> try exact prA))
   | (refine isD 4 ?_; refine WPl.rdX (readP) ?_)
   | (refine isD 9 ?_; refine WPl.rdX (ReadR.mlen rfl memA) ?_)
   | (refine isD 8 ?_; refine WPl.rdX (ReadR.mlen rfl memA) ?_)
   | (refine isD 7 ?_; refine WPl.rdX (ReadR.mlen rfl memA) ?_)
   | (refine isD 10 ?_; refine WPl.rdX (ReadR.mlen rfl memA) ?_)
   | (refine isOp ?_; first | refine WPl.rd ?_ | refine WPl.sk ?_ | refine WPl.rdB ?_)
   | (show WPl _ _ _ _ _ _ _ (⟨_, .indexAddr _ _ _, _, _, _, _⟩ :: _) _; refine WPl.rdX (ReadR.indexE rfl rfl hasA (by first | assumption | omega)) ?_)
   | (show WPl _ _ _ _ _ _ _ (⟨_, .fieldAddr _ _ _, _, _, _, _⟩ :: _) _; refine WPl.rdX (ReadR.fieldE rfl hasA (by first | assumption | omega)) ?_)
   | (show WPl _ _ _ _ _ _ _ (⟨_, .load _ _, _, _, _, _⟩ :: _) _; first | refine WPl.rdX (ReadR.loadE rfl hasA (by assumption)) ?_ | refine WPl.rdX (ReadR.loadES (by assumption) (by first | assumption | omega) rfl hasA) ?_)
   | (show WPl _ _ _ _ _ _ _ (⟨_, .slice _ _ _ _ _, _, _, _, _⟩ :: _) _; first | refine WPl.rdX (ReadR.sliceH rfl rfl hasA (by omega)) ?_ | refine WPl.rdX (ReadR.sliceL rfl rfl hasA (by omega)) ?_ | refine WPl.rdX (ReadR.sliceLH rfl rfl rfl hasA (by omega) (by omega)) ?_)
   | (refine WPl.spQ (fun hc => ?_) (fun hc => ?_) <;> try exact prA)
   | fail)
  exact WPq.dTs
end
end Go.Proofs.Ytncgponcedkihaa
