/- Layer 23 (flows): an act, done to both: what goes away. -/
import Derived.Test.YtncgponcedkihaaFs
import Derived.Test.YtncgponcedkihaaFj
namespace Go.Proofs.Ytncgponcedkihaa
open Go.RowKit
set_option linter.unusedSimpArgs false
set_option linter.unusedVariables false
set_option maxRecDepth 20000
set_option maxHeartbeats 4000000
attribute [local irreducible] WPc WPl WPq ReadR OpT BinR HasS bx rdN rowN Take Takes Prov Triple ResF BuildP Done ag Int.decLt Int.decLe Int.instDecidableEq
instance enDec : DecidableEq En := fun a b => decidable_of_iff (a.sv = b.sv ∧ a.bk = b.bk ∧ a.ad = b.ad ∧ a.port = b.port ∧ a.st = b.st ∧ a.til = b.til)
  ⟨fun ⟨h1, h2, h3, h4, h5, h6⟩ => by cases a; cases b; simp_all, fun h => by subst h; exact ⟨rfl, rfl, rfl, rfl, rfl, rfl⟩⟩
theorem en_eqb (a b : En) : (decide (a.sv = b.sv) && (decide (a.bk = b.bk) && (a.ad.six == b.ad.six && (decide (a.ad.b = b.ad.b) && (decide ((a.port : Int) = (b.port : Int)) && (decide (a.st = b.st) && (decide (a.til = b.til) && true))))))) = decide (a = b) := by
  rw [Bool.eq_iff_iff]
  simp only [Bool.and_true, Bool.and_eq_true, beq_iff_eq, decide_eq_true_eq]
  constructor
  · rintro ⟨h1, h2, h3, h4, h5, h6, h7⟩
    have e1 : a.ad = b.ad := Adr.ext h3 h4
    have e3 : a.port = b.port := by omega
    cases a; cases b
    simp_all
  · rintro rfl; exact ⟨rfl, rfl, rfl, rfl, rfl, rfl, rfl⟩
theorem BinR.enE {a b : En} : BinR Try.prog .eql 62 (ag (enC a)) (ag (enC b)) (.bool (decide (a = b))) := by
  have l1 := a.ad.len
  have l2 := b.ad.len
  rw [← en_eqb]
  exact BinR.eqlA eqcA
def RDo (gT m1 m2 gX : Nat) (most : Int) (L D : LL) : Value → List Asn → Prop := fun v Γ => ∃ b L' R' vl' D', v = .bool b ∧ vl'.oneCell' = true ∧ Γ = [bx gT 141 (fxc most m1 m2), mp flM m1 L', mp rpM m2 R', bx gX 69 (rfx most vl'), rowN 75 59 vl' D'.length (fds D')] ∧ lkd L' R' ∧ ((L.length : Int) ≤ most → (L'.length : Int) ≤ most) ∧ (frel L D → b = true ∧ frel L' D')
theorem any_of {D : LL} {f : Fl} {i : Nat} {x : Fl × En} (hx : D[i]? = some x) (hf : x.1 = f) : D.any (fun x => decide (x.1 = f)) = true := List.any_eq_true.2 ⟨x, List.mem_of_getElem? hx, by simpa using hf⟩
theorem any_not {D : LL} {f : Fl} (hn : ∀ x ∈ D, x.1 ≠ f) : D.any (fun x => decide (x.1 = f)) = false := by
  rw [List.any_eq_false]
  intro x hx
  simpa using hn x hx
theorem do3_rel {L D D' : LL} {R : RR} {f : Fl} (hk : lkd L R) (h : frel L D) (hs : (D' = D ∧ ∀ x ∈ D, x.1 ≠ f) ∨ ∃ i x, D[i]? = some x ∧ x.1 = f ∧ D' = cutI D i) : (mhas L f == D.any (fun x => decide (x.1 = f))) = true ∧ frel (mdel L f) D' := by
  rcases hs with ⟨rfl, hn⟩ | ⟨i, x, hx, rfl, rfl⟩
  · have h1 := h.no hn
    have hb : mhas L f = false := by unfold mhas; rw [h1]; rfl
    rw [hb, any_not hn, (mhas_no hb).2]
    exact ⟨rfl, h⟩
  · have hb : mhas L x.1 = true := by unfold mhas; rw [h.find hk hx]; rfl
    rw [hb, any_of hx rfl]
    exact ⟨rfl, h.cut hk hx⟩
theorem exp_q {now : Int} : (fun x : Fl × En => !pExp now x.2) = (fun x => decide (now < x.2.til)) := funext fun x => pExp_not
theorem rdo_mk {gT m1 m2 gX : Nat} {most : Int} {L D L' : LL} {R' : RR} {s : Value × LL} {b : Bool} (h1 : s.1.oneCell' = true) (h2 : lkd L' R') (h3 : (L.length : Int) ≤ most → (L'.length : Int) ≤ most) (h4 : frel L D → b = true ∧ frel L' s.2) : RDo gT m1 m2 gX most L D (resV [.bool b]) [bx gT 141 (fxc most m1 m2), mp flM m1 L', mp rpM m2 R', bx gX 69 (rfx most s.1), rowN 75 59 s.1 s.2.length (fds s.2)] := ⟨b, L', R', s.1, s.2, rfl, h1, rfl, h2, h3, h4⟩
theorem do4_rel {L D D' : LL} {q : Fl × En → Bool} (h : frel L D) (e : D' = D.filter q) : decide ((((L.length - (L.filter q).length : Nat)) : Int) = (D.length : Int) - ((D.filter q).length : Int)) = true ∧ frel (L.filter q) D' := by
  subst e
  have h1 := h.pm.length_eq
  have h2 := (h.filter q).pm.length_eq
  have h3 := List.length_filter_le q L
  exact ⟨decide_eq_true (by omega), h.filter q⟩
theorem put1_len {L l : LL} {R : RR} {f r : Fl} {now : Int} (h : put1 L R f r now = some l) : l.length ≤ L.length := by
  unfold put1 at h
  split at h
  · cases h; exact Nat.le_refl _
  · split at h
    · cases h; exact Nat.le_refl _
    · split at h
      · cases h
      · cases h; exact mdel_sub.length_le
theorem putS_len {most now : Int} {L : LL} {R : RR} {f r : Fl} {a : En} (hm : (L.length : Int) ≤ most) : ((putS most now L R f r a).2.length : Int) ≤ most := by
  cases h1 : put1 L R f r now with
  | none => unfold putS; rw [h1]; exact hm
  | some l =>
    have hl := put1_len h1
    have h2 : (put2 most now l f).length ≤ l.length := by
      unfold put2; split
      · exact List.length_filter_le ..
      · exact Nat.le_refl _
    rw [putS_of h1 rfl]
    split
    · dsimp only; omega
    · rename_i hno
      dsimp only
      have e1 := @mput_len _ _ _ (mdel (put2 most now l f) f) f a
      have e2 := @mdel_len _ _ _ (put2 most now l f) f
      cases hb : mhas l f with
      | true =>
        have e3 : put2 most now l f = l := by unfold put2; rw [if_neg (by rw [hb]; simp)]
        rw [e3] at e1 e2 ⊢
        rw [hb, if_pos rfl] at e2
        have e4 : 0 < l.length := by
          cases l with
          | nil => simp [mhas, mfind] at hb
          | cons _ _ => simp
        split at e1 <;> omega
      | false =>
        have e5 : ¬ ((put2 most now l f).length : Int) ≥ most := fun q => hno ⟨hb, q⟩
        split at e1 <;> split at e2 <;> omega
theorem rputP_nil {most now : Int} {f : Fl} {a : En} {n : Int} {D' : LL} (hm : 1 ≤ most) (h : rputP most now [] f a n D') : n = 0 := by
  have key : ∀ {o : Option LL} {r : Fl}, rputO now [] f r o → o = some [] := by
    intro o r ho
    cases ho with
    | no _ => rfl
    | own i x h _ _ => simp at h
    | live i x h _ _ _ => simp at h
    | gone i x h _ _ _ => simp at h
  cases h with
  | there ho => have := key ho; cases this
  | set D1 ho i x hx _ => have := key ho; cases this; simp at hx
  | full D1 ho _ hl =>
    have := key ho; cases this
    unfold rfull at hl
    split at hl <;> simp at hl <;> omega
  | ins => rfl
attribute [local irreducible] fds mp rg mpe mget mfind mput mdel pickG
section
variable (gT m1 m2 gX : Nat) (most : Int) (vl : Value) (L D : LL) (R : RR)
theorem do3_t (hk0 : lkd L R) (hlen : L.length ≤ 4096) (hD : D.length ≤ 50000) (hvl : vl.oneCell' = true) (x : Fc) (hf : flW x.f) (hkk : x.k = 3) : Triple Try.prog 28 #[hPf gT, hPr gX, ag (fcC x)] [(bx gT 141 (fxc most m1 m2)), mp flM m1 L, mp rpM m2 R, (bx gX 69 (rfx most vl)), (rowN 75 59 vl (List.length D) (fds D))] (RDo gT m1 m2 gX most L D) := by
  obtain ⟨k, f, a, now⟩ := x
  dsimp only at *
  subst hkk
  have l1 := f.src.len
  have l2 := f.dst.len
  have l3 := a.ad.len
  have c1 := fDrop_t gT m1 m2 most L R f hk0 hf
  have c2 := rdrop_t gX most vl D hvl f (by omega)
  have hv1 : ∀ v Γ', RDrop L f m1 m2 ((bx gT 141 (fxc most m1 m2))) v Γ' → v = .bool (mhas L f) ∧ ∃ R', Γ' = [(bx gT 141 (fxc most m1 m2)), mp flM m1 (mdel L f), mp rpM m2 R'] ∧ lkd (mdel L f) R' := fun v Γ' h => by
    obtain ⟨R', h1, h2, h3⟩ := h; exact ⟨h1, R', h2, h3⟩
  have hv2 : ∀ v Γ', RRd gX most D f v Γ' → v = .bool (D.any (fun x => decide (x.1 = f))) ∧ ∃ s : Value × LL, Γ' = [bx gX 69 (rfx most s.1), rowN 75 59 s.1 s.2.length (fds s.2)] ∧ s.1.oneCell' = true ∧ ((s.2 = D ∧ ∀ x ∈ D, x.1 ≠ f) ∨ ∃ i x, D[i]? = some x ∧ x.1 = f ∧ s.2 = cutI D i) := fun v Γ' h => by
    obtain ⟨h1, v2, D2, h2, h3, h4⟩ := h; exact ⟨h1, (v2, D2), h3, h2, h4⟩
  refine Triple.enter Try.func28 rfl Try.ntmps28 rfl (fun W => ?_)
  dsimp only [argsF, Nat.reduceAdd]
  repeat' (first
   | refine WPl.nil ?_ | refine WPq.then ?_ | refine WPq.thenR ?_ | refine WPq.thenE ?_ | refine WPq.blockN ?_ | refine WPq.blockR ?_ | refine WPq.blockE ?_ | refine WPq.blockO rfl ?_ | refine WPc.seq ?_ | refine WPc.block ?_ | refine WPc.ret ?_ | refine WPc.exit ?_ | refine WPc.skip ?_ | refine WPc.region ?_
   | (refine isReg 12 ?_; refine WPc.drA [([10, 11, 12, 13, 14], [146, 147, 149, 150, 151]), ([10, 11, 12, 13, 14], [145, 149, 150, 151]), ([1, 10, 11, 12, 13, 14], [145, 146, 149, 150, 151]), ([0, 1, 2, 10, 11, 12, 13, 14], [145, 146, 147, 149, 150, 151]), ([10, 11, 12, 13, 14], [145, 146, 147, 148, 150, 151]), ([10, 11, 12, 13, 14], [145, 146, 147, 148, 149]), ([5, 10, 11, 12, 13, 14], [145, 146, 147, 148, 149, 150]), ([0, 1, 2, 3, 4, 5, 6, 10, 11, 12, 13, 14], [145, 146, 147, 148, 149, 150, 151]), ([0, 1, 2, 3, 4, 5, 6, 7, 10, 11, 12, 13, 14], [145, 146, 147, 148, 149, 150, 151, 152]), ([0, 1, 2, 3, 4, 5, 6, 7, 8, 10, 11, 12, 13, 14], [145, 146, 147, 148, 149, 150, 151, 152, 153])] [(10, 3), (11, 3), (12, 3), (13, 7), (14, 7), (10, 0), (10, 1), (10, 2), (11, 0), (11, 1), (11, 2), (12, 0), (12, 1), (12, 2), (13, 0), (13, 1), (13, 2), (13, 3), (13, 4), (13, 5), (13, 6), (14, 0), (14, 1), (14, 2), (14, 3), (14, 4), (14, 5), (14, 6)] (Γx := [(bx gT 141 (fxc most m1 m2)), mp flM m1 L, mp rpM m2 R, (bx gX 69 (rfx most vl)), (rowN 75 59 vl (List.length D) (fds D))]) (hox := ownsA) ?_; dsimp only [prev0, List.length_nil, List.length_cons])
   | (refine gAny ?_; first | (refine gC 148 ?_; refine RGl.relG (.bool (mhas L f)) (fun R' : RR => [(bx gT 141 (fxc most m1 m2)), mp flM m1 (mdel L f), mp rpM m2 R']) (fun R' => lkd (mdel L f) R') (hv1) (fun e hk => by (try dsimp only [bndR, ensR, oksR, fcutR, List.append_nil, List.nil_append, List.cons_append, List.append_assoc] at hk ⊢); exact OpT.callTs (c1)) ?_) | (refine gC 152 ?_; refine RGl.relG (.bool (D.any (fun x => decide (x.1 = f)))) (fun s : Value × LL => [bx gX 69 (rfx most s.1), rowN 75 59 s.1 s.2.length (fds s.2)]) (fun s => s.1.oneCell' = true ∧ ((s.2 = D ∧ ∀ x ∈ D, x.1 ≠ f) ∨ ∃ i x, D[i]? = some x ∧ x.1 = f ∧ s.2 = cutI D i)) (hv2) (fun e hk => by (try dsimp only [bndR, ensR, oksR, fcutR, List.append_nil, List.nil_append, List.cons_append, List.append_assoc] at hk ⊢); exact OpT.callTs (c2)) ?_) | (refine gD 153 ?_; refine RGl.rdX (fun e hk => by (try dsimp only [bndR, ensR, oksR, fcutR, List.append_nil, List.nil_append, List.cons_append, List.append_assoc] at hk ⊢); exact ReadR.binE rfl rfl (BinR.eqlB (by kernel_rfl)) rfl) ?_) | (refine gOp ?_; first | refine RGl.rdA ?_ | refine RGl.rdX (fun e hk => by (try dsimp only [bndR, ensR, oksR, fcutR, List.append_nil, List.nil_append, List.cons_append, List.append_assoc] at hk ⊢); exact readB) ?_) | (refine RGl.fin (fun e hk => ?_); (try dsimp only [bndA, ensAR, oksA, List.append_nil, List.nil_append, List.cons_append, List.append_assoc] at hk ⊢); (repeat (obtain ⟨hk1, hk⟩ := hk))) | fail)
   | (refine isCond ?_; first | refine WPc.cT ?_ | refine WPc.cF ?_ | (refine WPc.cQ (fun hc => ?_) (fun hc => ?_) <;> try exact prA))
   | (refine isD 153 ?_; refine WPl.rdX (ReadR.binE rfl rfl (BinR.eqlB (by kernel_rfl)) rfl) ?_)
   | (refine isOp ?_; first | refine WPl.rd ?_ | refine WPl.sk ?_ | refine WPl.rdB ?_)
   | (refine isAl ?_; refine WPl.nw fun g => ?_)
   | (refine isBx ?_; refine WPl.nw fun g => ?_)
   | (refine isSt ?_; first | refine WPl.st1 ?_ | refine WPl.stA ?_ | refine WPl.stEB ?_ | refine WPl.stRB ?_)
   | (show WPl _ _ _ _ _ _ _ (⟨_, .indexAddr _ _ _, _, _, _, _⟩ :: _) _; refine WPl.rdX (ReadR.indexE rfl rfl hasA (by first | assumption | omega)) ?_)
   | (show WPl _ _ _ _ _ _ _ (⟨_, .fieldAddr _ _ _, _, _, _, _⟩ :: _) _; refine WPl.rdX (ReadR.fieldE rfl hasA (by first | assumption | omega)) ?_)
   | (show WPl _ _ _ _ _ _ _ (⟨_, .load _ _, _, _, _, _⟩ :: _) _; first | refine WPl.rdX (ReadR.loadE rfl hasA (by assumption)) ?_ | refine WPl.rdX (ReadR.loadES (by assumption) (by first | assumption | omega) rfl hasA) ?_)
   | (show WPl _ _ _ _ _ _ _ (⟨_, .slice _ _ _ _ _, _, _, _, _⟩ :: _) _; first | refine WPl.rdX (ReadR.sliceH rfl rfl hasA (by omega)) ?_ | refine WPl.rdX (ReadR.sliceL rfl rfl hasA (by omega)) ?_ | refine WPl.rdX (ReadR.sliceLH rfl rfl rfl hasA (by omega) (by omega)) ?_)
   | (refine WPl.spQ (fun hc => ?_) (fun hc => ?_) <;> try exact prA)
   | fail)
  have hA : lkd (mdel L f) (pickG (fun R' : RR => [(bx gT 141 (fxc most m1 m2)), mp flM m1 (mdel L f), mp rpM m2 R']) (fun R' => lkd (mdel L f) R') (e 3).2) := by assumption
  have hB : (fun s : Value × LL => s.1.oneCell' = true ∧ ((s.2 = D ∧ ∀ x ∈ D, x.1 ≠ f) ∨ ∃ i x, D[i]? = some x ∧ x.1 = f ∧ s.2 = cutI D i)) (pickG (fun s : Value × LL => [bx gX 69 (rfx most s.1), rowN 75 59 s.1 s.2.length (fds s.2)]) (fun s => s.1.oneCell' = true ∧ ((s.2 = D ∧ ∀ x ∈ D, x.1 ≠ f) ∨ ∃ i x, D[i]? = some x ∧ x.1 = f ∧ s.2 = cutI D i)) (e 7).2) := by assumption
  obtain ⟨hB1, hB2⟩ := hB
  exact WPq.dX (vs := [_]) [(bx gT 141 (fxc most m1 m2)), mp flM m1 (mdel L f), mp rpM m2 (pickG (fun R' : RR => [(bx gT 141 (fxc most m1 m2)), mp flM m1 (mdel L f), mp rpM m2 R']) (fun R' => lkd (mdel L f) R') (e 3).2), bx gX 69 (rfx most (pickG (fun s : Value × LL => [bx gX 69 (rfx most s.1), rowN 75 59 s.1 s.2.length (fds s.2)]) (fun s => s.1.oneCell' = true ∧ ((s.2 = D ∧ ∀ x ∈ D, x.1 ≠ f) ∨ ∃ i x, D[i]? = some x ∧ x.1 = f ∧ s.2 = cutI D i)) (e 7).2).1), rowN 75 59 (pickG (fun s : Value × LL => [bx gX 69 (rfx most s.1), rowN 75 59 s.1 s.2.length (fds s.2)]) (fun s => s.1.oneCell' = true ∧ ((s.2 = D ∧ ∀ x ∈ D, x.1 ≠ f) ∨ ∃ i x, D[i]? = some x ∧ x.1 = f ∧ s.2 = cutI D i)) (e 7).2).1 (pickG (fun s : Value × LL => [bx gX 69 (rfx most s.1), rowN 75 59 s.1 s.2.length (fds s.2)]) (fun s => s.1.oneCell' = true ∧ ((s.2 = D ∧ ∀ x ∈ D, x.1 ≠ f) ∨ ∃ i x, D[i]? = some x ∧ x.1 = f ∧ s.2 = cutI D i)) (e 7).2).2.length (fds (pickG (fun s : Value × LL => [bx gX 69 (rfx most s.1), rowN 75 59 s.1 s.2.length (fds s.2)]) (fun s => s.1.oneCell' = true ∧ ((s.2 = D ∧ ∀ x ∈ D, x.1 ≠ f) ∨ ∃ i x, D[i]? = some x ∧ x.1 = f ∧ s.2 = cutI D i)) (e 7).2).2)] (rdo_mk (s := (pickG (fun s : Value × LL => [bx gX 69 (rfx most s.1), rowN 75 59 s.1 s.2.length (fds s.2)]) (fun s => s.1.oneCell' = true ∧ ((s.2 = D ∧ ∀ x ∈ D, x.1 ≠ f) ∨ ∃ i x, D[i]? = some x ∧ x.1 = f ∧ s.2 = cutI D i)) (e 7).2)) hB1 hA (fun h => by have := (mdel_sub (l := L) (k := f)).length_le; omega) (fun h => do3_rel hk0 h hB2))
theorem do4_t (hk0 : lkd L R) (hlen : L.length ≤ 4096) (hD : D.length ≤ 50000) (hvl : vl.oneCell' = true) (x : Fc) (hf : flW x.f) (hkk : x.k = 4) : Triple Try.prog 28 #[hPf gT, hPr gX, ag (fcC x)] [(bx gT 141 (fxc most m1 m2)), mp flM m1 L, mp rpM m2 R, (bx gX 69 (rfx most vl)), (rowN 75 59 vl (List.length D) (fds D))] (RDo gT m1 m2 gX most L D) := by
  obtain ⟨k, f, a, now⟩ := x
  dsimp only at *
  subst hkk
  have l1 := f.src.len
  have l2 := f.dst.len
  have l3 := a.ad.len
  have c1 := fexpire_t gT m1 m2 most L R now hk0 hlen
  have c2 := rlets_t gX most vl D now 0 0 (by omega)
  have hv1 : ∀ v Γ', RExp now L m1 m2 ((bx gT 141 (fxc most m1 m2))) v Γ' → v = .int .i64 ((L.length - (L.filter (fun x => decide (now < x.2.til))).length : Nat) : Int) ∧ ∃ R', Γ' = [(bx gT 141 (fxc most m1 m2)), mp flM m1 (L.filter (fun x => decide (now < x.2.til))), mp rpM m2 R'] ∧ lkd (L.filter (fun x => decide (now < x.2.til))) R' := fun v Γ' h => by
    obtain ⟨l, R', n, h1, h2, h3, h4, h5⟩ := h
    rw [exp_q] at h4
    subst h4
    exact ⟨by rw [h1]; congr 2; omega, R', h2, h3⟩
  have hv2 : ∀ v Γ', RRx gX most (.int .i64 ((D.length : Int) - ((D.filter (fun x => decide (now < x.2.til))).length : Int))) (D.filter (fun x => decide (now < x.2.til))) v Γ' → v = .int .i64 ((D.length : Int) - ((D.filter (fun x => decide (now < x.2.til))).length : Int)) ∧ ∃ s : Value × LL, Γ' = [bx gX 69 (rfx most s.1), rowN 75 59 s.1 s.2.length (fds s.2)] ∧ s.1.oneCell' = true ∧ s.2 = D.filter (fun x => decide (now < x.2.til)) := fun v Γ' h => by
    obtain ⟨h1, v2, h2, h3⟩ := h; exact ⟨h1, (v2, _), h3, h2, rfl⟩
  refine Triple.enter Try.func28 rfl Try.ntmps28 rfl (fun W => ?_)
  dsimp only [argsF, Nat.reduceAdd]
  repeat' (first
   | refine WPl.nil ?_ | refine WPq.then ?_ | refine WPq.thenR ?_ | refine WPq.thenE ?_ | refine WPq.blockN ?_ | refine WPq.blockR ?_ | refine WPq.blockE ?_ | refine WPq.blockO rfl ?_ | refine WPc.seq ?_ | refine WPc.block ?_ | refine WPc.ret ?_ | refine WPc.exit ?_ | refine WPc.skip ?_ | refine WPc.region ?_
   | (refine isReg 14 ?_; refine WPc.drA [([10, 11, 12, 13, 14], [157, 158, 160, 161, 162]), ([10, 11, 12, 13, 14], [156, 160, 161, 162]), ([1, 10, 11, 12, 13, 14], [156, 157, 160, 161, 162]), ([0, 1, 2, 10, 11, 12, 13, 14], [156, 157, 158, 160, 161, 162]), ([10, 11, 12, 13, 14], [156, 157, 158, 159, 161, 162]), ([10, 11, 12, 13, 14], [156, 157, 158, 159, 160]), ([5, 10, 11, 12, 13, 14], [156, 157, 158, 159, 160, 161]), ([0, 1, 2, 3, 4, 5, 6, 10, 11, 12, 13, 14], [156, 157, 158, 159, 160, 161, 162]), ([0, 1, 2, 3, 4, 5, 6, 7, 10, 11, 12, 13, 14], [156, 157, 158, 159, 160, 161, 162, 163]), ([0, 1, 2, 3, 4, 5, 6, 7, 8, 10, 11, 12, 13, 14], [156, 157, 158, 159, 160, 161, 162, 163, 164])] [(10, 3), (11, 3), (12, 3), (13, 7), (14, 7), (10, 0), (10, 1), (10, 2), (11, 0), (11, 1), (11, 2), (12, 0), (12, 1), (12, 2), (13, 0), (13, 1), (13, 2), (13, 3), (13, 4), (13, 5), (13, 6), (14, 0), (14, 1), (14, 2), (14, 3), (14, 4), (14, 5), (14, 6)] (Γx := [(bx gT 141 (fxc most m1 m2)), mp flM m1 L, mp rpM m2 R, (bx gX 69 (rfx most vl)), (rowN 75 59 vl (List.length D) (fds D))]) (hox := ownsA) ?_; dsimp only [prev0, List.length_nil, List.length_cons])
   | (refine gAny ?_; first | (refine gC 159 ?_; refine RGl.relG (.int .i64 ((L.length - (L.filter (fun x => decide (now < x.2.til))).length : Nat) : Int)) (fun R' : RR => [(bx gT 141 (fxc most m1 m2)), mp flM m1 (L.filter (fun x => decide (now < x.2.til))), mp rpM m2 R']) (fun R' => lkd (L.filter (fun x => decide (now < x.2.til))) R') (hv1) (fun e hk => by (try dsimp only [bndR, ensR, oksR, fcutR, List.append_nil, List.nil_append, List.cons_append, List.append_assoc] at hk ⊢); exact OpT.callTs (c1)) ?_) | (refine gC 163 ?_; refine RGl.relG (.int .i64 ((D.length : Int) - ((D.filter (fun x => decide (now < x.2.til))).length : Int))) (fun s : Value × LL => [bx gX 69 (rfx most s.1), rowN 75 59 s.1 s.2.length (fds s.2)]) (fun s => s.1.oneCell' = true ∧ s.2 = D.filter (fun x => decide (now < x.2.til))) (hv2) (fun e hk => by (try dsimp only [bndR, ensR, oksR, fcutR, List.append_nil, List.nil_append, List.cons_append, List.append_assoc] at hk ⊢); exact OpT.callTs (c2)) ?_) | (refine gOp ?_; first | refine RGl.rdA ?_ | refine RGl.rdX (fun e hk => by (try dsimp only [bndR, ensR, oksR, fcutR, List.append_nil, List.nil_append, List.cons_append, List.append_assoc] at hk ⊢); exact readB) ?_) | (refine RGl.fin (fun e hk => ?_); (try dsimp only [bndA, ensAR, oksA, List.append_nil, List.nil_append, List.cons_append, List.append_assoc] at hk ⊢); (repeat (obtain ⟨hk1, hk⟩ := hk))) | fail)
   | (refine isCond ?_; first | refine WPc.cT ?_ | refine WPc.cF ?_ | (refine WPc.cQ (fun hc => ?_) (fun hc => ?_) <;> try exact prA))
   | (refine isOp ?_; first | refine WPl.rd ?_ | refine WPl.sk ?_ | refine WPl.rdB ?_)
   | (refine isAl ?_; refine WPl.nw fun g => ?_)
   | (refine isBx ?_; refine WPl.nw fun g => ?_)
   | (refine isSt ?_; first | refine WPl.st1 ?_ | refine WPl.stA ?_ | refine WPl.stEB ?_ | refine WPl.stRB ?_)
   | (show WPl _ _ _ _ _ _ _ (⟨_, .indexAddr _ _ _, _, _, _, _⟩ :: _) _; refine WPl.rdX (ReadR.indexE rfl rfl hasA (by first | assumption | omega)) ?_)
   | (show WPl _ _ _ _ _ _ _ (⟨_, .fieldAddr _ _ _, _, _, _, _⟩ :: _) _; refine WPl.rdX (ReadR.fieldE rfl hasA (by first | assumption | omega)) ?_)
   | (show WPl _ _ _ _ _ _ _ (⟨_, .load _ _, _, _, _, _⟩ :: _) _; first | refine WPl.rdX (ReadR.loadE rfl hasA (by assumption)) ?_ | refine WPl.rdX (ReadR.loadES (by assumption) (by first | assumption | omega) rfl hasA) ?_)
   | (show WPl _ _ _ _ _ _ _ (⟨_, .slice _ _ _ _ _, _, _, _, _⟩ :: _) _; first | refine WPl.rdX (ReadR.sliceH rfl rfl hasA (by omega)) ?_ | refine WPl.rdX (ReadR.sliceL rfl rfl hasA (by omega)) ?_ | refine WPl.rdX (ReadR.sliceLH rfl rfl rfl hasA (by omega) (by omega)) ?_)
   | (refine WPl.spQ (fun hc => ?_) (fun hc => ?_) <;> try exact prA)
   | fail)
  have hA : lkd (L.filter (fun x => decide (now < x.2.til))) (pickG (fun R' : RR => [(bx gT 141 (fxc most m1 m2)), mp flM m1 (L.filter (fun x => decide (now < x.2.til))), mp rpM m2 R']) (fun R' => lkd (L.filter (fun x => decide (now < x.2.til))) R') (e 3).2) := by assumption
  have hB : (fun s : Value × LL => s.1.oneCell' = true ∧ s.2 = D.filter (fun x => decide (now < x.2.til))) (pickG (fun s : Value × LL => [bx gX 69 (rfx most s.1), rowN 75 59 s.1 s.2.length (fds s.2)]) (fun s => s.1.oneCell' = true ∧ s.2 = D.filter (fun x => decide (now < x.2.til))) (e 7).2) := by assumption
  obtain ⟨hB1, hB2⟩ := hB
  exact WPq.dX (vs := [_]) [(bx gT 141 (fxc most m1 m2)), mp flM m1 (L.filter (fun x => decide (now < x.2.til))), mp rpM m2 (pickG (fun R' : RR => [(bx gT 141 (fxc most m1 m2)), mp flM m1 (L.filter (fun x => decide (now < x.2.til))), mp rpM m2 R']) (fun R' => lkd (L.filter (fun x => decide (now < x.2.til))) R') (e 3).2), bx gX 69 (rfx most (pickG (fun s : Value × LL => [bx gX 69 (rfx most s.1), rowN 75 59 s.1 s.2.length (fds s.2)]) (fun s => s.1.oneCell' = true ∧ s.2 = D.filter (fun x => decide (now < x.2.til))) (e 7).2).1), rowN 75 59 (pickG (fun s : Value × LL => [bx gX 69 (rfx most s.1), rowN 75 59 s.1 s.2.length (fds s.2)]) (fun s => s.1.oneCell' = true ∧ s.2 = D.filter (fun x => decide (now < x.2.til))) (e 7).2).1 (pickG (fun s : Value × LL => [bx gX 69 (rfx most s.1), rowN 75 59 s.1 s.2.length (fds s.2)]) (fun s => s.1.oneCell' = true ∧ s.2 = D.filter (fun x => decide (now < x.2.til))) (e 7).2).2.length (fds (pickG (fun s : Value × LL => [bx gX 69 (rfx most s.1), rowN 75 59 s.1 s.2.length (fds s.2)]) (fun s => s.1.oneCell' = true ∧ s.2 = D.filter (fun x => decide (now < x.2.til))) (e 7).2).2)] (rdo_mk (s := (pickG (fun s : Value × LL => [bx gX 69 (rfx most s.1), rowN 75 59 s.1 s.2.length (fds s.2)]) (fun s => s.1.oneCell' = true ∧ s.2 = D.filter (fun x => decide (now < x.2.til))) (e 7).2)) hB1 hA (fun h => by have := List.length_filter_le (fun x => decide (now < x.2.til)) L; omega) (fun h => do4_rel h hB2))
theorem do5_t (hk0 : lkd L R) (hlen : L.length ≤ 4096) (hD : D.length ≤ 50000) (hvl : vl.oneCell' = true) (x : Fc) (hf : flW x.f) (hkk : x.k = 5) : Triple Try.prog 28 #[hPf gT, hPr gX, ag (fcC x)] [(bx gT 141 (fxc most m1 m2)), mp flM m1 L, mp rpM m2 R, (bx gX 69 (rfx most vl)), (rowN 75 59 vl (List.length D) (fds D))] (RDo gT m1 m2 gX most L D) := by
  obtain ⟨k, f, a, now⟩ := x
  dsimp only at *
  subst hkk
  have l1 := f.src.len
  have l2 := f.dst.len
  have l3 := a.ad.len
  have c1 := fpurge_t gT m1 m2 most L R a.sv a.bk hk0 hlen
  have c2 := rpurge_t gX most vl D a.sv a.bk (by omega)
  have hv1 : ∀ v Γ', RPur a.sv a.bk L m1 m2 ((bx gT 141 (fxc most m1 m2))) v Γ' → v = .int .i64 ((L.length - (L.filter (fun x => !pPur a.sv a.bk x.2)).length : Nat) : Int) ∧ ∃ R', Γ' = [(bx gT 141 (fxc most m1 m2)), mp flM m1 (L.filter (fun x => !pPur a.sv a.bk x.2)), mp rpM m2 R'] ∧ lkd (L.filter (fun x => !pPur a.sv a.bk x.2)) R' := fun v Γ' h => by
    obtain ⟨l, R', n, h1, h2, h3, h4, h5⟩ := h
    subst h4
    exact ⟨by rw [h1]; congr 2; omega, R', h2, h3⟩
  have hv2 : ∀ v Γ', RRx gX most (.int .i64 ((D.length : Int) - ((D.filter (fun x => !pPur a.sv a.bk x.2)).length : Int))) (D.filter (fun x => !pPur a.sv a.bk x.2)) v Γ' → v = .int .i64 ((D.length : Int) - ((D.filter (fun x => !pPur a.sv a.bk x.2)).length : Int)) ∧ ∃ s : Value × LL, Γ' = [bx gX 69 (rfx most s.1), rowN 75 59 s.1 s.2.length (fds s.2)] ∧ s.1.oneCell' = true ∧ s.2 = D.filter (fun x => !pPur a.sv a.bk x.2) := fun v Γ' h => by
    obtain ⟨h1, v2, h2, h3⟩ := h; exact ⟨h1, (v2, _), h3, h2, rfl⟩
  refine Triple.enter Try.func28 rfl Try.ntmps28 rfl (fun W => ?_)
  dsimp only [argsF, Nat.reduceAdd]
  repeat' (first
   | refine WPl.nil ?_ | refine WPq.then ?_ | refine WPq.thenR ?_ | refine WPq.thenE ?_ | refine WPq.blockN ?_ | refine WPq.blockR ?_ | refine WPq.blockE ?_ | refine WPq.blockO rfl ?_ | refine WPc.seq ?_ | refine WPc.block ?_ | refine WPc.ret ?_ | refine WPc.exit ?_ | refine WPc.skip ?_ | refine WPc.region ?_
   | (refine isReg 16 ?_; refine WPc.drA [([18, 19, 20, 21, 22], [168, 169, 170, 171, 172, 173, 175, 176, 177, 178, 179, 180, 181]), ([18, 19, 20, 21, 22], [167, 171, 172, 173, 175, 176, 177, 178, 179, 180, 181]), ([1, 18, 19, 20, 21, 22], [167, 168, 171, 172, 173, 175, 176, 177, 178, 179, 180, 181]), ([1, 2, 18, 19, 20, 21, 22], [167, 168, 169, 171, 172, 173, 175, 176, 177, 178, 179, 180, 181]), ([18, 19, 20, 21, 22], [167, 168, 169, 170, 175, 176, 177, 178, 179, 180, 181]), ([4, 18, 19, 20, 21, 22], [167, 168, 169, 170, 171, 175, 176, 177, 178, 179, 180, 181]), ([4, 5, 18, 19, 20, 21, 22], [167, 168, 169, 170, 171, 172, 175, 176, 177, 178, 179, 180, 181]), ([0, 1, 2, 3, 4, 5, 6, 18, 19, 20, 21, 22], [167, 168, 169, 170, 171, 172, 173, 175, 176, 177, 178, 179, 180, 181]), ([18, 19, 20, 21, 22], [167, 168, 169, 170, 171, 172, 173, 174, 176, 177, 178, 179, 180, 181]), ([18, 19, 20, 21, 22], [167, 168, 169, 170, 171, 172, 173, 174, 175, 179, 180, 181]), ([9, 18, 19, 20, 21, 22], [167, 168, 169, 170, 171, 172, 173, 174, 175, 176, 179, 180, 181]), ([9, 10, 18, 19, 20, 21, 22], [167, 168, 169, 170, 171, 172, 173, 174, 175, 176, 177, 179, 180, 181]), ([18, 19, 20, 21, 22], [167, 168, 169, 170, 171, 172, 173, 174, 175, 176, 177, 178]), ([12, 18, 19, 20, 21, 22], [167, 168, 169, 170, 171, 172, 173, 174, 175, 176, 177, 178, 179]), ([12, 13, 18, 19, 20, 21, 22], [167, 168, 169, 170, 171, 172, 173, 174, 175, 176, 177, 178, 179, 180]), ([0, 1, 2, 3, 4, 5, 6, 7, 8, 9, 10, 11, 12, 13, 14, 18, 19, 20, 21, 22], [167, 168, 169, 170, 171, 172, 173, 174, 175, 176, 177, 178, 179, 180, 181]), ([0, 1, 2, 3, 4, 5, 6, 7, 8, 9, 10, 11, 12, 13, 14, 15, 18, 19, 20, 21, 22], [167, 168, 169, 170, 171, 172, 173, 174, 175, 176, 177, 178, 179, 180, 181, 182]), ([0, 1, 2, 3, 4, 5, 6, 7, 8, 9, 10, 11, 12, 13, 14, 15, 16, 18, 19, 20, 21, 22], [167, 168, 169, 170, 171, 172, 173, 174, 175, 176, 177, 178, 179, 180, 181, 182, 183])] [(18, 7), (19, 7), (20, 7), (21, 15), (22, 15), (18, 0), (18, 1), (18, 2), (18, 3), (18, 4), (18, 5), (18, 6), (19, 0), (19, 1), (19, 2), (19, 3), (19, 4), (19, 5), (19, 6), (20, 0), (20, 1), (20, 2), (20, 3), (20, 4), (20, 5), (20, 6), (21, 0), (21, 1), (21, 2), (21, 3), (21, 4), (21, 5), (21, 6), (21, 7), (21, 8), (21, 9), (21, 10), (21, 11), (21, 12), (21, 13), (21, 14), (22, 0), (22, 1), (22, 2), (22, 3), (22, 4), (22, 5), (22, 6), (22, 7), (22, 8), (22, 9), (22, 10), (22, 11), (22, 12), (22, 13), (22, 14)] (Γx := [(bx gT 141 (fxc most m1 m2)), mp flM m1 L, mp rpM m2 R, (bx gX 69 (rfx most vl)), (rowN 75 59 vl (List.length D) (fds D))]) (hox := ownsA) ?_; dsimp only [prev0, List.length_nil, List.length_cons])
   | (refine gAny ?_; first | (refine gC 174 ?_; refine RGl.relG (.int .i64 ((L.length - (L.filter (fun x => !pPur a.sv a.bk x.2)).length : Nat) : Int)) (fun R' : RR => [(bx gT 141 (fxc most m1 m2)), mp flM m1 (L.filter (fun x => !pPur a.sv a.bk x.2)), mp rpM m2 R']) (fun R' => lkd (L.filter (fun x => !pPur a.sv a.bk x.2)) R') (hv1) (fun e hk => by (try dsimp only [bndR, ensR, oksR, fcutR, List.append_nil, List.nil_append, List.cons_append, List.append_assoc] at hk ⊢); exact OpT.callTs (c1)) ?_) | (refine gC 182 ?_; refine RGl.relG (.int .i64 ((D.length : Int) - ((D.filter (fun x => !pPur a.sv a.bk x.2)).length : Int))) (fun s : Value × LL => [bx gX 69 (rfx most s.1), rowN 75 59 s.1 s.2.length (fds s.2)]) (fun s => s.1.oneCell' = true ∧ s.2 = D.filter (fun x => !pPur a.sv a.bk x.2)) (hv2) (fun e hk => by (try dsimp only [bndR, ensR, oksR, fcutR, List.append_nil, List.nil_append, List.cons_append, List.append_assoc] at hk ⊢); exact OpT.callTs (c2)) ?_) | (refine gOp ?_; first | refine RGl.rdA ?_ | refine RGl.rdX (fun e hk => by (try dsimp only [bndR, ensR, oksR, fcutR, List.append_nil, List.nil_append, List.cons_append, List.append_assoc] at hk ⊢); exact readB) ?_) | (refine RGl.fin (fun e hk => ?_); (try dsimp only [bndA, ensAR, oksA, List.append_nil, List.nil_append, List.cons_append, List.append_assoc] at hk ⊢); (repeat (obtain ⟨hk1, hk⟩ := hk))) | fail)
   | (refine isCond ?_; first | refine WPc.cT ?_ | refine WPc.cF ?_ | (refine WPc.cQ (fun hc => ?_) (fun hc => ?_) <;> try exact prA))
   | (refine isOp ?_; first | refine WPl.rd ?_ | refine WPl.sk ?_ | refine WPl.rdB ?_)
   | (refine isAl ?_; refine WPl.nw fun g => ?_)
   | (refine isBx ?_; refine WPl.nw fun g => ?_)
   | (refine isSt ?_; first | refine WPl.st1 ?_ | refine WPl.stA ?_ | refine WPl.stEB ?_ | refine WPl.stRB ?_)
   | (show WPl _ _ _ _ _ _ _ (⟨_, .indexAddr _ _ _, _, _, _, _⟩ :: _) _; refine WPl.rdX (ReadR.indexE rfl rfl hasA (by first | assumption | omega)) ?_)
   | (show WPl _ _ _ _ _ _ _ (⟨_, .fieldAddr _ _ _, _, _, _, _⟩ :: _) _; refine WPl.rdX (ReadR.fieldE rfl hasA (by first | assumption | omega)) ?_)
   | (show WPl _ _ _ _ _ _ _ (⟨_, .load _ _, _, _, _, _⟩ :: _) _; first | refine WPl.rdX (ReadR.loadE rfl hasA (by assumption)) ?_ | refine WPl.rdX (ReadR.loadES (by assumption) (by first | assumption | omega) rfl hasA) ?_)
   | (show WPl _ _ _ _ _ _ _ (⟨_, .slice _ _ _ _ _, _, _, _, _⟩ :: _) _; first | refine WPl.rdX (ReadR.sliceH rfl rfl hasA (by omega)) ?_ | refine WPl.rdX (ReadR.sliceL rfl rfl hasA (by omega)) ?_ | refine WPl.rdX (ReadR.sliceLH rfl rfl rfl hasA (by omega) (by omega)) ?_)
   | (refine WPl.spQ (fun hc => ?_) (fun hc => ?_) <;> try exact prA)
   | fail)
  have hA : lkd (L.filter (fun x => !pPur a.sv a.bk x.2)) (pickG (fun R' : RR => [(bx gT 141 (fxc most m1 m2)), mp flM m1 (L.filter (fun x => !pPur a.sv a.bk x.2)), mp rpM m2 R']) (fun R' => lkd (L.filter (fun x => !pPur a.sv a.bk x.2)) R') (e 7).2) := by assumption
  have hB : (fun s : Value × LL => s.1.oneCell' = true ∧ s.2 = D.filter (fun x => !pPur a.sv a.bk x.2)) (pickG (fun s : Value × LL => [bx gX 69 (rfx most s.1), rowN 75 59 s.1 s.2.length (fds s.2)]) (fun s => s.1.oneCell' = true ∧ s.2 = D.filter (fun x => !pPur a.sv a.bk x.2)) (e 15).2) := by assumption
  obtain ⟨hB1, hB2⟩ := hB
  exact WPq.dX (vs := [_]) [(bx gT 141 (fxc most m1 m2)), mp flM m1 (L.filter (fun x => !pPur a.sv a.bk x.2)), mp rpM m2 (pickG (fun R' : RR => [(bx gT 141 (fxc most m1 m2)), mp flM m1 (L.filter (fun x => !pPur a.sv a.bk x.2)), mp rpM m2 R']) (fun R' => lkd (L.filter (fun x => !pPur a.sv a.bk x.2)) R') (e 7).2), bx gX 69 (rfx most (pickG (fun s : Value × LL => [bx gX 69 (rfx most s.1), rowN 75 59 s.1 s.2.length (fds s.2)]) (fun s => s.1.oneCell' = true ∧ s.2 = D.filter (fun x => !pPur a.sv a.bk x.2)) (e 15).2).1), rowN 75 59 (pickG (fun s : Value × LL => [bx gX 69 (rfx most s.1), rowN 75 59 s.1 s.2.length (fds s.2)]) (fun s => s.1.oneCell' = true ∧ s.2 = D.filter (fun x => !pPur a.sv a.bk x.2)) (e 15).2).1 (pickG (fun s : Value × LL => [bx gX 69 (rfx most s.1), rowN 75 59 s.1 s.2.length (fds s.2)]) (fun s => s.1.oneCell' = true ∧ s.2 = D.filter (fun x => !pPur a.sv a.bk x.2)) (e 15).2).2.length (fds (pickG (fun s : Value × LL => [bx gX 69 (rfx most s.1), rowN 75 59 s.1 s.2.length (fds s.2)]) (fun s => s.1.oneCell' = true ∧ s.2 = D.filter (fun x => !pPur a.sv a.bk x.2)) (e 15).2).2)] (rdo_mk (s := (pickG (fun s : Value × LL => [bx gX 69 (rfx most s.1), rowN 75 59 s.1 s.2.length (fds s.2)]) (fun s => s.1.oneCell' = true ∧ s.2 = D.filter (fun x => !pPur a.sv a.bk x.2)) (e 15).2)) hB1 hA (fun h => by have := List.length_filter_le (fun x => !pPur a.sv a.bk x.2) L; omega) (fun h => do4_rel h hB2))
theorem do6_t (hk0 : lkd L R) (hlen : L.length ≤ 4096) (hD : D.length ≤ 50000) (hvl : vl.oneCell' = true) (x : Fc) (hf : flW x.f) (hkk : x.k = 6) : Triple Try.prog 28 #[hPf gT, hPr gX, ag (fcC x)] [(bx gT 141 (fxc most m1 m2)), mp flM m1 L, mp rpM m2 R, (bx gX 69 (rfx most vl)), (rowN 75 59 vl (List.length D) (fds D))] (RDo gT m1 m2 gX most L D) := by
  obtain ⟨k, f, a, now⟩ := x
  dsimp only at *
  subst hkk
  have l1 := f.src.len
  have l2 := f.dst.len
  have l3 := a.ad.len
  have c1 := fpurge_t gT m1 m2 most L R a.sv (-1) hk0 hlen
  have c2 := rpurge_t gX most vl D a.sv (-1) (by omega)
  have hv1 : ∀ v Γ', RPur a.sv (-1) L m1 m2 ((bx gT 141 (fxc most m1 m2))) v Γ' → v = .int .i64 ((L.length - (L.filter (fun x => !pPur a.sv (-1) x.2)).length : Nat) : Int) ∧ ∃ R', Γ' = [(bx gT 141 (fxc most m1 m2)), mp flM m1 (L.filter (fun x => !pPur a.sv (-1) x.2)), mp rpM m2 R'] ∧ lkd (L.filter (fun x => !pPur a.sv (-1) x.2)) R' := fun v Γ' h => by
    obtain ⟨l, R', n, h1, h2, h3, h4, h5⟩ := h
    subst h4
    exact ⟨by rw [h1]; congr 2; omega, R', h2, h3⟩
  have hv2 : ∀ v Γ', RRx gX most (.int .i64 ((D.length : Int) - ((D.filter (fun x => !pPur a.sv (-1) x.2)).length : Int))) (D.filter (fun x => !pPur a.sv (-1) x.2)) v Γ' → v = .int .i64 ((D.length : Int) - ((D.filter (fun x => !pPur a.sv (-1) x.2)).length : Int)) ∧ ∃ s : Value × LL, Γ' = [bx gX 69 (rfx most s.1), rowN 75 59 s.1 s.2.length (fds s.2)] ∧ s.1.oneCell' = true ∧ s.2 = D.filter (fun x => !pPur a.sv (-1) x.2) := fun v Γ' h => by
    obtain ⟨h1, v2, h2, h3⟩ := h; exact ⟨h1, (v2, _), h3, h2, rfl⟩
  refine Triple.enter Try.func28 rfl Try.ntmps28 rfl (fun W => ?_)
  dsimp only [argsF, Nat.reduceAdd]
  repeat' (first
   | refine WPl.nil ?_ | refine WPq.then ?_ | refine WPq.thenR ?_ | refine WPq.thenE ?_ | refine WPq.blockN ?_ | refine WPq.blockR ?_ | refine WPq.blockE ?_ | refine WPq.blockO rfl ?_ | refine WPc.seq ?_ | refine WPc.block ?_ | refine WPc.ret ?_ | refine WPc.exit ?_ | refine WPc.skip ?_ | refine WPc.region ?_
   | (refine isReg 18 ?_; refine WPc.drA [([12, 13, 14, 15, 16], [187, 188, 189, 191, 192, 193, 194]), ([12, 13, 14, 15, 16], [186, 191, 192, 193, 194]), ([1, 12, 13, 14, 15, 16], [186, 187, 191, 192, 193, 194]), ([1, 2, 12, 13, 14, 15, 16], [186, 187, 188, 191, 192, 193, 194]), ([0, 1, 2, 3, 12, 13, 14, 15, 16], [186, 187, 188, 189, 191, 192, 193, 194]), ([12, 13, 14, 15, 16], [186, 187, 188, 189, 190, 192, 193, 194]), ([12, 13, 14, 15, 16], [186, 187, 188, 189, 190, 191]), ([6, 12, 13, 14, 15, 16], [186, 187, 188, 189, 190, 191, 192]), ([6, 7, 12, 13, 14, 15, 16], [186, 187, 188, 189, 190, 191, 192, 193]), ([0, 1, 2, 3, 4, 5, 6, 7, 8, 12, 13, 14, 15, 16], [186, 187, 188, 189, 190, 191, 192, 193, 194]), ([0, 1, 2, 3, 4, 5, 6, 7, 8, 9, 12, 13, 14, 15, 16], [186, 187, 188, 189, 190, 191, 192, 193, 194, 195]), ([0, 1, 2, 3, 4, 5, 6, 7, 8, 9, 10, 12, 13, 14, 15, 16], [186, 187, 188, 189, 190, 191, 192, 193, 194, 195, 196])] [(12, 4), (13, 4), (14, 4), (15, 9), (16, 9), (12, 0), (12, 1), (12, 2), (12, 3), (13, 0), (13, 1), (13, 2), (13, 3), (14, 0), (14, 1), (14, 2), (14, 3), (15, 0), (15, 1), (15, 2), (15, 3), (15, 4), (15, 5), (15, 6), (15, 7), (15, 8), (16, 0), (16, 1), (16, 2), (16, 3), (16, 4), (16, 5), (16, 6), (16, 7), (16, 8)] (Γx := [(bx gT 141 (fxc most m1 m2)), mp flM m1 L, mp rpM m2 R, (bx gX 69 (rfx most vl)), (rowN 75 59 vl (List.length D) (fds D))]) (hox := ownsA) ?_; dsimp only [prev0, List.length_nil, List.length_cons])
   | (refine gAny ?_; first | (refine gC 190 ?_; refine RGl.relG (.int .i64 ((L.length - (L.filter (fun x => !pPur a.sv (-1) x.2)).length : Nat) : Int)) (fun R' : RR => [(bx gT 141 (fxc most m1 m2)), mp flM m1 (L.filter (fun x => !pPur a.sv (-1) x.2)), mp rpM m2 R']) (fun R' => lkd (L.filter (fun x => !pPur a.sv (-1) x.2)) R') (hv1) (fun e hk => by (try dsimp only [bndR, ensR, oksR, fcutR, List.append_nil, List.nil_append, List.cons_append, List.append_assoc] at hk ⊢); exact OpT.callTs (c1)) ?_) | (refine gC 195 ?_; refine RGl.relG (.int .i64 ((D.length : Int) - ((D.filter (fun x => !pPur a.sv (-1) x.2)).length : Int))) (fun s : Value × LL => [bx gX 69 (rfx most s.1), rowN 75 59 s.1 s.2.length (fds s.2)]) (fun s => s.1.oneCell' = true ∧ s.2 = D.filter (fun x => !pPur a.sv (-1) x.2)) (hv2) (fun e hk => by (try dsimp only [bndR, ensR, oksR, fcutR, List.append_nil, List.nil_append, List.cons_append, List.append_assoc] at hk ⊢); exact OpT.callTs (c2)) ?_) | (refine gOp ?_; first | refine RGl.rdA ?_ | refine RGl.rdX (fun e hk => by (try dsimp only [bndR, ensR, oksR, fcutR, List.append_nil, List.nil_append, List.cons_append, List.append_assoc] at hk ⊢); exact readB) ?_) | (refine RGl.fin (fun e hk => ?_); (try dsimp only [bndA, ensAR, oksA, List.append_nil, List.nil_append, List.cons_append, List.append_assoc] at hk ⊢); (repeat (obtain ⟨hk1, hk⟩ := hk))) | fail)
   | (refine isCond ?_; first | refine WPc.cT ?_ | refine WPc.cF ?_ | (refine WPc.cQ (fun hc => ?_) (fun hc => ?_) <;> try exact prA))
   | (refine isOp ?_; first | refine WPl.rd ?_ | refine WPl.sk ?_ | refine WPl.rdB ?_)
   | (refine isAl ?_; refine WPl.nw fun g => ?_)
   | (refine isBx ?_; refine WPl.nw fun g => ?_)
   | (refine isSt ?_; first | refine WPl.st1 ?_ | refine WPl.stA ?_ | refine WPl.stEB ?_ | refine WPl.stRB ?_)
   | (show WPl _ _ _ _ _ _ _ (⟨_, .indexAddr _ _ _, _, _, _, _⟩ :: _) _; refine WPl.rdX (ReadR.indexE rfl rfl hasA (by first | assumption | omega)) ?_)
   | (show WPl _ _ _ _ _ _ _ (⟨_, .fieldAddr _ _ _, _, _, _, _⟩ :: _) _; refine WPl.rdX (ReadR.fieldE rfl hasA (by first | assumption | omega)) ?_)
   | (show WPl _ _ _ _ _ _ _ (⟨_, .load _ _, _, _, _, _⟩ :: _) _; first | refine WPl.rdX (ReadR.loadE rfl hasA (by assumption)) ?_ | refine WPl.rdX (ReadR.loadES (by assumption) (by first | assumption | omega) rfl hasA) ?_)
   | (show WPl _ _ _ _ _ _ _ (⟨_, .slice _ _ _ _ _, _, _, _, _⟩ :: _) _; first | refine WPl.rdX (ReadR.sliceH rfl rfl hasA (by omega)) ?_ | refine WPl.rdX (ReadR.sliceL rfl rfl hasA (by omega)) ?_ | refine WPl.rdX (ReadR.sliceLH rfl rfl rfl hasA (by omega) (by omega)) ?_)
   | (refine WPl.spQ (fun hc => ?_) (fun hc => ?_) <;> try exact prA)
   | fail)
  have hA : lkd (L.filter (fun x => !pPur a.sv (-1) x.2)) (pickG (fun R' : RR => [(bx gT 141 (fxc most m1 m2)), mp flM m1 (L.filter (fun x => !pPur a.sv (-1) x.2)), mp rpM m2 R']) (fun R' => lkd (L.filter (fun x => !pPur a.sv (-1) x.2)) R') (e 4).2) := by assumption
  have hB : (fun s : Value × LL => s.1.oneCell' = true ∧ s.2 = D.filter (fun x => !pPur a.sv (-1) x.2)) (pickG (fun s : Value × LL => [bx gX 69 (rfx most s.1), rowN 75 59 s.1 s.2.length (fds s.2)]) (fun s => s.1.oneCell' = true ∧ s.2 = D.filter (fun x => !pPur a.sv (-1) x.2)) (e 9).2) := by assumption
  obtain ⟨hB1, hB2⟩ := hB
  exact WPq.dX (vs := [_]) [(bx gT 141 (fxc most m1 m2)), mp flM m1 (L.filter (fun x => !pPur a.sv (-1) x.2)), mp rpM m2 (pickG (fun R' : RR => [(bx gT 141 (fxc most m1 m2)), mp flM m1 (L.filter (fun x => !pPur a.sv (-1) x.2)), mp rpM m2 R']) (fun R' => lkd (L.filter (fun x => !pPur a.sv (-1) x.2)) R') (e 4).2), bx gX 69 (rfx most (pickG (fun s : Value × LL => [bx gX 69 (rfx most s.1), rowN 75 59 s.1 s.2.length (fds s.2)]) (fun s => s.1.oneCell' = true ∧ s.2 = D.filter (fun x => !pPur a.sv (-1) x.2)) (e 9).2).1), rowN 75 59 (pickG (fun s : Value × LL => [bx gX 69 (rfx most s.1), rowN 75 59 s.1 s.2.length (fds s.2)]) (fun s => s.1.oneCell' = true ∧ s.2 = D.filter (fun x => !pPur a.sv (-1) x.2)) (e 9).2).1 (pickG (fun s : Value × LL => [bx gX 69 (rfx most s.1), rowN 75 59 s.1 s.2.length (fds s.2)]) (fun s => s.1.oneCell' = true ∧ s.2 = D.filter (fun x => !pPur a.sv (-1) x.2)) (e 9).2).2.length (fds (pickG (fun s : Value × LL => [bx gX 69 (rfx most s.1), rowN 75 59 s.1 s.2.length (fds s.2)]) (fun s => s.1.oneCell' = true ∧ s.2 = D.filter (fun x => !pPur a.sv (-1) x.2)) (e 9).2).2)] (rdo_mk (s := (pickG (fun s : Value × LL => [bx gX 69 (rfx most s.1), rowN 75 59 s.1 s.2.length (fds s.2)]) (fun s => s.1.oneCell' = true ∧ s.2 = D.filter (fun x => !pPur a.sv (-1) x.2)) (e 9).2)) hB1 hA (fun h => by have := List.length_filter_le (fun x => !pPur a.sv (-1) x.2) L; omega) (fun h => do4_rel h hB2))
theorem do0_t (hk0 : lkd L R) (hlen : L.length ≤ 4096) (hD : D.length ≤ 50000) (hvl : vl.oneCell' = true) (x : Fc) (hf : flW x.f) (hr : flW (replyF x.f x.a)) (hw : ∀ x ∈ D, flW x.1) (nx : Int) (hnx : ∀ n D', rputP most x.now D x.f x.a n D' → n = nx) (hnr : frel L D → nx = (putS most x.now L R x.f (replyF x.f x.a) x.a).1) (h1 : ¬ x.k = 1) (h2 : ¬ x.k = 2) (h3 : ¬ x.k = 3) (h4 : ¬ x.k = 4) (h5 : ¬ x.k = 5) (h6 : ¬ x.k = 6) : Triple Try.prog 28 #[hPf gT, hPr gX, ag (fcC x)] [(bx gT 141 (fxc most m1 m2)), mp flM m1 L, mp rpM m2 R, (bx gX 69 (rfx most vl)), (rowN 75 59 vl (List.length D) (fds D))] (RDo gT m1 m2 gX most L D) := by
  obtain ⟨k, f, a, now⟩ := x
  dsimp only at *
  have l1 := f.src.len
  have l2 := f.dst.len
  have l3 := a.ad.len
  have c1 := fputA_t gT m1 m2 most L R f a now hk0 hlen hf hr
  have c2 := rput_t gX most vl D hvl f a now hD hf hw
  have hv1 : ∀ v Γ', RPut most now L R f a m1 m2 ((bx gT 141 (fxc most m1 m2))) v Γ' → v = .int .i64 (putS most now L R f (replyF f a) a).1 ∧ ∃ R', Γ' = [(bx gT 141 (fxc most m1 m2)), mp flM m1 ((putS most now L R f (replyF f a) a).2), mp rpM m2 R'] ∧ lkd ((putS most now L R f (replyF f a) a).2) R' := fun v Γ' h => by
    obtain ⟨R', h1, h2, h3⟩ := h; exact ⟨h1, R', h2, h3⟩
  have hv2 : ∀ v Γ', RRp gX most now D f a v Γ' → v = .int .i64 nx ∧ ∃ s : Value × LL, Γ' = [bx gX 69 (rfx most s.1), rowN 75 59 s.1 s.2.length (fds s.2)] ∧ s.1.oneCell' = true ∧ rputP most now D f a nx s.2 := fun v Γ' h => by
    obtain ⟨n, v2, D2, g1, g2, g3, g4⟩ := h
    have := hnx n D2 g4
    subst this
    exact ⟨g1, (v2, D2), g3, g2, g4⟩
  refine Triple.enter Try.func28 rfl Try.ntmps28 rfl (fun W => ?_)
  dsimp only [argsF, Nat.reduceAdd]
  repeat' (first
   | refine WPl.nil ?_ | refine WPq.then ?_ | refine WPq.thenR ?_ | refine WPq.thenE ?_ | refine WPq.blockN ?_ | refine WPq.blockR ?_ | refine WPq.blockE ?_ | refine WPq.blockO rfl ?_ | refine WPc.seq ?_ | refine WPc.block ?_ | refine WPc.ret ?_ | refine WPc.exit ?_ | refine WPc.skip ?_ | refine WPc.region ?_
   | (refine isReg 2 ?_; refine WPc.drA [([18, 19, 20, 21, 22], [17, 18, 19, 20, 21, 22, 24, 25, 26, 27, 28, 29, 30]), ([18, 19, 20, 21, 22], [16, 19, 20, 21, 22, 24, 25, 26, 27, 28, 29, 30]), ([1, 18, 19, 20, 21, 22], [16, 17, 19, 20, 21, 22, 24, 25, 26, 27, 28, 29, 30]), ([18, 19, 20, 21, 22], [16, 17, 18, 21, 22, 24, 25, 26, 27, 28, 29, 30]), ([3, 18, 19, 20, 21, 22], [16, 17, 18, 19, 21, 22, 24, 25, 26, 27, 28, 29, 30]), ([18, 19, 20, 21, 22], [16, 17, 18, 19, 20, 24, 25, 26, 27, 28, 29, 30]), ([5, 18, 19, 20, 21, 22], [16, 17, 18, 19, 20, 21, 24, 25, 26, 27, 28, 29, 30]), ([0, 1, 2, 3, 4, 5, 6, 18, 19, 20, 21, 22], [16, 17, 18, 19, 20, 21, 22, 24, 25, 26, 27, 28, 29, 30]), ([18, 19, 20, 21, 22], [16, 17, 18, 19, 20, 21, 22, 23, 25, 26, 27, 28, 29, 30]), ([18, 19, 20, 21, 22], [16, 17, 18, 19, 20, 21, 22, 23, 24, 27, 28, 29, 30]), ([9, 18, 19, 20, 21, 22], [16, 17, 18, 19, 20, 21, 22, 23, 24, 25, 27, 28, 29, 30]), ([18, 19, 20, 21, 22], [16, 17, 18, 19, 20, 21, 22, 23, 24, 25, 26, 29, 30]), ([11, 18, 19, 20, 21, 22], [16, 17, 18, 19, 20, 21, 22, 23, 24, 25, 26, 27, 29, 30]), ([18, 19, 20, 21, 22], [16, 17, 18, 19, 20, 21, 22, 23, 24, 25, 26, 27, 28]), ([13, 18, 19, 20, 21, 22], [16, 17, 18, 19, 20, 21, 22, 23, 24, 25, 26, 27, 28, 29]), ([0, 1, 2, 3, 4, 5, 6, 7, 8, 9, 10, 11, 12, 13, 14, 18, 19, 20, 21, 22], [16, 17, 18, 19, 20, 21, 22, 23, 24, 25, 26, 27, 28, 29, 30]), ([0, 1, 2, 3, 4, 5, 6, 7, 8, 9, 10, 11, 12, 13, 14, 15, 18, 19, 20, 21, 22], [16, 17, 18, 19, 20, 21, 22, 23, 24, 25, 26, 27, 28, 29, 30, 31]), ([0, 1, 2, 3, 4, 5, 6, 7, 8, 9, 10, 11, 12, 13, 14, 15, 16, 18, 19, 20, 21, 22], [16, 17, 18, 19, 20, 21, 22, 23, 24, 25, 26, 27, 28, 29, 30, 31, 32])] [(18, 7), (19, 7), (20, 7), (21, 15), (22, 15), (18, 0), (18, 1), (18, 2), (18, 3), (18, 4), (18, 5), (18, 6), (19, 0), (19, 1), (19, 2), (19, 3), (19, 4), (19, 5), (19, 6), (20, 0), (20, 1), (20, 2), (20, 3), (20, 4), (20, 5), (20, 6), (21, 0), (21, 1), (21, 2), (21, 3), (21, 4), (21, 5), (21, 6), (21, 7), (21, 8), (21, 9), (21, 10), (21, 11), (21, 12), (21, 13), (21, 14), (22, 0), (22, 1), (22, 2), (22, 3), (22, 4), (22, 5), (22, 6), (22, 7), (22, 8), (22, 9), (22, 10), (22, 11), (22, 12), (22, 13), (22, 14)] (Γx := [(bx gT 141 (fxc most m1 m2)), mp flM m1 L, mp rpM m2 R, (bx gX 69 (rfx most vl)), (rowN 75 59 vl (List.length D) (fds D))]) (hox := ownsA) ?_; dsimp only [prev0, List.length_nil, List.length_cons])
   | (refine gAny ?_; first | (refine gC 23 ?_; refine RGl.relG (.int .i64 (putS most now L R f (replyF f a) a).1) (fun R' : RR => [(bx gT 141 (fxc most m1 m2)), mp flM m1 ((putS most now L R f (replyF f a) a).2), mp rpM m2 R']) (fun R' => lkd ((putS most now L R f (replyF f a) a).2) R') (hv1) (fun e hk => by (try dsimp only [bndR, ensR, oksR, fcutR, List.append_nil, List.nil_append, List.cons_append, List.append_assoc] at hk ⊢); exact OpT.callTs (c1)) ?_) | (refine gC 31 ?_; refine RGl.relG (.int .i64 nx) (fun s : Value × LL => [bx gX 69 (rfx most s.1), rowN 75 59 s.1 s.2.length (fds s.2)]) (fun s => s.1.oneCell' = true ∧ rputP most now D f a nx s.2) (hv2) (fun e hk => by (try dsimp only [bndR, ensR, oksR, fcutR, List.append_nil, List.nil_append, List.cons_append, List.append_assoc] at hk ⊢); exact OpT.callTs (c2)) ?_) | (refine gD 34 ?_; refine RGl.rdX (fun e hk => by (try dsimp only [bndR, ensR, oksR, fcutR, List.append_nil, List.nil_append, List.cons_append, List.append_assoc] at hk ⊢); exact ReadR.binE rfl rfl BinR.eql (congrArg Value.bool (decide_eq_false h1))) ?_) | (refine gD 80 ?_; refine RGl.rdX (fun e hk => by (try dsimp only [bndR, ensR, oksR, fcutR, List.append_nil, List.nil_append, List.cons_append, List.append_assoc] at hk ⊢); exact ReadR.binE rfl rfl BinR.eql (congrArg Value.bool (decide_eq_false h2))) ?_) | (refine gD 144 ?_; refine RGl.rdX (fun e hk => by (try dsimp only [bndR, ensR, oksR, fcutR, List.append_nil, List.nil_append, List.cons_append, List.append_assoc] at hk ⊢); exact ReadR.binE rfl rfl BinR.eql (congrArg Value.bool (decide_eq_false h3))) ?_) | (refine gD 155 ?_; refine RGl.rdX (fun e hk => by (try dsimp only [bndR, ensR, oksR, fcutR, List.append_nil, List.nil_append, List.cons_append, List.append_assoc] at hk ⊢); exact ReadR.binE rfl rfl BinR.eql (congrArg Value.bool (decide_eq_false h4))) ?_) | (refine gD 166 ?_; refine RGl.rdX (fun e hk => by (try dsimp only [bndR, ensR, oksR, fcutR, List.append_nil, List.nil_append, List.cons_append, List.append_assoc] at hk ⊢); exact ReadR.binE rfl rfl BinR.eql (congrArg Value.bool (decide_eq_false h5))) ?_) | (refine gD 185 ?_; refine RGl.rdX (fun e hk => by (try dsimp only [bndR, ensR, oksR, fcutR, List.append_nil, List.nil_append, List.cons_append, List.append_assoc] at hk ⊢); exact ReadR.binE rfl rfl BinR.eql (congrArg Value.bool (decide_eq_false h6))) ?_) | (refine gOp ?_; first | refine RGl.rdA ?_ | refine RGl.rdX (fun e hk => by (try dsimp only [bndR, ensR, oksR, fcutR, List.append_nil, List.nil_append, List.cons_append, List.append_assoc] at hk ⊢); exact readB) ?_) | (refine RGl.fin (fun e hk => ?_); (try dsimp only [bndA, ensAR, oksA, List.append_nil, List.nil_append, List.cons_append, List.append_assoc] at hk ⊢); (repeat (obtain ⟨hk1, hk⟩ := hk))) | fail)
   | (refine isCond ?_; first | refine WPc.cT ?_ | refine WPc.cF ?_ | (refine WPc.cQ (fun hc => ?_) (fun hc => ?_) <;> try exact prA))
   | (refine isD 34 ?_; refine WPl.rdX (ReadR.binE rfl rfl BinR.eql (congrArg Value.bool (decide_eq_false h1))) ?_)
   | (refine isD 80 ?_; refine WPl.rdX (ReadR.binE rfl rfl BinR.eql (congrArg Value.bool (decide_eq_false h2))) ?_)
   | (refine isD 144 ?_; refine WPl.rdX (ReadR.binE rfl rfl BinR.eql (congrArg Value.bool (decide_eq_false h3))) ?_)
   | (refine isD 155 ?_; refine WPl.rdX (ReadR.binE rfl rfl BinR.eql (congrArg Value.bool (decide_eq_false h4))) ?_)
   | (refine isD 166 ?_; refine WPl.rdX (ReadR.binE rfl rfl BinR.eql (congrArg Value.bool (decide_eq_false h5))) ?_)
   | (refine isD 185 ?_; refine WPl.rdX (ReadR.binE rfl rfl BinR.eql (congrArg Value.bool (decide_eq_false h6))) ?_)
   | (refine isOp ?_; first | refine WPl.rd ?_ | refine WPl.sk ?_ | refine WPl.rdB ?_)
   | (refine isAl ?_; refine WPl.nw fun g => ?_)
   | (refine isBx ?_; refine WPl.nw fun g => ?_)
   | (refine isSt ?_; first | refine WPl.st1 ?_ | refine WPl.stA ?_ | refine WPl.stEB ?_ | refine WPl.stRB ?_)
   | (show WPl _ _ _ _ _ _ _ (⟨_, .indexAddr _ _ _, _, _, _, _⟩ :: _) _; refine WPl.rdX (ReadR.indexE rfl rfl hasA (by first | assumption | omega)) ?_)
   | (show WPl _ _ _ _ _ _ _ (⟨_, .fieldAddr _ _ _, _, _, _, _⟩ :: _) _; refine WPl.rdX (ReadR.fieldE rfl hasA (by first | assumption | omega)) ?_)
   | (show WPl _ _ _ _ _ _ _ (⟨_, .load _ _, _, _, _, _⟩ :: _) _; first | refine WPl.rdX (ReadR.loadE rfl hasA (by assumption)) ?_ | refine WPl.rdX (ReadR.loadES (by assumption) (by first | assumption | omega) rfl hasA) ?_)
   | (show WPl _ _ _ _ _ _ _ (⟨_, .slice _ _ _ _ _, _, _, _, _⟩ :: _) _; first | refine WPl.rdX (ReadR.sliceH rfl rfl hasA (by omega)) ?_ | refine WPl.rdX (ReadR.sliceL rfl rfl hasA (by omega)) ?_ | refine WPl.rdX (ReadR.sliceLH rfl rfl rfl hasA (by omega) (by omega)) ?_)
   | (refine WPl.spQ (fun hc => ?_) (fun hc => ?_) <;> try exact prA)
   | fail)
  have hA : lkd ((putS most now L R f (replyF f a) a).2) (pickG (fun R' : RR => [(bx gT 141 (fxc most m1 m2)), mp flM m1 ((putS most now L R f (replyF f a) a).2), mp rpM m2 R']) (fun R' => lkd ((putS most now L R f (replyF f a) a).2) R') (e 7).2) := by assumption
  have hB : (fun s : Value × LL => s.1.oneCell' = true ∧ rputP most now D f a nx s.2) (pickG (fun s : Value × LL => [bx gX 69 (rfx most s.1), rowN 75 59 s.1 s.2.length (fds s.2)]) (fun s => s.1.oneCell' = true ∧ rputP most now D f a nx s.2) (e 15).2) := by assumption
  obtain ⟨hB1, hB2⟩ := hB
  exact WPq.dX (vs := [_]) [(bx gT 141 (fxc most m1 m2)), mp flM m1 ((putS most now L R f (replyF f a) a).2), mp rpM m2 (pickG (fun R' : RR => [(bx gT 141 (fxc most m1 m2)), mp flM m1 ((putS most now L R f (replyF f a) a).2), mp rpM m2 R']) (fun R' => lkd ((putS most now L R f (replyF f a) a).2) R') (e 7).2), bx gX 69 (rfx most (pickG (fun s : Value × LL => [bx gX 69 (rfx most s.1), rowN 75 59 s.1 s.2.length (fds s.2)]) (fun s => s.1.oneCell' = true ∧ rputP most now D f a nx s.2) (e 15).2).1), rowN 75 59 (pickG (fun s : Value × LL => [bx gX 69 (rfx most s.1), rowN 75 59 s.1 s.2.length (fds s.2)]) (fun s => s.1.oneCell' = true ∧ rputP most now D f a nx s.2) (e 15).2).1 (pickG (fun s : Value × LL => [bx gX 69 (rfx most s.1), rowN 75 59 s.1 s.2.length (fds s.2)]) (fun s => s.1.oneCell' = true ∧ rputP most now D f a nx s.2) (e 15).2).2.length (fds (pickG (fun s : Value × LL => [bx gX 69 (rfx most s.1), rowN 75 59 s.1 s.2.length (fds s.2)]) (fun s => s.1.oneCell' = true ∧ rputP most now D f a nx s.2) (e 15).2).2)] (rdo_mk (s := (pickG (fun s : Value × LL => [bx gX 69 (rfx most s.1), rowN 75 59 s.1 s.2.length (fds s.2)]) (fun s => s.1.oneCell' = true ∧ rputP most now D f a nx s.2) (e 15).2)) hB1 hA (fun h => putS_len h) (fun h => ⟨decide_eq_true (hnr h).symm, (rput_ok h hk0 hB2).2⟩))
end
end Go.Proofs.Ytncgponcedkihaa
