/- Layer 21 (health): the law HealthPlays: its walk. -/
import Derived.Test.YtncgponcedkihaaHk
namespace Go.Proofs.Ytncgponcedkihaa
open Go.RowKit
set_option linter.unusedSimpArgs false
set_option linter.unusedVariables false
set_option maxRecDepth 20000
set_option maxHeartbeats 4000000
attribute [local irreducible] WPc WPl WPq ReadR OpT BinR HasS bx rdN rowN Take Takes Prov Triple ResF BuildP Done ag Int.decLt Int.decLe Int.instDecidableEq
def mixR (A : List Rp) (k : Nat) : List Rp := (A.take k).map fixR ++ A.drop k
theorem mix_at {A : List Rp} {k : Nat} {z : Rp} (h : A[k]? = some z) : (mixR A k)[k]? = some z := by
  have hk := (List.getElem?_eq_some_iff.1 h).1
  unfold mixR
  rw [List.getElem?_append_right (by simp; omega)]
  simp only [List.length_map, List.length_take]
  rw [show k - min k A.length = 0 by omega, List.getElem?_drop, Nat.add_zero, h]
theorem mix_set {A : List Rp} {k : Nat} {z : Rp} (h : A[k]? = some z) : (mixR A k).set k (fixR z) = mixR A (k + 1) := by
  have hk := (List.getElem?_eq_some_iff.1 h).1
  unfold mixR
  rw [List.set_append_right _ _ (by simp; omega)]
  simp only [List.length_map, List.length_take]
  rw [show k - min k A.length = 0 by omega, List.drop_eq_getElem_cons hk, List.set_cons_zero, List.take_add_one, h]
  simp
theorem mix_same {A : List Rp} {k : Nat} {z : Rp} (h : A[k]? = some z) (hz : fixR z = z) : mixR A k = mixR A (k + 1) := by
  rw [← mix_set h, hz]
  have h1 := mix_at h
  have h2 := (List.getElem?_eq_some_iff.1 h1)
  rw [← h2.2, List.set_getElem_self]
theorem mix_len {A : List Rp} {k : Nat} : (mixR A k).length = A.length := by unfold mixR; simp; omega
theorem plI_nil {rise fall : Int} {l : List Rp} : PlI rise fall ((l.take 0).map fixR) [] := fun s b hs hb => by unfold rUp; rfl
theorem mput_le {K V : Type} [DecidableEq K] {l : List (K × V)} {k : K} {vd : V} : (mput l k vd).length ≤ l.length + 1 := by
  rw [mput_len]; split <;> omega
theorem plI_at {rise fall : Int} {own : List Rp} {L : HL} (h : PlI rise fall own L) {s b : Int} (hs : in64 s) (hb : in64 b) : mget whoM L (s, b) = (!(rUp rise fall s b own).1, (rUp rise fall s b own).2) := h s b hs hb
theorem mix_end {A : List Rp} : mixR A A.length = A.map fixR := by unfold mixR; simp
attribute [local irreducible] mp rg mput mget mfind mdel rUp rcs mixR PlI fixR
theorem healthPlays_t (rise fall : Int) (vr : Value) (l : List Rp) (hr : in64 rise) (hf : in64 fall) (hl : ∀ x ∈ l, in64 x.1 ∧ in64 x.2.1 ∧ in64 x.2.2) :
    Triple Try.prog 14 #[.int .i64 rise, .int .i64 fall, vr] [rdN vr l.length (l.map fun x => flat (repC x)).flatten] (RVal (.bool true)) := by
  have e0 : (l.map fun x => flat (repC x)).flatten = rcs l := by unfold rcs; rfl
  rw [e0]
  have hlive := hlives_t
  by_cases hg : (1 ≤ rise ∧ rise ≤ 100) ∧ 1 ≤ fall ∧ fall ≤ 100
  · obtain ⟨g1, g2⟩ := hg
    have c0 := hnew_t rise fall g1 g2
    have cU : ∀ (ow : List Rp) (v : Value) (s b : Int), ow.length ≤ 100000 → Triple Try.prog 50 #[v, .int .i64 rise, .int .i64 fall, .int .i64 s, .int .i64 b] [rdN v ow.length (rcs ow)] (RVal (.bool (rUp rise fall s b ow).1)) := fun ow v s b h => by
      have := rup_t rise fall s b ow v h
      unfold rcs; exact this
    have hcl0 := rcs_len (l := l)
    refine Triple.enter Try.func14 rfl Try.ntmps14 rfl (fun W => ?_)
    dsimp only [argsF, Nat.reduceAdd]
    repeat' (first
     | (refine isSeqR 6 ?_; refine WPc.join (σ := Value × List Rp) (fun st => st.2.length ≤ 60 ∧ ∀ x ∈ st.2, in64 x.1 ∧ in64 x.2.1 ∧ in64 x.2.2) (fun st => [rdN st.1 st.2.length (rcs st.2), bx gh 164 (hbc rise fall m), mp whoM m []]) (fun st => [(0, .int .i64 rise), (1, .int .i64 fall), (2, st.1), (7, hP gh)]) ?_ (fun st hx => ?_))
     | refine WPl.nil ?_ | refine WPq.then ?_ | refine WPq.thenR ?_ | refine WPq.thenE ?_ | refine WPq.blockN ?_ | refine WPq.blockR ?_ | refine WPq.blockE ?_ | refine WPq.blockO rfl ?_ | refine WPc.seq ?_ | refine WPc.block ?_ | refine WPc.ret ?_ | refine WPc.exit ?_ | refine WPc.skip ?_ | refine WPc.region ?_
     | (refine isReg 48 ?_; refine WPc.drA [([], [221, 222, 223, 224, 225, 226, 227, 228]), ([], [220, 222, 223, 224, 225, 226, 227, 228]), ([], [220, 221, 223, 224, 225, 226, 227, 228]), ([], [220, 221, 222, 225, 226, 227, 228]), ([3], [220, 221, 222, 223, 225, 226, 227, 228]), ([], [220, 221, 222, 223, 224, 226]), ([], [220, 221, 222, 223, 224, 225]), ([5, 6], [220, 221, 222, 223, 224, 225, 226]), ([5, 6, 7], [220, 221, 222, 223, 224, 225, 226, 227]), ([0, 1, 2, 3, 4, 5, 6, 7, 8], [220, 221, 222, 223, 224, 225, 226, 227, 228])] [] (Γx := []) ?_; dsimp only [prev0, List.length_nil, List.length_cons])
     | (refine gAny ?_; first | (refine gD 51 ?_; refine RGl.rdX (fun e hk => by (try dsimp only [bndR, ensR, oksR, fcutR, List.append_nil, List.nil_append, List.cons_append, List.append_assoc] at hk ⊢); exact readP) ?_) | (refine gOp ?_; first | refine RGl.rdA ?_ | refine RGl.rdX (fun e hk => by (try dsimp only [bndR, ensR, oksR, fcutR, List.append_nil, List.nil_append, List.cons_append, List.append_assoc] at hk ⊢); exact readB) ?_) | (refine RGl.fin (fun e hk => ?_); (try dsimp only [bndA, ensAR, oksA, List.append_nil, List.nil_append, List.cons_append, List.append_assoc] at hk ⊢); (repeat (obtain ⟨hk1, hk⟩ := hk))) | fail)
     | (refine isCond ?_; first | refine WPc.cT ?_ | refine WPc.cF ?_ | (refine WPc.cQ (fun hc => ?_) (fun hc => ?_) <;> try exact prA))
     | (refine isC 24 ?_; refine WPl.cXs (c0) fun v Γ1 hR => ?_; obtain ⟨gh, m, rfl, rfl⟩ := hR; (try dsimp only [putF, List.cons_append, List.nil_append]))
     | (refine isD 51 ?_; refine WPl.rdX (readP) ?_)
     | (refine isOp ?_; first | refine WPl.rd ?_ | refine WPl.sk ?_ | refine WPl.rdB ?_)
     | (refine isAl ?_; refine WPl.nw fun g => ?_)
     | (refine isSt ?_; first | refine WPl.st1 ?_ | refine WPl.stA ?_ | refine WPl.stEB ?_ | refine WPl.stRB ?_)
     | (show WPl _ _ _ _ _ _ _ (⟨_, .indexAddr _ _ _, _, _, _, _⟩ :: _) _; refine WPl.rdX (ReadR.indexE rfl rfl hasA (by first | assumption | omega)) ?_)
     | (show WPl _ _ _ _ _ _ _ (⟨_, .fieldAddr _ _ _, _, _, _, _⟩ :: _) _; refine WPl.rdX (ReadR.fieldE rfl hasA (by first | assumption | omega)) ?_)
     | (show WPl _ _ _ _ _ _ _ (⟨_, .load _ _, _, _, _, _⟩ :: _) _; first | refine WPl.rdX (ReadR.loadE rfl hasA (by assumption)) ?_ | refine WPl.rdX (ReadR.loadES (by assumption) (by first | assumption | omega) rfl hasA) ?_)
     | (show WPl _ _ _ _ _ _ _ (⟨_, .slice _ _ _ _ _, _, _, _, _⟩ :: _) _; first | refine WPl.rdX (ReadR.sliceH rfl rfl hasA (by omega)) ?_ | refine WPl.rdX (ReadR.sliceL rfl rfl hasA (by omega)) ?_ | refine WPl.rdX (ReadR.sliceLH rfl rfl rfl hasA (by omega) (by omega)) ?_)
     | (refine WPl.spQ (fun hc => ?_) (fun hc => ?_) <;> try exact prA)
     | fail)
    · obtain ⟨l2, hl2⟩ : ∃ l2, l2 = (l.drop 0).take 60 := ⟨_, rfl⟩
      have hlen2 : l2.length = 60 := by rw [hl2]; simp; omega
      refine WPq.subRd (v := vr) (m := l.length) (sz := 3) (k := 0) (j := 60) (xs := rcs l) memA rcs_len (by omega) ?_
      rw [rcs_sub (by omega), ← hl2, show rdN (subv 3 vr 0 60) 60 (rcs l2) = rdN (subv 3 vr 0 60) l2.length (rcs l2) by rw [hlen2]]
      exact WPq.join (subv 3 vr 0 60, l2) ⟨by dsimp only; omega, fun x hx => hl x (by rw [hl2, List.drop_zero] at hx; exact List.mem_of_mem_take hx)⟩
    · exact WPq.join (vr, l) ⟨by dsimp only; omega, hl⟩
    clear hl hcl0 e0
    obtain ⟨v, l1⟩ := st
    obtain ⟨hl60, hl⟩ := hx
    dsimp only at hl60 hl ⊢
    first | refine WPc.loop (σ := Nat × HL) (fun st => st.1 ≤ l1.length ∧ PlI rise fall ((l1.take st.1).map fixR) st.2 ∧ st.2.length ≤ st.1) (fun st => [rdN v l1.length (rcs l1), bx gh 164 (hbc rise fall m), mp whoM m st.2]) (fun st => [(0, .int .i64 rise), (1, .int .i64 fall), (2, v), (7, hP gh), (9, .int .i64 st.1)]) (fun st => l1.length - st.1) ((0, [])) ?_ takesA frsA (fun st km hx hk => ?_)
    · exact ⟨Nat.zero_le _, plI_nil, Nat.zero_le _⟩
    obtain ⟨i, L⟩ := st
    obtain ⟨hi, hI, hLl⟩ := hx
    dsimp only at hi hI hLl hk ⊢
    have hkO := hk
    have hcl := rcs_len (l := l1)
    by_cases hin : i < l1.length
    · obtain ⟨x, hxi⟩ : ∃ x, l1[i]? = some x := ⟨_, List.getElem?_eq_getElem hin⟩
      have hx64 := hl x (List.mem_of_getElem? hxi)
      have hxd := rcs_drop hxi
      obtain ⟨x0, x1, x2⟩ := x
      dsimp only at hx64
      obtain ⟨b0, b1, b2⟩ := hx64
      repeat' (first
       | (refine isSeqR 12 ?_; refine WPc.join (σ := Rp) (fun y => y = fixR (x0, x1, x2)) (fun y => [rdN v l1.length (rcs l1), bx g10 117 (repC y), bx gh 164 (hbc rise fall m), mp whoM m L]) (fun y => [(0, .int .i64 rise), (1, .int .i64 fall), (2, v), (7, hP gh), (9, .int .i64 i), (10, .pointer (some ⟨g10, 0, none⟩))]) ?_ (fun st hx => ?_))
       | (refine isSeq1 14 ?_; refine Held.it ?_)
       | refine WPl.nil ?_ | refine WPq.then ?_ | refine WPq.thenR ?_ | refine WPq.thenE ?_ | refine WPq.blockN ?_ | refine WPq.blockR ?_ | refine WPq.blockE ?_ | refine WPq.blockO rfl ?_ | refine WPc.seq ?_ | refine WPc.block ?_ | refine WPc.ret ?_ | refine WPc.exit ?_ | refine WPc.skip ?_ | refine WPc.region ?_
       | (refine isReg 48 ?_; refine WPc.drA [([], [221, 222, 223, 224, 225, 226, 227, 228]), ([], [220, 222, 223, 224, 225, 226, 227, 228]), ([], [220, 221, 223, 224, 225, 226, 227, 228]), ([], [220, 221, 222, 225, 226, 227, 228]), ([3], [220, 221, 222, 223, 225, 226, 227, 228]), ([], [220, 221, 222, 223, 224, 226]), ([], [220, 221, 222, 223, 224, 225]), ([5, 6], [220, 221, 222, 223, 224, 225, 226]), ([5, 6, 7], [220, 221, 222, 223, 224, 225, 226, 227]), ([0, 1, 2, 3, 4, 5, 6, 7, 8], [220, 221, 222, 223, 224, 225, 226, 227, 228])] [] (Γx := []) ?_; dsimp only [prev0, List.length_nil, List.length_cons])
       | (refine gAny ?_; first | (refine gOp ?_; first | refine RGl.rdA ?_ | refine RGl.rdX (fun e hk => by (try dsimp only [bndR, ensR, oksR, fcutR, List.append_nil, List.nil_append, List.cons_append, List.append_assoc] at hk ⊢); exact readB) ?_) | (refine RGl.fin (fun e hk => ?_); (try dsimp only [bndA, ensAR, oksA, List.append_nil, List.nil_append, List.cons_append, List.append_assoc] at hk ⊢); (repeat (obtain ⟨hk1, hk⟩ := hk))) | fail)
       | (refine isCond ?_; first | refine WPc.cT ?_ | refine WPc.cF ?_ | (refine WPc.cQ (fun hc => ?_) (fun hc => ?_) <;> try exact prA))
       | (refine isD 10 ?_; first | (refine isAl ?_; refine WPl.nw fun g10 => ?_) | (refine isBx ?_; refine WPl.nw fun g10 => ?_))
       | (refine isOp ?_; first | refine WPl.rd ?_ | refine WPl.sk ?_ | refine WPl.rdB ?_)
       | (refine isAl ?_; refine WPl.nw fun g => ?_)
       | (refine isSt ?_; first | refine WPl.st1 ?_ | refine WPl.stA ?_ | refine WPl.stEB ?_ | refine WPl.stRB ?_)
       | (show WPl _ _ _ _ _ _ _ (⟨_, .indexAddr _ _ _, _, _, _, _⟩ :: _) _; refine WPl.rdX (ReadR.indexE rfl rfl hasA (by first | assumption | omega)) ?_)
       | (show WPl _ _ _ _ _ _ _ (⟨_, .fieldAddr _ _ _, _, _, _, _⟩ :: _) _; refine WPl.rdX (ReadR.fieldE rfl hasA (by first | assumption | omega)) ?_)
       | (show WPl _ _ _ _ _ _ _ (⟨_, .load _ _, _, _, _, _⟩ :: _) _; first | refine WPl.rdX (ReadR.loadE rfl hasA (by assumption)) ?_ | refine WPl.rdX (ReadR.loadES (by assumption) (by first | assumption | omega) rfl hasA) ?_)
       | (show WPl _ _ _ _ _ _ _ (⟨_, .slice _ _ _ _ _, _, _, _, _⟩ :: _) _; first | refine WPl.rdX (ReadR.sliceH rfl rfl hasA (by omega)) ?_ | refine WPl.rdX (ReadR.sliceL rfl rfl hasA (by omega)) ?_ | refine WPl.rdX (ReadR.sliceLH rfl rfl rfl hasA (by omega) (by omega)) ?_)
       | (refine WPl.spQ (fun hc => ?_) (fun hc => ?_) <;> try exact prA)
       | fail)
      · exact WPq.join (x0, x1, 0) (by unfold fixR; rw [if_pos (.inr (by omega))])
      · exact WPq.join (x0, x1, x2) (by unfold fixR; rw [if_neg (by dsimp only; omega)])
      · exact WPq.join (x0, x1, 0) (by unfold fixR; rw [if_pos (.inl (by omega))])
      obtain ⟨y0, y1, y2⟩ := st
      have hy := hx
      obtain ⟨hf1, hf2⟩ := fix_in (x := (x0, x1, x2))
      obtain ⟨hf3, hf4⟩ := fix_fst (x := (x0, x1, x2))
      rw [← hy] at hf1 hf2 hf3 hf4
      dsimp only at hf1 hf2 hf3 hf4
      have hf3' := hf3.symm
      have hf4' := hf4.symm
      subst hf3' hf4'
      obtain ⟨A, hA⟩ : ∃ A, A = l1.take i := ⟨_, rfl⟩
      have hAl : A.length = i := by rw [hA, List.length_take]; omega
      have hsub0 : ((rcs l1).drop (0 * 3)).take (i * 3) = rcs A := by rw [rcs_sub (by omega), hA]; rfl
      have hA1 : (l1.take (i + 1)).map fixR = A.map fixR ++ [(x0, x1, y2)] := by rw [List.take_add_one, hxi, List.map_append, hA]; simp [hy]
      rw [← hA] at hI
      have hmx0 : [] ++ rcs A = rcs (mixR A 0) := by unfold mixR; rfl
      refine ⟨?_⟩
      repeat' (first
       | refine WPl.nil ?_ | refine WPq.then ?_ | refine WPq.thenR ?_ | refine WPq.thenE ?_ | refine WPq.blockN ?_ | refine WPq.blockR ?_ | refine WPq.blockE ?_ | refine WPq.blockO rfl ?_ | refine WPc.seq ?_ | refine WPc.block ?_ | refine WPc.ret ?_ | refine WPc.exit ?_ | refine WPc.skip ?_ | refine WPc.region ?_
       | (refine isReg 48 ?_; refine WPc.drA [([], [221, 222, 223, 224, 225, 226, 227, 228]), ([], [220, 222, 223, 224, 225, 226, 227, 228]), ([], [220, 221, 223, 224, 225, 226, 227, 228]), ([], [220, 221, 222, 225, 226, 227, 228]), ([3], [220, 221, 222, 223, 225, 226, 227, 228]), ([], [220, 221, 222, 223, 224, 226]), ([], [220, 221, 222, 223, 224, 225]), ([5, 6], [220, 221, 222, 223, 224, 225, 226]), ([5, 6, 7], [220, 221, 222, 223, 224, 225, 226, 227]), ([0, 1, 2, 3, 4, 5, 6, 7, 8], [220, 221, 222, 223, 224, 225, 226, 227, 228])] [] (Γx := []) ?_; dsimp only [prev0, List.length_nil, List.length_cons])
       | (refine gAny ?_; first | (refine gOp ?_; first | refine RGl.rdA ?_ | refine RGl.rdX (fun e hk => by (try dsimp only [bndR, ensR, oksR, fcutR, List.append_nil, List.nil_append, List.cons_append, List.append_assoc] at hk ⊢); exact readB) ?_) | (refine RGl.fin (fun e hk => ?_); (try dsimp only [bndA, ensAR, oksA, List.append_nil, List.nil_append, List.cons_append, List.append_assoc] at hk ⊢); (repeat (obtain ⟨hk1, hk⟩ := hk))) | fail)
       | (refine isCond ?_; first | refine WPc.cT ?_ | refine WPc.cF ?_ | (refine WPc.cQ (fun hc => ?_) (fun hc => ?_) <;> try exact prA))
       | (refine isD 80 ?_; refine WPl.litS0 fun v80 hv80 => ?_)
       | (refine isD 84 ?_; refine WPl.appN (m := 0) (m2 := i) (xs := []) (ys := rcs A) (by rw [rcs_len, hAl]) rcs_one (by omega) (fun v84 hv84 => ?_) (h2 := hsub0 ▸ HasS.sub hasA rcs_len (by omega)); rw [hmx0, Nat.zero_add])
       | (refine isOp ?_; first | refine WPl.rd ?_ | refine WPl.sk ?_ | refine WPl.rdB ?_)
       | (refine isAl ?_; refine WPl.nw fun g => ?_)
       | (refine isSt ?_; first | refine WPl.st1 ?_ | refine WPl.stA ?_ | refine WPl.stEB ?_ | refine WPl.stRB ?_)
       | (show WPl _ _ _ _ _ _ _ (⟨_, .indexAddr _ _ _, _, _, _, _⟩ :: _) _; refine WPl.rdX (ReadR.indexE rfl rfl hasA (by first | assumption | omega)) ?_)
       | (show WPl _ _ _ _ _ _ _ (⟨_, .fieldAddr _ _ _, _, _, _, _⟩ :: _) _; refine WPl.rdX (ReadR.fieldE rfl hasA (by first | assumption | omega)) ?_)
       | (show WPl _ _ _ _ _ _ _ (⟨_, .load _ _, _, _, _, _⟩ :: _) _; first | refine WPl.rdX (ReadR.loadE rfl hasA (by assumption)) ?_ | refine WPl.rdX (ReadR.loadES (by assumption) (by first | assumption | omega) rfl hasA) ?_)
       | (show WPl _ _ _ _ _ _ _ (⟨_, .slice _ _ _ _ _, _, _, _, _⟩ :: _) _; first | refine WPl.rdX (ReadR.sliceH rfl rfl hasA (by omega)) ?_ | refine WPl.rdX (ReadR.sliceL rfl rfl hasA (by omega)) ?_ | refine WPl.rdX (ReadR.sliceLH rfl rfl rfl hasA (by omega) (by omega)) ?_)
       | (refine WPl.spQ (fun hc => ?_) (fun hc => ?_) <;> try exact prA)
       | fail)
      first | refine WPc.loop (σ := Nat) (fun k => k ≤ i) (fun k => [rdN v l1.length (rcs l1), rowN 117 3 v84 i (rcs (mixR A k)), bx g10 117 (repC (x0, x1, y2)), bx gh 164 (hbc rise fall m), mp whoM m L]) (fun k => [(0, .int .i64 rise), (1, .int .i64 fall), (2, v), (7, hP gh), (9, .int .i64 i), (10, .pointer (some ⟨g10, 0, none⟩)), (11, v84), (12, .int .i64 k)]) (fun k => i - k) (0) ?_ takesA frsA (fun st km hx hk => ?_)
      · exact Nat.zero_le _
      obtain ⟨k, rfl⟩ : ∃ k, k = st := ⟨_, rfl⟩
      have hki : k ≤ i := hx
      have hk2 : km = i - k := hk
      clear hx hk
      have hmcl := rcs_len (l := mixR A k)
      rw [mix_len, hAl] at hmcl
      by_cases hkin : k < i
      · obtain ⟨z, hz⟩ : ∃ z, A[k]? = some z := ⟨_, List.getElem?_eq_getElem (by omega)⟩
        have hzm := mix_at hz
        obtain ⟨q0, q1, q2⟩ := rcs_at hzm
        obtain ⟨z0, z1, z2⟩ := z
        dsimp only at q0 q1 q2
        by_cases hbad : z2 < 0 ∨ z2 > 3
        · have hset : (rcs (mixR A k)).set (k * 3 + 2) (.int .i64 0) = rcs (mixR A (k + 1)) := by
            rw [rcs_set hzm, ← mix_set hz]
            unfold fixR
            rw [if_pos hbad]
          repeat' (first
           | refine WPl.nil ?_ | refine WPq.then ?_ | refine WPq.thenR ?_ | refine WPq.thenE ?_ | refine WPq.blockN ?_ | refine WPq.blockR ?_ | refine WPq.blockE ?_ | refine WPq.blockO rfl ?_ | refine WPc.seq ?_ | refine WPc.block ?_ | refine WPc.ret ?_ | refine WPc.exit ?_ | refine WPc.skip ?_ | refine WPc.region ?_
           | (refine isReg 48 ?_; refine WPc.drA [([], [221, 222, 223, 224, 225, 226, 227, 228]), ([], [220, 222, 223, 224, 225, 226, 227, 228]), ([], [220, 221, 223, 224, 225, 226, 227, 228]), ([], [220, 221, 222, 225, 226, 227, 228]), ([3], [220, 221, 222, 223, 225, 226, 227, 228]), ([], [220, 221, 222, 223, 224, 226]), ([], [220, 221, 222, 223, 224, 225]), ([5, 6], [220, 221, 222, 223, 224, 225, 226]), ([5, 6, 7], [220, 221, 222, 223, 224, 225, 226, 227]), ([0, 1, 2, 3, 4, 5, 6, 7, 8], [220, 221, 222, 223, 224, 225, 226, 227, 228])] [] (Γx := []) ?_; dsimp only [prev0, List.length_nil, List.length_cons])
           | (refine gAny ?_; first | (refine gOp ?_; first | refine RGl.rdA ?_ | refine RGl.rdX (fun e hk => by (try dsimp only [bndR, ensR, oksR, fcutR, List.append_nil, List.nil_append, List.cons_append, List.append_assoc] at hk ⊢); exact readB) ?_) | (refine RGl.fin (fun e hk => ?_); (try dsimp only [bndA, ensAR, oksA, List.append_nil, List.nil_append, List.cons_append, List.append_assoc] at hk ⊢); (repeat (obtain ⟨hk1, hk⟩ := hk))) | fail)
           | (refine isCond ?_; first | refine WPc.cT ?_ | refine WPc.cF ?_ | (refine WPc.cQ (fun hc => ?_) (fun hc => ?_) <;> try exact prA))
           | (show WPl _ _ _ _ _ _ _ (⟨_, .store _ (.tmp 108) _, _, _, _, _⟩ :: _) _; refine WPl.stEN ((show k * 3 + 2 < (rcs (mixR A k)).length by omega)) ?_)
           | (refine isOp ?_; first | refine WPl.rd ?_ | refine WPl.sk ?_ | refine WPl.rdB ?_)
           | (refine isAl ?_; refine WPl.nw fun g => ?_)
           | (refine isSt ?_; first | refine WPl.st1 ?_ | refine WPl.stA ?_ | refine WPl.stEB ?_ | refine WPl.stRB ?_)
           | (show WPl _ _ _ _ _ _ _ (⟨_, .indexAddr _ _ _, _, _, _, _⟩ :: _) _; refine WPl.rdX (ReadR.indexE rfl rfl hasA (by first | assumption | omega)) ?_)
           | (show WPl _ _ _ _ _ _ _ (⟨_, .fieldAddr _ _ _, _, _, _, _⟩ :: _) _; refine WPl.rdX (ReadR.fieldE rfl hasA (by first | assumption | omega)) ?_)
           | (show WPl _ _ _ _ _ _ _ (⟨_, .load _ _, _, _, _, _⟩ :: _) _; first | refine WPl.rdX (ReadR.loadE rfl hasA (by assumption)) ?_ | refine WPl.rdX (ReadR.loadES (by assumption) (by first | assumption | omega) rfl hasA) ?_)
           | (show WPl _ _ _ _ _ _ _ (⟨_, .slice _ _ _ _ _, _, _, _, _⟩ :: _) _; first | refine WPl.rdX (ReadR.sliceH rfl rfl hasA (by omega)) ?_ | refine WPl.rdX (ReadR.sliceL rfl rfl hasA (by omega)) ?_ | refine WPl.rdX (ReadR.sliceLH rfl rfl rfl hasA (by omega) (by omega)) ?_)
           | (refine WPl.spQ (fun hc => ?_) (fun hc => ?_) <;> try exact prA)
           | fail)
          all_goals first | (rw [hset]; exact WPq.rnd (k + 1) (by omega) (by omega)) | (exfalso; omega)
        · have hsm := mix_same hz (by unfold fixR; rw [if_neg hbad])
          rw [hsm] at q0 q1 q2 hmcl ⊢
          repeat' (first
           | refine WPl.nil ?_ | refine WPq.then ?_ | refine WPq.thenR ?_ | refine WPq.thenE ?_ | refine WPq.blockN ?_ | refine WPq.blockR ?_ | refine WPq.blockE ?_ | refine WPq.blockO rfl ?_ | refine WPc.seq ?_ | refine WPc.block ?_ | refine WPc.ret ?_ | refine WPc.exit ?_ | refine WPc.skip ?_ | refine WPc.region ?_
           | (refine isReg 48 ?_; refine WPc.drA [([], [221, 222, 223, 224, 225, 226, 227, 228]), ([], [220, 222, 223, 224, 225, 226, 227, 228]), ([], [220, 221, 223, 224, 225, 226, 227, 228]), ([], [220, 221, 222, 225, 226, 227, 228]), ([3], [220, 221, 222, 223, 225, 226, 227, 228]), ([], [220, 221, 222, 223, 224, 226]), ([], [220, 221, 222, 223, 224, 225]), ([5, 6], [220, 221, 222, 223, 224, 225, 226]), ([5, 6, 7], [220, 221, 222, 223, 224, 225, 226, 227]), ([0, 1, 2, 3, 4, 5, 6, 7, 8], [220, 221, 222, 223, 224, 225, 226, 227, 228])] [] (Γx := []) ?_; dsimp only [prev0, List.length_nil, List.length_cons])
           | (refine gAny ?_; first | (refine gOp ?_; first | refine RGl.rdA ?_ | refine RGl.rdX (fun e hk => by (try dsimp only [bndR, ensR, oksR, fcutR, List.append_nil, List.nil_append, List.cons_append, List.append_assoc] at hk ⊢); exact readB) ?_) | (refine RGl.fin (fun e hk => ?_); (try dsimp only [bndA, ensAR, oksA, List.append_nil, List.nil_append, List.cons_append, List.append_assoc] at hk ⊢); (repeat (obtain ⟨hk1, hk⟩ := hk))) | fail)
           | (refine isCond ?_; first | refine WPc.cT ?_ | refine WPc.cF ?_ | (refine WPc.cQ (fun hc => ?_) (fun hc => ?_) <;> try exact prA))
           | (refine isOp ?_; first | refine WPl.rd ?_ | refine WPl.sk ?_ | refine WPl.rdB ?_)
           | (refine isAl ?_; refine WPl.nw fun g => ?_)
           | (refine isSt ?_; first | refine WPl.st1 ?_ | refine WPl.stA ?_ | refine WPl.stEB ?_ | refine WPl.stRB ?_)
           | (show WPl _ _ _ _ _ _ _ (⟨_, .indexAddr _ _ _, _, _, _, _⟩ :: _) _; refine WPl.rdX (ReadR.indexE rfl rfl hasA (by first | assumption | omega)) ?_)
           | (show WPl _ _ _ _ _ _ _ (⟨_, .fieldAddr _ _ _, _, _, _, _⟩ :: _) _; refine WPl.rdX (ReadR.fieldE rfl hasA (by first | assumption | omega)) ?_)
           | (show WPl _ _ _ _ _ _ _ (⟨_, .load _ _, _, _, _, _⟩ :: _) _; first | refine WPl.rdX (ReadR.loadE rfl hasA (by assumption)) ?_ | refine WPl.rdX (ReadR.loadES (by assumption) (by first | assumption | omega) rfl hasA) ?_)
           | (show WPl _ _ _ _ _ _ _ (⟨_, .slice _ _ _ _ _, _, _, _, _⟩ :: _) _; first | refine WPl.rdX (ReadR.sliceH rfl rfl hasA (by omega)) ?_ | refine WPl.rdX (ReadR.sliceL rfl rfl hasA (by omega)) ?_ | refine WPl.rdX (ReadR.sliceLH rfl rfl rfl hasA (by omega) (by omega)) ?_)
           | (refine WPl.spQ (fun hc => ?_) (fun hc => ?_) <;> try exact prA)
           | fail)
          all_goals first | exact WPq.rnd (k + 1) (by omega) (by omega) | (exfalso; omega)
      · obtain rfl : k = i := by omega
        obtain ⟨ow, how⟩ : ∃ ow, ow = A.map fixR := ⟨_, rfl⟩
        have howl : k = ow.length := by rw [how, List.length_map]; omega
        obtain ⟨ow1, how1⟩ : ∃ ow1, ow1 = ow ++ [(x0, x1, y2)] := ⟨_, rfl⟩
        have how1l : ow1.length = k + 1 := by rw [how1, List.length_append, ← howl]; rfl
        rw [show rcs (mixR A k) = rcs ow by rw [how, ← mix_end, hAl]]
        rw [show rowN 117 3 v84 k (rcs ow) = rowN 117 3 v84 ow.length (rcs ow) by rw [← howl]]
        have cu1 := cU ow v84 x0 x1 (by omega)
        have hap1 : rcs ow ++ flat (repC (x0, x1, y2)) = rcs ow1 := by rw [how1, ← rcs_app]; unfold rcs; simp
        have hap2 : ow.length + 1 = ow1.length := by omega
        have cu2 := fun v120 => cU ow1 v120 x0 x1 (by omega)
        rw [← how] at hI
        rw [← how, ← how1] at hA1
        repeat' (first
         | (refine isSeqR 23 ?_; refine Held.it ?_)
         | refine WPl.nil ?_ | refine WPq.then ?_ | refine WPq.thenR ?_ | refine WPq.thenE ?_ | refine WPq.blockN ?_ | refine WPq.blockR ?_ | refine WPq.blockE ?_ | refine WPq.blockO rfl ?_ | refine WPc.seq ?_ | refine WPc.block ?_ | refine WPc.ret ?_ | refine WPc.exit ?_ | refine WPc.skip ?_ | refine WPc.region ?_
         | (refine isReg 48 ?_; refine WPc.drA [([], [221, 222, 223, 224, 225, 226, 227, 228]), ([], [220, 222, 223, 224, 225, 226, 227, 228]), ([], [220, 221, 223, 224, 225, 226, 227, 228]), ([], [220, 221, 222, 225, 226, 227, 228]), ([3], [220, 221, 222, 223, 225, 226, 227, 228]), ([], [220, 221, 222, 223, 224, 226]), ([], [220, 221, 222, 223, 224, 225]), ([5, 6], [220, 221, 222, 223, 224, 225, 226]), ([5, 6, 7], [220, 221, 222, 223, 224, 225, 226, 227]), ([0, 1, 2, 3, 4, 5, 6, 7, 8], [220, 221, 222, 223, 224, 225, 226, 227, 228])] [] (Γx := []) ?_; dsimp only [prev0, List.length_nil, List.length_cons])
         | (refine gAny ?_; first | (refine gC 116 ?_; refine RGl.vl (fun e hk => OpT.callN (cu1)) ?_) | (refine gC 128 ?_; refine RGl.vl (fun e hk => OpT.callN (cu2 _)) ?_) | (refine gOp ?_; first | refine RGl.rdA ?_ | refine RGl.rdX (fun e hk => by (try dsimp only [bndR, ensR, oksR, fcutR, List.append_nil, List.nil_append, List.cons_append, List.append_assoc] at hk ⊢); exact readB) ?_) | (refine RGl.fin (fun e hk => ?_); (try dsimp only [bndA, ensAR, oksA, List.append_nil, List.nil_append, List.cons_append, List.append_assoc] at hk ⊢); (repeat (obtain ⟨hk1, hk⟩ := hk))) | fail)
         | (refine isCond ?_; first | refine WPc.cT ?_ | refine WPc.cF ?_ | (refine WPc.cQ (fun hc => ?_) (fun hc => ?_) <;> try exact prA))
         | (refine isC 116 ?_; refine WPl.cV (cu1) ?_)
         | (refine isD 119 ?_; refine WPl.litS1 fun v119 hv119 => ?_)
         | (refine isD 120 ?_; refine WPl.appN (m := ow.length) (m2 := 1) (xs := rcs ow) (ys := flat (repC (x0, x1, y2))) rfl (fun u hu => by simp [flat] at hu; rcases hu with rfl | rfl | rfl <;> rfl) (by omega) (fun v120 hv120 => ?_); rw [hap1, hap2])
         | (refine isC 128 ?_; refine WPl.cV (cu2 _) ?_)
         | (refine isOp ?_; first | refine WPl.rd ?_ | refine WPl.sk ?_ | refine WPl.rdB ?_)
         | (refine isAl ?_; refine WPl.nw fun g => ?_)
         | (refine isSt ?_; first | refine WPl.st1 ?_ | refine WPl.stA ?_ | refine WPl.stEB ?_ | refine WPl.stRB ?_)
         | (show WPl _ _ _ _ _ _ _ (⟨_, .indexAddr _ _ _, _, _, _, _⟩ :: _) _; refine WPl.rdX (ReadR.indexE rfl rfl hasA (by first | assumption | omega)) ?_)
         | (show WPl _ _ _ _ _ _ _ (⟨_, .fieldAddr _ _ _, _, _, _, _⟩ :: _) _; refine WPl.rdX (ReadR.fieldE rfl hasA (by first | assumption | omega)) ?_)
         | (show WPl _ _ _ _ _ _ _ (⟨_, .load _ _, _, _, _, _⟩ :: _) _; first | refine WPl.rdX (ReadR.loadE rfl hasA (by assumption)) ?_ | refine WPl.rdX (ReadR.loadES (by assumption) (by first | assumption | omega) rfl hasA) ?_)
         | (show WPl _ _ _ _ _ _ _ (⟨_, .slice _ _ _ _ _, _, _, _, _⟩ :: _) _; first | refine WPl.rdX (ReadR.sliceH rfl rfl hasA (by omega)) ?_ | refine WPl.rdX (ReadR.sliceL rfl rfl hasA (by omega)) ?_ | refine WPl.rdX (ReadR.sliceLH rfl rfl rfl hasA (by omega) (by omega)) ?_)
         | (refine WPl.spQ (fun hc => ?_) (fun hc => ?_) <;> try exact prA)
         | fail)
        refine ⟨?_⟩
        refine WPc.mkeys (M := whoM) (m := m) (l := L) memA fun hnd _ => ?_
        obtain ⟨u0, hu0⟩ : ∃ u, u = (rUp rise fall x0 x1 ow).1 := ⟨_, rfl⟩
        obtain ⟨u1, hu1⟩ : ∃ u, u = (rUp rise fall x0 x1 ow1).1 := ⟨_, rfl⟩
        rw [← hu0, ← hu1]
        clear cu1 cu2 hmcl hxd hap1 hap2 hsub0 hmx0
        refine WPc.join (σ := HL) (fun L2 => PlI rise fall ow1 L2 ∧ L2.length ≤ k + 1) (fun L2 => [rdN v l1.length (rcs l1), rowN 117 3 v120 ow1.length (rcs ow1), bx g10 117 (repC (x0, x1, y2)), bx gh 164 (hbc rise fall m), mp whoM m L2]) (fun L2 => [(0, .int .i64 rise), (1, .int .i64 fall), (2, v), (7, hP gh), (9, .int .i64 k), (10, .pointer (some ⟨g10, 0, none⟩)), (11, v120), (14, .bool u1)]) ?_ (fun st hx => ?_)
        · have h4 : (y2 = 0 ∨ y2 = 1) ∨ y2 = 2 ∨ y2 = 3 := by omega
          rcases h4 with h4 | h4 | h4
          · obtain ⟨st, hst1, hst2⟩ := play_rep (by omega) hI (x := (x0, x1, y2)) h4 b0 b1
            rw [← how1, ← hu0, ← hu1] at hst1
            rw [← how1] at hst2
            dsimp only at hst1
            have c3 := hreport_t gh m rise fall x0 x1 (decide (y2 = 1)) L st _ hst1 b0 b1
            have e9 : ((!(u0 == u1)) == (!(u0 == u1))) = true := by simp
            repeat' (first
             | refine WPl.nil ?_ | refine WPq.then ?_ | refine WPq.thenR ?_ | refine WPq.thenE ?_ | refine WPq.blockN ?_ | refine WPq.blockR ?_ | refine WPq.blockE ?_ | refine WPq.blockO rfl ?_ | refine WPc.seq ?_ | refine WPc.block ?_ | refine WPc.ret ?_ | refine WPc.exit ?_ | refine WPc.skip ?_ | refine WPc.region ?_
             | (refine isReg 48 ?_; refine WPc.drA [([], [221, 222, 223, 224, 225, 226, 227, 228]), ([], [220, 222, 223, 224, 225, 226, 227, 228]), ([], [220, 221, 223, 224, 225, 226, 227, 228]), ([], [220, 221, 222, 225, 226, 227, 228]), ([3], [220, 221, 222, 223, 225, 226, 227, 228]), ([], [220, 221, 222, 223, 224, 226]), ([], [220, 221, 222, 223, 224, 225]), ([5, 6], [220, 221, 222, 223, 224, 225, 226]), ([5, 6, 7], [220, 221, 222, 223, 224, 225, 226, 227]), ([0, 1, 2, 3, 4, 5, 6, 7, 8], [220, 221, 222, 223, 224, 225, 226, 227, 228])] [] (Γx := []) ?_; dsimp only [prev0, List.length_nil, List.length_cons])
             | (refine gAny ?_; first | (refine gC 139 ?_; refine RGl.turns (fun e hk => by (try dsimp only [bndR, ensR, oksR, fcutR, List.append_nil, List.nil_append, List.cons_append, List.append_assoc] at hk ⊢); exact OpT.callTs (c3)) ?_) | (refine gD 143 ?_; refine RGl.rdX (fun e hk => by (try dsimp only [bndR, ensR, oksR, fcutR, List.append_nil, List.nil_append, List.cons_append, List.append_assoc] at hk ⊢); exact ReadR.binE rfl rfl (BinR.neqB (by kernel_rfl)) (congrArg (fun q => Value.bool (!q)) e9)) ?_) | (refine gOp ?_; first | refine RGl.rdA ?_ | refine RGl.rdX (fun e hk => by (try dsimp only [bndR, ensR, oksR, fcutR, List.append_nil, List.nil_append, List.cons_append, List.append_assoc] at hk ⊢); exact readB) ?_) | (refine RGl.fin (fun e hk => ?_); (try dsimp only [bndA, ensAR, oksA, List.append_nil, List.nil_append, List.cons_append, List.append_assoc] at hk ⊢); (repeat (obtain ⟨hk1, hk⟩ := hk))) | fail)
             | (refine isCond ?_; first | refine WPc.cT ?_ | refine WPc.cF ?_ | (refine WPc.cQ (fun hc => ?_) (fun hc => ?_) <;> try exact prA))
             | (refine isC 139 ?_; refine WPl.cTs (c3) ?_; (try dsimp only [putF, List.cons_append, List.nil_append]))
             | (refine isD 143 ?_; refine WPl.rdX (ReadR.binE rfl rfl (BinR.neqB (by kernel_rfl)) (congrArg (fun q => Value.bool (!q)) e9)) ?_)
             | (refine isOp ?_; first | refine WPl.rd ?_ | refine WPl.sk ?_ | refine WPl.rdB ?_)
             | (refine isAl ?_; refine WPl.nw fun g => ?_)
             | (refine isSt ?_; first | refine WPl.st1 ?_ | refine WPl.stA ?_ | refine WPl.stEB ?_ | refine WPl.stRB ?_)
             | (show WPl _ _ _ _ _ _ _ (⟨_, .indexAddr _ _ _, _, _, _, _⟩ :: _) _; refine WPl.rdX (ReadR.indexE rfl rfl hasA (by first | assumption | omega)) ?_)
             | (show WPl _ _ _ _ _ _ _ (⟨_, .fieldAddr _ _ _, _, _, _, _⟩ :: _) _; refine WPl.rdX (ReadR.fieldE rfl hasA (by first | assumption | omega)) ?_)
             | (show WPl _ _ _ _ _ _ _ (⟨_, .load _ _, _, _, _, _⟩ :: _) _; first | refine WPl.rdX (ReadR.loadE rfl hasA (by assumption)) ?_ | refine WPl.rdX (ReadR.loadES (by assumption) (by first | assumption | omega) rfl hasA) ?_)
             | (show WPl _ _ _ _ _ _ _ (⟨_, .slice _ _ _ _ _, _, _, _, _⟩ :: _) _; first | refine WPl.rdX (ReadR.sliceH rfl rfl hasA (by omega)) ?_ | refine WPl.rdX (ReadR.sliceL rfl rfl hasA (by omega)) ?_ | refine WPl.rdX (ReadR.sliceLH rfl rfl rfl hasA (by omega) (by omega)) ?_)
             | (refine WPl.spQ (fun hc => ?_) (fun hc => ?_) <;> try exact prA)
             | fail)
            all_goals first | exact WPq.join (mput L (x0, x1) st) ⟨hst2, Nat.le_trans mput_le (by omega)⟩ | (exfalso; omega)
          · have hI2 := play_forget hI hnd (x := (x0, x1, y2)) h4
            rw [← how1] at hI2
            have c3 := hforget_t gh m rise fall x0 x1 L b0 b1
            repeat' (first
             | refine WPl.nil ?_ | refine WPq.then ?_ | refine WPq.thenR ?_ | refine WPq.thenE ?_ | refine WPq.blockN ?_ | refine WPq.blockR ?_ | refine WPq.blockE ?_ | refine WPq.blockO rfl ?_ | refine WPc.seq ?_ | refine WPc.block ?_ | refine WPc.ret ?_ | refine WPc.exit ?_ | refine WPc.skip ?_ | refine WPc.region ?_
             | (refine isReg 48 ?_; refine WPc.drA [([], [221, 222, 223, 224, 225, 226, 227, 228]), ([], [220, 222, 223, 224, 225, 226, 227, 228]), ([], [220, 221, 223, 224, 225, 226, 227, 228]), ([], [220, 221, 222, 225, 226, 227, 228]), ([3], [220, 221, 222, 223, 225, 226, 227, 228]), ([], [220, 221, 222, 223, 224, 226]), ([], [220, 221, 222, 223, 224, 225]), ([5, 6], [220, 221, 222, 223, 224, 225, 226]), ([5, 6, 7], [220, 221, 222, 223, 224, 225, 226, 227]), ([0, 1, 2, 3, 4, 5, 6, 7, 8], [220, 221, 222, 223, 224, 225, 226, 227, 228])] [] (Γx := []) ?_; dsimp only [prev0, List.length_nil, List.length_cons])
             | (refine gAny ?_; first | (refine gC 151 ?_; refine RGl.turns (fun e hk => by (try dsimp only [bndR, ensR, oksR, fcutR, List.append_nil, List.nil_append, List.cons_append, List.append_assoc] at hk ⊢); exact OpT.callTs (c3)) ?_) | (refine gOp ?_; first | refine RGl.rdA ?_ | refine RGl.rdX (fun e hk => by (try dsimp only [bndR, ensR, oksR, fcutR, List.append_nil, List.nil_append, List.cons_append, List.append_assoc] at hk ⊢); exact readB) ?_) | (refine RGl.fin (fun e hk => ?_); (try dsimp only [bndA, ensAR, oksA, List.append_nil, List.nil_append, List.cons_append, List.append_assoc] at hk ⊢); (repeat (obtain ⟨hk1, hk⟩ := hk))) | fail)
             | (refine isCond ?_; first | refine WPc.cT ?_ | refine WPc.cF ?_ | (refine WPc.cQ (fun hc => ?_) (fun hc => ?_) <;> try exact prA))
             | (refine isC 151 ?_; refine WPl.cTs (c3) ?_; (try dsimp only [putF, List.cons_append, List.nil_append]))
             | (refine isOp ?_; first | refine WPl.rd ?_ | refine WPl.sk ?_ | refine WPl.rdB ?_)
             | (refine isAl ?_; refine WPl.nw fun g => ?_)
             | (refine isSt ?_; first | refine WPl.st1 ?_ | refine WPl.stA ?_ | refine WPl.stEB ?_ | refine WPl.stRB ?_)
             | (show WPl _ _ _ _ _ _ _ (⟨_, .indexAddr _ _ _, _, _, _, _⟩ :: _) _; refine WPl.rdX (ReadR.indexE rfl rfl hasA (by first | assumption | omega)) ?_)
             | (show WPl _ _ _ _ _ _ _ (⟨_, .fieldAddr _ _ _, _, _, _, _⟩ :: _) _; refine WPl.rdX (ReadR.fieldE rfl hasA (by first | assumption | omega)) ?_)
             | (show WPl _ _ _ _ _ _ _ (⟨_, .load _ _, _, _, _, _⟩ :: _) _; first | refine WPl.rdX (ReadR.loadE rfl hasA (by assumption)) ?_ | refine WPl.rdX (ReadR.loadES (by assumption) (by first | assumption | omega) rfl hasA) ?_)
             | (show WPl _ _ _ _ _ _ _ (⟨_, .slice _ _ _ _ _, _, _, _, _⟩ :: _) _; first | refine WPl.rdX (ReadR.sliceH rfl rfl hasA (by omega)) ?_ | refine WPl.rdX (ReadR.sliceL rfl rfl hasA (by omega)) ?_ | refine WPl.rdX (ReadR.sliceLH rfl rfl rfl hasA (by omega) (by omega)) ?_)
             | (refine WPl.spQ (fun hc => ?_) (fun hc => ?_) <;> try exact prA)
             | fail)
            all_goals first | exact WPq.join (mdel L (x0, x1)) ⟨hI2, Nat.le_trans mdel_sub.length_le (by omega)⟩ | (exfalso; omega)
          · have c3 := hclear_t gh m rise fall x0 L
            repeat' (first
             | refine WPl.nil ?_ | refine WPq.then ?_ | refine WPq.thenR ?_ | refine WPq.thenE ?_ | refine WPq.blockN ?_ | refine WPq.blockR ?_ | refine WPq.blockE ?_ | refine WPq.blockO rfl ?_ | refine WPc.seq ?_ | refine WPc.block ?_ | refine WPc.ret ?_ | refine WPc.exit ?_ | refine WPc.skip ?_ | refine WPc.region ?_
             | (refine isReg 48 ?_; refine WPc.drA [([], [221, 222, 223, 224, 225, 226, 227, 228]), ([], [220, 222, 223, 224, 225, 226, 227, 228]), ([], [220, 221, 223, 224, 225, 226, 227, 228]), ([], [220, 221, 222, 225, 226, 227, 228]), ([3], [220, 221, 222, 223, 225, 226, 227, 228]), ([], [220, 221, 222, 223, 224, 226]), ([], [220, 221, 222, 223, 224, 225]), ([5, 6], [220, 221, 222, 223, 224, 225, 226]), ([5, 6, 7], [220, 221, 222, 223, 224, 225, 226, 227]), ([0, 1, 2, 3, 4, 5, 6, 7, 8], [220, 221, 222, 223, 224, 225, 226, 227, 228])] [] (Γx := []) ?_; dsimp only [prev0, List.length_nil, List.length_cons])
             | (refine gAny ?_; first | (refine gOp ?_; first | refine RGl.rdA ?_ | refine RGl.rdX (fun e hk => by (try dsimp only [bndR, ensR, oksR, fcutR, List.append_nil, List.nil_append, List.cons_append, List.append_assoc] at hk ⊢); exact readB) ?_) | (refine RGl.fin (fun e hk => ?_); (try dsimp only [bndA, ensAR, oksA, List.append_nil, List.nil_append, List.cons_append, List.append_assoc] at hk ⊢); (repeat (obtain ⟨hk1, hk⟩ := hk))) | fail)
             | (refine isCond ?_; first | refine WPc.cT ?_ | refine WPc.cF ?_ | (refine WPc.cQ (fun hc => ?_) (fun hc => ?_) <;> try exact prA))
             | (refine isC 157 ?_; refine WPl.cXs (c3) fun v Γ1 hR => ?_; obtain ⟨L', rfl, rfl, hsl, hl'⟩ := hR; (try dsimp only [putF, List.cons_append, List.nil_append]))
             | (refine isOp ?_; first | refine WPl.rd ?_ | refine WPl.sk ?_ | refine WPl.rdB ?_)
             | (refine isAl ?_; refine WPl.nw fun g => ?_)
             | (refine isSt ?_; first | refine WPl.st1 ?_ | refine WPl.stA ?_ | refine WPl.stEB ?_ | refine WPl.stRB ?_)
             | (show WPl _ _ _ _ _ _ _ (⟨_, .indexAddr _ _ _, _, _, _, _⟩ :: _) _; refine WPl.rdX (ReadR.indexE rfl rfl hasA (by first | assumption | omega)) ?_)
             | (show WPl _ _ _ _ _ _ _ (⟨_, .fieldAddr _ _ _, _, _, _, _⟩ :: _) _; refine WPl.rdX (ReadR.fieldE rfl hasA (by first | assumption | omega)) ?_)
             | (show WPl _ _ _ _ _ _ _ (⟨_, .load _ _, _, _, _, _⟩ :: _) _; first | refine WPl.rdX (ReadR.loadE rfl hasA (by assumption)) ?_ | refine WPl.rdX (ReadR.loadES (by assumption) (by first | assumption | omega) rfl hasA) ?_)
             | (show WPl _ _ _ _ _ _ _ (⟨_, .slice _ _ _ _ _, _, _, _, _⟩ :: _) _; first | refine WPl.rdX (ReadR.sliceH rfl rfl hasA (by omega)) ?_ | refine WPl.rdX (ReadR.sliceL rfl rfl hasA (by omega)) ?_ | refine WPl.rdX (ReadR.sliceLH rfl rfl rfl hasA (by omega) (by omega)) ?_)
             | (refine WPl.spQ (fun hc => ?_) (fun hc => ?_) <;> try exact prA)
             | fail)
            all_goals first | exact WPq.join L' ⟨how1 ▸ play_clear hI (x := (x0, x1, y2)) h4 hl', Nat.le_trans hsl.length_le (by omega)⟩ | (exfalso; omega)
        obtain ⟨L2, hL2⟩ : ∃ L2, L2 = st := ⟨_, rfl⟩
        rw [← hL2] at hx ⊢
        clear hL2 hnd
        obtain ⟨hI2, hL2l⟩ := hx
        refine WPc.mkeys (M := whoM) (m := m) (l := L2) memA fun hnd hwf => ?_
        have c4 := hup_t gh m rise fall x0 x1 L2 b0 b1
        rw [plI_at hI2 b0 b1, ← hu1] at c4
        dsimp only at c4
        rw [Bool.not_not] at c4
        have c5 := hdown_t gh m rise fall x0 L2 (by omega)
        have e10 : (u1 == u1) = true := by simp
        repeat' (first
         | refine WPl.nil ?_ | refine WPq.then ?_ | refine WPq.thenR ?_ | refine WPq.thenE ?_ | refine WPq.blockN ?_ | refine WPq.blockR ?_ | refine WPq.blockE ?_ | refine WPq.blockO rfl ?_ | refine WPc.seq ?_ | refine WPc.block ?_ | refine WPc.ret ?_ | refine WPc.exit ?_ | refine WPc.skip ?_ | refine WPc.region ?_
         | (refine isReg 48 ?_; refine WPc.drA [([], [221, 222, 223, 224, 225, 226, 227, 228]), ([], [220, 222, 223, 224, 225, 226, 227, 228]), ([], [220, 221, 223, 224, 225, 226, 227, 228]), ([], [220, 221, 222, 225, 226, 227, 228]), ([3], [220, 221, 222, 223, 225, 226, 227, 228]), ([], [220, 221, 222, 223, 224, 226]), ([], [220, 221, 222, 223, 224, 225]), ([5, 6], [220, 221, 222, 223, 224, 225, 226]), ([5, 6, 7], [220, 221, 222, 223, 224, 225, 226, 227]), ([0, 1, 2, 3, 4, 5, 6, 7, 8], [220, 221, 222, 223, 224, 225, 226, 227, 228])] [] (Γx := []) ?_; dsimp only [prev0, List.length_nil, List.length_cons])
         | (refine gAny ?_; first | (refine gC 163 ?_; refine RGl.turns (fun e hk => by (try dsimp only [bndR, ensR, oksR, fcutR, List.append_nil, List.nil_append, List.cons_append, List.append_assoc] at hk ⊢); exact OpT.callTs (c4)) ?_) | (refine gD 165 ?_; refine RGl.rdX (fun e hk => by (try dsimp only [bndR, ensR, oksR, fcutR, List.append_nil, List.nil_append, List.cons_append, List.append_assoc] at hk ⊢); exact ReadR.binE rfl rfl (BinR.neqB (by kernel_rfl)) (congrArg (fun q => Value.bool (!q)) e10)) ?_) | (refine gOp ?_; first | refine RGl.rdA ?_ | refine RGl.rdX (fun e hk => by (try dsimp only [bndR, ensR, oksR, fcutR, List.append_nil, List.nil_append, List.cons_append, List.append_assoc] at hk ⊢); exact readB) ?_) | (refine RGl.fin (fun e hk => ?_); (try dsimp only [bndA, ensAR, oksA, List.append_nil, List.nil_append, List.cons_append, List.append_assoc] at hk ⊢); (repeat (obtain ⟨hk1, hk⟩ := hk))) | fail)
         | (refine isCond ?_; first | refine WPc.cT ?_ | refine WPc.cF ?_ | (refine WPc.cQ (fun hc => ?_) (fun hc => ?_) <;> try exact prA))
         | (refine isC 163 ?_; refine WPl.cTs (c4) ?_; (try dsimp only [putF, List.cons_append, List.nil_append]))
         | (refine isD 165 ?_; refine WPl.rdX (ReadR.binE rfl rfl (BinR.neqB (by kernel_rfl)) (congrArg (fun q => Value.bool (!q)) e10)) ?_)
         | (refine isC 169 ?_; refine WPl.cXs (c5) fun vd Γ1 hR => ?_; obtain ⟨o, hvd, rfl, ho1, ho2, ho3⟩ := hR; (try dsimp only [putF, List.cons_append, List.nil_append]))
         | (refine isOp ?_; first | refine WPl.rd ?_ | refine WPl.sk ?_ | refine WPl.rdB ?_)
         | (refine isAl ?_; refine WPl.nw fun g => ?_)
         | (refine isSt ?_; first | refine WPl.st1 ?_ | refine WPl.stA ?_ | refine WPl.stEB ?_ | refine WPl.stRB ?_)
         | (show WPl _ _ _ _ _ _ _ (⟨_, .indexAddr _ _ _, _, _, _, _⟩ :: _) _; refine WPl.rdX (ReadR.indexE rfl rfl hasA (by first | assumption | omega)) ?_)
         | (show WPl _ _ _ _ _ _ _ (⟨_, .fieldAddr _ _ _, _, _, _, _⟩ :: _) _; refine WPl.rdX (ReadR.fieldE rfl hasA (by first | assumption | omega)) ?_)
         | (show WPl _ _ _ _ _ _ _ (⟨_, .load _ _, _, _, _, _⟩ :: _) _; first | refine WPl.rdX (ReadR.loadE rfl hasA (by assumption)) ?_ | refine WPl.rdX (ReadR.loadES (by assumption) (by first | assumption | omega) rfl hasA) ?_)
         | (show WPl _ _ _ _ _ _ _ (⟨_, .slice _ _ _ _ _, _, _, _, _⟩ :: _) _; first | refine WPl.rdX (ReadR.sliceH rfl rfl hasA (by omega)) ?_ | refine WPl.rdX (ReadR.sliceL rfl rfl hasA (by omega)) ?_ | refine WPl.rdX (ReadR.sliceLH rfl rfl rfl hasA (by omega) (by omega)) ?_)
         | (refine WPl.spQ (fun hc => ?_) (fun hc => ?_) <;> try exact prA)
         | fail)
        clear c0 c4 c5 hI
        first | refine WPc.loop (σ := Int × Nat) (fun st => -3 ≤ st.1 ∧ st.1 ≤ 12 ∧ st.2 ≤ o.countP (fun b => decide (b < st.1))) (fun st => [rowN 3 1 vd o.length (intsV o), bx gh 164 (hbc rise fall m), mp whoM m L2, rdN v l1.length (rcs l1), rowN 117 3 v120 ow1.length (rcs ow1), bx g10 117 (repC (x0, x1, y2))]) (fun st => [(0, .int .i64 rise), (1, .int .i64 fall), (2, v), (7, hP gh), (9, .int .i64 k), (10, .pointer (some ⟨g10, 0, none⟩)), (11, v120), (15, vd), (16, .int .i64 st.2), (17, .int .i64 st.1)]) (fun st => (12 - st.1).toNat) ((-3, 0)) ?_ takesA frsA (fun st km hx hk => ?_)
        · exact ⟨by dsimp only; omega, by dsimp only; omega, Nat.zero_le _⟩
        obtain ⟨kk, nn⟩ := st
        obtain ⟨h31, h32, h33⟩ := hx
        have hk3 : km = (12 - kk).toNat := hk
        clear hk
        dsimp only at h31 h32 h33 ⊢
        have hol : o.length ≤ 61 := by omega
        have hov : ∀ j bv, o[j]? = some bv → (intsV o)[j]? = some (Value.int .i64 bv) := fun j bv h => by unfold intsV; rw [List.getElem?_map, h]; rfl
        have hcp : o.countP (fun b => decide (b < kk)) ≤ o.length := List.countP_le_length
        by_cases h12 : kk < 12
        · have hk64 : in64 kk := by unfold in64; omega
          have cu3 := cU ow1 v120 x0 kk (by omega)
          obtain ⟨u3, hu3⟩ : ∃ u3, u3 = (rUp rise fall x0 kk ow1).1 := ⟨_, rfl⟩
          have hmem : u3 = false ↔ kk ∈ o := by rw [hu3, ho3]; exact play_down hI2 b0 hk64
          rw [← hu3] at cu3
          clear hu3
          cases u3 with
          | true =>
            repeat' (first
             | refine WPl.nil ?_ | refine WPq.then ?_ | refine WPq.thenR ?_ | refine WPq.thenE ?_ | refine WPq.blockN ?_ | refine WPq.blockR ?_ | refine WPq.blockE ?_ | refine WPq.blockO rfl ?_ | refine WPc.seq ?_ | refine WPc.block ?_ | refine WPc.ret ?_ | refine WPc.exit ?_ | refine WPc.skip ?_ | refine WPc.region ?_
             | (refine isReg 48 ?_; refine WPc.drA [([], [221, 222, 223, 224, 225, 226, 227, 228]), ([], [220, 222, 223, 224, 225, 226, 227, 228]), ([], [220, 221, 223, 224, 225, 226, 227, 228]), ([], [220, 221, 222, 225, 226, 227, 228]), ([3], [220, 221, 222, 223, 225, 226, 227, 228]), ([], [220, 221, 222, 223, 224, 226]), ([], [220, 221, 222, 223, 224, 225]), ([5, 6], [220, 221, 222, 223, 224, 225, 226]), ([5, 6, 7], [220, 221, 222, 223, 224, 225, 226, 227]), ([0, 1, 2, 3, 4, 5, 6, 7, 8], [220, 221, 222, 223, 224, 225, 226, 227, 228])] [] (Γx := []) ?_; dsimp only [prev0, List.length_nil, List.length_cons])
             | (refine gAny ?_; first | (refine gC 180 ?_; refine RGl.vl (fun e hk => OpT.callN (cu3)) ?_) | (refine gOp ?_; first | refine RGl.rdA ?_ | refine RGl.rdX (fun e hk => by (try dsimp only [bndR, ensR, oksR, fcutR, List.append_nil, List.nil_append, List.cons_append, List.append_assoc] at hk ⊢); exact readB) ?_) | (refine RGl.fin (fun e hk => ?_); (try dsimp only [bndA, ensAR, oksA, List.append_nil, List.nil_append, List.cons_append, List.append_assoc] at hk ⊢); (repeat (obtain ⟨hk1, hk⟩ := hk))) | fail)
             | (refine isCond ?_; first | refine WPc.cT ?_ | refine WPc.cF ?_ | (refine WPc.cQ (fun hc => ?_) (fun hc => ?_) <;> try exact prA))
             | (refine isC 180 ?_; refine WPl.cV (cu3) ?_)
             | (refine isOp ?_; first | refine WPl.rd ?_ | refine WPl.sk ?_ | refine WPl.rdB ?_)
             | (refine isAl ?_; refine WPl.nw fun g => ?_)
             | (refine isSt ?_; first | refine WPl.st1 ?_ | refine WPl.stA ?_ | refine WPl.stEB ?_ | refine WPl.stRB ?_)
             | (show WPl _ _ _ _ _ _ _ (⟨_, .indexAddr _ _ _, _, _, _, _⟩ :: _) _; refine WPl.rdX (ReadR.indexE rfl rfl hasA (by first | assumption | omega)) ?_)
             | (show WPl _ _ _ _ _ _ _ (⟨_, .fieldAddr _ _ _, _, _, _, _⟩ :: _) _; refine WPl.rdX (ReadR.fieldE rfl hasA (by first | assumption | omega)) ?_)
             | (show WPl _ _ _ _ _ _ _ (⟨_, .load _ _, _, _, _, _⟩ :: _) _; first | refine WPl.rdX (ReadR.loadE rfl hasA (by assumption)) ?_ | refine WPl.rdX (ReadR.loadES (by assumption) (by first | assumption | omega) rfl hasA) ?_)
             | (show WPl _ _ _ _ _ _ _ (⟨_, .slice _ _ _ _ _, _, _, _, _⟩ :: _) _; first | refine WPl.rdX (ReadR.sliceH rfl rfl hasA (by omega)) ?_ | refine WPl.rdX (ReadR.sliceL rfl rfl hasA (by omega)) ?_ | refine WPl.rdX (ReadR.sliceLH rfl rfl rfl hasA (by omega) (by omega)) ?_)
             | (refine WPl.spQ (fun hc => ?_) (fun hc => ?_) <;> try exact prA)
             | fail)
            exact WPq.rnd (kk + 1, nn) ⟨by dsimp only; omega, by dsimp only; omega, Nat.le_trans h33 (countP_le' (by dsimp only; omega))⟩ (by dsimp only; omega)
          | false =>
            have hko := hmem.1 rfl
            have hcs := countP_step hko
            repeat' (first
             | refine WPl.nil ?_ | refine WPq.then ?_ | refine WPq.thenR ?_ | refine WPq.thenE ?_ | refine WPq.blockN ?_ | refine WPq.blockR ?_ | refine WPq.blockE ?_ | refine WPq.blockO rfl ?_ | refine WPc.seq ?_ | refine WPc.block ?_ | refine WPc.ret ?_ | refine WPc.exit ?_ | refine WPc.skip ?_ | refine WPc.region ?_
             | (refine isReg 48 ?_; refine WPc.drA [([], [221, 222, 223, 224, 225, 226, 227, 228]), ([], [220, 222, 223, 224, 225, 226, 227, 228]), ([], [220, 221, 223, 224, 225, 226, 227, 228]), ([], [220, 221, 222, 225, 226, 227, 228]), ([3], [220, 221, 222, 223, 225, 226, 227, 228]), ([], [220, 221, 222, 223, 224, 226]), ([], [220, 221, 222, 223, 224, 225]), ([5, 6], [220, 221, 222, 223, 224, 225, 226]), ([5, 6, 7], [220, 221, 222, 223, 224, 225, 226, 227]), ([0, 1, 2, 3, 4, 5, 6, 7, 8], [220, 221, 222, 223, 224, 225, 226, 227, 228])] [] (Γx := []) ?_; dsimp only [prev0, List.length_nil, List.length_cons])
             | (refine gAny ?_; first | (refine gC 180 ?_; refine RGl.vl (fun e hk => OpT.callN (cu3)) ?_) | (refine gOp ?_; first | refine RGl.rdA ?_ | refine RGl.rdX (fun e hk => by (try dsimp only [bndR, ensR, oksR, fcutR, List.append_nil, List.nil_append, List.cons_append, List.append_assoc] at hk ⊢); exact readB) ?_) | (refine RGl.fin (fun e hk => ?_); (try dsimp only [bndA, ensAR, oksA, List.append_nil, List.nil_append, List.cons_append, List.append_assoc] at hk ⊢); (repeat (obtain ⟨hk1, hk⟩ := hk))) | fail)
             | (refine isCond ?_; first | refine WPc.cT ?_ | refine WPc.cF ?_ | (refine WPc.cQ (fun hc => ?_) (fun hc => ?_) <;> try exact prA))
             | (refine isC 180 ?_; refine WPl.cV (cu3) ?_)
             | (refine isOp ?_; first | refine WPl.rd ?_ | refine WPl.sk ?_ | refine WPl.rdB ?_)
             | (refine isAl ?_; refine WPl.nw fun g => ?_)
             | (refine isSt ?_; first | refine WPl.st1 ?_ | refine WPl.stA ?_ | refine WPl.stEB ?_ | refine WPl.stRB ?_)
             | (show WPl _ _ _ _ _ _ _ (⟨_, .indexAddr _ _ _, _, _, _, _⟩ :: _) _; refine WPl.rdX (ReadR.indexE rfl rfl hasA (by first | assumption | omega)) ?_)
             | (show WPl _ _ _ _ _ _ _ (⟨_, .fieldAddr _ _ _, _, _, _, _⟩ :: _) _; refine WPl.rdX (ReadR.fieldE rfl hasA (by first | assumption | omega)) ?_)
             | (show WPl _ _ _ _ _ _ _ (⟨_, .load _ _, _, _, _, _⟩ :: _) _; first | refine WPl.rdX (ReadR.loadE rfl hasA (by assumption)) ?_ | refine WPl.rdX (ReadR.loadES (by assumption) (by first | assumption | omega) rfl hasA) ?_)
             | (show WPl _ _ _ _ _ _ _ (⟨_, .slice _ _ _ _ _, _, _, _, _⟩ :: _) _; first | refine WPl.rdX (ReadR.sliceH rfl rfl hasA (by omega)) ?_ | refine WPl.rdX (ReadR.sliceL rfl rfl hasA (by omega)) ?_ | refine WPl.rdX (ReadR.sliceLH rfl rfl rfl hasA (by omega) (by omega)) ?_)
             | (refine WPl.spQ (fun hc => ?_) (fun hc => ?_) <;> try exact prA)
             | fail)
            first | refine WPc.loop (σ := Nat × Bool) (fun st => st.1 ≤ o.length ∧ st.2 = decide (kk ∈ o.take st.1)) (fun st => [rowN 3 1 vd o.length (intsV o), bx gh 164 (hbc rise fall m), mp whoM m L2, rdN v l1.length (rcs l1), rowN 117 3 v120 ow1.length (rcs ow1), bx g10 117 (repC (x0, x1, y2))]) (fun st => [(0, .int .i64 rise), (1, .int .i64 fall), (2, v), (7, hP gh), (9, .int .i64 k), (10, .pointer (some ⟨g10, 0, none⟩)), (11, v120), (15, vd), (16, .int .i64 nn), (17, .int .i64 kk), (18, .bool st.2), (19, .int .i64 st.1)]) (fun st => o.length - st.1) ((0, false)) ?_ takesA frsA (fun st km hx hk => ?_)
            · exact ⟨Nat.zero_le _, by simp⟩
            obtain ⟨j, fd⟩ := st
            obtain ⟨hj1, hfd⟩ := hx
            have hk4 : km = o.length - j := hk
            clear hk
            dsimp only at hj1 hfd ⊢
            by_cases hjo : j < o.length
            · obtain ⟨bv, hbv⟩ : ∃ bv, o[j]? = some bv := ⟨_, List.getElem?_eq_getElem hjo⟩
              have hbvV := hov j bv hbv
              have htk : o.take (j + 1) = o.take j ++ [bv] := by rw [List.take_add_one, hbv]; rfl
              have hfd' : decide (kk ∈ o.take (j + 1)) = (fd || decide (bv = kk)) := by
                rw [htk, hfd]
                by_cases hq : kk ∈ o.take j <;> simp [hq, eq_comm]
              cases fd with
              | true =>
                repeat' (first
                 | refine WPl.nil ?_ | refine WPq.then ?_ | refine WPq.thenR ?_ | refine WPq.thenE ?_ | refine WPq.blockN ?_ | refine WPq.blockR ?_ | refine WPq.blockE ?_ | refine WPq.blockO rfl ?_ | refine WPc.seq ?_ | refine WPc.block ?_ | refine WPc.ret ?_ | refine WPc.exit ?_ | refine WPc.skip ?_ | refine WPc.region ?_
                 | (refine isReg 48 ?_; refine WPc.drA [([], [221, 222, 223, 224, 225, 226, 227, 228]), ([], [220, 222, 223, 224, 225, 226, 227, 228]), ([], [220, 221, 223, 224, 225, 226, 227, 228]), ([], [220, 221, 222, 225, 226, 227, 228]), ([3], [220, 221, 222, 223, 225, 226, 227, 228]), ([], [220, 221, 222, 223, 224, 226]), ([], [220, 221, 222, 223, 224, 225]), ([5, 6], [220, 221, 222, 223, 224, 225, 226]), ([5, 6, 7], [220, 221, 222, 223, 224, 225, 226, 227]), ([0, 1, 2, 3, 4, 5, 6, 7, 8], [220, 221, 222, 223, 224, 225, 226, 227, 228])] [] (Γx := []) ?_; dsimp only [prev0, List.length_nil, List.length_cons])
                 | (refine gAny ?_; first | (refine gOp ?_; first | refine RGl.rdA ?_ | refine RGl.rdX (fun e hk => by (try dsimp only [bndR, ensR, oksR, fcutR, List.append_nil, List.nil_append, List.cons_append, List.append_assoc] at hk ⊢); exact readB) ?_) | (refine RGl.fin (fun e hk => ?_); (try dsimp only [bndA, ensAR, oksA, List.append_nil, List.nil_append, List.cons_append, List.append_assoc] at hk ⊢); (repeat (obtain ⟨hk1, hk⟩ := hk))) | fail)
                 | (refine isCond ?_; first | refine WPc.cT ?_ | refine WPc.cF ?_ | (refine WPc.cQ (fun hc => ?_) (fun hc => ?_) <;> try exact prA))
                 | (refine isOp ?_; first | refine WPl.rd ?_ | refine WPl.sk ?_ | refine WPl.rdB ?_)
                 | (refine isAl ?_; refine WPl.nw fun g => ?_)
                 | (refine isSt ?_; first | refine WPl.st1 ?_ | refine WPl.stA ?_ | refine WPl.stEB ?_ | refine WPl.stRB ?_)
                 | (show WPl _ _ _ _ _ _ _ (⟨_, .indexAddr _ _ _, _, _, _, _⟩ :: _) _; refine WPl.rdX (ReadR.indexE rfl rfl hasA (by first | assumption | omega)) ?_)
                 | (show WPl _ _ _ _ _ _ _ (⟨_, .fieldAddr _ _ _, _, _, _, _⟩ :: _) _; refine WPl.rdX (ReadR.fieldE rfl hasA (by first | assumption | omega)) ?_)
                 | (show WPl _ _ _ _ _ _ _ (⟨_, .load _ _, _, _, _, _⟩ :: _) _; first | refine WPl.rdX (ReadR.loadE rfl hasA (by assumption)) ?_ | refine WPl.rdX (ReadR.loadES (by assumption) (by first | assumption | omega) rfl hasA) ?_)
                 | (show WPl _ _ _ _ _ _ _ (⟨_, .slice _ _ _ _ _, _, _, _, _⟩ :: _) _; first | refine WPl.rdX (ReadR.sliceH rfl rfl hasA (by omega)) ?_ | refine WPl.rdX (ReadR.sliceL rfl rfl hasA (by omega)) ?_ | refine WPl.rdX (ReadR.sliceLH rfl rfl rfl hasA (by omega) (by omega)) ?_)
                 | (refine WPl.spQ (fun hc => ?_) (fun hc => ?_) <;> try exact prA)
                 | fail)
                all_goals exact WPq.rnd (j + 1, true) ⟨by dsimp only; omega, by rw [hfd']; rfl⟩ (by dsimp only; omega)
              | false =>
                by_cases hbk : bv = kk
                · rw [decide_eq_true hbk] at hfd'
                  cases j with
                  | zero =>
                    repeat' (first
                     | refine WPl.nil ?_ | refine WPq.then ?_ | refine WPq.thenR ?_ | refine WPq.thenE ?_ | refine WPq.blockN ?_ | refine WPq.blockR ?_ | refine WPq.blockE ?_ | refine WPq.blockO rfl ?_ | refine WPc.seq ?_ | refine WPc.block ?_ | refine WPc.ret ?_ | refine WPc.exit ?_ | refine WPc.skip ?_ | refine WPc.region ?_
                     | (refine isReg 48 ?_; refine WPc.drA [([], [221, 222, 223, 224, 225, 226, 227, 228]), ([], [220, 222, 223, 224, 225, 226, 227, 228]), ([], [220, 221, 223, 224, 225, 226, 227, 228]), ([], [220, 221, 222, 225, 226, 227, 228]), ([3], [220, 221, 222, 223, 225, 226, 227, 228]), ([], [220, 221, 222, 223, 224, 226]), ([], [220, 221, 222, 223, 224, 225]), ([5, 6], [220, 221, 222, 223, 224, 225, 226]), ([5, 6, 7], [220, 221, 222, 223, 224, 225, 226, 227]), ([0, 1, 2, 3, 4, 5, 6, 7, 8], [220, 221, 222, 223, 224, 225, 226, 227, 228])] [] (Γx := []) ?_; dsimp only [prev0, List.length_nil, List.length_cons])
                     | (refine gAny ?_; first | (refine gD 195 ?_; refine RGl.rdX (fun e hk => by (try dsimp only [bndR, ensR, oksR, fcutR, List.append_nil, List.nil_append, List.cons_append, List.append_assoc] at hk ⊢); exact ReadR.binE rfl rfl BinR.eql (congrArg Value.bool (decide_eq_true hbk))) ?_) | (refine gOp ?_; first | refine RGl.rdA ?_ | refine RGl.rdX (fun e hk => by (try dsimp only [bndR, ensR, oksR, fcutR, List.append_nil, List.nil_append, List.cons_append, List.append_assoc] at hk ⊢); exact readB) ?_) | (refine RGl.fin (fun e hk => ?_); (try dsimp only [bndA, ensAR, oksA, List.append_nil, List.nil_append, List.cons_append, List.append_assoc] at hk ⊢); (repeat (obtain ⟨hk1, hk⟩ := hk))) | fail)
                     | (refine isCond ?_; first | refine WPc.cT ?_ | refine WPc.cF ?_ | (refine WPc.cQ (fun hc => ?_) (fun hc => ?_) <;> try exact prA))
                     | (refine isD 195 ?_; refine WPl.rdX (ReadR.binE rfl rfl BinR.eql (congrArg Value.bool (decide_eq_true hbk))) ?_)
                     | (refine isOp ?_; first | refine WPl.rd ?_ | refine WPl.sk ?_ | refine WPl.rdB ?_)
                     | (refine isAl ?_; refine WPl.nw fun g => ?_)
                     | (refine isSt ?_; first | refine WPl.st1 ?_ | refine WPl.stA ?_ | refine WPl.stEB ?_ | refine WPl.stRB ?_)
                     | (show WPl _ _ _ _ _ _ _ (⟨_, .indexAddr _ _ _, _, _, _, _⟩ :: _) _; refine WPl.rdX (ReadR.indexE rfl rfl hasA (by first | assumption | omega)) ?_)
                     | (show WPl _ _ _ _ _ _ _ (⟨_, .fieldAddr _ _ _, _, _, _, _⟩ :: _) _; refine WPl.rdX (ReadR.fieldE rfl hasA (by first | assumption | omega)) ?_)
                     | (show WPl _ _ _ _ _ _ _ (⟨_, .load _ _, _, _, _, _⟩ :: _) _; first | refine WPl.rdX (ReadR.loadE rfl hasA (by assumption)) ?_ | refine WPl.rdX (ReadR.loadES (by assumption) (by first | assumption | omega) rfl hasA) ?_)
                     | (show WPl _ _ _ _ _ _ _ (⟨_, .slice _ _ _ _ _, _, _, _, _⟩ :: _) _; first | refine WPl.rdX (ReadR.sliceH rfl rfl hasA (by omega)) ?_ | refine WPl.rdX (ReadR.sliceL rfl rfl hasA (by omega)) ?_ | refine WPl.rdX (ReadR.sliceLH rfl rfl rfl hasA (by omega) (by omega)) ?_)
                     | (refine WPl.spQ (fun hc => ?_) (fun hc => ?_) <;> try exact prA)
                     | fail)
                    all_goals first | exact WPq.rnd (0 + 1, true) ⟨by dsimp only; omega, by rw [hfd']; rfl⟩ (by dsimp only; omega) | (exfalso; omega)
                  | succ jj =>
                    obtain ⟨bw, hbw⟩ : ∃ bw, o[jj]? = some bw := ⟨_, List.getElem?_eq_getElem (by omega)⟩
                    have hbwV := hov jj bw hbw
                    have hlt : bw < kk := by
                      have h1 := (List.getElem?_eq_some_iff.1 hbw)
                      have h2 := (List.getElem?_eq_some_iff.1 hbv)
                      have h3 := List.pairwise_iff_getElem.1 ho1 jj (jj + 1) h1.1 h2.1 (by omega)
                      rw [h1.2, h2.2] at h3
                      omega
                    repeat' (first
                     | refine WPl.nil ?_ | refine WPq.then ?_ | refine WPq.thenR ?_ | refine WPq.thenE ?_ | refine WPq.blockN ?_ | refine WPq.blockR ?_ | refine WPq.blockE ?_ | refine WPq.blockO rfl ?_ | refine WPc.seq ?_ | refine WPc.block ?_ | refine WPc.ret ?_ | refine WPc.exit ?_ | refine WPc.skip ?_ | refine WPc.region ?_
                     | (refine isReg 48 ?_; refine WPc.drA [([], [221, 222, 223, 224, 225, 226, 227, 228]), ([], [220, 222, 223, 224, 225, 226, 227, 228]), ([], [220, 221, 223, 224, 225, 226, 227, 228]), ([], [220, 221, 222, 225, 226, 227, 228]), ([3], [220, 221, 222, 223, 225, 226, 227, 228]), ([], [220, 221, 222, 223, 224, 226]), ([], [220, 221, 222, 223, 224, 225]), ([5, 6], [220, 221, 222, 223, 224, 225, 226]), ([5, 6, 7], [220, 221, 222, 223, 224, 225, 226, 227]), ([0, 1, 2, 3, 4, 5, 6, 7, 8], [220, 221, 222, 223, 224, 225, 226, 227, 228])] [] (Γx := []) ?_; dsimp only [prev0, List.length_nil, List.length_cons])
                     | (refine gAny ?_; first | (refine gD 195 ?_; refine RGl.rdX (fun e hk => by (try dsimp only [bndR, ensR, oksR, fcutR, List.append_nil, List.nil_append, List.cons_append, List.append_assoc] at hk ⊢); exact ReadR.binE rfl rfl BinR.eql (congrArg Value.bool (decide_eq_true hbk))) ?_) | (refine gD 202 ?_; refine RGl.rdX (fun e hk => by (try dsimp only [bndR, ensR, oksR, fcutR, List.append_nil, List.nil_append, List.cons_append, List.append_assoc] at hk ⊢); exact ReadR.binE rfl rfl (BinR.subI (by omega) (by omega)) (congrArg (Value.int .i64) (show ((jj + 1 : Nat) : Int) - 1 = (jj : Int) by omega))) ?_) | (refine gD 206 ?_; refine RGl.rdX (fun e hk => by (try dsimp only [bndR, ensR, oksR, fcutR, List.append_nil, List.nil_append, List.cons_append, List.append_assoc] at hk ⊢); exact ReadR.binE rfl rfl BinR.lss (congrArg Value.bool (decide_eq_true hlt))) ?_) | (refine gOp ?_; first | refine RGl.rdA ?_ | refine RGl.rdX (fun e hk => by (try dsimp only [bndR, ensR, oksR, fcutR, List.append_nil, List.nil_append, List.cons_append, List.append_assoc] at hk ⊢); exact readB) ?_) | (refine RGl.fin (fun e hk => ?_); (try dsimp only [bndA, ensAR, oksA, List.append_nil, List.nil_append, List.cons_append, List.append_assoc] at hk ⊢); (repeat (obtain ⟨hk1, hk⟩ := hk))) | fail)
                     | (refine isCond ?_; first | refine WPc.cT ?_ | refine WPc.cF ?_ | (refine WPc.cQ (fun hc => ?_) (fun hc => ?_) <;> try exact prA))
                     | (refine isD 195 ?_; refine WPl.rdX (ReadR.binE rfl rfl BinR.eql (congrArg Value.bool (decide_eq_true hbk))) ?_)
                     | (refine isD 202 ?_; refine WPl.rdX (ReadR.binE rfl rfl (BinR.subI (by omega) (by omega)) (congrArg (Value.int .i64) (show ((jj + 1 : Nat) : Int) - 1 = (jj : Int) by omega))) ?_)
                     | (refine isD 206 ?_; refine WPl.rdX (ReadR.binE rfl rfl BinR.lss (congrArg Value.bool (decide_eq_true hlt))) ?_)
                     | (refine isOp ?_; first | refine WPl.rd ?_ | refine WPl.sk ?_ | refine WPl.rdB ?_)
                     | (refine isAl ?_; refine WPl.nw fun g => ?_)
                     | (refine isSt ?_; first | refine WPl.st1 ?_ | refine WPl.stA ?_ | refine WPl.stEB ?_ | refine WPl.stRB ?_)
                     | (show WPl _ _ _ _ _ _ _ (⟨_, .indexAddr _ _ _, _, _, _, _⟩ :: _) _; refine WPl.rdX (ReadR.indexE rfl rfl hasA (by first | assumption | omega)) ?_)
                     | (show WPl _ _ _ _ _ _ _ (⟨_, .fieldAddr _ _ _, _, _, _, _⟩ :: _) _; refine WPl.rdX (ReadR.fieldE rfl hasA (by first | assumption | omega)) ?_)
                     | (show WPl _ _ _ _ _ _ _ (⟨_, .load _ _, _, _, _, _⟩ :: _) _; first | refine WPl.rdX (ReadR.loadE rfl hasA (by assumption)) ?_ | refine WPl.rdX (ReadR.loadES (by assumption) (by first | assumption | omega) rfl hasA) ?_)
                     | (show WPl _ _ _ _ _ _ _ (⟨_, .slice _ _ _ _ _, _, _, _, _⟩ :: _) _; first | refine WPl.rdX (ReadR.sliceH rfl rfl hasA (by omega)) ?_ | refine WPl.rdX (ReadR.sliceL rfl rfl hasA (by omega)) ?_ | refine WPl.rdX (ReadR.sliceLH rfl rfl rfl hasA (by omega) (by omega)) ?_)
                     | (refine WPl.spQ (fun hc => ?_) (fun hc => ?_) <;> try exact prA)
                     | fail)
                    all_goals first | exact WPq.rnd (jj + 1 + 1, true) ⟨by dsimp only; omega, by rw [hfd']; rfl⟩ (by dsimp only; omega) | (exfalso; omega)
                · rw [decide_eq_false hbk] at hfd'
                  repeat' (first
                   | refine WPl.nil ?_ | refine WPq.then ?_ | refine WPq.thenR ?_ | refine WPq.thenE ?_ | refine WPq.blockN ?_ | refine WPq.blockR ?_ | refine WPq.blockE ?_ | refine WPq.blockO rfl ?_ | refine WPc.seq ?_ | refine WPc.block ?_ | refine WPc.ret ?_ | refine WPc.exit ?_ | refine WPc.skip ?_ | refine WPc.region ?_
                   | (refine isReg 48 ?_; refine WPc.drA [([], [221, 222, 223, 224, 225, 226, 227, 228]), ([], [220, 222, 223, 224, 225, 226, 227, 228]), ([], [220, 221, 223, 224, 225, 226, 227, 228]), ([], [220, 221, 222, 225, 226, 227, 228]), ([3], [220, 221, 222, 223, 225, 226, 227, 228]), ([], [220, 221, 222, 223, 224, 226]), ([], [220, 221, 222, 223, 224, 225]), ([5, 6], [220, 221, 222, 223, 224, 225, 226]), ([5, 6, 7], [220, 221, 222, 223, 224, 225, 226, 227]), ([0, 1, 2, 3, 4, 5, 6, 7, 8], [220, 221, 222, 223, 224, 225, 226, 227, 228])] [] (Γx := []) ?_; dsimp only [prev0, List.length_nil, List.length_cons])
                   | (refine gAny ?_; first | (refine gD 195 ?_; refine RGl.rdX (fun e hk => by (try dsimp only [bndR, ensR, oksR, fcutR, List.append_nil, List.nil_append, List.cons_append, List.append_assoc] at hk ⊢); exact ReadR.binE rfl rfl BinR.eql (congrArg Value.bool (decide_eq_false hbk))) ?_) | (refine gOp ?_; first | refine RGl.rdA ?_ | refine RGl.rdX (fun e hk => by (try dsimp only [bndR, ensR, oksR, fcutR, List.append_nil, List.nil_append, List.cons_append, List.append_assoc] at hk ⊢); exact readB) ?_) | (refine RGl.fin (fun e hk => ?_); (try dsimp only [bndA, ensAR, oksA, List.append_nil, List.nil_append, List.cons_append, List.append_assoc] at hk ⊢); (repeat (obtain ⟨hk1, hk⟩ := hk))) | fail)
                   | (refine isCond ?_; first | refine WPc.cT ?_ | refine WPc.cF ?_ | (refine WPc.cQ (fun hc => ?_) (fun hc => ?_) <;> try exact prA))
                   | (refine isD 195 ?_; refine WPl.rdX (ReadR.binE rfl rfl BinR.eql (congrArg Value.bool (decide_eq_false hbk))) ?_)
                   | (refine isOp ?_; first | refine WPl.rd ?_ | refine WPl.sk ?_ | refine WPl.rdB ?_)
                   | (refine isAl ?_; refine WPl.nw fun g => ?_)
                   | (refine isSt ?_; first | refine WPl.st1 ?_ | refine WPl.stA ?_ | refine WPl.stEB ?_ | refine WPl.stRB ?_)
                   | (show WPl _ _ _ _ _ _ _ (⟨_, .indexAddr _ _ _, _, _, _, _⟩ :: _) _; refine WPl.rdX (ReadR.indexE rfl rfl hasA (by first | assumption | omega)) ?_)
                   | (show WPl _ _ _ _ _ _ _ (⟨_, .fieldAddr _ _ _, _, _, _, _⟩ :: _) _; refine WPl.rdX (ReadR.fieldE rfl hasA (by first | assumption | omega)) ?_)
                   | (show WPl _ _ _ _ _ _ _ (⟨_, .load _ _, _, _, _, _⟩ :: _) _; first | refine WPl.rdX (ReadR.loadE rfl hasA (by assumption)) ?_ | refine WPl.rdX (ReadR.loadES (by assumption) (by first | assumption | omega) rfl hasA) ?_)
                   | (show WPl _ _ _ _ _ _ _ (⟨_, .slice _ _ _ _ _, _, _, _, _⟩ :: _) _; first | refine WPl.rdX (ReadR.sliceH rfl rfl hasA (by omega)) ?_ | refine WPl.rdX (ReadR.sliceL rfl rfl hasA (by omega)) ?_ | refine WPl.rdX (ReadR.sliceLH rfl rfl rfl hasA (by omega) (by omega)) ?_)
                   | (refine WPl.spQ (fun hc => ?_) (fun hc => ?_) <;> try exact prA)
                   | fail)
                  all_goals first | exact WPq.rnd (j + 1, false) ⟨by dsimp only; omega, by rw [hfd']; rfl⟩ (by dsimp only; omega) | (exfalso; omega)
            · have hft : fd = true := by rw [hfd, List.take_of_length_le (by omega)]; exact decide_eq_true hko
              subst hft
              repeat' (first
               | refine WPl.nil ?_ | refine WPq.then ?_ | refine WPq.thenR ?_ | refine WPq.thenE ?_ | refine WPq.blockN ?_ | refine WPq.blockR ?_ | refine WPq.blockE ?_ | refine WPq.blockO rfl ?_ | refine WPc.seq ?_ | refine WPc.block ?_ | refine WPc.ret ?_ | refine WPc.exit ?_ | refine WPc.skip ?_ | refine WPc.region ?_
               | (refine isReg 48 ?_; refine WPc.drA [([], [221, 222, 223, 224, 225, 226, 227, 228]), ([], [220, 222, 223, 224, 225, 226, 227, 228]), ([], [220, 221, 223, 224, 225, 226, 227, 228]), ([], [220, 221, 222, 225, 226, 227, 228]), ([3], [220, 221, 222, 223, 225, 226, 227, 228]), ([], [220, 221, 222, 223, 224, 226]), ([], [220, 221, 222, 223, 224, 225]), ([5, 6], [220, 221, 222, 223, 224, 225, 226]), ([5, 6, 7], [220, 221, 222, 223, 224, 225, 226, 227]), ([0, 1, 2, 3, 4, 5, 6, 7, 8], [220, 221, 222, 223, 224, 225, 226, 227, 228])] [] (Γx := []) ?_; dsimp only [prev0, List.length_nil, List.length_cons])
               | (refine gAny ?_; first | (refine gOp ?_; first | refine RGl.rdA ?_ | refine RGl.rdX (fun e hk => by (try dsimp only [bndR, ensR, oksR, fcutR, List.append_nil, List.nil_append, List.cons_append, List.append_assoc] at hk ⊢); exact readB) ?_) | (refine RGl.fin (fun e hk => ?_); (try dsimp only [bndA, ensAR, oksA, List.append_nil, List.nil_append, List.cons_append, List.append_assoc] at hk ⊢); (repeat (obtain ⟨hk1, hk⟩ := hk))) | fail)
               | (refine isCond ?_; first | refine WPc.cT ?_ | refine WPc.cF ?_ | (refine WPc.cQ (fun hc => ?_) (fun hc => ?_) <;> try exact prA))
               | (refine isOp ?_; first | refine WPl.rd ?_ | refine WPl.sk ?_ | refine WPl.rdB ?_)
               | (refine isAl ?_; refine WPl.nw fun g => ?_)
               | (refine isSt ?_; first | refine WPl.st1 ?_ | refine WPl.stA ?_ | refine WPl.stEB ?_ | refine WPl.stRB ?_)
               | (show WPl _ _ _ _ _ _ _ (⟨_, .indexAddr _ _ _, _, _, _, _⟩ :: _) _; refine WPl.rdX (ReadR.indexE rfl rfl hasA (by first | assumption | omega)) ?_)
               | (show WPl _ _ _ _ _ _ _ (⟨_, .fieldAddr _ _ _, _, _, _, _⟩ :: _) _; refine WPl.rdX (ReadR.fieldE rfl hasA (by first | assumption | omega)) ?_)
               | (show WPl _ _ _ _ _ _ _ (⟨_, .load _ _, _, _, _, _⟩ :: _) _; first | refine WPl.rdX (ReadR.loadE rfl hasA (by assumption)) ?_ | refine WPl.rdX (ReadR.loadES (by assumption) (by first | assumption | omega) rfl hasA) ?_)
               | (show WPl _ _ _ _ _ _ _ (⟨_, .slice _ _ _ _ _, _, _, _, _⟩ :: _) _; first | refine WPl.rdX (ReadR.sliceH rfl rfl hasA (by omega)) ?_ | refine WPl.rdX (ReadR.sliceL rfl rfl hasA (by omega)) ?_ | refine WPl.rdX (ReadR.sliceLH rfl rfl rfl hasA (by omega) (by omega)) ?_)
               | (refine WPl.spQ (fun hc => ?_) (fun hc => ?_) <;> try exact prA)
               | fail)
              all_goals first | exact WPq.rnd (kk + 1, nn + 1) ⟨by dsimp only; omega, by dsimp only; omega, by dsimp only; omega⟩ (by dsimp only; omega) | (exfalso; omega)
        · have hkk : kk = 12 := by omega
          subst hkk
          have hnn : ¬ (nn : Int) > (o.length : Int) := by omega
          repeat' (first
           | refine WPl.nil ?_ | refine WPq.then ?_ | refine WPq.thenR ?_ | refine WPq.thenE ?_ | refine WPq.blockN ?_ | refine WPq.blockR ?_ | refine WPq.blockE ?_ | refine WPq.blockO rfl ?_ | refine WPc.seq ?_ | refine WPc.block ?_ | refine WPc.ret ?_ | refine WPc.exit ?_ | refine WPc.skip ?_ | refine WPc.region ?_
           | (refine isReg 48 ?_; refine WPc.drA [([], [221, 222, 223, 224, 225, 226, 227, 228]), ([], [220, 222, 223, 224, 225, 226, 227, 228]), ([], [220, 221, 223, 224, 225, 226, 227, 228]), ([], [220, 221, 222, 225, 226, 227, 228]), ([3], [220, 221, 222, 223, 225, 226, 227, 228]), ([], [220, 221, 222, 223, 224, 226]), ([], [220, 221, 222, 223, 224, 225]), ([5, 6], [220, 221, 222, 223, 224, 225, 226]), ([5, 6, 7], [220, 221, 222, 223, 224, 225, 226, 227]), ([0, 1, 2, 3, 4, 5, 6, 7, 8], [220, 221, 222, 223, 224, 225, 226, 227, 228])] [] (Γx := []) ?_; dsimp only [prev0, List.length_nil, List.length_cons])
           | (refine gAny ?_; first | (refine gOp ?_; first | refine RGl.rdA ?_ | refine RGl.rdX (fun e hk => by (try dsimp only [bndR, ensR, oksR, fcutR, List.append_nil, List.nil_append, List.cons_append, List.append_assoc] at hk ⊢); exact readB) ?_) | (refine RGl.fin (fun e hk => ?_); (try dsimp only [bndA, ensAR, oksA, List.append_nil, List.nil_append, List.cons_append, List.append_assoc] at hk ⊢); (repeat (obtain ⟨hk1, hk⟩ := hk))) | fail)
           | (refine isCond ?_; first | refine WPc.cT ?_ | refine WPc.cF ?_ | (refine WPc.cQ (fun hc => ?_) (fun hc => ?_) <;> try exact prA))
           | (refine isOp ?_; first | refine WPl.rd ?_ | refine WPl.sk ?_ | refine WPl.rdB ?_)
           | (refine isAl ?_; refine WPl.nw fun g => ?_)
           | (refine isSt ?_; first | refine WPl.st1 ?_ | refine WPl.stA ?_ | refine WPl.stEB ?_ | refine WPl.stRB ?_)
           | (show WPl _ _ _ _ _ _ _ (⟨_, .indexAddr _ _ _, _, _, _, _⟩ :: _) _; refine WPl.rdX (ReadR.indexE rfl rfl hasA (by first | assumption | omega)) ?_)
           | (show WPl _ _ _ _ _ _ _ (⟨_, .fieldAddr _ _ _, _, _, _, _⟩ :: _) _; refine WPl.rdX (ReadR.fieldE rfl hasA (by first | assumption | omega)) ?_)
           | (show WPl _ _ _ _ _ _ _ (⟨_, .load _ _, _, _, _, _⟩ :: _) _; first | refine WPl.rdX (ReadR.loadE rfl hasA (by assumption)) ?_ | refine WPl.rdX (ReadR.loadES (by assumption) (by first | assumption | omega) rfl hasA) ?_)
           | (show WPl _ _ _ _ _ _ _ (⟨_, .slice _ _ _ _ _, _, _, _, _⟩ :: _) _; first | refine WPl.rdX (ReadR.sliceH rfl rfl hasA (by omega)) ?_ | refine WPl.rdX (ReadR.sliceL rfl rfl hasA (by omega)) ?_ | refine WPl.rdX (ReadR.sliceLH rfl rfl rfl hasA (by omega) (by omega)) ?_)
           | (refine WPl.spQ (fun hc => ?_) (fun hc => ?_) <;> try exact prA)
           | fail)
          first | refine WPc.loop (σ := Nat) (fun j => j ≤ o.length) (fun j => [rowN 3 1 vd o.length (intsV o), bx gh 164 (hbc rise fall m), mp whoM m L2, rdN v l1.length (rcs l1), rowN 117 3 v120 ow1.length (rcs ow1), bx g10 117 (repC (x0, x1, y2))]) (fun j => [(0, .int .i64 rise), (1, .int .i64 fall), (2, v), (7, hP gh), (9, .int .i64 k), (10, .pointer (some ⟨g10, 0, none⟩)), (11, v120), (15, vd), (16, .int .i64 nn), (20, .int .i64 j)]) (fun j => o.length - j) (0) ?_ takesA frsA (fun st km hx hk => ?_)
          · exact Nat.zero_le _
          obtain ⟨j, rfl⟩ : ∃ j, j = st := ⟨_, rfl⟩
          have hj1 : j ≤ o.length := hx
          have hk5 : km = o.length - j := hk
          clear hx hk
          by_cases hjo : j < o.length
          · obtain ⟨bv, hbv⟩ : ∃ bv, o[j]? = some bv := ⟨_, List.getElem?_eq_getElem hjo⟩
            have hbvV := hov j bv hbv
            obtain ⟨row, hrow⟩ := (ho3 bv).1 (List.mem_of_getElem? hbv)
            have hb64 : in64 bv := (hwf _ (mfind_mem hrow)).2
            have cu5 := cU ow1 v120 x0 bv (by omega)
            rw [(play_down hI2 b0 hb64).2 ⟨row, hrow⟩] at cu5
            repeat' (first
             | refine WPl.nil ?_ | refine WPq.then ?_ | refine WPq.thenR ?_ | refine WPq.thenE ?_ | refine WPq.blockN ?_ | refine WPq.blockR ?_ | refine WPq.blockE ?_ | refine WPq.blockO rfl ?_ | refine WPc.seq ?_ | refine WPc.block ?_ | refine WPc.ret ?_ | refine WPc.exit ?_ | refine WPc.skip ?_ | refine WPc.region ?_
             | (refine isReg 48 ?_; refine WPc.drA [([], [221, 222, 223, 224, 225, 226, 227, 228]), ([], [220, 222, 223, 224, 225, 226, 227, 228]), ([], [220, 221, 223, 224, 225, 226, 227, 228]), ([], [220, 221, 222, 225, 226, 227, 228]), ([3], [220, 221, 222, 223, 225, 226, 227, 228]), ([], [220, 221, 222, 223, 224, 226]), ([], [220, 221, 222, 223, 224, 225]), ([5, 6], [220, 221, 222, 223, 224, 225, 226]), ([5, 6, 7], [220, 221, 222, 223, 224, 225, 226, 227]), ([0, 1, 2, 3, 4, 5, 6, 7, 8], [220, 221, 222, 223, 224, 225, 226, 227, 228])] [] (Γx := []) ?_; dsimp only [prev0, List.length_nil, List.length_cons])
             | (refine gAny ?_; first | (refine gC 229 ?_; refine RGl.vl (fun e hk => OpT.callN (cu5)) ?_) | (refine gD 227 ?_; refine RGl.rdX (fun e hk => by (try dsimp only [bndR, ensR, oksR, fcutR, List.append_nil, List.nil_append, List.cons_append, List.append_assoc] at hk ⊢); exact ReadR.indexE1 (i := j) rfl rfl hasA hjo) ?_) | (refine gD 228 ?_; refine RGl.rdX (fun e hk => by (try dsimp only [bndR, ensR, oksR, fcutR, List.append_nil, List.nil_append, List.cons_append, List.append_assoc] at hk ⊢); exact ReadR.loadE rfl hasA hbvV) ?_) | (refine gOp ?_; first | refine RGl.rdA ?_ | refine RGl.rdX (fun e hk => by (try dsimp only [bndR, ensR, oksR, fcutR, List.append_nil, List.nil_append, List.cons_append, List.append_assoc] at hk ⊢); exact readB) ?_) | (refine RGl.fin (fun e hk => ?_); (try dsimp only [bndA, ensAR, oksA, List.append_nil, List.nil_append, List.cons_append, List.append_assoc] at hk ⊢); (repeat (obtain ⟨hk1, hk⟩ := hk))) | fail)
             | (refine isCond ?_; first | refine WPc.cT ?_ | refine WPc.cF ?_ | (refine WPc.cQ (fun hc => ?_) (fun hc => ?_) <;> try exact prA))
             | (refine isD 227 ?_; refine WPl.rdX (ReadR.indexE1 (i := j) rfl rfl hasA hjo) ?_)
             | (refine isD 228 ?_; refine WPl.rdX (ReadR.loadE rfl hasA hbvV) ?_)
             | (refine isC 229 ?_; refine WPl.cV (cu5) ?_)
             | (refine isOp ?_; first | refine WPl.rd ?_ | refine WPl.sk ?_ | refine WPl.rdB ?_)
             | (refine isAl ?_; refine WPl.nw fun g => ?_)
             | (refine isSt ?_; first | refine WPl.st1 ?_ | refine WPl.stA ?_ | refine WPl.stEB ?_ | refine WPl.stRB ?_)
             | (show WPl _ _ _ _ _ _ _ (⟨_, .indexAddr _ _ _, _, _, _, _⟩ :: _) _; refine WPl.rdX (ReadR.indexE rfl rfl hasA (by first | assumption | omega)) ?_)
             | (show WPl _ _ _ _ _ _ _ (⟨_, .fieldAddr _ _ _, _, _, _, _⟩ :: _) _; refine WPl.rdX (ReadR.fieldE rfl hasA (by first | assumption | omega)) ?_)
             | (show WPl _ _ _ _ _ _ _ (⟨_, .load _ _, _, _, _, _⟩ :: _) _; first | refine WPl.rdX (ReadR.loadE rfl hasA (by assumption)) ?_ | refine WPl.rdX (ReadR.loadES (by assumption) (by first | assumption | omega) rfl hasA) ?_)
             | (show WPl _ _ _ _ _ _ _ (⟨_, .slice _ _ _ _ _, _, _, _, _⟩ :: _) _; first | refine WPl.rdX (ReadR.sliceH rfl rfl hasA (by omega)) ?_ | refine WPl.rdX (ReadR.sliceL rfl rfl hasA (by omega)) ?_ | refine WPl.rdX (ReadR.sliceLH rfl rfl rfl hasA (by omega) (by omega)) ?_)
             | (refine WPl.spQ (fun hc => ?_) (fun hc => ?_) <;> try exact prA)
             | fail)
            all_goals first | exact WPq.rnd (j + 1) (by omega) (by omega) | (exfalso; omega)
          · skip
            repeat' (first
             | refine WPl.nil ?_ | refine WPq.then ?_ | refine WPq.thenR ?_ | refine WPq.thenE ?_ | refine WPq.blockN ?_ | refine WPq.blockR ?_ | refine WPq.blockE ?_ | refine WPq.blockO rfl ?_ | refine WPc.seq ?_ | refine WPc.block ?_ | refine WPc.ret ?_ | refine WPc.exit ?_ | refine WPc.skip ?_ | refine WPc.region ?_
             | (refine isReg 48 ?_; refine WPc.drA [([], [221, 222, 223, 224, 225, 226, 227, 228]), ([], [220, 222, 223, 224, 225, 226, 227, 228]), ([], [220, 221, 223, 224, 225, 226, 227, 228]), ([], [220, 221, 222, 225, 226, 227, 228]), ([3], [220, 221, 222, 223, 225, 226, 227, 228]), ([], [220, 221, 222, 223, 224, 226]), ([], [220, 221, 222, 223, 224, 225]), ([5, 6], [220, 221, 222, 223, 224, 225, 226]), ([5, 6, 7], [220, 221, 222, 223, 224, 225, 226, 227]), ([0, 1, 2, 3, 4, 5, 6, 7, 8], [220, 221, 222, 223, 224, 225, 226, 227, 228])] [] (Γx := []) ?_; dsimp only [prev0, List.length_nil, List.length_cons])
             | (refine gAny ?_; first | (refine gD 233 ?_; refine RGl.rdX (fun e hk => by (try dsimp only [bndR, ensR, oksR, fcutR, List.append_nil, List.nil_append, List.cons_append, List.append_assoc] at hk ⊢); exact ReadR.binE rfl rfl BinR.gtr (congrArg Value.bool (decide_eq_false hnn))) ?_) | (refine gOp ?_; first | refine RGl.rdA ?_ | refine RGl.rdX (fun e hk => by (try dsimp only [bndR, ensR, oksR, fcutR, List.append_nil, List.nil_append, List.cons_append, List.append_assoc] at hk ⊢); exact readB) ?_) | (refine RGl.fin (fun e hk => ?_); (try dsimp only [bndA, ensAR, oksA, List.append_nil, List.nil_append, List.cons_append, List.append_assoc] at hk ⊢); (repeat (obtain ⟨hk1, hk⟩ := hk))) | fail)
             | (refine isCond ?_; first | refine WPc.cT ?_ | refine WPc.cF ?_ | (refine WPc.cQ (fun hc => ?_) (fun hc => ?_) <;> try exact prA))
             | (refine isD 233 ?_; refine WPl.rdX (ReadR.binE rfl rfl BinR.gtr (congrArg Value.bool (decide_eq_false hnn))) ?_)
             | (refine isOp ?_; first | refine WPl.rd ?_ | refine WPl.sk ?_ | refine WPl.rdB ?_)
             | (refine isAl ?_; refine WPl.nw fun g => ?_)
             | (refine isSt ?_; first | refine WPl.st1 ?_ | refine WPl.stA ?_ | refine WPl.stEB ?_ | refine WPl.stRB ?_)
             | (show WPl _ _ _ _ _ _ _ (⟨_, .indexAddr _ _ _, _, _, _, _⟩ :: _) _; refine WPl.rdX (ReadR.indexE rfl rfl hasA (by first | assumption | omega)) ?_)
             | (show WPl _ _ _ _ _ _ _ (⟨_, .fieldAddr _ _ _, _, _, _, _⟩ :: _) _; refine WPl.rdX (ReadR.fieldE rfl hasA (by first | assumption | omega)) ?_)
             | (show WPl _ _ _ _ _ _ _ (⟨_, .load _ _, _, _, _, _⟩ :: _) _; first | refine WPl.rdX (ReadR.loadE rfl hasA (by assumption)) ?_ | refine WPl.rdX (ReadR.loadES (by assumption) (by first | assumption | omega) rfl hasA) ?_)
             | (show WPl _ _ _ _ _ _ _ (⟨_, .slice _ _ _ _ _, _, _, _, _⟩ :: _) _; first | refine WPl.rdX (ReadR.sliceH rfl rfl hasA (by omega)) ?_ | refine WPl.rdX (ReadR.sliceL rfl rfl hasA (by omega)) ?_ | refine WPl.rdX (ReadR.sliceLH rfl rfl rfl hasA (by omega) (by omega)) ?_)
             | (refine WPl.spQ (fun hc => ?_) (fun hc => ?_) <;> try exact prA)
             | fail)
            all_goals first | exact WPq.rnd (k + 1, L2) ⟨by dsimp only; omega, by rw [hA1]; exact hI2, by dsimp only; omega⟩ (by dsimp only; omega) | (exfalso; omega)
    · skip
      repeat' (first
       | refine WPl.nil ?_ | refine WPq.then ?_ | refine WPq.thenR ?_ | refine WPq.thenE ?_ | refine WPq.blockN ?_ | refine WPq.blockR ?_ | refine WPq.blockE ?_ | refine WPq.blockO rfl ?_ | refine WPc.seq ?_ | refine WPc.block ?_ | refine WPc.ret ?_ | refine WPc.exit ?_ | refine WPc.skip ?_ | refine WPc.region ?_
       | (refine isReg 48 ?_; refine WPc.drA [([], [221, 222, 223, 224, 225, 226, 227, 228]), ([], [220, 222, 223, 224, 225, 226, 227, 228]), ([], [220, 221, 223, 224, 225, 226, 227, 228]), ([], [220, 221, 222, 225, 226, 227, 228]), ([3], [220, 221, 222, 223, 225, 226, 227, 228]), ([], [220, 221, 222, 223, 224, 226]), ([], [220, 221, 222, 223, 224, 225]), ([5, 6], [220, 221, 222, 223, 224, 225, 226]), ([5, 6, 7], [220, 221, 222, 223, 224, 225, 226, 227]), ([0, 1, 2, 3, 4, 5, 6, 7, 8], [220, 221, 222, 223, 224, 225, 226, 227, 228])] [] (Γx := []) ?_; dsimp only [prev0, List.length_nil, List.length_cons])
       | (refine gAny ?_; first | (refine gC 234 ?_; refine RGl.vl (fun e hk => OpT.callN (hlive)) ?_) | (refine gOp ?_; first | refine RGl.rdA ?_ | refine RGl.rdX (fun e hk => by (try dsimp only [bndR, ensR, oksR, fcutR, List.append_nil, List.nil_append, List.cons_append, List.append_assoc] at hk ⊢); exact readB) ?_) | (refine RGl.fin (fun e hk => ?_); (try dsimp only [bndA, ensAR, oksA, List.append_nil, List.nil_append, List.cons_append, List.append_assoc] at hk ⊢); (repeat (obtain ⟨hk1, hk⟩ := hk))) | fail)
       | (refine isCond ?_; first | refine WPc.cT ?_ | refine WPc.cF ?_ | (refine WPc.cQ (fun hc => ?_) (fun hc => ?_) <;> try exact prA))
       | (refine isC 234 ?_; refine WPl.cV (hlive) ?_)
       | (refine isOp ?_; first | refine WPl.rd ?_ | refine WPl.sk ?_ | refine WPl.rdB ?_)
       | (refine isAl ?_; refine WPl.nw fun g => ?_)
       | (refine isSt ?_; first | refine WPl.st1 ?_ | refine WPl.stA ?_ | refine WPl.stEB ?_ | refine WPl.stRB ?_)
       | (show WPl _ _ _ _ _ _ _ (⟨_, .indexAddr _ _ _, _, _, _, _⟩ :: _) _; refine WPl.rdX (ReadR.indexE rfl rfl hasA (by first | assumption | omega)) ?_)
       | (show WPl _ _ _ _ _ _ _ (⟨_, .fieldAddr _ _ _, _, _, _, _⟩ :: _) _; refine WPl.rdX (ReadR.fieldE rfl hasA (by first | assumption | omega)) ?_)
       | (show WPl _ _ _ _ _ _ _ (⟨_, .load _ _, _, _, _, _⟩ :: _) _; first | refine WPl.rdX (ReadR.loadE rfl hasA (by assumption)) ?_ | refine WPl.rdX (ReadR.loadES (by assumption) (by first | assumption | omega) rfl hasA) ?_)
       | (show WPl _ _ _ _ _ _ _ (⟨_, .slice _ _ _ _ _, _, _, _, _⟩ :: _) _; first | refine WPl.rdX (ReadR.sliceH rfl rfl hasA (by omega)) ?_ | refine WPl.rdX (ReadR.sliceL rfl rfl hasA (by omega)) ?_ | refine WPl.rdX (ReadR.sliceLH rfl rfl rfl hasA (by omega) (by omega)) ?_)
       | (refine WPl.spQ (fun hc => ?_) (fun hc => ?_) <;> try exact prA)
       | fail)
      all_goals first | exact WPq.dV | (exfalso; omega)
  · have c0 := hnew0_t rise fall hg
    refine Triple.enter Try.func14 rfl Try.ntmps14 rfl (fun W => ?_)
    dsimp only [argsF, Nat.reduceAdd]
    repeat' (first
     | refine WPl.nil ?_ | refine WPq.then ?_ | refine WPq.thenR ?_ | refine WPq.thenE ?_ | refine WPq.blockN ?_ | refine WPq.blockR ?_ | refine WPq.blockE ?_ | refine WPq.blockO rfl ?_ | refine WPc.seq ?_ | refine WPc.block ?_ | refine WPc.ret ?_ | refine WPc.exit ?_ | refine WPc.skip ?_ | refine WPc.region ?_
     | (refine isReg 48 ?_; refine WPc.drA [([], [221, 222, 223, 224, 225, 226, 227, 228]), ([], [220, 222, 223, 224, 225, 226, 227, 228]), ([], [220, 221, 223, 224, 225, 226, 227, 228]), ([], [220, 221, 222, 225, 226, 227, 228]), ([3], [220, 221, 222, 223, 225, 226, 227, 228]), ([], [220, 221, 222, 223, 224, 226]), ([], [220, 221, 222, 223, 224, 225]), ([5, 6], [220, 221, 222, 223, 224, 225, 226]), ([5, 6, 7], [220, 221, 222, 223, 224, 225, 226, 227]), ([0, 1, 2, 3, 4, 5, 6, 7, 8], [220, 221, 222, 223, 224, 225, 226, 227, 228])] [] (Γx := []) ?_; dsimp only [prev0, List.length_nil, List.length_cons])
     | (refine gAny ?_; first | (refine gC 24 ?_; refine RGl.vl (fun e hk => OpT.callN (c0)) ?_) | (refine gC 48 ?_; refine RGl.vl (fun e hk => OpT.callN (hlive)) ?_) | (refine gD 42 ?_; refine RGl.rdX (fun e hk => by (try dsimp only [bndR, ensR, oksR, fcutR, List.append_nil, List.nil_append, List.cons_append, List.append_assoc] at hk ⊢); exact readP) ?_) | (refine gOp ?_; first | refine RGl.rdA ?_ | refine RGl.rdX (fun e hk => by (try dsimp only [bndR, ensR, oksR, fcutR, List.append_nil, List.nil_append, List.cons_append, List.append_assoc] at hk ⊢); exact readB) ?_) | (refine RGl.fin (fun e hk => ?_); (try dsimp only [bndA, ensAR, oksA, List.append_nil, List.nil_append, List.cons_append, List.append_assoc] at hk ⊢); (repeat (obtain ⟨hk1, hk⟩ := hk))) | fail)
     | (refine isCond ?_; first | refine WPc.cT ?_ | refine WPc.cF ?_ | (refine WPc.cQ (fun hc => ?_) (fun hc => ?_) <;> try exact prA))
     | (refine isC 24 ?_; refine WPl.cV (c0) ?_)
     | (refine isC 48 ?_; refine WPl.cV (hlive) ?_)
     | (refine isD 42 ?_; refine WPl.rdX (readP) ?_)
     | (refine isOp ?_; first | refine WPl.rd ?_ | refine WPl.sk ?_ | refine WPl.rdB ?_)
     | (refine isAl ?_; refine WPl.nw fun g => ?_)
     | (refine isSt ?_; first | refine WPl.st1 ?_ | refine WPl.stA ?_ | refine WPl.stEB ?_ | refine WPl.stRB ?_)
     | (show WPl _ _ _ _ _ _ _ (⟨_, .indexAddr _ _ _, _, _, _, _⟩ :: _) _; refine WPl.rdX (ReadR.indexE rfl rfl hasA (by first | assumption | omega)) ?_)
     | (show WPl _ _ _ _ _ _ _ (⟨_, .fieldAddr _ _ _, _, _, _, _⟩ :: _) _; refine WPl.rdX (ReadR.fieldE rfl hasA (by first | assumption | omega)) ?_)
     | (show WPl _ _ _ _ _ _ _ (⟨_, .load _ _, _, _, _, _⟩ :: _) _; first | refine WPl.rdX (ReadR.loadE rfl hasA (by assumption)) ?_ | refine WPl.rdX (ReadR.loadES (by assumption) (by first | assumption | omega) rfl hasA) ?_)
     | (show WPl _ _ _ _ _ _ _ (⟨_, .slice _ _ _ _ _, _, _, _, _⟩ :: _) _; first | refine WPl.rdX (ReadR.sliceH rfl rfl hasA (by omega)) ?_ | refine WPl.rdX (ReadR.sliceL rfl rfl hasA (by omega)) ?_ | refine WPl.rdX (ReadR.sliceLH rfl rfl rfl hasA (by omega) (by omega)) ?_)
     | (refine WPl.spQ (fun hc => ?_) (fun hc => ?_) <;> try exact prA)
     | fail)
    all_goals first | exact WPq.dV | (exfalso; omega)
end Go.Proofs.Ytncgponcedkihaa
