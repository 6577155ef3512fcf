/- Layer 23 (flows): the document's table: Put. -/
import Derived.Test.YtncgponcedkihaaFr
import Derived.Test.YtncgponcedkihaaKl
namespace Go.Proofs.Ytncgponcedkihaa
open Go.RowKit
set_option linter.unusedSimpArgs false
set_option linter.unusedVariables false
set_option maxRecDepth 20000
set_option maxHeartbeats 4000000
attribute [local irreducible] WPc WPl WPq ReadR OpT BinR HasS bx rdN rowN Take Takes Prov Triple ResF BuildP Done ag Int.decLt Int.decLe Int.instDecidableEq
theorem fds_set {D : LL} {i : Nat} {x : Fl × En} {f : Fl} {a : En} (h : D[i]? = some x) (hf : x.1 = f) : (fds D).take (i * 59 + 37) ++ flat (enC a) ++ (fds D).drop (i * 59 + 37 + 22) = fds (D.set i (f, a)) := by
  have hl : (flat (flc x.1)).length = 37 := by simp [flat_eq, x.1.src.len, x.1.dst.len, u8s_length]
  have hl2 : (flat (enC x.2)).length = 22 := by simp [flat_eq, x.2.ad.len, u8s_length]
  have hi := (List.getElem?_eq_some_iff.1 h).1
  have e1 := cut_split h
  have e2 := set_split (z := (f, a)) h
  have hA : (fds (D.take i)).length = i * 59 := by rw [fds_len, List.length_take]; congr 1; omega
  have e3 : fds D = fds (D.take i) ++ (flat (flc x.1) ++ flat (enC x.2)) ++ fds (D.drop (i + 1)) := by
    have h1 : fds D = fds (D.take i ++ x :: D.drop (i + 1)) := by rw [← e1]
    have h2 : fds (x :: D.drop (i + 1)) = flat (hdE x) ++ fds (D.drop (i + 1)) := by simp [fds]
    have h3 : flat (hdE x) = flat (flc x.1) ++ flat (enC x.2) := by simp [flat_eq]
    rw [h1, ← fds_app, h2, h3]; simp only [List.append_assoc]
  have e4 : fds (D.set i (f, a)) = fds (D.take i) ++ (flat (flc f) ++ flat (enC a)) ++ fds (D.drop (i + 1)) := by
    have h2 : fds ((f, a) :: D.drop (i + 1)) = flat (hdE (f, a)) ++ fds (D.drop (i + 1)) := by simp [fds]
    have h3 : flat (hdE (f, a)) = flat (flc f) ++ flat (enC a) := by simp [flat_eq]
    rw [e2, ← fds_app, h2, h3]; simp only [List.append_assoc]
  rw [e4, e3]
  subst hf
  have hB : (fds (D.take i) ++ flat (flc x.1)).length = i * 59 + 37 := by rw [List.length_append, hA, hl]
  have hC : (fds (D.take i) ++ flat (flc x.1) ++ flat (enC x.2)).length = i * 59 + 37 + 22 := by rw [List.length_append, hB, hl2]
  have e5 : fds (D.take i) ++ (flat (flc x.1) ++ flat (enC x.2)) ++ fds (D.drop (i + 1)) = (fds (D.take i) ++ flat (flc x.1)) ++ (flat (enC x.2) ++ fds (D.drop (i + 1))) := by simp only [List.append_assoc]
  have e6 : fds (D.take i) ++ (flat (flc x.1) ++ flat (enC x.2)) ++ fds (D.drop (i + 1)) = (fds (D.take i) ++ flat (flc x.1) ++ flat (enC x.2)) ++ fds (D.drop (i + 1)) := by simp only [List.append_assoc]
  have t1 : (fds (D.take i) ++ (flat (flc x.1) ++ flat (enC x.2)) ++ fds (D.drop (i + 1))).take (i * 59 + 37) = fds (D.take i) ++ flat (flc x.1) := by rw [e5, List.take_left' hB]
  have t2 : (fds (D.take i) ++ (flat (flc x.1) ++ flat (enC x.2)) ++ fds (D.drop (i + 1))).drop (i * 59 + 37 + 22) = fds (D.drop (i + 1)) := by rw [e6, List.drop_left' hC]
  rw [t1, t2]
  simp only [List.append_assoc]
theorem ins_fin {D : LL} {i : Nat} {f : Fl} {a : En} (hi : i ≤ D.length) : 0 + i + 1 + (D.length - i) = (D.take i ++ (f, a) :: D.drop i).length ∧ fds (D.take i) ++ flat (hdE (f, a)) ++ fds (D.drop i) = fds (D.take i ++ (f, a) :: D.drop i) := by
  constructor
  · rw [List.length_append, List.length_cons, List.length_take, List.length_drop]; omega
  · rw [← fds_app]
    have h2 : fds ((f, a) :: D.drop i) = flat (hdE (f, a)) ++ fds (D.drop i) := by simp [fds]
    rw [h2, List.append_assoc]
theorem rputO_len {now : Int} {D : LL} {f r : Fl} {D1 : LL} (h : rputO now D f r (some D1)) : D1.length ≤ D.length := by
  cases h with
  | no _ => exact Nat.le_refl _
  | own _ _ _ _ _ => exact Nat.le_refl _
  | gone i x hx _ _ _ => unfold cutI; rw [List.length_append, List.length_take, List.length_drop]; have := (List.getElem?_eq_some_iff.1 hx).1; omega
theorem rputO_mem {now : Int} {D : LL} {f r : Fl} {D1 : LL} (h : rputO now D f r (some D1)) : ∀ x ∈ D1, x ∈ D := by
  cases h with
  | no _ => exact fun x hx => hx
  | own _ _ _ _ _ => exact fun x hx => hx
  | gone i x hx _ _ _ =>
    intro z hz
    unfold cutI at hz
    rcases List.mem_append.1 hz with hz | hz
    · exact List.mem_of_mem_take hz
    · exact List.mem_of_mem_drop hz
attribute [local irreducible] fds
section
variable (gX : Nat) (most : Int) (vl : Value) (D : LL)
def RRp (gX : Nat) (most now : Int) (D : LL) (f : Fl) (a : En) : Value → List Asn → Prop := fun v Γ => ∃ n vl' D', v = .int .i64 n ∧ vl'.oneCell' = true ∧ Γ = [bx gX 69 (rfx most vl'), rowN 75 59 vl' D'.length (fds D')] ∧ rputP most now D f a n D'
theorem rput_t (hvl : vl.oneCell' = true) (f : Fl) (a : En) (now : Int) (hD : D.length ≤ 50000) (hf : flW f) (hw : ∀ x ∈ D, flW x.1) : Triple Try.prog 69 #[hPr gX, ag (flc f), ag (enC a), .int .u64 now] [bx gX 69 (rfx most vl), rowN 75 59 vl D.length (fds D)] (RRp gX most now D f a) := by
  have l1 := f.src.len
  have l2 := f.dst.len
  have l3 := a.ad.len
  have hrep := rreply_t (f, a)
  obtain ⟨r, hr⟩ : ∃ r, r = replyF f a := ⟨_, rfl⟩
  have hr2 : replyE (f, a) = r := hr.symm
  rw [hr2] at hrep
  have l4 := r.src.len
  have l5 := r.dst.len
  have c1 := rof_t gX most vl D r (by omega)
  obtain ⟨o, ho⟩ : ∃ o, o = firstI (fun x => decide (replyE x = r)) D := ⟨_, rfl⟩
  rw [← ho] at c1
  unfold RRp
  have hcl := fds_len (l := D)
  refine Triple.enter Try.func69 rfl Try.ntmps69 rfl (fun W => ?_)
  dsimp only [argsF, Nat.reduceAdd]
  repeat' (first
   | (refine isSeqR 3 ?_; refine WPc.join (σ := LL × Value) (fun st => rputO now D f r (some st.1) ∧ st.2.oneCell' = true) (fun st => [bx gX 69 (rfx most st.2), rowN 75 59 st.2 st.1.length (fds st.1), bx g5 60 (flc f), bx g6 62 (enC a), bx g9 75 (hdE (f, a))]) (fun st => [(0, hPr gX), (3, .int .u64 now), (5, .pointer (some ⟨g5, 0, none⟩)), (6, .pointer (some ⟨g6, 0, none⟩)), (9, .pointer (some ⟨g9, 0, none⟩))]) ?_ (fun st hx => ?_))
   | (refine isSeq1 3 ?_; refine Held.it ?_)
   | (refine isSeq1 7 ?_; refine Held.it ?_)
   | refine WPl.nil ?_ | refine WPq.then ?_ | refine WPq.thenR ?_ | refine WPq.thenE ?_ | refine WPq.blockN ?_ | refine WPq.blockR ?_ | refine WPq.blockE ?_ | refine WPq.blockO rfl ?_ | refine WPc.seq ?_ | refine WPc.block ?_ | refine WPc.ret ?_ | refine WPc.exit ?_ | refine WPc.skip ?_ | refine WPc.region ?_
   | (refine isCond ?_; first | refine WPc.cT ?_ | refine WPc.cF ?_ | (refine WPc.cQ (fun hc => ?_) (fun hc => ?_) <;> try exact prA))
   | (refine isD 5 ?_; first | (refine isAl ?_; refine WPl.nw fun g5 => ?_) | (refine isBx ?_; refine WPl.nw fun g5 => ?_))
   | (refine isD 6 ?_; first | (refine isAl ?_; refine WPl.nw fun g6 => ?_) | (refine isBx ?_; refine WPl.nw fun g6 => ?_))
   | (refine isD 9 ?_; first | (refine isAl ?_; refine WPl.nw fun g9 => ?_) | (refine isBx ?_; refine WPl.nw fun g9 => ?_))
   | (refine isC 18 ?_; refine WPl.cV (hrep) ?_)
   | (refine isC 19 ?_; refine WPl.cV (c1) ?_ (hΔ := provsX))
   | (refine isOp ?_; first | refine WPl.rd ?_ | refine WPl.sk ?_ | refine WPl.rdB ?_)
   | (refine isAl ?_; refine WPl.nw fun g => ?_)
   | (refine isBx ?_; refine WPl.nw fun g => ?_)
   | (refine isSt ?_; first | refine WPl.st1 ?_ | refine WPl.stA ?_ | refine WPl.stEB ?_ | refine WPl.stRB ?_)
   | (show WPl _ _ _ _ _ _ _ (⟨_, .indexAddr _ _ _, _, _, _, _⟩ :: _) _; refine WPl.rdX (ReadR.indexE rfl rfl hasA (by first | assumption | omega)) ?_)
   | (show WPl _ _ _ _ _ _ _ (⟨_, .fieldAddr _ _ _, _, _, _, _⟩ :: _) _; refine WPl.rdX (ReadR.fieldE rfl hasA (by first | assumption | omega)) ?_)
   | (show WPl _ _ _ _ _ _ _ (⟨_, .load _ _, _, _, _, _⟩ :: _) _; first | refine WPl.rdX (ReadR.loadE rfl hasA (by assumption)) ?_ | refine WPl.rdX (ReadR.loadES (by assumption) (by first | assumption | omega) rfl hasA) ?_)
   | (show WPl _ _ _ _ _ _ _ (⟨_, .slice _ _ _ _ _, _, _, _, _⟩ :: _) _; first | refine WPl.rdX (ReadR.sliceH rfl rfl hasA (by omega)) ?_ | refine WPl.rdX (ReadR.sliceL rfl rfl hasA (by omega)) ?_ | refine WPl.rdX (ReadR.sliceLH rfl rfl rfl hasA (by omega) (by omega)) ?_)
   | (refine WPl.spQ (fun hc => ?_) (fun hc => ?_) <;> try exact prA)
   | fail)
  · refine ⟨?_⟩
    rcases firstI_cases (fun x : Fl × En => decide (replyE x = r)) D with ⟨i, x, hx, hq, he⟩ | ⟨hn, he⟩
    · rw [he] at ho
      have hxr : replyE x = r := by simpa using hq
      have hil := (List.getElem?_eq_some_iff.1 hx).1
      have hi0 : o ≥ 0 := by omega
      subst ho
      have hcp := fds_f hx
      have l6 := x.1.src.len
      have l7 := x.1.dst.len
      by_cases hxf : x.1 = f
      · skip
        repeat' (first
         | refine WPl.nil ?_ | refine WPq.then ?_ | refine WPq.thenR ?_ | refine WPq.thenE ?_ | refine WPq.blockN ?_ | refine WPq.blockR ?_ | refine WPq.blockE ?_ | refine WPq.blockO rfl ?_ | refine WPc.seq ?_ | refine WPc.block ?_ | refine WPc.ret ?_ | refine WPc.exit ?_ | refine WPc.skip ?_ | refine WPc.region ?_
         | (refine isReg 3 ?_; refine WPc.drA [([], []), ([0], [20]), ([0, 1], [20, 21]), ([0, 1, 2], [20, 21, 22, 27, 31]), ([0, 1, 2, 3], [20, 21, 22, 23, 27, 31]), ([0, 1, 2, 3, 4], [20, 21, 22, 23, 24, 27, 31]), ([0, 1, 2, 3, 4, 5], [20, 21, 22, 23, 24, 25, 27, 31]), ([0, 1, 2], [20, 21, 22, 23, 24, 25, 26, 31]), ([0, 1, 2, 3, 4, 5, 6, 7], [20, 21, 22, 23, 24, 25, 26, 27, 31]), ([0, 1, 2, 3, 4, 5, 6, 7, 8], [20, 21, 22, 23, 24, 25, 26, 27, 28, 31]), ([0, 1, 2, 3, 4, 5, 6, 7, 8, 9], [20, 21, 22, 23, 24, 25, 26, 27, 28, 29, 31]), ([0, 1, 2], [20, 21, 22, 23, 24, 25, 26, 27, 28, 29, 30]), ([0, 1, 2, 3, 4, 5, 6, 7, 8, 9, 10, 11], [20, 21, 22, 23, 24, 25, 26, 27, 28, 29, 30, 31]), ([0, 1, 2, 3, 4, 5, 6, 7, 8, 9, 10, 11, 12], [20, 21, 22, 23, 24, 25, 26, 27, 28, 29, 30, 31, 32])] [] (Γx := []) ?_; dsimp only [prev0, List.length_nil, List.length_cons])
         | (refine gAny ?_; first | (refine gGd ?_; refine RGl.skp ?_) | (refine gD 21 ?_; refine RGl.rdX (fun e hk => by (try dsimp only [bndR, ensR, oksR, fcutR, List.append_nil, List.nil_append, List.cons_append, List.append_assoc] at hk ⊢); exact ReadR.binE rfl rfl BinR.geq (congrArg Value.bool (decide_eq_true hi0))) ?_) | (refine gD 28 ?_; refine RGl.rdX (fun e hk => by (try dsimp only [bndR, ensR, oksR, fcutR, List.append_nil, List.nil_append, List.cons_append, List.append_assoc] at hk ⊢); exact ReadR.indexE (i := i) rfl rfl hasA hil) ?_) | (refine gD 29 ?_; refine RGl.rdX (fun e hk => by (try dsimp only [bndR, ensR, oksR, fcutR, List.append_nil, List.nil_append, List.cons_append, List.append_assoc] at hk ⊢); exact ReadR.fieldE rfl hasA (by omega)) ?_) | (refine gD 30 ?_; refine RGl.rdX (fun e hk => by (try dsimp only [bndR, ensR, oksR, fcutR, List.append_nil, List.nil_append, List.cons_append, List.append_assoc] at hk ⊢); exact ReadR.loadES (cs := flc x.1) hcp (by omega) rfl hasA) ?_) | (refine gD 32 ?_; refine RGl.rdX (fun e hk => by (try dsimp only [bndR, ensR, oksR, fcutR, List.append_nil, List.nil_append, List.cons_append, List.append_assoc] at hk ⊢); exact ReadR.binE rfl rfl BinR.flN (congrArg (fun q => Value.bool (!q)) (decide_eq_true hxf))) ?_) | (refine gOp ?_; first | refine RGl.rdA ?_ | refine RGl.rdX (fun e hk => by (try dsimp only [bndR, ensR, oksR, fcutR, List.append_nil, List.nil_append, List.cons_append, List.append_assoc] at hk ⊢); exact readB) ?_) | (refine RGl.fin (fun e hk => ?_); (try dsimp only [bndA, ensAR, oksA, List.append_nil, List.nil_append, List.cons_append, List.append_assoc] at hk ⊢); (repeat (obtain ⟨hk1, hk⟩ := hk))) | fail)
         | (refine isCond ?_; first | refine WPc.cT ?_ | refine WPc.cF ?_ | (refine WPc.cQ (fun hc => ?_) (fun hc => ?_) <;> try exact prA))
         | (refine isD 21 ?_; refine WPl.rdX (ReadR.binE rfl rfl BinR.geq (congrArg Value.bool (decide_eq_true hi0))) ?_)
         | (refine isD 28 ?_; refine WPl.rdX (ReadR.indexE (i := i) rfl rfl hasA hil) ?_)
         | (refine isD 29 ?_; refine WPl.rdX (ReadR.fieldE rfl hasA (by omega)) ?_)
         | (refine isD 30 ?_; refine WPl.rdX (ReadR.loadES (cs := flc x.1) hcp (by omega) rfl hasA) ?_)
         | (refine isD 32 ?_; refine WPl.rdX (ReadR.binE rfl rfl BinR.flN (congrArg (fun q => Value.bool (!q)) (decide_eq_true hxf))) ?_)
         | (refine isOp ?_; first | refine WPl.rd ?_ | refine WPl.sk ?_ | refine WPl.rdB ?_)
         | (refine isAl ?_; refine WPl.nw fun g => ?_)
         | (refine isBx ?_; refine WPl.nw fun g => ?_)
         | (refine isSt ?_; first | refine WPl.st1 ?_ | refine WPl.stA ?_ | refine WPl.stEB ?_ | refine WPl.stRB ?_)
         | (show WPl _ _ _ _ _ _ _ (⟨_, .indexAddr _ _ _, _, _, _, _⟩ :: _) _; refine WPl.rdX (ReadR.indexE rfl rfl hasA (by first | assumption | omega)) ?_)
         | (show WPl _ _ _ _ _ _ _ (⟨_, .fieldAddr _ _ _, _, _, _, _⟩ :: _) _; refine WPl.rdX (ReadR.fieldE rfl hasA (by first | assumption | omega)) ?_)
         | (show WPl _ _ _ _ _ _ _ (⟨_, .load _ _, _, _, _, _⟩ :: _) _; first | refine WPl.rdX (ReadR.loadE rfl hasA (by assumption)) ?_ | refine WPl.rdX (ReadR.loadES (by assumption) (by first | assumption | omega) rfl hasA) ?_)
         | (show WPl _ _ _ _ _ _ _ (⟨_, .slice _ _ _ _ _, _, _, _, _⟩ :: _) _; first | refine WPl.rdX (ReadR.sliceH rfl rfl hasA (by omega)) ?_ | refine WPl.rdX (ReadR.sliceL rfl rfl hasA (by omega)) ?_ | refine WPl.rdX (ReadR.sliceLH rfl rfl rfl hasA (by omega) (by omega)) ?_)
         | (refine WPl.spQ (fun hc => ?_) (fun hc => ?_) <;> try exact prA)
         | fail)
        exact WPq.join (D, vl) ⟨.own i x hx hxr hxf, hvl⟩
      · have c2 := rlive_t gX most vl D i x now hx (by omega)
        by_cases hlv : now < x.2.til
        · rw [decide_eq_true hlv] at c2
          repeat' (first
           | refine WPl.nil ?_ | refine WPq.then ?_ | refine WPq.thenR ?_ | refine WPq.thenE ?_ | refine WPq.blockN ?_ | refine WPq.blockR ?_ | refine WPq.blockE ?_ | refine WPq.blockO rfl ?_ | refine WPc.seq ?_ | refine WPc.block ?_ | refine WPc.ret ?_ | refine WPc.exit ?_ | refine WPc.skip ?_ | refine WPc.region ?_
           | (refine isReg 3 ?_; refine WPc.drA [([], []), ([0], [20]), ([0, 1], [20, 21]), ([0, 1, 2], [20, 21, 22, 27, 31]), ([0, 1, 2, 3], [20, 21, 22, 23, 27, 31]), ([0, 1, 2, 3, 4], [20, 21, 22, 23, 24, 27, 31]), ([0, 1, 2, 3, 4, 5], [20, 21, 22, 23, 24, 25, 27, 31]), ([0, 1, 2], [20, 21, 22, 23, 24, 25, 26, 31]), ([0, 1, 2, 3, 4, 5, 6, 7], [20, 21, 22, 23, 24, 25, 26, 27, 31]), ([0, 1, 2, 3, 4, 5, 6, 7, 8], [20, 21, 22, 23, 24, 25, 26, 27, 28, 31]), ([0, 1, 2, 3, 4, 5, 6, 7, 8, 9], [20, 21, 22, 23, 24, 25, 26, 27, 28, 29, 31]), ([0, 1, 2], [20, 21, 22, 23, 24, 25, 26, 27, 28, 29, 30]), ([0, 1, 2, 3, 4, 5, 6, 7, 8, 9, 10, 11], [20, 21, 22, 23, 24, 25, 26, 27, 28, 29, 30, 31]), ([0, 1, 2, 3, 4, 5, 6, 7, 8, 9, 10, 11, 12], [20, 21, 22, 23, 24, 25, 26, 27, 28, 29, 30, 31, 32])] [] (Γx := []) ?_; dsimp only [prev0, List.length_nil, List.length_cons])
           | (refine gAny ?_; first | (refine gGd ?_; refine RGl.skp ?_) | (refine gC 37 ?_; refine RGl.vl (fun e hk => OpT.callN (c2) (hΔ := by (try dsimp only [bndR, ensR, oksR, fcutR, List.append_nil, List.nil_append, List.cons_append, List.append_assoc] at hk ⊢); exact provsX)) ?_) | (refine gD 21 ?_; refine RGl.rdX (fun e hk => by (try dsimp only [bndR, ensR, oksR, fcutR, List.append_nil, List.nil_append, List.cons_append, List.append_assoc] at hk ⊢); exact ReadR.binE rfl rfl BinR.geq (congrArg Value.bool (decide_eq_true hi0))) ?_) | (refine gD 28 ?_; refine RGl.rdX (fun e hk => by (try dsimp only [bndR, ensR, oksR, fcutR, List.append_nil, List.nil_append, List.cons_append, List.append_assoc] at hk ⊢); exact ReadR.indexE (i := i) rfl rfl hasA hil) ?_) | (refine gD 29 ?_; refine RGl.rdX (fun e hk => by (try dsimp only [bndR, ensR, oksR, fcutR, List.append_nil, List.nil_append, List.cons_append, List.append_assoc] at hk ⊢); exact ReadR.fieldE rfl hasA (by omega)) ?_) | (refine gD 30 ?_; refine RGl.rdX (fun e hk => by (try dsimp only [bndR, ensR, oksR, fcutR, List.append_nil, List.nil_append, List.cons_append, List.append_assoc] at hk ⊢); exact ReadR.loadES (cs := flc x.1) hcp (by omega) rfl hasA) ?_) | (refine gD 32 ?_; refine RGl.rdX (fun e hk => by (try dsimp only [bndR, ensR, oksR, fcutR, List.append_nil, List.nil_append, List.cons_append, List.append_assoc] at hk ⊢); exact ReadR.binE rfl rfl BinR.flN (congrArg (fun q => Value.bool (!q)) (decide_eq_false hxf))) ?_) | (refine gOp ?_; first | refine RGl.rdA ?_ | refine RGl.rdX (fun e hk => by (try dsimp only [bndR, ensR, oksR, fcutR, List.append_nil, List.nil_append, List.cons_append, List.append_assoc] at hk ⊢); exact readB) ?_) | (refine RGl.fin (fun e hk => ?_); (try dsimp only [bndA, ensAR, oksA, List.append_nil, List.nil_append, List.cons_append, List.append_assoc] at hk ⊢); (repeat (obtain ⟨hk1, hk⟩ := hk))) | fail)
           | (refine isCond ?_; first | refine WPc.cT ?_ | refine WPc.cF ?_ | (refine WPc.cQ (fun hc => ?_) (fun hc => ?_) <;> try exact prA))
           | (refine isD 21 ?_; refine WPl.rdX (ReadR.binE rfl rfl BinR.geq (congrArg Value.bool (decide_eq_true hi0))) ?_)
           | (refine isD 28 ?_; refine WPl.rdX (ReadR.indexE (i := i) rfl rfl hasA hil) ?_)
           | (refine isD 29 ?_; refine WPl.rdX (ReadR.fieldE rfl hasA (by omega)) ?_)
           | (refine isD 30 ?_; refine WPl.rdX (ReadR.loadES (cs := flc x.1) hcp (by omega) rfl hasA) ?_)
           | (refine isD 32 ?_; refine WPl.rdX (ReadR.binE rfl rfl BinR.flN (congrArg (fun q => Value.bool (!q)) (decide_eq_false hxf))) ?_)
           | (refine isC 37 ?_; refine WPl.cV (c2) ?_ (hΔ := provsX))
           | (refine isOp ?_; first | refine WPl.rd ?_ | refine WPl.sk ?_ | refine WPl.rdB ?_)
           | (refine isAl ?_; refine WPl.nw fun g => ?_)
           | (refine isBx ?_; refine WPl.nw fun g => ?_)
           | (refine isSt ?_; first | refine WPl.st1 ?_ | refine WPl.stA ?_ | refine WPl.stEB ?_ | refine WPl.stRB ?_)
           | (show WPl _ _ _ _ _ _ _ (⟨_, .indexAddr _ _ _, _, _, _, _⟩ :: _) _; refine WPl.rdX (ReadR.indexE rfl rfl hasA (by first | assumption | omega)) ?_)
           | (show WPl _ _ _ _ _ _ _ (⟨_, .fieldAddr _ _ _, _, _, _, _⟩ :: _) _; refine WPl.rdX (ReadR.fieldE rfl hasA (by first | assumption | omega)) ?_)
           | (show WPl _ _ _ _ _ _ _ (⟨_, .load _ _, _, _, _, _⟩ :: _) _; first | refine WPl.rdX (ReadR.loadE rfl hasA (by assumption)) ?_ | refine WPl.rdX (ReadR.loadES (by assumption) (by first | assumption | omega) rfl hasA) ?_)
           | (show WPl _ _ _ _ _ _ _ (⟨_, .slice _ _ _ _ _, _, _, _, _⟩ :: _) _; first | refine WPl.rdX (ReadR.sliceH rfl rfl hasA (by omega)) ?_ | refine WPl.rdX (ReadR.sliceL rfl rfl hasA (by omega)) ?_ | refine WPl.rdX (ReadR.sliceLH rfl rfl rfl hasA (by omega) (by omega)) ?_)
           | (refine WPl.spQ (fun hc => ?_) (fun hc => ?_) <;> try exact prA)
           | fail)
          repeat (refine WPq.thenR ?_)
          exact WPq.dX (vs := [_]) [bx gX 69 (rfx most vl), rowN 75 59 vl D.length (fds D)] ⟨7, vl, D, rfl, hvl, rfl, .there (hr ▸ .live i x hx hxr hxf hlv)⟩
        · rw [decide_eq_false hlv] at c2
          have c3 := rcut_t gX most vl D hvl i hil (by omega)
          repeat' (first
           | refine WPl.nil ?_ | refine WPq.then ?_ | refine WPq.thenR ?_ | refine WPq.thenE ?_ | refine WPq.blockN ?_ | refine WPq.blockR ?_ | refine WPq.blockE ?_ | refine WPq.blockO rfl ?_ | refine WPc.seq ?_ | refine WPc.block ?_ | refine WPc.ret ?_ | refine WPc.exit ?_ | refine WPc.skip ?_ | refine WPc.region ?_
           | (refine isReg 3 ?_; refine WPc.drA [([], []), ([0], [20]), ([0, 1], [20, 21]), ([0, 1, 2], [20, 21, 22, 27, 31]), ([0, 1, 2, 3], [20, 21, 22, 23, 27, 31]), ([0, 1, 2, 3, 4], [20, 21, 22, 23, 24, 27, 31]), ([0, 1, 2, 3, 4, 5], [20, 21, 22, 23, 24, 25, 27, 31]), ([0, 1, 2], [20, 21, 22, 23, 24, 25, 26, 31]), ([0, 1, 2, 3, 4, 5, 6, 7], [20, 21, 22, 23, 24, 25, 26, 27, 31]), ([0, 1, 2, 3, 4, 5, 6, 7, 8], [20, 21, 22, 23, 24, 25, 26, 27, 28, 31]), ([0, 1, 2, 3, 4, 5, 6, 7, 8, 9], [20, 21, 22, 23, 24, 25, 26, 27, 28, 29, 31]), ([0, 1, 2], [20, 21, 22, 23, 24, 25, 26, 27, 28, 29, 30]), ([0, 1, 2, 3, 4, 5, 6, 7, 8, 9, 10, 11], [20, 21, 22, 23, 24, 25, 26, 27, 28, 29, 30, 31]), ([0, 1, 2, 3, 4, 5, 6, 7, 8, 9, 10, 11, 12], [20, 21, 22, 23, 24, 25, 26, 27, 28, 29, 30, 31, 32])] [] (Γx := []) ?_; dsimp only [prev0, List.length_nil, List.length_cons])
           | (refine gAny ?_; first | (refine gGd ?_; refine RGl.skp ?_) | (refine gC 37 ?_; refine RGl.vl (fun e hk => OpT.callN (c2) (hΔ := by (try dsimp only [bndR, ensR, oksR, fcutR, List.append_nil, List.nil_append, List.cons_append, List.append_assoc] at hk ⊢); exact provsX)) ?_) | (refine gD 21 ?_; refine RGl.rdX (fun e hk => by (try dsimp only [bndR, ensR, oksR, fcutR, List.append_nil, List.nil_append, List.cons_append, List.append_assoc] at hk ⊢); exact ReadR.binE rfl rfl BinR.geq (congrArg Value.bool (decide_eq_true hi0))) ?_) | (refine gD 28 ?_; refine RGl.rdX (fun e hk => by (try dsimp only [bndR, ensR, oksR, fcutR, List.append_nil, List.nil_append, List.cons_append, List.append_assoc] at hk ⊢); exact ReadR.indexE (i := i) rfl rfl hasA hil) ?_) | (refine gD 29 ?_; refine RGl.rdX (fun e hk => by (try dsimp only [bndR, ensR, oksR, fcutR, List.append_nil, List.nil_append, List.cons_append, List.append_assoc] at hk ⊢); exact ReadR.fieldE rfl hasA (by omega)) ?_) | (refine gD 30 ?_; refine RGl.rdX (fun e hk => by (try dsimp only [bndR, ensR, oksR, fcutR, List.append_nil, List.nil_append, List.cons_append, List.append_assoc] at hk ⊢); exact ReadR.loadES (cs := flc x.1) hcp (by omega) rfl hasA) ?_) | (refine gD 32 ?_; refine RGl.rdX (fun e hk => by (try dsimp only [bndR, ensR, oksR, fcutR, List.append_nil, List.nil_append, List.cons_append, List.append_assoc] at hk ⊢); exact ReadR.binE rfl rfl BinR.flN (congrArg (fun q => Value.bool (!q)) (decide_eq_false hxf))) ?_) | (refine gOp ?_; first | refine RGl.rdA ?_ | refine RGl.rdX (fun e hk => by (try dsimp only [bndR, ensR, oksR, fcutR, List.append_nil, List.nil_append, List.cons_append, List.append_assoc] at hk ⊢); exact readB) ?_) | (refine RGl.fin (fun e hk => ?_); (try dsimp only [bndA, ensAR, oksA, List.append_nil, List.nil_append, List.cons_append, List.append_assoc] at hk ⊢); (repeat (obtain ⟨hk1, hk⟩ := hk))) | fail)
           | (refine isCond ?_; first | refine WPc.cT ?_ | refine WPc.cF ?_ | (refine WPc.cQ (fun hc => ?_) (fun hc => ?_) <;> try exact prA))
           | (refine isD 21 ?_; refine WPl.rdX (ReadR.binE rfl rfl BinR.geq (congrArg Value.bool (decide_eq_true hi0))) ?_)
           | (refine isD 28 ?_; refine WPl.rdX (ReadR.indexE (i := i) rfl rfl hasA hil) ?_)
           | (refine isD 29 ?_; refine WPl.rdX (ReadR.fieldE rfl hasA (by omega)) ?_)
           | (refine isD 30 ?_; refine WPl.rdX (ReadR.loadES (cs := flc x.1) hcp (by omega) rfl hasA) ?_)
           | (refine isD 32 ?_; refine WPl.rdX (ReadR.binE rfl rfl BinR.flN (congrArg (fun q => Value.bool (!q)) (decide_eq_false hxf))) ?_)
           | (refine isC 37 ?_; refine WPl.cV (c2) ?_ (hΔ := provsX))
           | (refine isC 40 ?_; refine WPl.cXs (c3) fun v Γ1 hR => ?_; obtain ⟨rfl, v2, hv2, rfl⟩ := hR; (try dsimp only [putF, List.cons_append, List.nil_append]))
           | (refine isOp ?_; first | refine WPl.rd ?_ | refine WPl.sk ?_ | refine WPl.rdB ?_)
           | (refine isAl ?_; refine WPl.nw fun g => ?_)
           | (refine isBx ?_; refine WPl.nw fun g => ?_)
           | (refine isSt ?_; first | refine WPl.st1 ?_ | refine WPl.stA ?_ | refine WPl.stEB ?_ | refine WPl.stRB ?_)
           | (show WPl _ _ _ _ _ _ _ (⟨_, .indexAddr _ _ _, _, _, _, _⟩ :: _) _; refine WPl.rdX (ReadR.indexE rfl rfl hasA (by first | assumption | omega)) ?_)
           | (show WPl _ _ _ _ _ _ _ (⟨_, .fieldAddr _ _ _, _, _, _, _⟩ :: _) _; refine WPl.rdX (ReadR.fieldE rfl hasA (by first | assumption | omega)) ?_)
           | (show WPl _ _ _ _ _ _ _ (⟨_, .load _ _, _, _, _, _⟩ :: _) _; first | refine WPl.rdX (ReadR.loadE rfl hasA (by assumption)) ?_ | refine WPl.rdX (ReadR.loadES (by assumption) (by first | assumption | omega) rfl hasA) ?_)
           | (show WPl _ _ _ _ _ _ _ (⟨_, .slice _ _ _ _ _, _, _, _, _⟩ :: _) _; first | refine WPl.rdX (ReadR.sliceH rfl rfl hasA (by omega)) ?_ | refine WPl.rdX (ReadR.sliceL rfl rfl hasA (by omega)) ?_ | refine WPl.rdX (ReadR.sliceLH rfl rfl rfl hasA (by omega) (by omega)) ?_)
           | (refine WPl.spQ (fun hc => ?_) (fun hc => ?_) <;> try exact prA)
           | fail)
          exact WPq.join (cutI D i, v2) ⟨.gone i x hx hxr hxf hlv, hv2⟩
    · rw [he] at ho
      have hneg : ¬ o ≥ 0 := by omega
      repeat' (first
       | refine WPl.nil ?_ | refine WPq.then ?_ | refine WPq.thenR ?_ | refine WPq.thenE ?_ | refine WPq.blockN ?_ | refine WPq.blockR ?_ | refine WPq.blockE ?_ | refine WPq.blockO rfl ?_ | refine WPc.seq ?_ | refine WPc.block ?_ | refine WPc.ret ?_ | refine WPc.exit ?_ | refine WPc.skip ?_ | refine WPc.region ?_
       | (refine isReg 3 ?_; refine WPc.drA [([], []), ([0], [20]), ([0, 1], [20, 21]), ([0, 1, 2], [20, 21, 22, 27, 31]), ([0, 1, 2, 3], [20, 21, 22, 23, 27, 31]), ([0, 1, 2, 3, 4], [20, 21, 22, 23, 24, 27, 31]), ([0, 1, 2, 3, 4, 5], [20, 21, 22, 23, 24, 25, 27, 31]), ([0, 1, 2], [20, 21, 22, 23, 24, 25, 26, 31]), ([0, 1, 2, 3, 4, 5, 6, 7], [20, 21, 22, 23, 24, 25, 26, 27, 31]), ([0, 1, 2, 3, 4, 5, 6, 7, 8], [20, 21, 22, 23, 24, 25, 26, 27, 28, 31]), ([0, 1, 2, 3, 4, 5, 6, 7, 8, 9], [20, 21, 22, 23, 24, 25, 26, 27, 28, 29, 31]), ([0, 1, 2], [20, 21, 22, 23, 24, 25, 26, 27, 28, 29, 30]), ([0, 1, 2, 3, 4, 5, 6, 7, 8, 9, 10, 11], [20, 21, 22, 23, 24, 25, 26, 27, 28, 29, 30, 31]), ([0, 1, 2, 3, 4, 5, 6, 7, 8, 9, 10, 11, 12], [20, 21, 22, 23, 24, 25, 26, 27, 28, 29, 30, 31, 32])] [] (Γx := []) ?_; dsimp only [prev0, List.length_nil, List.length_cons])
       | (refine gAny ?_; first | (refine gGd ?_; refine RGl.skp ?_) | (refine gD 21 ?_; refine RGl.rdX (fun e hk => by (try dsimp only [bndR, ensR, oksR, fcutR, List.append_nil, List.nil_append, List.cons_append, List.append_assoc] at hk ⊢); exact ReadR.binE rfl rfl BinR.geq (congrArg Value.bool (decide_eq_false hneg))) ?_) | (refine gOp ?_; first | refine RGl.rdA ?_ | refine RGl.rdX (fun e hk => by (try dsimp only [bndR, ensR, oksR, fcutR, List.append_nil, List.nil_append, List.cons_append, List.append_assoc] at hk ⊢); exact readB) ?_) | (refine RGl.fin (fun e hk => ?_); (try dsimp only [bndA, ensAR, oksA, List.append_nil, List.nil_append, List.cons_append, List.append_assoc] at hk ⊢); (repeat (obtain ⟨hk1, hk⟩ := hk))) | fail)
       | (refine isCond ?_; first | refine WPc.cT ?_ | refine WPc.cF ?_ | (refine WPc.cQ (fun hc => ?_) (fun hc => ?_) <;> try exact prA))
       | (refine isD 21 ?_; refine WPl.rdX (ReadR.binE rfl rfl BinR.geq (congrArg Value.bool (decide_eq_false hneg))) ?_)
       | (refine isOp ?_; first | refine WPl.rd ?_ | refine WPl.sk ?_ | refine WPl.rdB ?_)
       | (refine isAl ?_; refine WPl.nw fun g => ?_)
       | (refine isBx ?_; refine WPl.nw fun g => ?_)
       | (refine isSt ?_; first | refine WPl.st1 ?_ | refine WPl.stA ?_ | refine WPl.stEB ?_ | refine WPl.stRB ?_)
       | (show WPl _ _ _ _ _ _ _ (⟨_, .indexAddr _ _ _, _, _, _, _⟩ :: _) _; refine WPl.rdX (ReadR.indexE rfl rfl hasA (by first | assumption | omega)) ?_)
       | (show WPl _ _ _ _ _ _ _ (⟨_, .fieldAddr _ _ _, _, _, _, _⟩ :: _) _; refine WPl.rdX (ReadR.fieldE rfl hasA (by first | assumption | omega)) ?_)
       | (show WPl _ _ _ _ _ _ _ (⟨_, .load _ _, _, _, _, _⟩ :: _) _; first | refine WPl.rdX (ReadR.loadE rfl hasA (by assumption)) ?_ | refine WPl.rdX (ReadR.loadES (by assumption) (by first | assumption | omega) rfl hasA) ?_)
       | (show WPl _ _ _ _ _ _ _ (⟨_, .slice _ _ _ _ _, _, _, _, _⟩ :: _) _; first | refine WPl.rdX (ReadR.sliceH rfl rfl hasA (by omega)) ?_ | refine WPl.rdX (ReadR.sliceL rfl rfl hasA (by omega)) ?_ | refine WPl.rdX (ReadR.sliceLH rfl rfl rfl hasA (by omega) (by omega)) ?_)
       | (refine WPl.spQ (fun hc => ?_) (fun hc => ?_) <;> try exact prA)
       | fail)
      exact WPq.join (D, vl) ⟨.no fun x hx => by simpa using hn x hx, hvl⟩
  refine ⟨?_⟩
  obtain ⟨D1, v1⟩ := st
  obtain ⟨hO, hv1⟩ := hx
  dsimp only at hO hv1 ⊢
  have hlen1 := rputO_len hO
  have hmem1 := rputO_mem hO
  rw [hr] at hO
  have hcl1 := fds_len (l := D1)
  have c2 := rat_t gX most v1 D1 f (by omega)
  obtain ⟨o2, ho2⟩ : ∃ o, o = firstI (fun x : Fl × En => decide (x.1 = f)) D1 := ⟨_, rfl⟩
  rw [← ho2] at c2
  have hfok := hdE_fok (f, a)
  have hflen := hdE_len (f, a)
  have hins : ∀ (D2 : LL) (i : Nat), i ≤ D2.length → 0 + i + 1 + (D2.length - i) = (D2.take i ++ (f, a) :: D2.drop i).length ∧ fds (D2.take i) ++ flat (hdE (f, a)) ++ fds (D2.drop i) = fds (D2.take i ++ (f, a) :: D2.drop i) := fun D2 i hi => ins_fin hi
  have hsel : sel (hdE (f, a)) 0 59 = some (hdE (f, a)) := rfl
  have htot : total (hdE (f, a)) = 59 := rfl
  generalize hdE (f, a) = hc at hfok hflen hins hsel htot ⊢
  rcases firstI_cases (fun x : Fl × En => decide (x.1 = f)) D1 with ⟨i, x, hx, hq, he⟩ | ⟨hn, he⟩
  · rw [he] at ho2
    have hxf : x.1 = f := by simpa using hq
    have hil := (List.getElem?_eq_some_iff.1 hx).1
    have hi0 : o2 ≥ 0 := by omega
    have hst1 : i * 59 + 37 + 22 ≤ (fds D1).length := by omega
    subst ho2
    repeat' (first
     | refine WPl.nil ?_ | refine WPq.then ?_ | refine WPq.thenR ?_ | refine WPq.thenE ?_ | refine WPq.blockN ?_ | refine WPq.blockR ?_ | refine WPq.blockE ?_ | refine WPq.blockO rfl ?_ | refine WPc.seq ?_ | refine WPc.block ?_ | refine WPc.ret ?_ | refine WPc.exit ?_ | refine WPc.skip ?_ | refine WPc.region ?_
     | (refine isReg 9 ?_; refine WPc.drA [([9], [50, 51]), ([0, 9], [46, 50, 51]), ([0, 1, 9], [46, 47, 50, 51]), ([0, 1, 2, 9], [46, 47, 48, 50, 51]), ([9], [46, 47, 48, 49, 51]), ([9], [46, 47, 48, 49, 50]), ([0, 1, 2, 3, 4, 5, 9], [46, 47, 48, 49, 50, 51]), ([0, 1, 2, 3, 4, 5, 6, 9], [46, 47, 48, 49, 50, 51, 52]), ([0, 1, 2, 3, 4, 5, 6, 7, 9], [46, 47, 48, 49, 50, 51, 52, 53])] [(9, 8), (9, 0), (9, 1), (9, 2), (9, 3), (9, 4), (9, 5), (9, 6), (9, 7)] (Γx := [rowN 75 59 v1 D1.length (fds D1)]) ?_; dsimp only [prev0, List.length_nil, List.length_cons])
     | (refine gAny ?_; first | (refine gC 43 ?_; refine RGl.vl (fun e hk => OpT.callN (c2) (hΔ := by (try dsimp only [bndR, ensR, oksR, fcutR, List.append_nil, List.nil_append, List.cons_append, List.append_assoc] at hk ⊢); exact provsX)) ?_) | (show RGl _ _ _ _ _ _ _ _ (⟨_, .store _ (.tmp 53) _, _, _, _, _⟩ :: _) _ _; refine RGl.turn (fun e hk => by (try dsimp only [bndR, ensR, oksR, fcutR, List.append_nil, List.nil_append, List.cons_append, List.append_assoc] at hk ⊢); exact OpT.storeES rfl rfl takesA (k := 22) (new := enC a) fokA rfl hst1 (by decide)) ?_) | (refine gD 45 ?_; refine RGl.rdX (fun e hk => by (try dsimp only [bndR, ensR, oksR, fcutR, List.append_nil, List.nil_append, List.cons_append, List.append_assoc] at hk ⊢); exact ReadR.binE rfl rfl BinR.geq (congrArg Value.bool (decide_eq_true hi0))) ?_) | (refine gD 52 ?_; refine RGl.rdX (fun e hk => by (try dsimp only [bndR, ensR, oksR, fcutR, List.append_nil, List.nil_append, List.cons_append, List.append_assoc] at hk ⊢); exact ReadR.indexE (i := i) rfl rfl hasA hil) ?_) | (refine gD 53 ?_; refine RGl.rdX (fun e hk => by (try dsimp only [bndR, ensR, oksR, fcutR, List.append_nil, List.nil_append, List.cons_append, List.append_assoc] at hk ⊢); exact ReadR.fieldE rfl hasA (by omega)) ?_) | (refine gOp ?_; first | refine RGl.rdA ?_ | refine RGl.rdX (fun e hk => by (try dsimp only [bndR, ensR, oksR, fcutR, List.append_nil, List.nil_append, List.cons_append, List.append_assoc] at hk ⊢); exact readB) ?_) | (refine gSt ?_; refine RGl.stA ?_) | (refine RGl.fin (fun e hk => ?_); (try dsimp only [bndA, ensAR, oksA, List.append_nil, List.nil_append, List.cons_append, List.append_assoc] at hk ⊢); (repeat (obtain ⟨hk1, hk⟩ := hk))) | fail)
     | (refine isCond ?_; first | refine WPc.cT ?_ | refine WPc.cF ?_ | (refine WPc.cQ (fun hc => ?_) (fun hc => ?_) <;> try exact prA))
     | (refine isC 43 ?_; refine WPl.cV (c2) ?_ (hΔ := provsX))
     | (refine isD 45 ?_; refine WPl.rdX (ReadR.binE rfl rfl BinR.geq (congrArg Value.bool (decide_eq_true hi0))) ?_)
     | (refine isD 52 ?_; refine WPl.rdX (ReadR.indexE (i := i) rfl rfl hasA hil) ?_)
     | (refine isD 53 ?_; refine WPl.rdX (ReadR.fieldE rfl hasA (by omega)) ?_)
     | (refine isOp ?_; first | refine WPl.rd ?_ | refine WPl.sk ?_ | refine WPl.rdB ?_)
     | (refine isAl ?_; refine WPl.nw fun g => ?_)
     | (refine isBx ?_; refine WPl.nw fun g => ?_)
     | (refine isSt ?_; first | refine WPl.st1 ?_ | refine WPl.stA ?_ | refine WPl.stEB ?_ | refine WPl.stRB ?_)
     | (show WPl _ _ _ _ _ _ _ (⟨_, .indexAddr _ _ _, _, _, _, _⟩ :: _) _; refine WPl.rdX (ReadR.indexE rfl rfl hasA (by first | assumption | omega)) ?_)
     | (show WPl _ _ _ _ _ _ _ (⟨_, .fieldAddr _ _ _, _, _, _, _⟩ :: _) _; refine WPl.rdX (ReadR.fieldE rfl hasA (by first | assumption | omega)) ?_)
     | (show WPl _ _ _ _ _ _ _ (⟨_, .load _ _, _, _, _, _⟩ :: _) _; first | refine WPl.rdX (ReadR.loadE rfl hasA (by assumption)) ?_ | refine WPl.rdX (ReadR.loadES (by assumption) (by first | assumption | omega) rfl hasA) ?_)
     | (show WPl _ _ _ _ _ _ _ (⟨_, .slice _ _ _ _ _, _, _, _, _⟩ :: _) _; first | refine WPl.rdX (ReadR.sliceH rfl rfl hasA (by omega)) ?_ | refine WPl.rdX (ReadR.sliceL rfl rfl hasA (by omega)) ?_ | refine WPl.rdX (ReadR.sliceLH rfl rfl rfl hasA (by omega) (by omega)) ?_)
     | (refine WPl.spQ (fun hc => ?_) (fun hc => ?_) <;> try exact prA)
     | fail)
    exact WPq.dX (vs := [_]) [bx gX 69 (rfx most v1), rowN 75 59 v1 D1.length ((fds D1).take (i * 59 + 37) ++ flat (enC a) ++ (fds D1).drop (i * 59 + 37 + 22))] ⟨0, v1, D1.set i (f, a), rfl, hv1, by rw [List.length_set, fds_set hx hxf], .set D1 hO i x hx hxf⟩
  have hno : ∀ x ∈ D1, x.1 ≠ f := fun x hx => by simpa using hn x hx
  have hneg : ¬ o2 ≥ 0 := by rw [he] at ho2; omega
  clear he hn ho2
  repeat' (first
   | (refine isSeqR 11 ?_; refine WPc.join (σ := LL × Value) (fun st => st.1 = rfull most now D1 ∧ st.2.oneCell' = true) (fun st => [bx gX 69 (rfx most st.2), rowN 75 59 st.2 st.1.length (fds st.1), bx g5 60 (flc f), bx g9 75 hc]) (fun st => [(0, hPr gX), (3, .int .u64 now), (5, .pointer (some ⟨g5, 0, none⟩)), (9, .pointer (some ⟨g9, 0, none⟩))]) ?_ (fun st hx => ?_))
   | (refine isSeq1 11 ?_; refine Held.it ?_)
   | (refine isSeqR 13 ?_; refine Held.it ?_)
   | refine WPl.nil ?_ | refine WPq.then ?_ | refine WPq.thenR ?_ | refine WPq.thenE ?_ | refine WPq.blockN ?_ | refine WPq.blockR ?_ | refine WPq.blockE ?_ | refine WPq.blockO rfl ?_ | refine WPc.seq ?_ | refine WPc.block ?_ | refine WPc.ret ?_ | refine WPc.exit ?_ | refine WPc.skip ?_ | refine WPc.region ?_
   | (refine isCond ?_; first | refine WPc.cT ?_ | refine WPc.cF ?_ | (refine WPc.cQ (fun hc => ?_) (fun hc => ?_) <;> try exact prA))
   | (refine isC 43 ?_; refine WPl.cV (c2) ?_ (hΔ := provsX))
   | (refine isD 45 ?_; refine WPl.rdX (ReadR.binE rfl rfl BinR.geq (congrArg Value.bool (decide_eq_false hneg))) ?_)
   | (refine isOp ?_; first | refine WPl.rd ?_ | refine WPl.sk ?_ | refine WPl.rdB ?_)
   | (refine isAl ?_; refine WPl.nw fun g => ?_)
   | (refine isBx ?_; refine WPl.nw fun g => ?_)
   | (refine isSt ?_; first | refine WPl.st1 ?_ | refine WPl.stA ?_ | refine WPl.stEB ?_ | refine WPl.stRB ?_)
   | (show WPl _ _ _ _ _ _ _ (⟨_, .indexAddr _ _ _, _, _, _, _⟩ :: _) _; refine WPl.rdX (ReadR.indexE rfl rfl hasA (by first | assumption | omega)) ?_)
   | (show WPl _ _ _ _ _ _ _ (⟨_, .fieldAddr _ _ _, _, _, _, _⟩ :: _) _; refine WPl.rdX (ReadR.fieldE rfl hasA (by first | assumption | omega)) ?_)
   | (show WPl _ _ _ _ _ _ _ (⟨_, .load _ _, _, _, _, _⟩ :: _) _; first | refine WPl.rdX (ReadR.loadE rfl hasA (by assumption)) ?_ | refine WPl.rdX (ReadR.loadES (by assumption) (by first | assumption | omega) rfl hasA) ?_)
   | (show WPl _ _ _ _ _ _ _ (⟨_, .slice _ _ _ _ _, _, _, _, _⟩ :: _) _; first | refine WPl.rdX (ReadR.sliceH rfl rfl hasA (by omega)) ?_ | refine WPl.rdX (ReadR.sliceL rfl rfl hasA (by omega)) ?_ | refine WPl.rdX (ReadR.sliceLH rfl rfl rfl hasA (by omega) (by omega)) ?_)
   | (refine WPl.spQ (fun hc => ?_) (fun hc => ?_) <;> try exact prA)
   | fail)
  · refine ⟨?_⟩
    by_cases hm : (D1.length : Int) ≥ most
    · have c3 := rlets_t gX most v1 D1 now 0 0 (by omega)
      repeat' (first
       | refine WPl.nil ?_ | refine WPq.then ?_ | refine WPq.thenR ?_ | refine WPq.thenE ?_ | refine WPq.blockN ?_ | refine WPq.blockR ?_ | refine WPq.blockE ?_ | refine WPq.blockO rfl ?_ | refine WPc.seq ?_ | refine WPc.block ?_ | refine WPc.ret ?_ | refine WPc.exit ?_ | refine WPc.skip ?_ | refine WPc.region ?_
       | (refine isReg 11 ?_; refine WPc.drA [([], [59, 60, 61, 62]), ([0], [54, 59, 60, 61, 62]), ([0, 1], [54, 55, 59, 60, 61, 62]), ([0, 1, 2], [54, 55, 56, 59, 60, 61, 62]), ([0, 1, 2, 3], [54, 55, 56, 57, 59, 60, 61, 62]), ([], [54, 55, 56, 57, 58]), ([5], [54, 55, 56, 57, 58, 59]), ([5, 6], [54, 55, 56, 57, 58, 59, 60]), ([5, 6, 7], [54, 55, 56, 57, 58, 59, 60, 61]), ([0, 1, 2, 3, 4, 5, 6, 7, 8], [54, 55, 56, 57, 58, 59, 60, 61, 62])] [] (Γx := []) ?_; dsimp only [prev0, List.length_nil, List.length_cons])
       | (refine gAny ?_; first | (refine gD 63 ?_; refine RGl.rdX (fun e hk => by (try dsimp only [bndR, ensR, oksR, fcutR, List.append_nil, List.nil_append, List.cons_append, List.append_assoc] at hk ⊢); exact ReadR.binE rfl rfl BinR.geq (congrArg Value.bool (decide_eq_true hm))) ?_) | (refine gOp ?_; first | refine RGl.rdA ?_ | refine RGl.rdX (fun e hk => by (try dsimp only [bndR, ensR, oksR, fcutR, List.append_nil, List.nil_append, List.cons_append, List.append_assoc] at hk ⊢); exact readB) ?_) | (refine RGl.fin (fun e hk => ?_); (try dsimp only [bndA, ensAR, oksA, List.append_nil, List.nil_append, List.cons_append, List.append_assoc] at hk ⊢); (repeat (obtain ⟨hk1, hk⟩ := hk))) | fail)
       | (refine isCond ?_; first | refine WPc.cT ?_ | refine WPc.cF ?_ | (refine WPc.cQ (fun hc => ?_) (fun hc => ?_) <;> try exact prA))
       | (refine isD 63 ?_; refine WPl.rdX (ReadR.binE rfl rfl BinR.geq (congrArg Value.bool (decide_eq_true hm))) ?_)
       | (refine isC 66 ?_; refine WPl.cXs (c3) fun v Γ1 hR => ?_; obtain ⟨rfl, v2, hv2, rfl⟩ := hR; (try dsimp only [putF, List.cons_append, List.nil_append]))
       | (refine isOp ?_; first | refine WPl.rd ?_ | refine WPl.sk ?_ | refine WPl.rdB ?_)
       | (refine isAl ?_; refine WPl.nw fun g => ?_)
       | (refine isBx ?_; refine WPl.nw fun g => ?_)
       | (refine isSt ?_; first | refine WPl.st1 ?_ | refine WPl.stA ?_ | refine WPl.stEB ?_ | refine WPl.stRB ?_)
       | (show WPl _ _ _ _ _ _ _ (⟨_, .indexAddr _ _ _, _, _, _, _⟩ :: _) _; refine WPl.rdX (ReadR.indexE rfl rfl hasA (by first | assumption | omega)) ?_)
       | (show WPl _ _ _ _ _ _ _ (⟨_, .fieldAddr _ _ _, _, _, _, _⟩ :: _) _; refine WPl.rdX (ReadR.fieldE rfl hasA (by first | assumption | omega)) ?_)
       | (show WPl _ _ _ _ _ _ _ (⟨_, .load _ _, _, _, _, _⟩ :: _) _; first | refine WPl.rdX (ReadR.loadE rfl hasA (by assumption)) ?_ | refine WPl.rdX (ReadR.loadES (by assumption) (by first | assumption | omega) rfl hasA) ?_)
       | (show WPl _ _ _ _ _ _ _ (⟨_, .slice _ _ _ _ _, _, _, _, _⟩ :: _) _; first | refine WPl.rdX (ReadR.sliceH rfl rfl hasA (by omega)) ?_ | refine WPl.rdX (ReadR.sliceL rfl rfl hasA (by omega)) ?_ | refine WPl.rdX (ReadR.sliceLH rfl rfl rfl hasA (by omega) (by omega)) ?_)
       | (refine WPl.spQ (fun hc => ?_) (fun hc => ?_) <;> try exact prA)
       | fail)
      exact WPq.join (D1.filter (fun x => decide (now < x.2.til)), v2) ⟨by unfold rfull; rw [if_pos hm], hv2⟩
    · skip
      repeat' (first
       | refine WPl.nil ?_ | refine WPq.then ?_ | refine WPq.thenR ?_ | refine WPq.thenE ?_ | refine WPq.blockN ?_ | refine WPq.blockR ?_ | refine WPq.blockE ?_ | refine WPq.blockO rfl ?_ | refine WPc.seq ?_ | refine WPc.block ?_ | refine WPc.ret ?_ | refine WPc.exit ?_ | refine WPc.skip ?_ | refine WPc.region ?_
       | (refine isReg 11 ?_; refine WPc.drA [([], [59, 60, 61, 62]), ([0], [54, 59, 60, 61, 62]), ([0, 1], [54, 55, 59, 60, 61, 62]), ([0, 1, 2], [54, 55, 56, 59, 60, 61, 62]), ([0, 1, 2, 3], [54, 55, 56, 57, 59, 60, 61, 62]), ([], [54, 55, 56, 57, 58]), ([5], [54, 55, 56, 57, 58, 59]), ([5, 6], [54, 55, 56, 57, 58, 59, 60]), ([5, 6, 7], [54, 55, 56, 57, 58, 59, 60, 61]), ([0, 1, 2, 3, 4, 5, 6, 7, 8], [54, 55, 56, 57, 58, 59, 60, 61, 62])] [] (Γx := []) ?_; dsimp only [prev0, List.length_nil, List.length_cons])
       | (refine gAny ?_; first | (refine gD 63 ?_; refine RGl.rdX (fun e hk => by (try dsimp only [bndR, ensR, oksR, fcutR, List.append_nil, List.nil_append, List.cons_append, List.append_assoc] at hk ⊢); exact ReadR.binE rfl rfl BinR.geq (congrArg Value.bool (decide_eq_false hm))) ?_) | (refine gOp ?_; first | refine RGl.rdA ?_ | refine RGl.rdX (fun e hk => by (try dsimp only [bndR, ensR, oksR, fcutR, List.append_nil, List.nil_append, List.cons_append, List.append_assoc] at hk ⊢); exact readB) ?_) | (refine RGl.fin (fun e hk => ?_); (try dsimp only [bndA, ensAR, oksA, List.append_nil, List.nil_append, List.cons_append, List.append_assoc] at hk ⊢); (repeat (obtain ⟨hk1, hk⟩ := hk))) | fail)
       | (refine isCond ?_; first | refine WPc.cT ?_ | refine WPc.cF ?_ | (refine WPc.cQ (fun hc => ?_) (fun hc => ?_) <;> try exact prA))
       | (refine isD 63 ?_; refine WPl.rdX (ReadR.binE rfl rfl BinR.geq (congrArg Value.bool (decide_eq_false hm))) ?_)
       | (refine isOp ?_; first | refine WPl.rd ?_ | refine WPl.sk ?_ | refine WPl.rdB ?_)
       | (refine isAl ?_; refine WPl.nw fun g => ?_)
       | (refine isBx ?_; refine WPl.nw fun g => ?_)
       | (refine isSt ?_; first | refine WPl.st1 ?_ | refine WPl.stA ?_ | refine WPl.stEB ?_ | refine WPl.stRB ?_)
       | (show WPl _ _ _ _ _ _ _ (⟨_, .indexAddr _ _ _, _, _, _, _⟩ :: _) _; refine WPl.rdX (ReadR.indexE rfl rfl hasA (by first | assumption | omega)) ?_)
       | (show WPl _ _ _ _ _ _ _ (⟨_, .fieldAddr _ _ _, _, _, _, _⟩ :: _) _; refine WPl.rdX (ReadR.fieldE rfl hasA (by first | assumption | omega)) ?_)
       | (show WPl _ _ _ _ _ _ _ (⟨_, .load _ _, _, _, _, _⟩ :: _) _; first | refine WPl.rdX (ReadR.loadE rfl hasA (by assumption)) ?_ | refine WPl.rdX (ReadR.loadES (by assumption) (by first | assumption | omega) rfl hasA) ?_)
       | (show WPl _ _ _ _ _ _ _ (⟨_, .slice _ _ _ _ _, _, _, _, _⟩ :: _) _; first | refine WPl.rdX (ReadR.sliceH rfl rfl hasA (by omega)) ?_ | refine WPl.rdX (ReadR.sliceL rfl rfl hasA (by omega)) ?_ | refine WPl.rdX (ReadR.sliceLH rfl rfl rfl hasA (by omega) (by omega)) ?_)
       | (refine WPl.spQ (fun hc => ?_) (fun hc => ?_) <;> try exact prA)
       | fail)
      exact WPq.join (D1, v1) ⟨by unfold rfull; rw [if_neg hm], hv1⟩
  refine ⟨?_⟩
  obtain ⟨D2, v2⟩ := st
  obtain ⟨hD2, hv2⟩ := hx
  dsimp only at hD2 hv2 ⊢
  have hlen2 : D2.length ≤ D1.length := by
    rw [hD2]; unfold rfull
    split
    · exact List.length_filter_le ..
    · exact Nat.le_refl _
  have hcl2 := fds_len (l := D2)
  have hw2 : ∀ x ∈ D2, flW x.1 := fun x hx => hw x (hmem1 x (by
    rw [hD2] at hx; unfold rfull at hx
    split at hx
    · exact (List.mem_filter.1 hx).1
    · exact hx))
  by_cases hl2 : ((rfull most now D1).length : Int) ≥ most
  · have hl2' : (D2.length : Int) ≥ most := by rw [hD2]; exact hl2
    repeat' (first
     | refine WPl.nil ?_ | refine WPq.then ?_ | refine WPq.thenR ?_ | refine WPq.thenE ?_ | refine WPq.blockN ?_ | refine WPq.blockR ?_ | refine WPq.blockE ?_ | refine WPq.blockO rfl ?_ | refine WPc.seq ?_ | refine WPc.block ?_ | refine WPc.ret ?_ | refine WPc.exit ?_ | refine WPc.skip ?_ | refine WPc.region ?_
     | (refine isReg 13 ?_; refine WPc.drA [([], [72, 73, 74, 75]), ([0], [67, 72, 73, 74, 75]), ([0, 1], [67, 68, 72, 73, 74, 75]), ([0, 1, 2], [67, 68, 69, 72, 73, 74, 75]), ([0, 1, 2, 3], [67, 68, 69, 70, 72, 73, 74, 75]), ([], [67, 68, 69, 70, 71]), ([5], [67, 68, 69, 70, 71, 72]), ([5, 6], [67, 68, 69, 70, 71, 72, 73]), ([5, 6, 7], [67, 68, 69, 70, 71, 72, 73, 74]), ([0, 1, 2, 3, 4, 5, 6, 7, 8], [67, 68, 69, 70, 71, 72, 73, 74, 75])] [] (Γx := []) ?_; dsimp only [prev0, List.length_nil, List.length_cons])
     | (refine gAny ?_; first | (refine gD 76 ?_; refine RGl.rdX (fun e hk => by (try dsimp only [bndR, ensR, oksR, fcutR, List.append_nil, List.nil_append, List.cons_append, List.append_assoc] at hk ⊢); exact ReadR.binE rfl rfl BinR.geq (congrArg Value.bool (decide_eq_true hl2'))) ?_) | (refine gOp ?_; first | refine RGl.rdA ?_ | refine RGl.rdX (fun e hk => by (try dsimp only [bndR, ensR, oksR, fcutR, List.append_nil, List.nil_append, List.cons_append, List.append_assoc] at hk ⊢); exact readB) ?_) | (refine RGl.fin (fun e hk => ?_); (try dsimp only [bndA, ensAR, oksA, List.append_nil, List.nil_append, List.cons_append, List.append_assoc] at hk ⊢); (repeat (obtain ⟨hk1, hk⟩ := hk))) | fail)
     | (refine isCond ?_; first | refine WPc.cT ?_ | refine WPc.cF ?_ | (refine WPc.cQ (fun hc => ?_) (fun hc => ?_) <;> try exact prA))
     | (refine isD 76 ?_; refine WPl.rdX (ReadR.binE rfl rfl BinR.geq (congrArg Value.bool (decide_eq_true hl2'))) ?_)
     | (refine isOp ?_; first | refine WPl.rd ?_ | refine WPl.sk ?_ | refine WPl.rdB ?_)
     | (refine isAl ?_; refine WPl.nw fun g => ?_)
     | (refine isBx ?_; refine WPl.nw fun g => ?_)
     | (refine isSt ?_; first | refine WPl.st1 ?_ | refine WPl.stA ?_ | refine WPl.stEB ?_ | refine WPl.stRB ?_)
     | (show WPl _ _ _ _ _ _ _ (⟨_, .indexAddr _ _ _, _, _, _, _⟩ :: _) _; refine WPl.rdX (ReadR.indexE rfl rfl hasA (by first | assumption | omega)) ?_)
     | (show WPl _ _ _ _ _ _ _ (⟨_, .fieldAddr _ _ _, _, _, _, _⟩ :: _) _; refine WPl.rdX (ReadR.fieldE rfl hasA (by first | assumption | omega)) ?_)
     | (show WPl _ _ _ _ _ _ _ (⟨_, .load _ _, _, _, _, _⟩ :: _) _; first | refine WPl.rdX (ReadR.loadE rfl hasA (by assumption)) ?_ | refine WPl.rdX (ReadR.loadES (by assumption) (by first | assumption | omega) rfl hasA) ?_)
     | (show WPl _ _ _ _ _ _ _ (⟨_, .slice _ _ _ _ _, _, _, _, _⟩ :: _) _; first | refine WPl.rdX (ReadR.sliceH rfl rfl hasA (by omega)) ?_ | refine WPl.rdX (ReadR.sliceL rfl rfl hasA (by omega)) ?_ | refine WPl.rdX (ReadR.sliceLH rfl rfl rfl hasA (by omega) (by omega)) ?_)
     | (refine WPl.spQ (fun hc => ?_) (fun hc => ?_) <;> try exact prA)
     | fail)
    exact WPq.dX (vs := [_]) [bx gX 69 (rfx most v2), rowN 75 59 v2 D2.length (fds D2)] ⟨2, v2, D2, rfl, hv2, rfl, hD2 ▸ .full D1 hO hno hl2⟩
  have hl2' : ¬ (D2.length : Int) ≥ most := by rw [hD2]; exact hl2
  repeat' (first
   | refine WPl.nil ?_ | refine WPq.then ?_ | refine WPq.thenR ?_ | refine WPq.thenE ?_ | refine WPq.blockN ?_ | refine WPq.blockR ?_ | refine WPq.blockE ?_ | refine WPq.blockO rfl ?_ | refine WPc.seq ?_ | refine WPc.block ?_ | refine WPc.ret ?_ | refine WPc.exit ?_ | refine WPc.skip ?_ | refine WPc.region ?_
   | (refine isReg 13 ?_; refine WPc.drA [([], [72, 73, 74, 75]), ([0], [67, 72, 73, 74, 75]), ([0, 1], [67, 68, 72, 73, 74, 75]), ([0, 1, 2], [67, 68, 69, 72, 73, 74, 75]), ([0, 1, 2, 3], [67, 68, 69, 70, 72, 73, 74, 75]), ([], [67, 68, 69, 70, 71]), ([5], [67, 68, 69, 70, 71, 72]), ([5, 6], [67, 68, 69, 70, 71, 72, 73]), ([5, 6, 7], [67, 68, 69, 70, 71, 72, 73, 74]), ([0, 1, 2, 3, 4, 5, 6, 7, 8], [67, 68, 69, 70, 71, 72, 73, 74, 75])] [] (Γx := []) ?_; dsimp only [prev0, List.length_nil, List.length_cons])
   | (refine gAny ?_; first | (refine gD 76 ?_; refine RGl.rdX (fun e hk => by (try dsimp only [bndR, ensR, oksR, fcutR, List.append_nil, List.nil_append, List.cons_append, List.append_assoc] at hk ⊢); exact ReadR.binE rfl rfl BinR.geq (congrArg Value.bool (decide_eq_false hl2'))) ?_) | (refine gOp ?_; first | refine RGl.rdA ?_ | refine RGl.rdX (fun e hk => by (try dsimp only [bndR, ensR, oksR, fcutR, List.append_nil, List.nil_append, List.cons_append, List.append_assoc] at hk ⊢); exact readB) ?_) | (refine RGl.fin (fun e hk => ?_); (try dsimp only [bndA, ensAR, oksA, List.append_nil, List.nil_append, List.cons_append, List.append_assoc] at hk ⊢); (repeat (obtain ⟨hk1, hk⟩ := hk))) | fail)
   | (refine isCond ?_; first | refine WPc.cT ?_ | refine WPc.cF ?_ | (refine WPc.cQ (fun hc => ?_) (fun hc => ?_) <;> try exact prA))
   | (refine isD 76 ?_; refine WPl.rdX (ReadR.binE rfl rfl BinR.geq (congrArg Value.bool (decide_eq_false hl2'))) ?_)
   | (refine isOp ?_; first | refine WPl.rd ?_ | refine WPl.sk ?_ | refine WPl.rdB ?_)
   | (refine isAl ?_; refine WPl.nw fun g => ?_)
   | (refine isBx ?_; refine WPl.nw fun g => ?_)
   | (refine isSt ?_; first | refine WPl.st1 ?_ | refine WPl.stA ?_ | refine WPl.stEB ?_ | refine WPl.stRB ?_)
   | (show WPl _ _ _ _ _ _ _ (⟨_, .indexAddr _ _ _, _, _, _, _⟩ :: _) _; refine WPl.rdX (ReadR.indexE rfl rfl hasA (by first | assumption | omega)) ?_)
   | (show WPl _ _ _ _ _ _ _ (⟨_, .fieldAddr _ _ _, _, _, _, _⟩ :: _) _; refine WPl.rdX (ReadR.fieldE rfl hasA (by first | assumption | omega)) ?_)
   | (show WPl _ _ _ _ _ _ _ (⟨_, .load _ _, _, _, _, _⟩ :: _) _; first | refine WPl.rdX (ReadR.loadE rfl hasA (by assumption)) ?_ | refine WPl.rdX (ReadR.loadES (by assumption) (by first | assumption | omega) rfl hasA) ?_)
   | (show WPl _ _ _ _ _ _ _ (⟨_, .slice _ _ _ _ _, _, _, _, _⟩ :: _) _; first | refine WPl.rdX (ReadR.sliceH rfl rfl hasA (by omega)) ?_ | refine WPl.rdX (ReadR.sliceL rfl rfl hasA (by omega)) ?_ | refine WPl.rdX (ReadR.sliceLH rfl rfl rfl hasA (by omega) (by omega)) ?_)
   | (refine WPl.spQ (fun hc => ?_) (fun hc => ?_) <;> try exact prA)
   | fail)
  first | refine WPc.loop (σ := Nat) (fun st => st ≤ D2.length ∧ ∀ (j : Nat) y, j < st → D2[j]? = some y → flLt y.1 f = true) (fun st => [bx gX 69 (rfx most v2), rowN 75 59 v2 D2.length (fds D2), bx g5 60 (flc f), bx g9 75 hc]) (fun st => [(0, hPr gX), (5, .pointer (some ⟨g5, 0, none⟩)), (9, .pointer (some ⟨g9, 0, none⟩)), (12, .int .i64 (st : Int))]) (fun st => D2.length - st) (0) ?_ takesA frsA (fun st km hx hk => ?_)
  · exact ⟨Nat.zero_le _, fun j y hj => absurd hj (Nat.not_lt_zero _)⟩
  obtain ⟨at', rfl⟩ : ∃ i, i = st := ⟨_, rfl⟩
  obtain ⟨hat, hlt'⟩ := hx
  have hkm : km = D2.length - at' := hk
  clear hk
  have hT := fdsT (D := D2) (i := at') hat
  have hU := fdsD (D := D2) (i := at') (k := D2.length - at') (by omega)
  by_cases hgo : at' < D2.length
  · obtain ⟨xc, hcD⟩ : ∃ xc, D2[at']? = some xc := ⟨_, List.getElem?_eq_getElem hgo⟩
    have hcp := fds_f hcD
    have l6 := xc.1.src.len
    have l7 := xc.1.dst.len
    have c4 := rfless_t xc.1 f (hw2 _ (List.mem_of_getElem? hcD)) hf
    have hgo' : (at' : Int) < (D2.length : Int) := by omega
    cases hls : flLt xc.1 f with
    | true =>
      rw [hls] at c4
      repeat' (first
       | refine WPl.nil ?_ | refine WPq.then ?_ | refine WPq.thenR ?_ | refine WPq.thenE ?_ | refine WPq.blockN ?_ | refine WPq.blockR ?_ | refine WPq.blockE ?_ | refine WPq.blockO rfl ?_ | refine WPc.seq ?_ | refine WPc.block ?_ | refine WPc.ret ?_ | refine WPc.exit ?_ | refine WPc.skip ?_ | refine WPc.region ?_
       | (refine isReg 16 ?_; refine WPc.drA [([], [78, 79, 80, 81, 82]), ([], [77]), ([1], [77, 78]), ([1, 2], [77, 78, 79]), ([1, 2, 3], [77, 78, 79, 80]), ([1, 2, 3, 4], [77, 78, 79, 80, 81]), ([0, 1, 2, 3, 4, 5], [77, 78, 79, 80, 81, 82]), ([0, 1, 2, 3, 4, 5, 6], [77, 78, 79, 80, 81, 82, 83]), ([0, 1, 2, 3, 4, 5, 6, 7], [77, 78, 79, 80, 81, 82, 83, 84, 89, 93]), ([0, 1, 2, 3, 4, 5, 6, 7, 8], [77, 78, 79, 80, 81, 82, 83, 84, 85, 89, 93]), ([0, 1, 2, 3, 4, 5, 6, 7, 8, 9], [77, 78, 79, 80, 81, 82, 83, 84, 85, 86, 89, 93]), ([0, 1, 2, 3, 4, 5, 6, 7, 8, 9, 10], [77, 78, 79, 80, 81, 82, 83, 84, 85, 86, 87, 89, 93]), ([0, 1, 2, 3, 4, 5, 6, 7], [77, 78, 79, 80, 81, 82, 83, 84, 85, 86, 87, 88, 93]), ([0, 1, 2, 3, 4, 5, 6, 7, 8, 9, 10, 11, 12], [77, 78, 79, 80, 81, 82, 83, 84, 85, 86, 87, 88, 89, 93]), ([0, 1, 2, 3, 4, 5, 6, 7, 8, 9, 10, 11, 12, 13], [77, 78, 79, 80, 81, 82, 83, 84, 85, 86, 87, 88, 89, 90, 93]), ([0, 1, 2, 3, 4, 5, 6, 7, 8, 9, 10, 11, 12, 13, 14], [77, 78, 79, 80, 81, 82, 83, 84, 85, 86, 87, 88, 89, 90, 91, 93]), ([0, 1, 2, 3, 4, 5, 6, 7], [77, 78, 79, 80, 81, 82, 83, 84, 85, 86, 87, 88, 89, 90, 91, 92]), ([0, 1, 2, 3, 4, 5, 6, 7, 8, 9, 10, 11, 12, 13, 14, 15, 16], [77, 78, 79, 80, 81, 82, 83, 84, 85, 86, 87, 88, 89, 90, 91, 92, 93]), ([0, 1, 2, 3, 4, 5, 6, 7, 8, 9, 10, 11, 12, 13, 14, 15, 16, 17], [77, 78, 79, 80, 81, 82, 83, 84, 85, 86, 87, 88, 89, 90, 91, 92, 93, 94])] [] (Γx := []) ?_; dsimp only [prev0, List.length_nil, List.length_cons])
       | (refine gAny ?_; first | (refine gGd ?_; refine RGl.skp ?_) | (refine gC 94 ?_; refine RGl.vl (fun e hk => OpT.callN (c4)) ?_) | (refine gD 83 ?_; refine RGl.rdX (fun e hk => by (try dsimp only [bndR, ensR, oksR, fcutR, List.append_nil, List.nil_append, List.cons_append, List.append_assoc] at hk ⊢); exact ReadR.binE rfl rfl BinR.lss (congrArg Value.bool (decide_eq_true hgo'))) ?_) | (refine gD 90 ?_; refine RGl.rdX (fun e hk => by (try dsimp only [bndR, ensR, oksR, fcutR, List.append_nil, List.nil_append, List.cons_append, List.append_assoc] at hk ⊢); exact ReadR.indexE (i := at') rfl rfl hasA hgo) ?_) | (refine gD 91 ?_; refine RGl.rdX (fun e hk => by (try dsimp only [bndR, ensR, oksR, fcutR, List.append_nil, List.nil_append, List.cons_append, List.append_assoc] at hk ⊢); exact ReadR.fieldE rfl hasA (by omega)) ?_) | (refine gD 92 ?_; refine RGl.rdX (fun e hk => by (try dsimp only [bndR, ensR, oksR, fcutR, List.append_nil, List.nil_append, List.cons_append, List.append_assoc] at hk ⊢); exact ReadR.loadES (cs := flc xc.1) hcp (by omega) rfl hasA) ?_) | (refine gOp ?_; first | refine RGl.rdA ?_ | refine RGl.rdX (fun e hk => by (try dsimp only [bndR, ensR, oksR, fcutR, List.append_nil, List.nil_append, List.cons_append, List.append_assoc] at hk ⊢); exact readB) ?_) | (refine RGl.fin (fun e hk => ?_); (try dsimp only [bndA, ensAR, oksA, List.append_nil, List.nil_append, List.cons_append, List.append_assoc] at hk ⊢); (repeat (obtain ⟨hk1, hk⟩ := hk))) | fail)
       | (refine isCond ?_; first | refine WPc.cT ?_ | refine WPc.cF ?_ | (refine WPc.cQ (fun hc => ?_) (fun hc => ?_) <;> try exact prA))
       | (refine isD 83 ?_; refine WPl.rdX (ReadR.binE rfl rfl BinR.lss (congrArg Value.bool (decide_eq_true hgo'))) ?_)
       | (refine isD 90 ?_; refine WPl.rdX (ReadR.indexE (i := at') rfl rfl hasA hgo) ?_)
       | (refine isD 91 ?_; refine WPl.rdX (ReadR.fieldE rfl hasA (by omega)) ?_)
       | (refine isD 92 ?_; refine WPl.rdX (ReadR.loadES (cs := flc xc.1) hcp (by omega) rfl hasA) ?_)
       | (refine isC 94 ?_; refine WPl.cV (c4) ?_)
       | (refine isOp ?_; first | refine WPl.rd ?_ | refine WPl.sk ?_ | refine WPl.rdB ?_)
       | (refine isAl ?_; refine WPl.nw fun g => ?_)
       | (refine isBx ?_; refine WPl.nw fun g => ?_)
       | (refine isSt ?_; first | refine WPl.st1 ?_ | refine WPl.stA ?_ | refine WPl.stEB ?_ | refine WPl.stRB ?_)
       | (show WPl _ _ _ _ _ _ _ (⟨_, .indexAddr _ _ _, _, _, _, _⟩ :: _) _; refine WPl.rdX (ReadR.indexE rfl rfl hasA (by first | assumption | omega)) ?_)
       | (show WPl _ _ _ _ _ _ _ (⟨_, .fieldAddr _ _ _, _, _, _, _⟩ :: _) _; refine WPl.rdX (ReadR.fieldE rfl hasA (by first | assumption | omega)) ?_)
       | (show WPl _ _ _ _ _ _ _ (⟨_, .load _ _, _, _, _, _⟩ :: _) _; first | refine WPl.rdX (ReadR.loadE rfl hasA (by assumption)) ?_ | refine WPl.rdX (ReadR.loadES (by assumption) (by first | assumption | omega) rfl hasA) ?_)
       | (show WPl _ _ _ _ _ _ _ (⟨_, .slice _ _ _ _ _, _, _, _, _⟩ :: _) _; first | refine WPl.rdX (ReadR.sliceH rfl rfl hasA (by omega)) ?_ | refine WPl.rdX (ReadR.sliceL rfl rfl hasA (by omega)) ?_ | refine WPl.rdX (ReadR.sliceLH rfl rfl rfl hasA (by omega) (by omega)) ?_)
       | (refine WPl.spQ (fun hc => ?_) (fun hc => ?_) <;> try exact prA)
       | fail)
      exact WPq.rnd (at' + 1) ⟨by omega, fun j y' hj hy => by
        rcases Nat.lt_or_ge j at' with h | h
        · exact hlt' j y' h hy
        · obtain rfl : j = at' := by omega
          rw [hcD] at hy; cases hy; exact hls⟩ (by omega)
    | false =>
      rw [hls] at c4
      repeat' (first
       | refine WPl.nil ?_ | refine WPq.then ?_ | refine WPq.thenR ?_ | refine WPq.thenE ?_ | refine WPq.blockN ?_ | refine WPq.blockR ?_ | refine WPq.blockE ?_ | refine WPq.blockO rfl ?_ | refine WPc.seq ?_ | refine WPc.block ?_ | refine WPc.ret ?_ | refine WPc.exit ?_ | refine WPc.skip ?_ | refine WPc.region ?_
       | (refine isReg 16 ?_; refine WPc.drA [([], [78, 79, 80, 81, 82]), ([], [77]), ([1], [77, 78]), ([1, 2], [77, 78, 79]), ([1, 2, 3], [77, 78, 79, 80]), ([1, 2, 3, 4], [77, 78, 79, 80, 81]), ([0, 1, 2, 3, 4, 5], [77, 78, 79, 80, 81, 82]), ([0, 1, 2, 3, 4, 5, 6], [77, 78, 79, 80, 81, 82, 83]), ([0, 1, 2, 3, 4, 5, 6, 7], [77, 78, 79, 80, 81, 82, 83, 84, 89, 93]), ([0, 1, 2, 3, 4, 5, 6, 7, 8], [77, 78, 79, 80, 81, 82, 83, 84, 85, 89, 93]), ([0, 1, 2, 3, 4, 5, 6, 7, 8, 9], [77, 78, 79, 80, 81, 82, 83, 84, 85, 86, 89, 93]), ([0, 1, 2, 3, 4, 5, 6, 7, 8, 9, 10], [77, 78, 79, 80, 81, 82, 83, 84, 85, 86, 87, 89, 93]), ([0, 1, 2, 3, 4, 5, 6, 7], [77, 78, 79, 80, 81, 82, 83, 84, 85, 86, 87, 88, 93]), ([0, 1, 2, 3, 4, 5, 6, 7, 8, 9, 10, 11, 12], [77, 78, 79, 80, 81, 82, 83, 84, 85, 86, 87, 88, 89, 93]), ([0, 1, 2, 3, 4, 5, 6, 7, 8, 9, 10, 11, 12, 13], [77, 78, 79, 80, 81, 82, 83, 84, 85, 86, 87, 88, 89, 90, 93]), ([0, 1, 2, 3, 4, 5, 6, 7, 8, 9, 10, 11, 12, 13, 14], [77, 78, 79, 80, 81, 82, 83, 84, 85, 86, 87, 88, 89, 90, 91, 93]), ([0, 1, 2, 3, 4, 5, 6, 7], [77, 78, 79, 80, 81, 82, 83, 84, 85, 86, 87, 88, 89, 90, 91, 92]), ([0, 1, 2, 3, 4, 5, 6, 7, 8, 9, 10, 11, 12, 13, 14, 15, 16], [77, 78, 79, 80, 81, 82, 83, 84, 85, 86, 87, 88, 89, 90, 91, 92, 93]), ([0, 1, 2, 3, 4, 5, 6, 7, 8, 9, 10, 11, 12, 13, 14, 15, 16, 17], [77, 78, 79, 80, 81, 82, 83, 84, 85, 86, 87, 88, 89, 90, 91, 92, 93, 94])] [] (Γx := []) ?_; dsimp only [prev0, List.length_nil, List.length_cons])
       | (refine isReg 18 ?_; refine WPc.drA [([22], [99, 100, 101, 102, 103, 104, 105, 106, 107, 108, 109, 110, 111, 112, 113, 114, 115, 116]), ([22], [98, 100, 101, 102, 103, 104, 105, 107, 108, 110, 111, 112, 113, 114, 115]), ([22], [98, 99, 104, 107, 108, 110, 111, 112, 113, 114, 115]), ([2, 22], [98, 99, 100, 104, 107, 108, 110, 111, 112, 113, 114, 115]), ([2, 3, 22], [98, 99, 100, 101, 104, 107, 108, 110, 111, 112, 113, 114, 115]), ([2, 3, 4, 22], [98, 99, 100, 101, 102, 104, 107, 108, 110, 111, 112, 113, 114, 115]), ([22], [98, 99, 100, 101, 102, 103, 107, 108, 110, 111, 112, 113, 114, 115]), ([2, 3, 4, 5, 6, 22], [98, 99, 100, 101, 102, 103, 104, 107, 108, 110, 111, 112, 113, 114, 115]), ([1, 2, 3, 4, 5, 6, 7, 22], [98, 99, 100, 101, 102, 103, 104, 105, 107, 108, 110, 111, 112, 113, 114, 115]), ([22], [98, 99, 100, 101, 102, 103, 104, 105, 106, 110, 111, 112, 113, 114, 115]), ([9, 22], [98, 99, 100, 101, 102, 103, 104, 105, 106, 107, 110, 111, 112, 113, 114, 115]), ([1, 2, 3, 4, 5, 6, 7, 8, 9, 10, 22], [98, 99, 100, 101, 102, 103, 104, 105, 106, 107, 108, 110, 111, 112, 113, 114, 115]), ([22], [98, 99, 100, 101, 102, 103, 104, 105, 106, 107, 108, 109, 114]), ([12, 22], [98, 99, 100, 101, 102, 103, 104, 105, 106, 107, 108, 109, 110, 114]), ([12, 13, 22], [98, 99, 100, 101, 102, 103, 104, 105, 106, 107, 108, 109, 110, 111, 114]), ([12, 13, 14, 22], [98, 99, 100, 101, 102, 103, 104, 105, 106, 107, 108, 109, 110, 111, 112, 114]), ([22], [98, 99, 100, 101, 102, 103, 104, 105, 106, 107, 108, 109, 110, 111, 112, 113]), ([12, 13, 14, 15, 16, 22], [98, 99, 100, 101, 102, 103, 104, 105, 106, 107, 108, 109, 110, 111, 112, 113, 114]), ([1, 2, 3, 4, 5, 6, 7, 8, 9, 10, 11, 12, 13, 14, 15, 16, 17, 22], [98, 99, 100, 101, 102, 103, 104, 105, 106, 107, 108, 109, 110, 111, 112, 113, 114, 115]), ([0, 1, 2, 3, 4, 5, 6, 7, 8, 9, 10, 11, 12, 13, 14, 15, 16, 17, 18, 22], [98, 99, 100, 101, 102, 103, 104, 105, 106, 107, 108, 109, 110, 111, 112, 113, 114, 115, 116]), ([0, 1, 2, 3, 4, 5, 6, 7, 8, 9, 10, 11, 12, 13, 14, 15, 16, 17, 18, 19, 22], [98, 99, 100, 101, 102, 103, 104, 105, 106, 107, 108, 109, 110, 111, 112, 113, 114, 115, 116, 117]), ([0, 1, 2, 3, 4, 5, 6, 7, 8, 9, 10, 11, 12, 13, 14, 15, 16, 17, 18, 19, 20, 22], [98, 99, 100, 101, 102, 103, 104, 105, 106, 107, 108, 109, 110, 111, 112, 113, 114, 115, 116, 117, 118])] [(1, 8), (8, 11), (11, 18), (22, 21), (22, 0), (22, 1), (22, 2), (22, 3), (22, 4), (22, 5), (22, 6), (22, 7), (22, 8), (22, 9), (22, 10), (22, 11), (22, 12), (22, 13), (22, 14), (22, 15), (22, 16), (22, 17), (22, 18), (22, 19), (22, 20)] (Γx := [bx gX 69 (rfx most v2)]) ?_; dsimp only [prev0, List.length_nil, List.length_cons])
       | (refine gAny ?_; first | (refine gGd ?_; refine RGl.skp ?_) | (refine gC 94 ?_; refine RGl.vl (fun e hk => OpT.callN (c4)) ?_) | (refine gD 99 ?_; refine RGl.row (Γ1 := fun _ => []) (fun e hk => by (try dsimp only [bndR, ensR, oksR, fcutR, List.append_nil, List.nil_append, List.cons_append, List.append_assoc] at hk ⊢); exact OpT.buildS0) ?_) | (refine gD 106 ?_; refine RGl.row (Γ1 := fun e => [rowN 75 59 (e 1).1 0 ([])]) (m := fun _ => 0 + at') (xs := fun _ => fds (D2.take at')) (fun e hk => by (try dsimp only [bndR, ensR, oksR, fcutR, List.append_nil, List.nil_append, List.cons_append, List.append_assoc] at hk ⊢); exact OpT.appendN (m := 0) (m2 := at') (xs := []) (ys := fds (D2.take at')) rfl rfl takesA (hT ▸ HasS.sub (k := 0) (n := at') (sz := 59) hasA fds_len (by omega)) (by rw [fds_len, List.length_take]; congr 1; omega) fds_cell (by omega)) ?_) | (refine gD 108 ?_; refine RGl.row (Γ1 := fun _ => []) (fun e hk => by (try dsimp only [bndR, ensR, oksR, fcutR, List.append_nil, List.nil_append, List.cons_append, List.append_assoc] at hk ⊢); exact OpT.buildS1 (ds := hc) rfl hfok (by first | assumption | rfl) rfl) ?_) | (refine gD 109 ?_; refine RGl.row (Γ1 := fun e => [rowN 75 59 (e 8).1 (0 + at') ((fds (D2.take at')))]) (m := fun _ => (0 + at') + 1) (xs := fun _ => (fds (D2.take at')) ++ flat hc) (fun e hk => by (try dsimp only [bndR, ensR, oksR, fcutR, List.append_nil, List.nil_append, List.cons_append, List.append_assoc] at hk ⊢); exact OpT.appendN (m := (0 + at')) (m2 := 1) (xs := (fds (D2.take at'))) (ys := flat hc) rfl rfl takesA (hasA) (by rw [hflen]) hfok.one (by omega)) ?_) | (refine gD 116 ?_; refine RGl.row (Γ1 := fun e => [rowN 75 59 (e 11).1 (0 + at' + 1) ((fds (D2.take at') ++ flat hc))]) (m := fun _ => (0 + at' + 1) + (D2.length - at')) (xs := fun _ => (fds (D2.take at') ++ flat hc) ++ fds (D2.drop at')) (fun e hk => by (try dsimp only [bndR, ensR, oksR, fcutR, List.append_nil, List.nil_append, List.cons_append, List.append_assoc] at hk ⊢); exact OpT.appendN (m := (0 + at' + 1)) (m2 := (D2.length - at')) (xs := (fds (D2.take at') ++ flat hc)) (ys := fds (D2.drop at')) rfl rfl takesA (hU ▸ HasS.sub (k := at') (n := D2.length - at') (sz := 59) hasA fds_len (by omega)) (by rw [fds_len, List.length_drop]) fds_cell (by omega)) ?_) | (refine gSt ?_; refine RGl.turn (fun e hk => by (try dsimp only [bndR, ensR, oksR, fcutR, List.append_nil, List.nil_append, List.cons_append, List.append_assoc] at hk ⊢); exact OpT.store1 rfl rfl takesA (by (repeat (obtain ⟨hk1, hk⟩ := hk)) <;> assumption) (by dsimp only [sel, takeCh, upd, dropCh, appCh, setAt, chAt, Option.map_some, List.cons_append, List.nil_append, Nat.reduceSub, Nat.reduceAdd] <;> exact rfl)) ?_) | (refine gD 83 ?_; refine RGl.rdX (fun e hk => by (try dsimp only [bndR, ensR, oksR, fcutR, List.append_nil, List.nil_append, List.cons_append, List.append_assoc] at hk ⊢); exact ReadR.binE rfl rfl BinR.lss (congrArg Value.bool (decide_eq_true hgo'))) ?_) | (refine gD 90 ?_; refine RGl.rdX (fun e hk => by (try dsimp only [bndR, ensR, oksR, fcutR, List.append_nil, List.nil_append, List.cons_append, List.append_assoc] at hk ⊢); exact ReadR.indexE (i := at') rfl rfl hasA hgo) ?_) | (refine gD 91 ?_; refine RGl.rdX (fun e hk => by (try dsimp only [bndR, ensR, oksR, fcutR, List.append_nil, List.nil_append, List.cons_append, List.append_assoc] at hk ⊢); exact ReadR.fieldE rfl hasA (by omega)) ?_) | (refine gD 92 ?_; refine RGl.rdX (fun e hk => by (try dsimp only [bndR, ensR, oksR, fcutR, List.append_nil, List.nil_append, List.cons_append, List.append_assoc] at hk ⊢); exact ReadR.loadES (cs := flc xc.1) hcp (by omega) rfl hasA) ?_) | (refine gD 105 ?_; refine RGl.rdX (fun e hk => by (try dsimp only [bndR, ensR, oksR, fcutR, List.append_nil, List.nil_append, List.cons_append, List.append_assoc] at hk ⊢); exact ReadR.sliceH (j := at') rfl rfl hasA (by omega)) ?_) | (refine gD 107 ?_; refine RGl.rdX (fun e hk => by (try dsimp only [bndR, ensR, oksR, fcutR, List.append_nil, List.nil_append, List.cons_append, List.append_assoc] at hk ⊢); exact ReadR.loadA rfl memA hsel) ?_) | (refine gD 115 ?_; refine RGl.rdX (fun e hk => by (try dsimp only [bndR, ensR, oksR, fcutR, List.append_nil, List.nil_append, List.cons_append, List.append_assoc] at hk ⊢); exact ReadR.sliceL (i := at') rfl rfl hasA (by omega)) ?_) | (refine gOp ?_; first | refine RGl.rdA ?_ | refine RGl.rdX (fun e hk => by (try dsimp only [bndR, ensR, oksR, fcutR, List.append_nil, List.nil_append, List.cons_append, List.append_assoc] at hk ⊢); exact readB) ?_) | (refine gLit ?_; refine RGl.litA ?_) | (refine gApp ?_; refine RGl.appA ?_) | (refine gSt ?_; refine RGl.stA ?_) | (refine RGl.fin (fun e hk => ?_); (try dsimp only [bndA, ensAR, oksA, List.append_nil, List.nil_append, List.cons_append, List.append_assoc] at hk ⊢); (repeat (obtain ⟨hk1, hk⟩ := hk))) | fail)
       | (refine isCond ?_; first | refine WPc.cT ?_ | refine WPc.cF ?_ | (refine WPc.cQ (fun hc => ?_) (fun hc => ?_) <;> try exact prA))
       | (refine isD 83 ?_; refine WPl.rdX (ReadR.binE rfl rfl BinR.lss (congrArg Value.bool (decide_eq_true hgo'))) ?_)
       | (refine isD 90 ?_; refine WPl.rdX (ReadR.indexE (i := at') rfl rfl hasA hgo) ?_)
       | (refine isD 91 ?_; refine WPl.rdX (ReadR.fieldE rfl hasA (by omega)) ?_)
       | (refine isD 92 ?_; refine WPl.rdX (ReadR.loadES (cs := flc xc.1) hcp (by omega) rfl hasA) ?_)
       | (refine isC 94 ?_; refine WPl.cV (c4) ?_)
       | (refine isD 105 ?_; refine WPl.rdX (ReadR.sliceH (j := at') rfl rfl hasA (by omega)) ?_)
       | (refine isD 107 ?_; refine WPl.rdX (ReadR.loadA rfl memA hsel) ?_)
       | (refine isD 115 ?_; refine WPl.rdX (ReadR.sliceL (i := at') rfl rfl hasA (by omega)) ?_)
       | (refine isOp ?_; first | refine WPl.rd ?_ | refine WPl.sk ?_ | refine WPl.rdB ?_)
       | (refine isAl ?_; refine WPl.nw fun g => ?_)
       | (refine isBx ?_; refine WPl.nw fun g => ?_)
       | (refine isSt ?_; first | refine WPl.st1 ?_ | refine WPl.stA ?_ | refine WPl.stEB ?_ | refine WPl.stRB ?_)
       | (show WPl _ _ _ _ _ _ _ (⟨_, .indexAddr _ _ _, _, _, _, _⟩ :: _) _; refine WPl.rdX (ReadR.indexE rfl rfl hasA (by first | assumption | omega)) ?_)
       | (show WPl _ _ _ _ _ _ _ (⟨_, .fieldAddr _ _ _, _, _, _, _⟩ :: _) _; refine WPl.rdX (ReadR.fieldE rfl hasA (by first | assumption | omega)) ?_)
       | (show WPl _ _ _ _ _ _ _ (⟨_, .load _ _, _, _, _, _⟩ :: _) _; first | refine WPl.rdX (ReadR.loadE rfl hasA (by assumption)) ?_ | refine WPl.rdX (ReadR.loadES (by assumption) (by first | assumption | omega) rfl hasA) ?_)
       | (show WPl _ _ _ _ _ _ _ (⟨_, .slice _ _ _ _ _, _, _, _, _⟩ :: _) _; first | refine WPl.rdX (ReadR.sliceH rfl rfl hasA (by omega)) ?_ | refine WPl.rdX (ReadR.sliceL rfl rfl hasA (by omega)) ?_ | refine WPl.rdX (ReadR.sliceLH rfl rfl rfl hasA (by omega) (by omega)) ?_)
       | (refine WPl.spQ (fun hc => ?_) (fun hc => ?_) <;> try exact prA)
       | fail)
      exact WPq.dX (vs := [_]) [bx gX 69 (rfx most (e 18).1), rowN 75 59 (e 18).1 (0 + at' + 1 + (D2.length - at')) (fds (D2.take at') ++ flat hc ++ fds (D2.drop at'))] ⟨0, (e 18).1, D2.take at' ++ (f, a) :: D2.drop at', rfl, by assumption, by rw [(hins D2 at' hat).1, (hins D2 at' hat).2], by rw [hD2]; exact .ins D1 hO hno hl2 at' (by rw [← hD2]; exact hat) (by rw [← hD2]; exact hlt') (by rw [← hD2]; exact fun y hy => by rw [hcD] at hy; cases hy; exact hls)⟩
  · have hgo' : ¬ (at' : Int) < (D2.length : Int) := by omega
    repeat' (first
     | refine WPl.nil ?_ | refine WPq.then ?_ | refine WPq.thenR ?_ | refine WPq.thenE ?_ | refine WPq.blockN ?_ | refine WPq.blockR ?_ | refine WPq.blockE ?_ | refine WPq.blockO rfl ?_ | refine WPc.seq ?_ | refine WPc.block ?_ | refine WPc.ret ?_ | refine WPc.exit ?_ | refine WPc.skip ?_ | refine WPc.region ?_
     | (refine isReg 16 ?_; refine WPc.drA [([], [78, 79, 80, 81, 82]), ([], [77]), ([1], [77, 78]), ([1, 2], [77, 78, 79]), ([1, 2, 3], [77, 78, 79, 80]), ([1, 2, 3, 4], [77, 78, 79, 80, 81]), ([0, 1, 2, 3, 4, 5], [77, 78, 79, 80, 81, 82]), ([0, 1, 2, 3, 4, 5, 6], [77, 78, 79, 80, 81, 82, 83]), ([0, 1, 2, 3, 4, 5, 6, 7], [77, 78, 79, 80, 81, 82, 83, 84, 89, 93]), ([0, 1, 2, 3, 4, 5, 6, 7, 8], [77, 78, 79, 80, 81, 82, 83, 84, 85, 89, 93]), ([0, 1, 2, 3, 4, 5, 6, 7, 8, 9], [77, 78, 79, 80, 81, 82, 83, 84, 85, 86, 89, 93]), ([0, 1, 2, 3, 4, 5, 6, 7, 8, 9, 10], [77, 78, 79, 80, 81, 82, 83, 84, 85, 86, 87, 89, 93]), ([0, 1, 2, 3, 4, 5, 6, 7], [77, 78, 79, 80, 81, 82, 83, 84, 85, 86, 87, 88, 93]), ([0, 1, 2, 3, 4, 5, 6, 7, 8, 9, 10, 11, 12], [77, 78, 79, 80, 81, 82, 83, 84, 85, 86, 87, 88, 89, 93]), ([0, 1, 2, 3, 4, 5, 6, 7, 8, 9, 10, 11, 12, 13], [77, 78, 79, 80, 81, 82, 83, 84, 85, 86, 87, 88, 89, 90, 93]), ([0, 1, 2, 3, 4, 5, 6, 7, 8, 9, 10, 11, 12, 13, 14], [77, 78, 79, 80, 81, 82, 83, 84, 85, 86, 87, 88, 89, 90, 91, 93]), ([0, 1, 2, 3, 4, 5, 6, 7], [77, 78, 79, 80, 81, 82, 83, 84, 85, 86, 87, 88, 89, 90, 91, 92]), ([0, 1, 2, 3, 4, 5, 6, 7, 8, 9, 10, 11, 12, 13, 14, 15, 16], [77, 78, 79, 80, 81, 82, 83, 84, 85, 86, 87, 88, 89, 90, 91, 92, 93]), ([0, 1, 2, 3, 4, 5, 6, 7, 8, 9, 10, 11, 12, 13, 14, 15, 16, 17], [77, 78, 79, 80, 81, 82, 83, 84, 85, 86, 87, 88, 89, 90, 91, 92, 93, 94])] [] (Γx := []) ?_; dsimp only [prev0, List.length_nil, List.length_cons])
     | (refine isReg 18 ?_; refine WPc.drA [([22], [99, 100, 101, 102, 103, 104, 105, 106, 107, 108, 109, 110, 111, 112, 113, 114, 115, 116]), ([22], [98, 100, 101, 102, 103, 104, 105, 107, 108, 110, 111, 112, 113, 114, 115]), ([22], [98, 99, 104, 107, 108, 110, 111, 112, 113, 114, 115]), ([2, 22], [98, 99, 100, 104, 107, 108, 110, 111, 112, 113, 114, 115]), ([2, 3, 22], [98, 99, 100, 101, 104, 107, 108, 110, 111, 112, 113, 114, 115]), ([2, 3, 4, 22], [98, 99, 100, 101, 102, 104, 107, 108, 110, 111, 112, 113, 114, 115]), ([22], [98, 99, 100, 101, 102, 103, 107, 108, 110, 111, 112, 113, 114, 115]), ([2, 3, 4, 5, 6, 22], [98, 99, 100, 101, 102, 103, 104, 107, 108, 110, 111, 112, 113, 114, 115]), ([1, 2, 3, 4, 5, 6, 7, 22], [98, 99, 100, 101, 102, 103, 104, 105, 107, 108, 110, 111, 112, 113, 114, 115]), ([22], [98, 99, 100, 101, 102, 103, 104, 105, 106, 110, 111, 112, 113, 114, 115]), ([9, 22], [98, 99, 100, 101, 102, 103, 104, 105, 106, 107, 110, 111, 112, 113, 114, 115]), ([1, 2, 3, 4, 5, 6, 7, 8, 9, 10, 22], [98, 99, 100, 101, 102, 103, 104, 105, 106, 107, 108, 110, 111, 112, 113, 114, 115]), ([22], [98, 99, 100, 101, 102, 103, 104, 105, 106, 107, 108, 109, 114]), ([12, 22], [98, 99, 100, 101, 102, 103, 104, 105, 106, 107, 108, 109, 110, 114]), ([12, 13, 22], [98, 99, 100, 101, 102, 103, 104, 105, 106, 107, 108, 109, 110, 111, 114]), ([12, 13, 14, 22], [98, 99, 100, 101, 102, 103, 104, 105, 106, 107, 108, 109, 110, 111, 112, 114]), ([22], [98, 99, 100, 101, 102, 103, 104, 105, 106, 107, 108, 109, 110, 111, 112, 113]), ([12, 13, 14, 15, 16, 22], [98, 99, 100, 101, 102, 103, 104, 105, 106, 107, 108, 109, 110, 111, 112, 113, 114]), ([1, 2, 3, 4, 5, 6, 7, 8, 9, 10, 11, 12, 13, 14, 15, 16, 17, 22], [98, 99, 100, 101, 102, 103, 104, 105, 106, 107, 108, 109, 110, 111, 112, 113, 114, 115]), ([0, 1, 2, 3, 4, 5, 6, 7, 8, 9, 10, 11, 12, 13, 14, 15, 16, 17, 18, 22], [98, 99, 100, 101, 102, 103, 104, 105, 106, 107, 108, 109, 110, 111, 112, 113, 114, 115, 116]), ([0, 1, 2, 3, 4, 5, 6, 7, 8, 9, 10, 11, 12, 13, 14, 15, 16, 17, 18, 19, 22], [98, 99, 100, 101, 102, 103, 104, 105, 106, 107, 108, 109, 110, 111, 112, 113, 114, 115, 116, 117]), ([0, 1, 2, 3, 4, 5, 6, 7, 8, 9, 10, 11, 12, 13, 14, 15, 16, 17, 18, 19, 20, 22], [98, 99, 100, 101, 102, 103, 104, 105, 106, 107, 108, 109, 110, 111, 112, 113, 114, 115, 116, 117, 118])] [(1, 8), (8, 11), (11, 18), (22, 21), (22, 0), (22, 1), (22, 2), (22, 3), (22, 4), (22, 5), (22, 6), (22, 7), (22, 8), (22, 9), (22, 10), (22, 11), (22, 12), (22, 13), (22, 14), (22, 15), (22, 16), (22, 17), (22, 18), (22, 19), (22, 20)] (Γx := [bx gX 69 (rfx most v2)]) ?_; dsimp only [prev0, List.length_nil, List.length_cons])
     | (refine gAny ?_; first | (refine gGd ?_; refine RGl.skp ?_) | (refine gD 99 ?_; refine RGl.row (Γ1 := fun _ => []) (fun e hk => by (try dsimp only [bndR, ensR, oksR, fcutR, List.append_nil, List.nil_append, List.cons_append, List.append_assoc] at hk ⊢); exact OpT.buildS0) ?_) | (refine gD 106 ?_; refine RGl.row (Γ1 := fun e => [rowN 75 59 (e 1).1 0 ([])]) (m := fun _ => 0 + at') (xs := fun _ => fds (D2.take at')) (fun e hk => by (try dsimp only [bndR, ensR, oksR, fcutR, List.append_nil, List.nil_append, List.cons_append, List.append_assoc] at hk ⊢); exact OpT.appendN (m := 0) (m2 := at') (xs := []) (ys := fds (D2.take at')) rfl rfl takesA (hT ▸ HasS.sub (k := 0) (n := at') (sz := 59) hasA fds_len (by omega)) (by rw [fds_len, List.length_take]; congr 1; omega) fds_cell (by omega)) ?_) | (refine gD 108 ?_; refine RGl.row (Γ1 := fun _ => []) (fun e hk => by (try dsimp only [bndR, ensR, oksR, fcutR, List.append_nil, List.nil_append, List.cons_append, List.append_assoc] at hk ⊢); exact OpT.buildS1 (ds := hc) rfl hfok (by first | assumption | rfl) rfl) ?_) | (refine gD 109 ?_; refine RGl.row (Γ1 := fun e => [rowN 75 59 (e 8).1 (0 + at') ((fds (D2.take at')))]) (m := fun _ => (0 + at') + 1) (xs := fun _ => (fds (D2.take at')) ++ flat hc) (fun e hk => by (try dsimp only [bndR, ensR, oksR, fcutR, List.append_nil, List.nil_append, List.cons_append, List.append_assoc] at hk ⊢); exact OpT.appendN (m := (0 + at')) (m2 := 1) (xs := (fds (D2.take at'))) (ys := flat hc) rfl rfl takesA (hasA) (by rw [hflen]) hfok.one (by omega)) ?_) | (refine gD 116 ?_; refine RGl.row (Γ1 := fun e => [rowN 75 59 (e 11).1 (0 + at' + 1) ((fds (D2.take at') ++ flat hc))]) (m := fun _ => (0 + at' + 1) + (D2.length - at')) (xs := fun _ => (fds (D2.take at') ++ flat hc) ++ fds (D2.drop at')) (fun e hk => by (try dsimp only [bndR, ensR, oksR, fcutR, List.append_nil, List.nil_append, List.cons_append, List.append_assoc] at hk ⊢); exact OpT.appendN (m := (0 + at' + 1)) (m2 := (D2.length - at')) (xs := (fds (D2.take at') ++ flat hc)) (ys := fds (D2.drop at')) rfl rfl takesA (hU ▸ HasS.sub (k := at') (n := D2.length - at') (sz := 59) hasA fds_len (by omega)) (by rw [fds_len, List.length_drop]) fds_cell (by omega)) ?_) | (refine gSt ?_; refine RGl.turn (fun e hk => by (try dsimp only [bndR, ensR, oksR, fcutR, List.append_nil, List.nil_append, List.cons_append, List.append_assoc] at hk ⊢); exact OpT.store1 rfl rfl takesA (by (repeat (obtain ⟨hk1, hk⟩ := hk)) <;> assumption) (by dsimp only [sel, takeCh, upd, dropCh, appCh, setAt, chAt, Option.map_some, List.cons_append, List.nil_append, Nat.reduceSub, Nat.reduceAdd] <;> exact rfl)) ?_) | (refine gD 83 ?_; refine RGl.rdX (fun e hk => by (try dsimp only [bndR, ensR, oksR, fcutR, List.append_nil, List.nil_append, List.cons_append, List.append_assoc] at hk ⊢); exact ReadR.binE rfl rfl BinR.lss (congrArg Value.bool (decide_eq_false hgo'))) ?_) | (refine gD 105 ?_; refine RGl.rdX (fun e hk => by (try dsimp only [bndR, ensR, oksR, fcutR, List.append_nil, List.nil_append, List.cons_append, List.append_assoc] at hk ⊢); exact ReadR.sliceH (j := at') rfl rfl hasA (by omega)) ?_) | (refine gD 107 ?_; refine RGl.rdX (fun e hk => by (try dsimp only [bndR, ensR, oksR, fcutR, List.append_nil, List.nil_append, List.cons_append, List.append_assoc] at hk ⊢); exact ReadR.loadA rfl memA hsel) ?_) | (refine gD 115 ?_; refine RGl.rdX (fun e hk => by (try dsimp only [bndR, ensR, oksR, fcutR, List.append_nil, List.nil_append, List.cons_append, List.append_assoc] at hk ⊢); exact ReadR.sliceL (i := at') rfl rfl hasA (by omega)) ?_) | (refine gOp ?_; first | refine RGl.rdA ?_ | refine RGl.rdX (fun e hk => by (try dsimp only [bndR, ensR, oksR, fcutR, List.append_nil, List.nil_append, List.cons_append, List.append_assoc] at hk ⊢); exact readB) ?_) | (refine gLit ?_; refine RGl.litA ?_) | (refine gApp ?_; refine RGl.appA ?_) | (refine gSt ?_; refine RGl.stA ?_) | (refine RGl.fin (fun e hk => ?_); (try dsimp only [bndA, ensAR, oksA, List.append_nil, List.nil_append, List.cons_append, List.append_assoc] at hk ⊢); (repeat (obtain ⟨hk1, hk⟩ := hk))) | fail)
     | (refine isCond ?_; first | refine WPc.cT ?_ | refine WPc.cF ?_ | (refine WPc.cQ (fun hc => ?_) (fun hc => ?_) <;> try exact prA))
     | (refine isD 83 ?_; refine WPl.rdX (ReadR.binE rfl rfl BinR.lss (congrArg Value.bool (decide_eq_false hgo'))) ?_)
     | (refine isD 105 ?_; refine WPl.rdX (ReadR.sliceH (j := at') rfl rfl hasA (by omega)) ?_)
     | (refine isD 107 ?_; refine WPl.rdX (ReadR.loadA rfl memA hsel) ?_)
     | (refine isD 115 ?_; refine WPl.rdX (ReadR.sliceL (i := at') rfl rfl hasA (by omega)) ?_)
     | (refine isOp ?_; first | refine WPl.rd ?_ | refine WPl.sk ?_ | refine WPl.rdB ?_)
     | (refine isAl ?_; refine WPl.nw fun g => ?_)
     | (refine isBx ?_; refine WPl.nw fun g => ?_)
     | (refine isSt ?_; first | refine WPl.st1 ?_ | refine WPl.stA ?_ | refine WPl.stEB ?_ | refine WPl.stRB ?_)
     | (show WPl _ _ _ _ _ _ _ (⟨_, .indexAddr _ _ _, _, _, _, _⟩ :: _) _; refine WPl.rdX (ReadR.indexE rfl rfl hasA (by first | assumption | omega)) ?_)
     | (show WPl _ _ _ _ _ _ _ (⟨_, .fieldAddr _ _ _, _, _, _, _⟩ :: _) _; refine WPl.rdX (ReadR.fieldE rfl hasA (by first | assumption | omega)) ?_)
     | (show WPl _ _ _ _ _ _ _ (⟨_, .load _ _, _, _, _, _⟩ :: _) _; first | refine WPl.rdX (ReadR.loadE rfl hasA (by assumption)) ?_ | refine WPl.rdX (ReadR.loadES (by assumption) (by first | assumption | omega) rfl hasA) ?_)
     | (show WPl _ _ _ _ _ _ _ (⟨_, .slice _ _ _ _ _, _, _, _, _⟩ :: _) _; first | refine WPl.rdX (ReadR.sliceH rfl rfl hasA (by omega)) ?_ | refine WPl.rdX (ReadR.sliceL rfl rfl hasA (by omega)) ?_ | refine WPl.rdX (ReadR.sliceLH rfl rfl rfl hasA (by omega) (by omega)) ?_)
     | (refine WPl.spQ (fun hc => ?_) (fun hc => ?_) <;> try exact prA)
     | fail)
    exact WPq.dX (vs := [_]) [bx gX 69 (rfx most (e 18).1), rowN 75 59 (e 18).1 (0 + at' + 1 + (D2.length - at')) (fds (D2.take at') ++ flat hc ++ fds (D2.drop at'))] ⟨0, (e 18).1, D2.take at' ++ (f, a) :: D2.drop at', rfl, by assumption, by rw [(hins D2 at' hat).1, (hins D2 at' hat).2], by rw [hD2]; exact .ins D1 hO hno hl2 at' (by rw [← hD2]; exact hat) (by rw [← hD2]; exact hlt') (by rw [← hD2]; exact fun y hy => absurd (List.getElem?_eq_some_iff.1 hy).1 hgo)⟩
end
end Go.Proofs.Ytncgponcedkihaa
