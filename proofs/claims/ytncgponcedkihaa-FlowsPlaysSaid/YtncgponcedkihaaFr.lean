/- Layer 23 (flows): the document's table: cut, Drop. -/
import Derived.Test.YtncgponcedkihaaFk
import Derived.Test.YtncgponcedkihaaFp
import Derived.Test.YtncgponcedkihaaRg
namespace Go.Proofs.Ytncgponcedkihaa
section
open Go.RowKit
set_option linter.unusedSimpArgs false
set_option linter.unusedVariables false
set_option maxRecDepth 20000
set_option maxHeartbeats 4000000
attribute [local irreducible] WPc WPl WPq ReadR OpT BinR HasS bx rdN rowN Take Takes Prov Triple ResF BuildP Done ag Int.decLt Int.decLe Int.instDecidableEq
theorem fds_sub {l : LL} {k j : Nat} (h : k + j ≤ l.length) : ((fds l).drop (k * 59)).take (j * 59) = fds ((l.drop k).take j) := by unfold fds; exact rows_sub (c := hdE) hdE_len l k j h
theorem fdsT {D : LL} {i : Nat} (h : i ≤ D.length) : ((fds D).drop (0 * 59)).take (i * 59) = fds (D.take i) := by
  have := fds_sub (l := D) (k := 0) (j := i) (by omega)
  rwa [List.drop_zero] at this
theorem fdsD {D : LL} {i k : Nat} (h : i + k = D.length) : ((fds D).drop (i * 59)).take (k * 59) = fds (D.drop i) := by
  have := fds_sub (l := D) (k := i) (j := k) (by omega)
  rwa [List.take_of_length_le (l := D.drop i) (by rw [List.length_drop]; omega)] at this
theorem fds_cell {D : LL} : ∀ u ∈ fds D, u.oneCell' = true := fun u hu => by
  unfold fds at hu
  obtain ⟨L, hL, hu⟩ := List.mem_flatten.1 hu
  obtain ⟨c, _, rfl⟩ := List.mem_map.1 hL
  exact (hdE_fok c).one u hu
def RRx (gX : Nat) (most : Int) (v0 : Value) (D' : LL) : Value → List Asn → Prop := fun v Γ => v = v0 ∧ ∃ vl', vl'.oneCell' = true ∧ Γ = [bx gX 69 (rfx most vl'), rowN 75 59 vl' D'.length (fds D')]
attribute [local irreducible] fds
section
variable (gX : Nat) (most : Int) (vl : Value) (D : LL)
theorem cut_fin {v : Value} {i : Nat} (hi : i < D.length) : [bx gX 69 (rfx most v), rowN 75 59 v (0 + i + (D.length - (i + 1))) (fds (D.take i) ++ fds (D.drop (i + 1)))] = [bx gX 69 (rfx most v), rowN 75 59 v (cutI D i).length (fds (cutI D i))] := by
  have e1 : 0 + i + (D.length - (i + 1)) = (cutI D i).length := by unfold cutI; rw [List.length_append, List.length_take, List.length_drop]; omega
  have e2 : fds (D.take i) ++ fds (D.drop (i + 1)) = fds (cutI D i) := by rw [fds_app]; rfl
  rw [e1, e2]
theorem rcut_t (hvl : vl.oneCell' = true) (i : Nat) (hil : i < D.length) (hD : D.length ≤ 100000) : Triple Try.prog 87 #[hPr gX, .int .i64 i] [bx gX 69 (rfx most vl), rowN 75 59 vl D.length (fds D)] (RRx gX most (resV []) (cutI D i)) := by
  have hcl := fds_len (l := D)
  have hT := fdsT (D := D) (i := i) (by omega)
  have hU := fdsD (D := D) (i := i + 1) (k := D.length - (i + 1)) (by omega)
  refine Triple.enter Try.func87 rfl Try.ntmps87 rfl (fun W => ?_)
  dsimp only [argsF, Nat.reduceAdd]
  repeat' (first
   | refine WPl.nil ?_ | refine WPq.then ?_ | refine WPq.thenR ?_ | refine WPq.thenE ?_ | refine WPq.blockN ?_ | refine WPq.blockR ?_ | refine WPq.blockE ?_ | refine WPq.blockO rfl ?_ | refine WPc.seq ?_ | refine WPc.block ?_ | refine WPc.ret ?_ | refine WPc.exit ?_ | refine WPc.skip ?_ | refine WPc.region ?_
   | (refine isReg 0 ?_; refine WPc.drA [([20], [5, 6, 7, 8, 9, 10, 11, 12, 13, 14, 15, 16, 17, 18, 19, 20]), ([20], [4, 6, 7, 8, 9, 10, 11, 13, 14, 15, 16, 17, 18, 19]), ([20], [4, 5, 10, 13, 14, 15, 16, 17, 18, 19]), ([2, 20], [4, 5, 6, 10, 13, 14, 15, 16, 17, 18, 19]), ([2, 3, 20], [4, 5, 6, 7, 10, 13, 14, 15, 16, 17, 18, 19]), ([2, 3, 4, 20], [4, 5, 6, 7, 8, 10, 13, 14, 15, 16, 17, 18, 19]), ([20], [4, 5, 6, 7, 8, 9, 13, 14, 15, 16, 17, 18, 19]), ([2, 3, 4, 5, 6, 20], [4, 5, 6, 7, 8, 9, 10, 13, 14, 15, 16, 17, 18, 19]), ([1, 2, 3, 4, 5, 6, 7, 20], [4, 5, 6, 7, 8, 9, 10, 11, 13, 14, 15, 16, 17, 18, 19]), ([20], [4, 5, 6, 7, 8, 9, 10, 11, 12, 17, 18]), ([9, 20], [4, 5, 6, 7, 8, 9, 10, 11, 12, 13, 17, 18]), ([9, 10, 20], [4, 5, 6, 7, 8, 9, 10, 11, 12, 13, 14, 17, 18]), ([9, 10, 11, 20], [4, 5, 6, 7, 8, 9, 10, 11, 12, 13, 14, 15, 17, 18]), ([20], [4, 5, 6, 7, 8, 9, 10, 11, 12, 13, 14, 15, 16]), ([13, 20], [4, 5, 6, 7, 8, 9, 10, 11, 12, 13, 14, 15, 16, 17]), ([9, 10, 11, 12, 13, 14, 20], [4, 5, 6, 7, 8, 9, 10, 11, 12, 13, 14, 15, 16, 17, 18]), ([1, 2, 3, 4, 5, 6, 7, 8, 9, 10, 11, 12, 13, 14, 15, 20], [4, 5, 6, 7, 8, 9, 10, 11, 12, 13, 14, 15, 16, 17, 18, 19]), ([0, 1, 2, 3, 4, 5, 6, 7, 8, 9, 10, 11, 12, 13, 14, 15, 16, 20], [4, 5, 6, 7, 8, 9, 10, 11, 12, 13, 14, 15, 16, 17, 18, 19, 20]), ([0, 1, 2, 3, 4, 5, 6, 7, 8, 9, 10, 11, 12, 13, 14, 15, 16, 17, 20], [4, 5, 6, 7, 8, 9, 10, 11, 12, 13, 14, 15, 16, 17, 18, 19, 20, 21]), ([0, 1, 2, 3, 4, 5, 6, 7, 8, 9, 10, 11, 12, 13, 14, 15, 16, 17, 18, 20], [4, 5, 6, 7, 8, 9, 10, 11, 12, 13, 14, 15, 16, 17, 18, 19, 20, 21, 22])] [(1, 8), (8, 16), (20, 19), (20, 0), (20, 1), (20, 2), (20, 3), (20, 4), (20, 5), (20, 6), (20, 7), (20, 8), (20, 9), (20, 10), (20, 11), (20, 12), (20, 13), (20, 14), (20, 15), (20, 16), (20, 17), (20, 18)] (Γx := [bx gX 69 (rfx most vl)]) ?_; dsimp only [prev0, List.length_nil, List.length_cons])
   | (refine gAny ?_; first | (refine gD 5 ?_; refine RGl.row (Γ1 := fun _ => []) (fun e hk => by (try dsimp only [bndR, ensR, oksR, fcutR, List.append_nil, List.nil_append, List.cons_append, List.append_assoc] at hk ⊢); exact OpT.buildS0) ?_) | (refine gD 12 ?_; refine RGl.row (Γ1 := fun e => [rowN 75 59 (e 1).1 0 ([])]) (m := fun _ => 0 + i) (xs := fun _ => fds (D.take i)) (fun e hk => by (try dsimp only [bndR, ensR, oksR, fcutR, List.append_nil, List.nil_append, List.cons_append, List.append_assoc] at hk ⊢); exact OpT.appendN (m := 0) (m2 := i) (xs := []) (ys := fds (D.take i)) rfl rfl takesA (hT ▸ HasS.sub (k := 0) (n := i) (sz := 59) hasA fds_len (by omega)) (by rw [fds_len, List.length_take]; congr 1; omega) fds_cell (by omega)) ?_) | (refine gD 20 ?_; refine RGl.row (Γ1 := fun e => [rowN 75 59 (e 8).1 (0 + i) ((fds (D.take i)))]) (m := fun _ => (0 + i) + (D.length - (i + 1))) (xs := fun _ => (fds (D.take i)) ++ fds (D.drop (i + 1))) (fun e hk => by (try dsimp only [bndR, ensR, oksR, fcutR, List.append_nil, List.nil_append, List.cons_append, List.append_assoc] at hk ⊢); exact OpT.appendN (m := (0 + i)) (m2 := (D.length - (i + 1))) (xs := (fds (D.take i))) (ys := fds (D.drop (i + 1))) rfl rfl takesA (hU ▸ HasS.sub (k := i + 1) (n := D.length - (i + 1)) (sz := 59) hasA fds_len (by omega)) (by rw [fds_len, List.length_drop]) fds_cell (by omega)) ?_) | (refine gSt ?_; refine RGl.turn (fun e hk => by (try dsimp only [bndR, ensR, oksR, fcutR, List.append_nil, List.nil_append, List.cons_append, List.append_assoc] at hk ⊢); exact OpT.store1 rfl rfl takesA (by (repeat (obtain ⟨hk1, hk⟩ := hk)) <;> assumption) (by dsimp only [sel, takeCh, upd, dropCh, appCh, setAt, chAt, Option.map_some, List.cons_append, List.nil_append, Nat.reduceSub, Nat.reduceAdd] <;> exact rfl)) ?_) | (refine gD 11 ?_; refine RGl.rdX (fun e hk => by (try dsimp only [bndR, ensR, oksR, fcutR, List.append_nil, List.nil_append, List.cons_append, List.append_assoc] at hk ⊢); exact ReadR.sliceH (j := i) rfl rfl hasA (by omega)) ?_) | (refine gD 19 ?_; refine RGl.rdX (fun e hk => by (try dsimp only [bndR, ensR, oksR, fcutR, List.append_nil, List.nil_append, List.cons_append, List.append_assoc] at hk ⊢); exact ReadR.sliceL (i := i + 1) rfl rfl hasA (by omega)) ?_) | (refine gOp ?_; first | refine RGl.rdA ?_ | refine RGl.rdX (fun e hk => by (try dsimp only [bndR, ensR, oksR, fcutR, List.append_nil, List.nil_append, List.cons_append, List.append_assoc] at hk ⊢); exact readB) ?_) | (refine gLit ?_; refine RGl.litA ?_) | (refine gApp ?_; refine RGl.appA ?_) | (refine gSt ?_; refine RGl.stA ?_) | (refine RGl.fin (fun e hk => ?_); (try dsimp only [bndA, ensAR, oksA, List.append_nil, List.nil_append, List.cons_append, List.append_assoc] at hk ⊢); (repeat (obtain ⟨hk1, hk⟩ := hk))) | fail)
   | (refine isCond ?_; first | refine WPc.cT ?_ | refine WPc.cF ?_ | (refine WPc.cQ (fun hc => ?_) (fun hc => ?_) <;> try exact prA))
   | (refine isD 11 ?_; refine WPl.rdX (ReadR.sliceH (j := i) rfl rfl hasA (by omega)) ?_)
   | (refine isD 19 ?_; refine WPl.rdX (ReadR.sliceL (i := i + 1) rfl rfl hasA (by omega)) ?_)
   | (refine isOp ?_; first | refine WPl.rd ?_ | refine WPl.sk ?_ | refine WPl.rdB ?_)
   | (refine isSt ?_; first | refine WPl.st1 ?_ | refine WPl.stA ?_ | refine WPl.stEB ?_ | refine WPl.stRB ?_)
   | (show WPl _ _ _ _ _ _ _ (⟨_, .indexAddr _ _ _, _, _, _, _⟩ :: _) _; refine WPl.rdX (ReadR.indexE rfl rfl hasA (by first | assumption | omega)) ?_)
   | (show WPl _ _ _ _ _ _ _ (⟨_, .fieldAddr _ _ _, _, _, _, _⟩ :: _) _; refine WPl.rdX (ReadR.fieldE rfl hasA (by first | assumption | omega)) ?_)
   | (show WPl _ _ _ _ _ _ _ (⟨_, .load _ _, _, _, _, _⟩ :: _) _; first | refine WPl.rdX (ReadR.loadE rfl hasA (by assumption)) ?_ | refine WPl.rdX (ReadR.loadES (by assumption) (by first | assumption | omega) rfl hasA) ?_)
   | (show WPl _ _ _ _ _ _ _ (⟨_, .slice _ _ _ _ _, _, _, _, _⟩ :: _) _; first | refine WPl.rdX (ReadR.sliceH rfl rfl hasA (by omega)) ?_ | refine WPl.rdX (ReadR.sliceL rfl rfl hasA (by omega)) ?_ | refine WPl.rdX (ReadR.sliceLH rfl rfl rfl hasA (by omega) (by omega)) ?_)
   | (refine WPl.spQ (fun hc => ?_) (fun hc => ?_) <;> try exact prA)
   | fail)
  exact WPq.dX (vs := []) [bx gX 69 (rfx most (e 16).1), rowN 75 59 (e 16).1 (0 + i + (D.length - (i + 1))) (fds (D.take i) ++ fds (D.drop (i + 1)))] ⟨rfl, (e 16).1, by assumption, cut_fin gX most D hil⟩
end
end
section
open Go.RowKit
set_option linter.unusedSimpArgs false
set_option linter.unusedVariables false
set_option maxRecDepth 20000
set_option maxHeartbeats 4000000
attribute [local irreducible] WPc WPl WPq ReadR OpT BinR HasS bx rdN rowN Take Takes Prov Triple ResF BuildP Done ag Int.decLt Int.decLe Int.instDecidableEq
theorem fds_e {D : LL} {i : Nat} {x : Fl × En} (h : D[i]? = some x) : ((fds D).drop (i * 59 + 37)).take 22 = flat (enC x.2) := by
  have hl : (flat (flc x.1)).length = 37 := by simp [flat_eq, x.1.src.len, x.1.dst.len, u8s_length]
  have h1 := congrArg (List.drop 37) (fds_drop h)
  rw [List.drop_take, List.drop_drop] at h1
  rw [show 59 - 37 = 22 from rfl] at h1
  rw [h1]
  have e : flat (hdE x) = flat (flc x.1) ++ flat (enC x.2) := by simp [flat_eq]
  rw [e, List.drop_left' hl]
theorem filt_step {D : LL} {q : Fl × En → Bool} {i : Nat} {x : Fl × En} (h : D[i]? = some x) : (D.take (i + 1)).filter q = (D.take i).filter q ++ if q x then [x] else [] := by
  rw [List.take_add_one, h, List.filter_append]
  congr 1
  cases hq : q x <;> simp [hq]
theorem filt_len {D : LL} {q : Fl × En → Bool} {i : Nat} : ((D.take i).filter q).length ≤ D.length := by
  have h1 := List.length_filter_le q (D.take i)
  have h2 := List.length_take_le' i D
  omega
attribute [local irreducible] fds
section
variable (gX : Nat) (most : Int) (vl : Value) (D : LL)
theorem rlets_t (now s b : Int) (hD : D.length ≤ 100000) : Triple Try.prog 67 #[hPr gX, .int .u64 now, .int .i64 s, .int .i64 b] [bx gX 69 (rfx most vl), rowN 75 59 vl D.length (fds D)] (RRx gX most (.int .i64 ((D.length : Int) - ((D.filter (fun x => decide (now < x.2.til))).length : Int))) (D.filter (fun x => decide (now < x.2.til)))) := by
  have hcl := fds_len (l := D)
  obtain ⟨q, hq⟩ : ∃ q : Fl × En → Bool, q = fun x => decide (now < x.2.til) := ⟨_, rfl⟩
  rw [← hq]
  have e0 : fds (([] : LL)) = [] := by unfold fds; rfl
  refine Triple.enter Try.func67 rfl Try.ntmps67 rfl (fun W => ?_)
  dsimp only [argsF, Nat.reduceAdd]
  repeat' (first
   | refine WPl.nil ?_ | refine WPq.then ?_ | refine WPq.thenR ?_ | refine WPq.thenE ?_ | refine WPq.blockN ?_ | refine WPq.blockR ?_ | refine WPq.blockE ?_ | refine WPq.blockO rfl ?_ | refine WPc.seq ?_ | refine WPc.block ?_ | refine WPc.ret ?_ | refine WPc.exit ?_ | refine WPc.skip ?_ | refine WPc.region ?_
   | (refine isCond ?_; first | refine WPc.cT ?_ | refine WPc.cF ?_ | (refine WPc.cQ (fun hc => ?_) (fun hc => ?_) <;> try exact prA))
   | (refine isD 12 ?_; refine WPl.litS0 fun w0 hw0 => ?_)
   | (refine isOp ?_; first | refine WPl.rd ?_ | refine WPl.sk ?_ | refine WPl.rdB ?_)
   | (refine isSt ?_; first | refine WPl.st1 ?_ | refine WPl.stA ?_ | refine WPl.stEB ?_ | refine WPl.stRB ?_)
   | (show WPl _ _ _ _ _ _ _ (⟨_, .indexAddr _ _ _, _, _, _, _⟩ :: _) _; refine WPl.rdX (ReadR.indexE rfl rfl hasA (by first | assumption | omega)) ?_)
   | (show WPl _ _ _ _ _ _ _ (⟨_, .fieldAddr _ _ _, _, _, _, _⟩ :: _) _; refine WPl.rdX (ReadR.fieldE rfl hasA (by first | assumption | omega)) ?_)
   | (show WPl _ _ _ _ _ _ _ (⟨_, .load _ _, _, _, _, _⟩ :: _) _; first | refine WPl.rdX (ReadR.loadE rfl hasA (by assumption)) ?_ | refine WPl.rdX (ReadR.loadES (by assumption) (by first | assumption | omega) rfl hasA) ?_)
   | (show WPl _ _ _ _ _ _ _ (⟨_, .slice _ _ _ _ _, _, _, _, _⟩ :: _) _; first | refine WPl.rdX (ReadR.sliceH rfl rfl hasA (by omega)) ?_ | refine WPl.rdX (ReadR.sliceL rfl rfl hasA (by omega)) ?_ | refine WPl.rdX (ReadR.sliceLH rfl rfl rfl hasA (by omega) (by omega)) ?_)
   | (refine WPl.spQ (fun hc => ?_) (fun hc => ?_) <;> try exact prA)
   | fail)
  first | refine WPc.loop (σ := Nat × Value × LL × List Value) (fun st => st.1 ≤ D.length ∧ st.2.1.oneCell' = true ∧ st.2.2.1 = (D.take st.1).filter q ∧ st.2.2.2 = fds st.2.2.1) (fun st => [bx gX 69 (rfx most vl), rowN 75 59 vl D.length (fds D), rowN 75 59 st.2.1 st.2.2.1.length st.2.2.2]) (fun st => [(0, hPr gX), (1, .int .u64 now), (9, st.2.1), (10, .int .i64 st.1)]) (fun st => D.length - st.1) ((0, w0, [], [])) ?_ takesA frsA (fun st km hx hk => ?_)
  · exact ⟨Nat.zero_le _, hw0, rfl, e0.symm⟩
  obtain ⟨i, wv, o, xo⟩ := st
  obtain ⟨hi, hwv, ho, hxo⟩ := hx
  dsimp only at hi hwv ho hxo hk ⊢
  subst hxo
  have hkm : km = D.length - i := hk
  clear hk
  have hol : o.length ≤ D.length := by rw [ho]; exact filt_len
  by_cases hlt : i < D.length
  · obtain ⟨xc, hcD⟩ : ∃ xc, D[i]? = some xc := ⟨_, List.getElem?_eq_getElem hlt⟩
    have hcp := fds_drop hcD
    have l3 := xc.1.src.len
    have l4 := xc.1.dst.len
    have l5 := xc.2.ad.len
    have c1 := rlive_t gX most vl D i xc now hcD hD
    have hs := filt_step (q := q) hcD
    rw [← ho] at hs
    have hqx : q xc = decide (now < xc.2.til) := by rw [hq]
    rw [← hqx] at c1
    clear hq hqx
    cases hqc : q xc with
    | true =>
      rw [hqc] at c1 hs
      repeat' (first
       | refine WPl.nil ?_ | refine WPq.then ?_ | refine WPq.thenR ?_ | refine WPq.thenE ?_ | refine WPq.blockN ?_ | refine WPq.blockR ?_ | refine WPq.blockE ?_ | refine WPq.blockO rfl ?_ | refine WPc.seq ?_ | refine WPc.block ?_ | refine WPc.ret ?_ | refine WPc.exit ?_ | refine WPc.skip ?_ | refine WPc.region ?_
       | (refine isCond ?_; first | refine WPc.cT ?_ | refine WPc.cF ?_ | (refine WPc.cQ (fun hc => ?_) (fun hc => ?_) <;> try exact prA))
       | (refine isC 25 ?_; refine WPl.cV (c1) ?_ (hΔ := provsX))
       | (refine isD 32 ?_; refine WPl.rdX (ReadR.indexE (i := i) rfl rfl hasA hlt) ?_)
       | (refine isD 33 ?_; refine WPl.rdX (ReadR.loadES (cs := hdE xc) hcp (by omega) rfl hasA) ?_)
       | (refine isD 34 ?_; refine WPl.litS1 fun w34 hw34 => ?_)
       | (refine isD 35 ?_; refine WPl.appN (m := o.length) (m2 := 1) (xs := fds o) (ys := flat (hdE xc)) (by rw [hdE_len]) (hdE_fok xc).one (by omega) fun v2 hv2 => ?_)
       | (refine isOp ?_; first | refine WPl.rd ?_ | refine WPl.sk ?_ | refine WPl.rdB ?_)
       | (refine isSt ?_; first | refine WPl.st1 ?_ | refine WPl.stA ?_ | refine WPl.stEB ?_ | refine WPl.stRB ?_)
       | (show WPl _ _ _ _ _ _ _ (⟨_, .indexAddr _ _ _, _, _, _, _⟩ :: _) _; refine WPl.rdX (ReadR.indexE rfl rfl hasA (by first | assumption | omega)) ?_)
       | (show WPl _ _ _ _ _ _ _ (⟨_, .fieldAddr _ _ _, _, _, _, _⟩ :: _) _; refine WPl.rdX (ReadR.fieldE rfl hasA (by first | assumption | omega)) ?_)
       | (show WPl _ _ _ _ _ _ _ (⟨_, .load _ _, _, _, _, _⟩ :: _) _; first | refine WPl.rdX (ReadR.loadE rfl hasA (by assumption)) ?_ | refine WPl.rdX (ReadR.loadES (by assumption) (by first | assumption | omega) rfl hasA) ?_)
       | (show WPl _ _ _ _ _ _ _ (⟨_, .slice _ _ _ _ _, _, _, _, _⟩ :: _) _; first | refine WPl.rdX (ReadR.sliceH rfl rfl hasA (by omega)) ?_ | refine WPl.rdX (ReadR.sliceL rfl rfl hasA (by omega)) ?_ | refine WPl.rdX (ReadR.sliceLH rfl rfl rfl hasA (by omega) (by omega)) ?_)
       | (refine WPl.spQ (fun hc => ?_) (fun hc => ?_) <;> try exact prA)
       | fail)
      have e1 : fds o ++ flat (hdE xc) = fds (o ++ [xc]) := by rw [← fds_app, fds_one]
      have e2 : o.length + 1 = (o ++ [xc]).length := by simp
      rw [e1, e2]
      exact WPq.rnd (i + 1, v2, o ++ [xc], fds (o ++ [xc])) ⟨by dsimp only; omega, hv2, by rw [hs]; rfl, rfl⟩ (by dsimp only; omega)
    | false =>
      rw [hqc] at c1 hs
      repeat' (first
       | refine WPl.nil ?_ | refine WPq.then ?_ | refine WPq.thenR ?_ | refine WPq.thenE ?_ | refine WPq.blockN ?_ | refine WPq.blockR ?_ | refine WPq.blockE ?_ | refine WPq.blockO rfl ?_ | refine WPc.seq ?_ | refine WPc.block ?_ | refine WPc.ret ?_ | refine WPc.exit ?_ | refine WPc.skip ?_ | refine WPc.region ?_
       | (refine isCond ?_; first | refine WPc.cT ?_ | refine WPc.cF ?_ | (refine WPc.cQ (fun hc => ?_) (fun hc => ?_) <;> try exact prA))
       | (refine isC 25 ?_; refine WPl.cV (c1) ?_ (hΔ := provsX))
       | (refine isOp ?_; first | refine WPl.rd ?_ | refine WPl.sk ?_ | refine WPl.rdB ?_)
       | (refine isSt ?_; first | refine WPl.st1 ?_ | refine WPl.stA ?_ | refine WPl.stEB ?_ | refine WPl.stRB ?_)
       | (show WPl _ _ _ _ _ _ _ (⟨_, .indexAddr _ _ _, _, _, _, _⟩ :: _) _; refine WPl.rdX (ReadR.indexE rfl rfl hasA (by first | assumption | omega)) ?_)
       | (show WPl _ _ _ _ _ _ _ (⟨_, .fieldAddr _ _ _, _, _, _, _⟩ :: _) _; refine WPl.rdX (ReadR.fieldE rfl hasA (by first | assumption | omega)) ?_)
       | (show WPl _ _ _ _ _ _ _ (⟨_, .load _ _, _, _, _, _⟩ :: _) _; first | refine WPl.rdX (ReadR.loadE rfl hasA (by assumption)) ?_ | refine WPl.rdX (ReadR.loadES (by assumption) (by first | assumption | omega) rfl hasA) ?_)
       | (show WPl _ _ _ _ _ _ _ (⟨_, .slice _ _ _ _ _, _, _, _, _⟩ :: _) _; first | refine WPl.rdX (ReadR.sliceH rfl rfl hasA (by omega)) ?_ | refine WPl.rdX (ReadR.sliceL rfl rfl hasA (by omega)) ?_ | refine WPl.rdX (ReadR.sliceLH rfl rfl rfl hasA (by omega) (by omega)) ?_)
       | (refine WPl.spQ (fun hc => ?_) (fun hc => ?_) <;> try exact prA)
       | fail)
      exact WPq.rnd (i + 1, wv, o, fds o) ⟨by dsimp only; omega, hwv, by dsimp only; rw [hs]; simp, rfl⟩ (by dsimp only; omega)
  · have ho2 : o = D.filter q := by rw [ho, List.take_of_length_le (by omega)]
    clear ho hq
    subst ho2
    repeat' (first
     | refine WPl.nil ?_ | refine WPq.then ?_ | refine WPq.thenR ?_ | refine WPq.thenE ?_ | refine WPq.blockN ?_ | refine WPq.blockR ?_ | refine WPq.blockE ?_ | refine WPq.blockO rfl ?_ | refine WPc.seq ?_ | refine WPc.block ?_ | refine WPc.ret ?_ | refine WPc.exit ?_ | refine WPc.skip ?_ | refine WPc.region ?_
     | (refine isCond ?_; first | refine WPc.cT ?_ | refine WPc.cF ?_ | (refine WPc.cQ (fun hc => ?_) (fun hc => ?_) <;> try exact prA))
     | (refine isD 43 ?_; refine WPl.rdX (ReadR.binE rfl rfl (BinR.subI (by omega) (by omega)) rfl) ?_)
     | (refine isOp ?_; first | refine WPl.rd ?_ | refine WPl.sk ?_ | refine WPl.rdB ?_)
     | (refine isSt ?_; first | refine WPl.st1 ?_ | refine WPl.stA ?_ | refine WPl.stEB ?_ | refine WPl.stRB ?_)
     | (show WPl _ _ _ _ _ _ _ (⟨_, .indexAddr _ _ _, _, _, _, _⟩ :: _) _; refine WPl.rdX (ReadR.indexE rfl rfl hasA (by first | assumption | omega)) ?_)
     | (show WPl _ _ _ _ _ _ _ (⟨_, .fieldAddr _ _ _, _, _, _, _⟩ :: _) _; refine WPl.rdX (ReadR.fieldE rfl hasA (by first | assumption | omega)) ?_)
     | (show WPl _ _ _ _ _ _ _ (⟨_, .load _ _, _, _, _, _⟩ :: _) _; first | refine WPl.rdX (ReadR.loadE rfl hasA (by assumption)) ?_ | refine WPl.rdX (ReadR.loadES (by assumption) (by first | assumption | omega) rfl hasA) ?_)
     | (show WPl _ _ _ _ _ _ _ (⟨_, .slice _ _ _ _ _, _, _, _, _⟩ :: _) _; first | refine WPl.rdX (ReadR.sliceH rfl rfl hasA (by omega)) ?_ | refine WPl.rdX (ReadR.sliceL rfl rfl hasA (by omega)) ?_ | refine WPl.rdX (ReadR.sliceLH rfl rfl rfl hasA (by omega) (by omega)) ?_)
     | (refine WPl.spQ (fun hc => ?_) (fun hc => ?_) <;> try exact prA)
     | fail)
    exact WPq.dX (vs := [_]) [bx gX 69 (rfx most wv), rowN 75 59 wv (D.filter q).length (fds (D.filter q))] ⟨rfl, wv, hwv, rfl⟩
theorem pPur_cases (s b : Int) (a : En) : (a.sv ≠ s ∧ pPur s b a = false) ∨ (a.sv = s ∧ b < 0 ∧ pPur s b a = true) ∨ (a.sv = s ∧ ¬ b < 0 ∧ a.bk ≠ b ∧ pPur s b a = false) ∨ (a.sv = s ∧ ¬ b < 0 ∧ a.bk = b ∧ pPur s b a = true) := by
  unfold pPur
  by_cases h1 : a.sv = s
  · by_cases h2 : b < 0
    · exact .inr (.inl ⟨h1, h2, by simp [h1, h2]⟩)
    · by_cases h3 : a.bk = b
      · exact .inr (.inr (.inr ⟨h1, h2, h3, by simp [h1, h3]⟩))
      · exact .inr (.inr (.inl ⟨h1, h2, h3, by simp [h2, h3]⟩))
  · exact .inl ⟨h1, by simp [h1]⟩
theorem rpurge_t (s b : Int) (hD : D.length ≤ 100000) : Triple Try.prog 68 #[hPr gX, .int .i64 s, .int .i64 b] [bx gX 69 (rfx most vl), rowN 75 59 vl D.length (fds D)] (RRx gX most (.int .i64 ((D.length : Int) - ((D.filter (fun x => !pPur s b x.2)).length : Int))) (D.filter (fun x => !pPur s b x.2))) := by
  have hcl := fds_len (l := D)
  obtain ⟨q, hq⟩ : ∃ q : Fl × En → Bool, q = fun x => !pPur s b x.2 := ⟨_, rfl⟩
  rw [← hq]
  have e0 : fds (([] : LL)) = [] := by unfold fds; rfl
  refine Triple.enter Try.func68 rfl Try.ntmps68 rfl (fun W => ?_)
  dsimp only [argsF, Nat.reduceAdd]
  repeat' (first
   | refine WPl.nil ?_ | refine WPq.then ?_ | refine WPq.thenR ?_ | refine WPq.thenE ?_ | refine WPq.blockN ?_ | refine WPq.blockR ?_ | refine WPq.blockE ?_ | refine WPq.blockO rfl ?_ | refine WPc.seq ?_ | refine WPc.block ?_ | refine WPc.ret ?_ | refine WPc.exit ?_ | refine WPc.skip ?_ | refine WPc.region ?_
   | (refine isCond ?_; first | refine WPc.cT ?_ | refine WPc.cF ?_ | (refine WPc.cQ (fun hc => ?_) (fun hc => ?_) <;> try exact prA))
   | (refine isD 11 ?_; refine WPl.litS0 fun w0 hw0 => ?_)
   | (refine isOp ?_; first | refine WPl.rd ?_ | refine WPl.sk ?_ | refine WPl.rdB ?_)
   | (refine isAl ?_; refine WPl.nw fun g => ?_)
   | (refine isSt ?_; first | refine WPl.st1 ?_ | refine WPl.stA ?_ | refine WPl.stEB ?_ | refine WPl.stRB ?_)
   | (show WPl _ _ _ _ _ _ _ (⟨_, .indexAddr _ _ _, _, _, _, _⟩ :: _) _; refine WPl.rdX (ReadR.indexE rfl rfl hasA (by first | assumption | omega)) ?_)
   | (show WPl _ _ _ _ _ _ _ (⟨_, .fieldAddr _ _ _, _, _, _, _⟩ :: _) _; refine WPl.rdX (ReadR.fieldE rfl hasA (by first | assumption | omega)) ?_)
   | (show WPl _ _ _ _ _ _ _ (⟨_, .load _ _, _, _, _, _⟩ :: _) _; first | refine WPl.rdX (ReadR.loadE rfl hasA (by assumption)) ?_ | refine WPl.rdX (ReadR.loadES (by assumption) (by first | assumption | omega) rfl hasA) ?_)
   | (show WPl _ _ _ _ _ _ _ (⟨_, .slice _ _ _ _ _, _, _, _, _⟩ :: _) _; first | refine WPl.rdX (ReadR.sliceH rfl rfl hasA (by omega)) ?_ | refine WPl.rdX (ReadR.sliceL rfl rfl hasA (by omega)) ?_ | refine WPl.rdX (ReadR.sliceLH rfl rfl rfl hasA (by omega) (by omega)) ?_)
   | (refine WPl.spQ (fun hc => ?_) (fun hc => ?_) <;> try exact prA)
   | fail)
  first | refine WPc.loop (σ := Nat × Value × LL × List Value) (fun st => st.1 ≤ D.length ∧ st.2.1.oneCell' = true ∧ st.2.2.1 = (D.take st.1).filter q ∧ st.2.2.2 = fds st.2.2.1) (fun st => [bx gX 69 (rfx most vl), rowN 75 59 vl D.length (fds D), rowN 75 59 st.2.1 st.2.2.1.length st.2.2.2]) (fun st => [(0, hPr gX), (1, .int .i64 s), (2, .int .i64 b), (7, st.2.1), (8, .int .i64 st.1)]) (fun st => D.length - st.1) ((0, w0, [], [])) ?_ takesA frsA (fun st km hx hk => ?_)
  · exact ⟨Nat.zero_le _, hw0, rfl, e0.symm⟩
  obtain ⟨i, wv, o, xo⟩ := st
  obtain ⟨hi, hwv, ho, hxo⟩ := hx
  dsimp only at hi hwv ho hxo hk ⊢
  subst hxo
  have hkm : km = D.length - i := hk
  clear hk
  have hol : o.length ≤ D.length := by rw [ho]; exact filt_len
  by_cases hlt : i < D.length
  · obtain ⟨xc, hcD⟩ : ∃ xc, D[i]? = some xc := ⟨_, List.getElem?_eq_getElem hlt⟩
    have hcp := fds_drop hcD
    have hce := fds_e hcD
    have l3 := xc.1.src.len
    have l4 := xc.1.dst.len
    have l5 := xc.2.ad.len
    have hs := filt_step (q := q) hcD
    rw [← ho] at hs
    have hqx : q xc = !pPur s b xc.2 := by rw [hq]
    clear hq
    have e1 : fds o ++ flat (hdE xc) = fds (o ++ [xc]) := by rw [← fds_app, fds_one]
    have e2 : o.length + 1 = (o ++ [xc]).length := by simp
    rcases pPur_cases s b xc.2 with ⟨h1, h2⟩ | ⟨h1, h3, h2⟩ | ⟨h1, h3, h4, h2⟩ | ⟨h1, h3, h4, h2⟩
    · rw [hqx, h2] at hs
      repeat' (first
       | refine WPl.nil ?_ | refine WPq.then ?_ | refine WPq.thenR ?_ | refine WPq.thenE ?_ | refine WPq.blockN ?_ | refine WPq.blockR ?_ | refine WPq.blockE ?_ | refine WPq.blockO rfl ?_ | refine WPc.seq ?_ | refine WPc.block ?_ | refine WPc.ret ?_ | refine WPc.exit ?_ | refine WPc.skip ?_ | refine WPc.region ?_
       | (refine isCond ?_; first | refine WPc.cT ?_ | refine WPc.cF ?_ | (refine WPc.cQ (fun hc => ?_) (fun hc => ?_) <;> try exact prA))
       | (refine isD 26 ?_; refine WPl.rdX (ReadR.indexE (i := i) rfl rfl hasA hlt) ?_)
       | (refine isD 27 ?_; refine WPl.rdX (ReadR.fieldE rfl hasA (by omega)) ?_)
       | (refine isD 28 ?_; refine WPl.rdX (ReadR.loadES (cs := enC xc.2) hce (by omega) rfl hasA) ?_)
       | (refine isD 9 ?_; first | (refine isAl ?_; refine WPl.nw fun g9 => ?_) | (refine isBx ?_; refine WPl.nw fun g9 => ?_))
       | (refine isD 32 ?_; refine WPl.rdX (ReadR.binE rfl rfl BinR.neq (congrArg (fun q => Value.bool (!q)) (decide_eq_false h1))) ?_)
       | (refine isD 49 ?_; refine WPl.rdX (ReadR.indexE (i := i) rfl rfl hasA hlt) ?_)
       | (refine isD 50 ?_; refine WPl.rdX (ReadR.loadES (cs := hdE xc) hcp (by omega) rfl hasA) ?_)
       | (refine isD 51 ?_; refine WPl.litS1 fun w51 hw51 => ?_)
       | (refine isD 52 ?_; refine WPl.appN (m := o.length) (m2 := 1) (xs := fds o) (ys := flat (hdE xc)) (by rw [hdE_len]) (hdE_fok xc).one (by omega) fun v2 hv2 => ?_)
       | (refine isOp ?_; first | refine WPl.rd ?_ | refine WPl.sk ?_ | refine WPl.rdB ?_)
       | (refine isAl ?_; refine WPl.nw fun g => ?_)
       | (refine isSt ?_; first | refine WPl.st1 ?_ | refine WPl.stA ?_ | refine WPl.stEB ?_ | refine WPl.stRB ?_)
       | (show WPl _ _ _ _ _ _ _ (⟨_, .indexAddr _ _ _, _, _, _, _⟩ :: _) _; refine WPl.rdX (ReadR.indexE rfl rfl hasA (by first | assumption | omega)) ?_)
       | (show WPl _ _ _ _ _ _ _ (⟨_, .fieldAddr _ _ _, _, _, _, _⟩ :: _) _; refine WPl.rdX (ReadR.fieldE rfl hasA (by first | assumption | omega)) ?_)
       | (show WPl _ _ _ _ _ _ _ (⟨_, .load _ _, _, _, _, _⟩ :: _) _; first | refine WPl.rdX (ReadR.loadE rfl hasA (by assumption)) ?_ | refine WPl.rdX (ReadR.loadES (by assumption) (by first | assumption | omega) rfl hasA) ?_)
       | (show WPl _ _ _ _ _ _ _ (⟨_, .slice _ _ _ _ _, _, _, _, _⟩ :: _) _; first | refine WPl.rdX (ReadR.sliceH rfl rfl hasA (by omega)) ?_ | refine WPl.rdX (ReadR.sliceL rfl rfl hasA (by omega)) ?_ | refine WPl.rdX (ReadR.sliceLH rfl rfl rfl hasA (by omega) (by omega)) ?_)
       | (refine WPl.spQ (fun hc => ?_) (fun hc => ?_) <;> try exact prA)
       | fail)
      rw [e1, e2]
      exact WPq.rnd (i + 1, v2, o ++ [xc], fds (o ++ [xc])) ⟨by dsimp only; omega, hv2, by rw [hs]; rfl, rfl⟩ (by dsimp only; omega)
    · rw [hqx, h2] at hs
      have h3' : ¬ b ≥ 0 := by omega
      repeat' (first
       | refine WPl.nil ?_ | refine WPq.then ?_ | refine WPq.thenR ?_ | refine WPq.thenE ?_ | refine WPq.blockN ?_ | refine WPq.blockR ?_ | refine WPq.blockE ?_ | refine WPq.blockO rfl ?_ | refine WPc.seq ?_ | refine WPc.block ?_ | refine WPc.ret ?_ | refine WPc.exit ?_ | refine WPc.skip ?_ | refine WPc.region ?_
       | (refine isCond ?_; first | refine WPc.cT ?_ | refine WPc.cF ?_ | (refine WPc.cQ (fun hc => ?_) (fun hc => ?_) <;> try exact prA))
       | (refine isD 26 ?_; refine WPl.rdX (ReadR.indexE (i := i) rfl rfl hasA hlt) ?_)
       | (refine isD 27 ?_; refine WPl.rdX (ReadR.fieldE rfl hasA (by omega)) ?_)
       | (refine isD 28 ?_; refine WPl.rdX (ReadR.loadES (cs := enC xc.2) hce (by omega) rfl hasA) ?_)
       | (refine isD 9 ?_; first | (refine isAl ?_; refine WPl.nw fun g9 => ?_) | (refine isBx ?_; refine WPl.nw fun g9 => ?_))
       | (refine isD 32 ?_; refine WPl.rdX (ReadR.binE rfl rfl BinR.neq (congrArg (fun q => Value.bool (!q)) (decide_eq_true h1))) ?_)
       | (refine isD 35 ?_; refine WPl.rdX (ReadR.binE rfl rfl BinR.geq (congrArg Value.bool (decide_eq_false h3'))) ?_)
       | (refine isOp ?_; first | refine WPl.rd ?_ | refine WPl.sk ?_ | refine WPl.rdB ?_)
       | (refine isAl ?_; refine WPl.nw fun g => ?_)
       | (refine isSt ?_; first | refine WPl.st1 ?_ | refine WPl.stA ?_ | refine WPl.stEB ?_ | refine WPl.stRB ?_)
       | (show WPl _ _ _ _ _ _ _ (⟨_, .indexAddr _ _ _, _, _, _, _⟩ :: _) _; refine WPl.rdX (ReadR.indexE rfl rfl hasA (by first | assumption | omega)) ?_)
       | (show WPl _ _ _ _ _ _ _ (⟨_, .fieldAddr _ _ _, _, _, _, _⟩ :: _) _; refine WPl.rdX (ReadR.fieldE rfl hasA (by first | assumption | omega)) ?_)
       | (show WPl _ _ _ _ _ _ _ (⟨_, .load _ _, _, _, _, _⟩ :: _) _; first | refine WPl.rdX (ReadR.loadE rfl hasA (by assumption)) ?_ | refine WPl.rdX (ReadR.loadES (by assumption) (by first | assumption | omega) rfl hasA) ?_)
       | (show WPl _ _ _ _ _ _ _ (⟨_, .slice _ _ _ _ _, _, _, _, _⟩ :: _) _; first | refine WPl.rdX (ReadR.sliceH rfl rfl hasA (by omega)) ?_ | refine WPl.rdX (ReadR.sliceL rfl rfl hasA (by omega)) ?_ | refine WPl.rdX (ReadR.sliceLH rfl rfl rfl hasA (by omega) (by omega)) ?_)
       | (refine WPl.spQ (fun hc => ?_) (fun hc => ?_) <;> try exact prA)
       | fail)
      exact WPq.rnd (i + 1, wv, o, fds o) ⟨by dsimp only; omega, hwv, by dsimp only; rw [hs]; simp, rfl⟩ (by dsimp only; omega)
    · rw [hqx, h2] at hs
      have h3' : b ≥ 0 := by omega
      repeat' (first
       | refine WPl.nil ?_ | refine WPq.then ?_ | refine WPq.thenR ?_ | refine WPq.thenE ?_ | refine WPq.blockN ?_ | refine WPq.blockR ?_ | refine WPq.blockE ?_ | refine WPq.blockO rfl ?_ | refine WPc.seq ?_ | refine WPc.block ?_ | refine WPc.ret ?_ | refine WPc.exit ?_ | refine WPc.skip ?_ | refine WPc.region ?_
       | (refine isCond ?_; first | refine WPc.cT ?_ | refine WPc.cF ?_ | (refine WPc.cQ (fun hc => ?_) (fun hc => ?_) <;> try exact prA))
       | (refine isD 26 ?_; refine WPl.rdX (ReadR.indexE (i := i) rfl rfl hasA hlt) ?_)
       | (refine isD 27 ?_; refine WPl.rdX (ReadR.fieldE rfl hasA (by omega)) ?_)
       | (refine isD 28 ?_; refine WPl.rdX (ReadR.loadES (cs := enC xc.2) hce (by omega) rfl hasA) ?_)
       | (refine isD 9 ?_; first | (refine isAl ?_; refine WPl.nw fun g9 => ?_) | (refine isBx ?_; refine WPl.nw fun g9 => ?_))
       | (refine isD 32 ?_; refine WPl.rdX (ReadR.binE rfl rfl BinR.neq (congrArg (fun q => Value.bool (!q)) (decide_eq_true h1))) ?_)
       | (refine isD 35 ?_; refine WPl.rdX (ReadR.binE rfl rfl BinR.geq (congrArg Value.bool (decide_eq_true h3'))) ?_)
       | (refine isD 40 ?_; refine WPl.rdX (ReadR.binE rfl rfl BinR.neq (congrArg (fun q => Value.bool (!q)) (decide_eq_false h4))) ?_)
       | (refine isD 49 ?_; refine WPl.rdX (ReadR.indexE (i := i) rfl rfl hasA hlt) ?_)
       | (refine isD 50 ?_; refine WPl.rdX (ReadR.loadES (cs := hdE xc) hcp (by omega) rfl hasA) ?_)
       | (refine isD 51 ?_; refine WPl.litS1 fun w51 hw51 => ?_)
       | (refine isD 52 ?_; refine WPl.appN (m := o.length) (m2 := 1) (xs := fds o) (ys := flat (hdE xc)) (by rw [hdE_len]) (hdE_fok xc).one (by omega) fun v2 hv2 => ?_)
       | (refine isOp ?_; first | refine WPl.rd ?_ | refine WPl.sk ?_ | refine WPl.rdB ?_)
       | (refine isAl ?_; refine WPl.nw fun g => ?_)
       | (refine isSt ?_; first | refine WPl.st1 ?_ | refine WPl.stA ?_ | refine WPl.stEB ?_ | refine WPl.stRB ?_)
       | (show WPl _ _ _ _ _ _ _ (⟨_, .indexAddr _ _ _, _, _, _, _⟩ :: _) _; refine WPl.rdX (ReadR.indexE rfl rfl hasA (by first | assumption | omega)) ?_)
       | (show WPl _ _ _ _ _ _ _ (⟨_, .fieldAddr _ _ _, _, _, _, _⟩ :: _) _; refine WPl.rdX (ReadR.fieldE rfl hasA (by first | assumption | omega)) ?_)
       | (show WPl _ _ _ _ _ _ _ (⟨_, .load _ _, _, _, _, _⟩ :: _) _; first | refine WPl.rdX (ReadR.loadE rfl hasA (by assumption)) ?_ | refine WPl.rdX (ReadR.loadES (by assumption) (by first | assumption | omega) rfl hasA) ?_)
       | (show WPl _ _ _ _ _ _ _ (⟨_, .slice _ _ _ _ _, _, _, _, _⟩ :: _) _; first | refine WPl.rdX (ReadR.sliceH rfl rfl hasA (by omega)) ?_ | refine WPl.rdX (ReadR.sliceL rfl rfl hasA (by omega)) ?_ | refine WPl.rdX (ReadR.sliceLH rfl rfl rfl hasA (by omega) (by omega)) ?_)
       | (refine WPl.spQ (fun hc => ?_) (fun hc => ?_) <;> try exact prA)
       | fail)
      rw [e1, e2]
      exact WPq.rnd (i + 1, v2, o ++ [xc], fds (o ++ [xc])) ⟨by dsimp only; omega, hv2, by rw [hs]; rfl, rfl⟩ (by dsimp only; omega)
    · rw [hqx, h2] at hs
      have h3' : b ≥ 0 := by omega
      repeat' (first
       | refine WPl.nil ?_ | refine WPq.then ?_ | refine WPq.thenR ?_ | refine WPq.thenE ?_ | refine WPq.blockN ?_ | refine WPq.blockR ?_ | refine WPq.blockE ?_ | refine WPq.blockO rfl ?_ | refine WPc.seq ?_ | refine WPc.block ?_ | refine WPc.ret ?_ | refine WPc.exit ?_ | refine WPc.skip ?_ | refine WPc.region ?_
       | (refine isCond ?_; first | refine WPc.cT ?_ | refine WPc.cF ?_ | (refine WPc.cQ (fun hc => ?_) (fun hc => ?_) <;> try exact prA))
       | (refine isD 26 ?_; refine WPl.rdX (ReadR.indexE (i := i) rfl rfl hasA hlt) ?_)
       | (refine isD 27 ?_; refine WPl.rdX (ReadR.fieldE rfl hasA (by omega)) ?_)
       | (refine isD 28 ?_; refine WPl.rdX (ReadR.loadES (cs := enC xc.2) hce (by omega) rfl hasA) ?_)
       | (refine isD 9 ?_; first | (refine isAl ?_; refine WPl.nw fun g9 => ?_) | (refine isBx ?_; refine WPl.nw fun g9 => ?_))
       | (refine isD 32 ?_; refine WPl.rdX (ReadR.binE rfl rfl BinR.neq (congrArg (fun q => Value.bool (!q)) (decide_eq_true h1))) ?_)
       | (refine isD 35 ?_; refine WPl.rdX (ReadR.binE rfl rfl BinR.geq (congrArg Value.bool (decide_eq_true h3'))) ?_)
       | (refine isD 40 ?_; refine WPl.rdX (ReadR.binE rfl rfl BinR.neq (congrArg (fun q => Value.bool (!q)) (decide_eq_true h4))) ?_)
       | (refine isOp ?_; first | refine WPl.rd ?_ | refine WPl.sk ?_ | refine WPl.rdB ?_)
       | (refine isAl ?_; refine WPl.nw fun g => ?_)
       | (refine isSt ?_; first | refine WPl.st1 ?_ | refine WPl.stA ?_ | refine WPl.stEB ?_ | refine WPl.stRB ?_)
       | (show WPl _ _ _ _ _ _ _ (⟨_, .indexAddr _ _ _, _, _, _, _⟩ :: _) _; refine WPl.rdX (ReadR.indexE rfl rfl hasA (by first | assumption | omega)) ?_)
       | (show WPl _ _ _ _ _ _ _ (⟨_, .fieldAddr _ _ _, _, _, _, _⟩ :: _) _; refine WPl.rdX (ReadR.fieldE rfl hasA (by first | assumption | omega)) ?_)
       | (show WPl _ _ _ _ _ _ _ (⟨_, .load _ _, _, _, _, _⟩ :: _) _; first | refine WPl.rdX (ReadR.loadE rfl hasA (by assumption)) ?_ | refine WPl.rdX (ReadR.loadES (by assumption) (by first | assumption | omega) rfl hasA) ?_)
       | (show WPl _ _ _ _ _ _ _ (⟨_, .slice _ _ _ _ _, _, _, _, _⟩ :: _) _; first | refine WPl.rdX (ReadR.sliceH rfl rfl hasA (by omega)) ?_ | refine WPl.rdX (ReadR.sliceL rfl rfl hasA (by omega)) ?_ | refine WPl.rdX (ReadR.sliceLH rfl rfl rfl hasA (by omega) (by omega)) ?_)
       | (refine WPl.spQ (fun hc => ?_) (fun hc => ?_) <;> try exact prA)
       | fail)
      exact WPq.rnd (i + 1, wv, o, fds o) ⟨by dsimp only; omega, hwv, by dsimp only; rw [hs]; simp, rfl⟩ (by dsimp only; omega)
  · have ho2 : o = D.filter q := by rw [ho, List.take_of_length_le (by omega)]
    clear ho hq
    subst ho2
    repeat' (first
     | refine WPl.nil ?_ | refine WPq.then ?_ | refine WPq.thenR ?_ | refine WPq.thenE ?_ | refine WPq.blockN ?_ | refine WPq.blockR ?_ | refine WPq.blockE ?_ | refine WPq.blockO rfl ?_ | refine WPc.seq ?_ | refine WPc.block ?_ | refine WPc.ret ?_ | refine WPc.exit ?_ | refine WPc.skip ?_ | refine WPc.region ?_
     | (refine isCond ?_; first | refine WPc.cT ?_ | refine WPc.cF ?_ | (refine WPc.cQ (fun hc => ?_) (fun hc => ?_) <;> try exact prA))
     | (refine isD 60 ?_; refine WPl.rdX (ReadR.binE rfl rfl (BinR.subI (by omega) (by omega)) rfl) ?_)
     | (refine isOp ?_; first | refine WPl.rd ?_ | refine WPl.sk ?_ | refine WPl.rdB ?_)
     | (refine isAl ?_; refine WPl.nw fun g => ?_)
     | (refine isSt ?_; first | refine WPl.st1 ?_ | refine WPl.stA ?_ | refine WPl.stEB ?_ | refine WPl.stRB ?_)
     | (show WPl _ _ _ _ _ _ _ (⟨_, .indexAddr _ _ _, _, _, _, _⟩ :: _) _; refine WPl.rdX (ReadR.indexE rfl rfl hasA (by first | assumption | omega)) ?_)
     | (show WPl _ _ _ _ _ _ _ (⟨_, .fieldAddr _ _ _, _, _, _, _⟩ :: _) _; refine WPl.rdX (ReadR.fieldE rfl hasA (by first | assumption | omega)) ?_)
     | (show WPl _ _ _ _ _ _ _ (⟨_, .load _ _, _, _, _, _⟩ :: _) _; first | refine WPl.rdX (ReadR.loadE rfl hasA (by assumption)) ?_ | refine WPl.rdX (ReadR.loadES (by assumption) (by first | assumption | omega) rfl hasA) ?_)
     | (show WPl _ _ _ _ _ _ _ (⟨_, .slice _ _ _ _ _, _, _, _, _⟩ :: _) _; first | refine WPl.rdX (ReadR.sliceH rfl rfl hasA (by omega)) ?_ | refine WPl.rdX (ReadR.sliceL rfl rfl hasA (by omega)) ?_ | refine WPl.rdX (ReadR.sliceLH rfl rfl rfl hasA (by omega) (by omega)) ?_)
     | (refine WPl.spQ (fun hc => ?_) (fun hc => ?_) <;> try exact prA)
     | fail)
    exact WPq.dX (vs := [_]) [bx gX 69 (rfx most wv), rowN 75 59 wv (D.filter q).length (fds (D.filter q))] ⟨rfl, wv, hwv, rfl⟩
def RRd (gX : Nat) (most : Int) (D : LL) (f : Fl) : Value → List Asn → Prop := fun v Γ => v = .bool (D.any (fun x => decide (x.1 = f))) ∧ ∃ vl' D', vl'.oneCell' = true ∧ Γ = [bx gX 69 (rfx most vl'), rowN 75 59 vl' D'.length (fds D')] ∧ ((D' = D ∧ ∀ x ∈ D, x.1 ≠ f) ∨ ∃ i x, D[i]? = some x ∧ x.1 = f ∧ D' = cutI D i)
theorem rdrop_t (hvl : vl.oneCell' = true) (f : Fl) (hD : D.length ≤ 100000) : Triple Try.prog 66 #[hPr gX, ag (flc f)] [bx gX 69 (rfx most vl), rowN 75 59 vl D.length (fds D)] (RRd gX most D f) := by
  have l1 := f.src.len
  have l2 := f.dst.len
  have c1 := rat_t gX most vl D f hD
  rcases firstI_cases (fun x : Fl × En => decide (x.1 = f)) D with ⟨i, x, hx, hq, he⟩ | ⟨hn, he⟩
  · rw [he] at c1
    have hil := (List.getElem?_eq_some_iff.1 hx).1
    have c2 := rcut_t gX most vl D hvl i hil hD
    have hi0 : ((i : Nat) : Int) ≥ 0 := by omega
    have hv : D.any (fun x => decide (x.1 = f)) = true := List.any_eq_true.2 ⟨x, List.mem_of_getElem? hx, hq⟩
    unfold RRd
    rw [hv]
    refine Triple.enter Try.func66 rfl Try.ntmps66 rfl (fun W => ?_)
    dsimp only [argsF, Nat.reduceAdd]
    repeat' (first
     | refine WPl.nil ?_ | refine WPq.then ?_ | refine WPq.thenR ?_ | refine WPq.thenE ?_ | refine WPq.blockN ?_ | refine WPq.blockR ?_ | refine WPq.blockE ?_ | refine WPq.blockO rfl ?_ | refine WPc.seq ?_ | refine WPc.block ?_ | refine WPc.ret ?_ | refine WPc.exit ?_ | refine WPc.skip ?_ | refine WPc.region ?_
     | (refine isCond ?_; first | refine WPc.cT ?_ | refine WPc.cF ?_ | (refine WPc.cQ (fun hc => ?_) (fun hc => ?_) <;> try exact prA))
     | (refine isC 8 ?_; refine WPl.cV (c1) ?_ (hΔ := provsX))
     | (refine isD 10 ?_; refine WPl.rdX (ReadR.binE rfl rfl BinR.geq (congrArg Value.bool (decide_eq_true hi0))) ?_)
     | (refine isC 13 ?_; refine WPl.cXs (c2) fun v Γ1 hR => ?_; obtain ⟨rfl, v2, hv2, rfl⟩ := hR; (try dsimp only [putF, List.cons_append, List.nil_append]))
     | (refine isD 15 ?_; refine WPl.rdX (ReadR.binE rfl rfl BinR.geq (congrArg Value.bool (decide_eq_true hi0))) ?_)
     | (refine isOp ?_; first | refine WPl.rd ?_ | refine WPl.sk ?_ | refine WPl.rdB ?_)
     | (refine isBx ?_; refine WPl.nw fun g => ?_)
     | (show WPl _ _ _ _ _ _ _ (⟨_, .indexAddr _ _ _, _, _, _, _⟩ :: _) _; refine WPl.rdX (ReadR.indexE rfl rfl hasA (by first | assumption | omega)) ?_)
     | (show WPl _ _ _ _ _ _ _ (⟨_, .fieldAddr _ _ _, _, _, _, _⟩ :: _) _; refine WPl.rdX (ReadR.fieldE rfl hasA (by first | assumption | omega)) ?_)
     | (show WPl _ _ _ _ _ _ _ (⟨_, .load _ _, _, _, _, _⟩ :: _) _; first | refine WPl.rdX (ReadR.loadE rfl hasA (by assumption)) ?_ | refine WPl.rdX (ReadR.loadES (by assumption) (by first | assumption | omega) rfl hasA) ?_)
     | (show WPl _ _ _ _ _ _ _ (⟨_, .slice _ _ _ _ _, _, _, _, _⟩ :: _) _; first | refine WPl.rdX (ReadR.sliceH rfl rfl hasA (by omega)) ?_ | refine WPl.rdX (ReadR.sliceL rfl rfl hasA (by omega)) ?_ | refine WPl.rdX (ReadR.sliceLH rfl rfl rfl hasA (by omega) (by omega)) ?_)
     | (refine WPl.spQ (fun hc => ?_) (fun hc => ?_) <;> try exact prA)
     | fail)
    exact WPq.dX (vs := [_]) [bx gX 69 (rfx most v2), rowN 75 59 v2 (cutI D i).length (fds (cutI D i))] ⟨rfl, v2, _, hv2, rfl, .inr ⟨i, x, hx, by simpa using hq, rfl⟩⟩
  · rw [he] at c1
    obtain ⟨mi, hmi⟩ : ∃ mi : Int, mi = -1 := ⟨_, rfl⟩
    rw [← hmi] at c1
    have hneg : ¬ mi ≥ 0 := by omega
    have hv : D.any (fun x => decide (x.1 = f)) = false := by
      rw [List.any_eq_false]
      intro x hx; rw [hn x hx]; simp
    unfold RRd
    rw [hv]
    refine Triple.enter Try.func66 rfl Try.ntmps66 rfl (fun W => ?_)
    dsimp only [argsF, Nat.reduceAdd]
    repeat' (first
     | refine WPl.nil ?_ | refine WPq.then ?_ | refine WPq.thenR ?_ | refine WPq.thenE ?_ | refine WPq.blockN ?_ | refine WPq.blockR ?_ | refine WPq.blockE ?_ | refine WPq.blockO rfl ?_ | refine WPc.seq ?_ | refine WPc.block ?_ | refine WPc.ret ?_ | refine WPc.exit ?_ | refine WPc.skip ?_ | refine WPc.region ?_
     | (refine isCond ?_; first | refine WPc.cT ?_ | refine WPc.cF ?_ | (refine WPc.cQ (fun hc => ?_) (fun hc => ?_) <;> try exact prA))
     | (refine isC 8 ?_; refine WPl.cV (c1) ?_ (hΔ := provsX))
     | (refine isD 10 ?_; refine WPl.rdX (ReadR.binE rfl rfl BinR.geq (congrArg Value.bool (decide_eq_false hneg))) ?_)
     | (refine isD 15 ?_; refine WPl.rdX (ReadR.binE rfl rfl BinR.geq (congrArg Value.bool (decide_eq_false hneg))) ?_)
     | (refine isOp ?_; first | refine WPl.rd ?_ | refine WPl.sk ?_ | refine WPl.rdB ?_)
     | (refine isBx ?_; refine WPl.nw fun g => ?_)
     | (show WPl _ _ _ _ _ _ _ (⟨_, .indexAddr _ _ _, _, _, _, _⟩ :: _) _; refine WPl.rdX (ReadR.indexE rfl rfl hasA (by first | assumption | omega)) ?_)
     | (show WPl _ _ _ _ _ _ _ (⟨_, .fieldAddr _ _ _, _, _, _, _⟩ :: _) _; refine WPl.rdX (ReadR.fieldE rfl hasA (by first | assumption | omega)) ?_)
     | (show WPl _ _ _ _ _ _ _ (⟨_, .load _ _, _, _, _, _⟩ :: _) _; first | refine WPl.rdX (ReadR.loadE rfl hasA (by assumption)) ?_ | refine WPl.rdX (ReadR.loadES (by assumption) (by first | assumption | omega) rfl hasA) ?_)
     | (show WPl _ _ _ _ _ _ _ (⟨_, .slice _ _ _ _ _, _, _, _, _⟩ :: _) _; first | refine WPl.rdX (ReadR.sliceH rfl rfl hasA (by omega)) ?_ | refine WPl.rdX (ReadR.sliceL rfl rfl hasA (by omega)) ?_ | refine WPl.rdX (ReadR.sliceLH rfl rfl rfl hasA (by omega) (by omega)) ?_)
     | (refine WPl.spQ (fun hc => ?_) (fun hc => ?_) <;> try exact prA)
     | fail)
    exact WPq.dX (vs := [_]) [bx gX 69 (rfx most vl), rowN 75 59 vl D.length (fds D)] ⟨rfl, vl, D, hvl, rfl, .inl ⟨rfl, fun x hx => by simpa using hn x hx⟩⟩
end
end
end Go.Proofs.Ytncgponcedkihaa
