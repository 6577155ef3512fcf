/- What the row of farmOnes_holds needs: part 6. -/
import Derived.Test.YtpjfkomicehinaaFOn5
/- Layer 20 (farm): slices.Insert, slices.Delete of backends. -/
namespace Go.Proofs.Ytpjfkomicehinaa
section
open Go.RowKit
set_option linter.unusedSimpArgs false
set_option linter.unusedVariables false
theorem OpT.overlaps {P : Program} {n : Nat} {Γ : List Asn} {F : List (Nat × Value)} {d : Option Tmp} {ty : TypeId} {pos : String} {af : Array Edge} {gd : Option (Nat × Bool)} {f : FuncId} {fn : Func} {tS tR e : TypeId} {sz : Nat} [hT : SliI P tS e] [he : EltN P e sz] {x y : Operand} {ts : Array TypeId} {g1 c1 m1 g2 c2 m2 o lb cb : Nat} {xs ys : List Value} {Γf : List Asn}
    (hf : P.funcs[f]? = some fn) (h1 : (fn.name == "runtime.NumGoroutine") = false) (h2 : fn.body.isNone = true) (h3 : Extern.findNext fn = none) (h4 : Extern.find fn = some (Extern.SlicesOverlaps.overlaps #[tS, tS] #[tR]))
    (hx : evF F x = some (.slice (some ⟨g1, 0, none⟩) m1 c1)) (hy : evF F y = some (.slice (some ⟨g2, o, none⟩) lb cb)) (hp : Takes Γ [rowN e sz (.slice (some ⟨g1, 0, none⟩) m1 c1) m1 xs, rowN e sz (.slice (some ⟨g2, 0, none⟩) m2 c2) m2 ys] Γf) (hm1 : 0 < m1) (hm2 : 0 < m2) :
    OpT P n Γ F ⟨d, .call { callee := .value (.func f), args := #[x, y], argTypes := ts }, ty, pos, af, gd⟩ [] (RVal (.bool false)) := fun ρ w hF hw ha => by
  have hA := hw _ (hp.mem_iff.2 (List.mem_cons_self ..))
  have hB := hw _ (hp.mem_iff.2 (List.mem_cons_of_mem _ (List.mem_cons_self ..)))
  have hap : ([rowN e sz (.slice (some ⟨g1, 0, none⟩) m1 c1) m1 xs, rowN e sz (.slice (some ⟨g2, 0, none⟩) m2 c2) m2 ys] ++ Γf).Pairwise Apart := (List.Perm.pairwise_iff (fun h => Apart.symm h) hp).1 ha
  have hne : g1 ≠ g2 := fun e => by
    rw [List.cons_append, List.pairwise_cons] at hap
    exact hap.1 _ (List.mem_cons_self ..) (.inl rfl) g1 rfl (by rw [e]; rfl)
  obtain ⟨i0, z, hi, hz0, hz1, hzs, hby, hsz⟩ := he.parts
  rcases hA.2 with ⟨hv, _⟩ | ⟨_, _, cur1, hv, _, hg1, hn1, _, hs1, _⟩
  · cases hv
  cases hv
  rcases hB.2 with ⟨hv, _⟩ | ⟨_, _, cur2, hv, _, hg2, hn2, _, hs2, _⟩
  · cases hv
  cases hv
  have hk2 : cur2.size ≠ 0 := by
    rw [hs2]
    exact Nat.ne_of_gt (Nat.mul_pos (by omega) hsz)
  have hov := Lib.run_overlaps_apart (P := P) w tS tR e hT.und sz (fun w => by simp [sizeOf, typeInfo, hi, hz1]) ⟨g1, 0, none⟩ ⟨g2, o, none⟩ m1 c1 lb cb hne e e cur1.size cur2.size (by simp [World.shape?, hg1]) (by simp [World.shape?, hg2]) hk2 (by simp [World.frozen?, hg1]) (by simp [World.frozen?, hg1])
  have hrun : (callFunc f #[.slice (some ⟨g1, 0, none⟩) m1 c1, .slice (some ⟨g2, o, none⟩) lb cb]).run P w = .ok (.value (.bool false)) w := by
    rw [run_callFunc_extern hf h1 h2 h3 h4, hov]
    rfl
  have : (execOp ρ.eval ⟨d, .call { callee := .value (.func f), args := #[x, y], argTypes := ts }, ty, pos, af, gd⟩).run P w = .ok (.value (.bool false)) w := by
    have e1 : ρ.eval (.func f) = .func (.func f) #[] #[] := rfl
    simp [execOp, resolve, invoke, Deferred.ofValue, Sem.run_bind, e1, hF.eval hx, hF.eval hy, hrun]
  unfold DoesW
  rw [this]
  exact ⟨[], ⟨rfl, rfl⟩, .nil (Mod.refl _ _)⟩
end
theorem bks_one' {l : List Bk} : ∀ u ∈ bks l, u.oneCell' = true := fun u hu => by
  obtain ⟨L, hL, hu⟩ := List.mem_flatten.1 (by with_unfolding_all exact hu)
  obtain ⟨b, _, rfl⟩ := List.mem_map.1 hL
  exact (bkC_ok b).one u hu
theorem bks_take {l : List Bk} {k : Nat} : (bks l).take (k * 21) = bks (l.take k) := by
  rcases Nat.le_total k l.length with h | h
  · conv => lhs; rw [← List.take_append_drop k l, bks_app]
    rw [List.take_append_of_le_length (by rw [bks_len, List.length_take]; omega), List.take_of_length_le (by rw [bks_len, List.length_take]; omega)]
  · rw [List.take_of_length_le (by rw [bks_len]; omega), List.take_of_length_le h]
theorem bks_drop {l : List Bk} {k : Nat} : (bks l).drop (k * 21) = bks (l.drop k) := by
  rcases Nat.le_total k l.length with h | h
  · conv => lhs; rw [← List.take_append_drop k l, bks_app]
    rw [List.drop_append_of_le_length (by rw [bks_len, List.length_take]; omega), List.drop_of_length_le (by rw [bks_len, List.length_take]; omega), List.nil_append]
  · rw [List.drop_of_length_le (by rw [bks_len]; omega), List.drop_of_length_le h]
    with_unfolding_all rfl
theorem WPl.ovl {P : Program} {n : Nat} {W : World} {S : Nat → Prop} {Γ : List Asn} {F : List (Nat × Value)} {Q : Exit → Act → World → Prop} {ops : Array Oper} {os : List Oper} {d : Nat} {ty : TypeId} {pos : String} {af : Array Edge} {gd : Option (Nat × Bool)} {f : FuncId} {fn : Func} {tS tR e : TypeId} {sz : Nat} [hT : SliI P tS e] [he : EltN P e sz] {x y : Operand} {ts : Array TypeId} {g1 c1 m1 g2 c2 m2 o lb cb : Nat} {xs ys : List Value} {Γf : List Asn}
    (hf : P.funcs[f]? = some fn) (h1 : (fn.name == "runtime.NumGoroutine") = false) (h2 : fn.body.isNone = true) (h3 : Extern.findNext fn = none) (h4 : Extern.find fn = some (Extern.SlicesOverlaps.overlaps #[tS, tS] #[tR])) (hm1 : 0 < m1) (hm2 : 0 < m2)
    (k : WPl P n W S Γ ((d, .bool false) :: F) ops os Q)
    (hx : evF F x = some (.slice (some ⟨g1, 0, none⟩) m1 c1) := by first | rfl | fail) (hy : evF F y = some (.slice (some ⟨g2, o, none⟩) lb cb) := by first | rfl | fail) (hp : Takes Γ [rowN e sz (.slice (some ⟨g1, 0, none⟩) m1 c1) m1 xs, rowN e sz (.slice (some ⟨g2, 0, none⟩) m2 c2) m2 ys] Γf := by first | exact takesA | fail) (hlt : Nat.blt d n = true := by first | rfl | fail) (hw : wantG F ops gd = some true := by first | rfl | fail) :
    WPl P n W S Γ F ops (⟨some d, .call { callee := .value (.func f), args := #[x, y], argTypes := ts }, ty, pos, af, gd⟩ :: os) Q :=
  WPl.op .nil hlt hw (OpT.overlaps hf h1 h2 h3 h4 hx hy hp hm1 hm2) (by rintro v Γ' ⟨rfl, rfl⟩; exact k)
theorem lay_shift {A B Y D : List Value} {n i : Nat} {T : List Value} (hA : A.length = n * 21) (hi : i < n) (hB : B.length = 21) (hY : Y.length = 21) (hT : A.take (i * 21) = T) (hDl : D.length = (n - i) * 21) :
    ((((A ++ Y).take ((i + 1) * 21) ++ (D ++ Y).take ((n - i) * 21) ++ (A ++ Y).drop ((i + 1) * 21 + (n - i) * 21)).take (i * 21)) ++ B.take (1 * 21) ++ ((A ++ Y).take ((i + 1) * 21) ++ (D ++ Y).take ((n - i) * 21) ++ (A ++ Y).drop ((i + 1) * 21 + (n - i) * 21)).drop (i * 21 + 1 * 21)) = T ++ B ++ D := by
  have e1 : (D ++ Y).take ((n - i) * 21) = D := List.take_left' hDl
  have e2 : (A ++ Y).drop ((i + 1) * 21 + (n - i) * 21) = [] := List.drop_of_length_le (by rw [List.length_append]; omega)
  have e3 : ((A ++ Y).take ((i + 1) * 21)).length = (i + 1) * 21 := by rw [List.length_take, List.length_append]; omega
  have e4 : B.take (1 * 21) = B := List.take_of_length_le (by omega)
  rw [e1, e2, e4, List.append_nil, List.take_append_of_le_length (by omega), List.take_take, Nat.min_eq_left (by omega), List.take_append_of_le_length (by omega), hT]
  congr 1
  rw [show i * 21 + 1 * 21 = (i + 1) * 21 by omega]
  exact List.drop_left' e3
theorem clr_len {P : Program} {e : TypeId} {sz j : Nat} [he : EltN P e sz] : (clr P e j).length = j * sz := by
  obtain ⟨i0, z, hi, hz0, hz2, hzs, hby, hsz⟩ := he.parts
  unfold clr
  rw [hi]
  simp [hz0, Builtin.zeroCells, hzs]
theorem lay_grow {A B C Z : List Value} {a d k : Nat} (hA : A.length = a * 21) (hB : B.length = 21) (hC : C.length = d * 21) (hZ : Z.length = k * 21) (hk : d + 1 = k := by omega) :
    (((A ++ Z).take (a * 21) ++ B.take (1 * 21) ++ (A ++ Z).drop (a * 21 + 1 * 21)).take ((a + 1) * 21) ++ C.take (d * 21) ++ ((A ++ Z).take (a * 21) ++ B.take (1 * 21) ++ (A ++ Z).drop (a * 21 + 1 * 21)).drop ((a + 1) * 21 + d * 21)) = A ++ B ++ C := by
  have e1 : (A ++ Z).take (a * 21) = A := List.take_left' hA
  have e2 : B.take (1 * 21) = B := List.take_of_length_le (by omega)
  have e3 : C.take (d * 21) = C := List.take_of_length_le (by omega)
  have e4 : (A ++ B ++ (A ++ Z).drop (a * 21 + 1 * 21)).take ((a + 1) * 21) = A ++ B := List.take_left' (by rw [List.length_append]; omega)
  have e5 : (A ++ B ++ (A ++ Z).drop (a * 21 + 1 * 21)).drop ((a + 1) * 21 + d * 21) = [] := List.drop_of_length_le (by rw [List.length_append, List.length_append, List.length_drop, List.length_append]; omega)
  rw [e1, e2, e4, e3, e5, List.append_nil]
open Go.RowKit
set_option linter.unusedSimpArgs false
set_option linter.unusedVariables false
set_option maxRecDepth 20000
set_option maxHeartbeats 4000000
attribute [local irreducible] WPc WPl WPq ReadR OpT BinR HasS bx rdN rowN Take Takes Prov Triple ResF BuildP Done ag Int.decLt Int.decLe Int.instDecidableEq
attribute [local irreducible] mp rmp rg rgo mput mget mfind mdel gbag bks ies lbB hasB findS doorS mpe
/-- Insert at the end. -/
theorem ginsE_t (vb v1 : Value) (l : List Bk) (c : Bk) (hl : l.length ≤ 1000) : Triple Try.prog 28 #[vb, .int .i64 (l.length : Int), v1] [rowN 36 21 vb l.length (bks l), rowN 36 21 v1 1 (bks [c])] (RRow 36 21 (l ++ [c]).length (bks (l ++ [c]))) := by
  have hL := bks_len (l := l)
  have hc := bks_len (l := [c])
  have hone := bks_one' (l := [c])
  refine Triple.enter Try.func28 rfl Try.ntmps28 rfl (fun W => ?_)
  dsimp only [argsF, Nat.reduceAdd]
  repeat' (first
   | refine WPl.nil ?_ | refine WPq.then ?_ | refine WPq.thenR ?_ | refine WPq.thenE ?_ | refine WPq.blockN ?_ | refine WPq.blockR ?_ | refine WPq.blockE ?_ | refine WPq.blockO rfl ?_ | refine WPc.seq ?_ | refine WPc.block ?_ | refine WPc.ret ?_ | refine WPc.exit ?_ | refine WPc.skip ?_ | refine WPc.region ?_
   | (refine isCond ?_; first | refine WPc.cT ?_ | refine WPc.cF ?_ | (refine WPc.cQ (fun hc => ?_) (fun hc => ?_) <;> try exact prA))
   | (refine isD 12 ?_; refine WPl.rdX (ReadR.sliceL rfl rfl hasA (Nat.le_refl _)) ?_)
   | (refine isD 16 ?_; refine WPl.rdX (ReadR.binE rfl rfl BinR.eql (congrArg Value.bool (decide_eq_false (show ¬ (1 : Int) = 0 by omega)))) ?_)
   | (refine isD 22 ?_; refine WPl.rdX (ReadR.binE rfl rfl BinR.eql (congrArg Value.bool (decide_eq_true rfl))) ?_)
   | (refine isD 25 ?_; refine WPl.appN (m := l.length) (m2 := 1) (xs := bks l) (ys := bks [c]) hc hone (by omega) fun v25 hv25 => ?_)
   | (refine isCp ?_; first | refine WPl.cpA fun v => ?_ | refine WPl.cpE fun v => ?_)
   | (refine isOp ?_; first | refine WPl.rd ?_ | refine WPl.sk ?_ | refine WPl.rdB ?_)
   | (show WPl _ _ _ _ _ _ _ (⟨_, .indexAddr _ _ _, _, _, _, _⟩ :: _) _; refine WPl.rdX (ReadR.indexE rfl rfl hasA (by first | assumption | omega)) ?_)
   | (show WPl _ _ _ _ _ _ _ (⟨_, .fieldAddr _ _ _, _, _, _, _⟩ :: _) _; refine WPl.rdX (ReadR.fieldE rfl hasA (by first | assumption | omega)) ?_)
   | (show WPl _ _ _ _ _ _ _ (⟨_, .load _ _, _, _, _, _⟩ :: _) _; first | refine WPl.rdX (ReadR.loadE rfl hasA (by assumption)) ?_ | refine WPl.rdX (ReadR.loadES (by assumption) (by first | assumption | omega) rfl hasA) ?_)
   | (show WPl _ _ _ _ _ _ _ (⟨_, .slice _ _ _ _ _, _, _, _, _⟩ :: _) _; first | refine WPl.rdX (ReadR.sliceH rfl rfl hasA (by omega)) ?_ | refine WPl.rdX (ReadR.sliceL rfl rfl hasA (by omega)) ?_ | refine WPl.rdX (ReadR.sliceLH rfl rfl rfl hasA (by omega) (by omega)) ?_)
   | (refine WPl.spQ (fun hc => ?_) (fun hc => ?_) <;> try exact prA)
   | fail)
  rw [← bks_app, show l.length + 1 = (l ++ [c]).length by rw [List.length_append]; rfl]
  exact WPq.dR
/-- Insert where there is no room. -/
theorem ginsG_t (g cap : Nat) (v1 : Value) (l : List Bk) (c : Bk) (i : Nat) (hi : i < l.length) (hl : l.length ≤ 1000) (hle : l.length ≤ cap) (hcap : cap < l.length + 1) : Triple Try.prog 28 #[.slice (some ⟨g, 0, none⟩) l.length cap, .int .i64 (i : Int), v1] [rowN 36 21 (.slice (some ⟨g, 0, none⟩) l.length cap) l.length (bks l), rowN 36 21 v1 1 (bks [c])] (RRow 36 21 (l.take i ++ c :: l.drop i).length (bks (l.take i ++ c :: l.drop i))) := by
  have hL := bks_len (l := l)
  have hc := bks_len (l := [c])
  have hone := bks_one' (l := [c])
  have honeD := bks_one' (l := l.drop i)
  have hLt := bks_len (l := l.take i)
  have hLd := bks_len (l := l.drop i)
  rw [List.length_take] at hLt
  rw [List.length_drop] at hLd
  have hne : ¬ (i : Int) = (l.length : Int) := by omega
  have hn1 : Value.int .i64 ((l.length : Int) + ((1 : Nat) : Int)) = .int .i64 ((l.length + 1 : Nat) : Int) := by congr 1
  have hi1 : Value.int .i64 ((i : Int) + ((1 : Nat) : Int)) = .int .i64 ((i + 1 : Nat) : Int) := by congr 1
  have hres : (l.take i ++ c :: l.drop i).length = l.length + 1 := by rw [List.length_append, List.length_cons, List.length_take, List.length_drop]; omega
  have hbres : bks (l.take i) ++ bks [c] ++ bks (l.drop i) = bks (l.take i ++ c :: l.drop i) := by rw [← bks_app, ← bks_app, List.append_assoc]; rfl
  have hgt : ((l.length + 1 : Nat) : Int) > (cap : Int) := by omega
  have hj : Value.int .i64 (((l.length + 1 : Nat) : Int) - (i : Int)) = .int .i64 ((l.length + 1 - i : Nat) : Int) := by congr 1; omega
  have hP : ∀ Γ, rowN 36 21 (.slice (some ⟨g, 0, none⟩) l.length cap) l.length (bks l) ∈ Γ → HasS Γ (.slice (some ⟨g, 0, none⟩) i cap) i (bks (l.take i)) := fun Γ h => by
    have := HasS.sub (HasS.row h) hL (k := 0) (n := i) (by omega)
    rwa [subv_0, Nat.zero_mul, List.drop_zero, bks_take] at this
  have hD : ∀ Γ, rowN 36 21 (.slice (some ⟨g, 0, none⟩) l.length cap) l.length (bks l) ∈ Γ → HasS Γ (.slice (some ⟨g, i * 21, none⟩) (l.length - i) (cap - i)) (l.length - i) (bks (l.drop i)) := fun Γ h => by
    have := HasS.sub (HasS.row h) hL (k := i) (n := l.length - i) (by omega)
    rwa [subv_k (by omega), bks_drop, List.take_of_length_le (by omega)] at this
  have hm40 : i + (l.length + 1 - i) = l.length + 1 := by omega
  have hZl : (clr Try.prog 36 (l.length + 1 - i)).length = (l.length + 1 - i) * 21 := clr_len
  obtain ⟨Z, hZ⟩ : ∃ Z, Z = clr Try.prog 36 (l.length + 1 - i) := ⟨_, rfl⟩
  rw [← hZ] at hZl
  refine Triple.enter Try.func28 rfl Try.ntmps28 rfl (fun W => ?_)
  dsimp only [argsF, Nat.reduceAdd]
  repeat' (first
   | refine WPl.nil ?_ | refine WPq.then ?_ | refine WPq.thenR ?_ | refine WPq.thenE ?_ | refine WPq.blockN ?_ | refine WPq.blockR ?_ | refine WPq.blockE ?_ | refine WPq.blockO rfl ?_ | refine WPc.seq ?_ | refine WPc.block ?_ | refine WPc.ret ?_ | refine WPc.exit ?_ | refine WPc.skip ?_ | refine WPc.region ?_
   | (refine isCond ?_; first | refine WPc.cT ?_ | refine WPc.cF ?_ | (refine WPc.cQ (fun hc => ?_) (fun hc => ?_) <;> try exact prA))
   | (refine isD 12 ?_; refine WPl.rdX (ReadR.sliceLoV (i := i) rfl rfl (by omega) (by omega)) ?_)
   | (refine isD 16 ?_; refine WPl.rdX (ReadR.binE rfl rfl BinR.eql (congrArg Value.bool (decide_eq_false (show ¬ (1 : Int) = 0 by omega)))) ?_)
   | (refine isD 19 ?_; refine WPl.rdX (ReadR.lenV ⟨_, Try.underlying31⟩ rfl) ?_)
   | (refine isD 22 ?_; refine WPl.rdX (ReadR.binE rfl rfl BinR.eql (congrArg Value.bool (decide_eq_false hne))) ?_)
   | (refine isD 28 ?_; refine WPl.rdX (ReadR.binE rfl rfl (BinR.addI (by omega) (by omega)) hn1) ?_)
   | (refine isD 30 ?_; refine WPl.rdX (ReadR.capV ⟨_, Try.underlying31⟩ rfl) ?_)
   | (refine isD 31 ?_; refine WPl.rdX (ReadR.binE rfl rfl BinR.gtr (congrArg Value.bool (decide_eq_true hgt))) ?_)
   | (refine isD 34 ?_; refine WPl.rdX (ReadR.sliceCap (j := i) rfl rfl (by omega)) ?_)
   | (refine isD 37 ?_; refine WPl.rdX (ReadR.binE rfl rfl (BinR.addI (by omega) (by omega)) hn1) ?_)
   | (refine isD 39 ?_; refine WPl.rdX (ReadR.binE rfl rfl (BinR.subI (by omega) (by omega)) hj) ?_)
   | (refine isD 40 ?_; refine WPl.appZ (k := i) (cap := cap) (j := l.length + 1 - i) Try.underlying3 (hP _ memA) (by omega) (by omega) (by omega) (by omega) fun v40 hv40 => ?_; rw [hm40, ← hZ]; refine WPl.know (row_room (v := v40) memA (by omega)) ?_; rintro ⟨g2, cap2, rfl, hc2⟩)
   | (refine isD 43 ?_; refine WPl.rdX (ReadR.sliceLoV (i := i) rfl rfl (by omega) (by omega)) ?_)
   | (refine isD 45 ?_; refine WPl.copyN (k := i) (m := l.length + 1) (dLen := l.length + 1 - i) (m2 := 1) (ys := bks [c]) hasA hc 1 (fun u hu => hone u (List.mem_of_mem_take hu)) (Nat.min_eq_left (by omega)) (by omega) (by omega) (fun v45 => ?_) rfl)
   | (refine isCp ?_; first | refine WPl.cpA fun v => ?_ | refine WPl.cpE fun v => ?_)
   | (refine isOp ?_; first | refine WPl.rd ?_ | refine WPl.sk ?_ | refine WPl.rdB ?_)
   | (show WPl _ _ _ _ _ _ _ (⟨_, .indexAddr _ _ _, _, _, _, _⟩ :: _) _; refine WPl.rdX (ReadR.indexE rfl rfl hasA (by first | assumption | omega)) ?_)
   | (show WPl _ _ _ _ _ _ _ (⟨_, .fieldAddr _ _ _, _, _, _, _⟩ :: _) _; refine WPl.rdX (ReadR.fieldE rfl hasA (by first | assumption | omega)) ?_)
   | (show WPl _ _ _ _ _ _ _ (⟨_, .load _ _, _, _, _, _⟩ :: _) _; first | refine WPl.rdX (ReadR.loadE rfl hasA (by assumption)) ?_ | refine WPl.rdX (ReadR.loadES (by assumption) (by first | assumption | omega) rfl hasA) ?_)
   | (show WPl _ _ _ _ _ _ _ (⟨_, .slice _ _ _ _ _, _, _, _, _⟩ :: _) _; first | refine WPl.rdX (ReadR.sliceH rfl rfl hasA (by omega)) ?_ | refine WPl.rdX (ReadR.sliceL rfl rfl hasA (by omega)) ?_ | refine WPl.rdX (ReadR.sliceLH rfl rfl rfl hasA (by omega) (by omega)) ?_)
   | (refine WPl.spQ (fun hc => ?_) (fun hc => ?_) <;> try exact prA)
   | fail)
  obtain ⟨X1, hX1⟩ : ∃ X1, X1 = (bks (l.take i) ++ Z).take (i * 21) ++ (bks [c]).take (1 * 21) ++ (bks (l.take i) ++ Z).drop (i * 21 + 1 * 21) := ⟨_, rfl⟩
  rw [← hX1]
  repeat' (first
   | refine WPl.nil ?_ | refine WPq.then ?_ | refine WPq.thenR ?_ | refine WPq.thenE ?_ | refine WPq.blockN ?_ | refine WPq.blockR ?_ | refine WPq.blockE ?_ | refine WPq.blockO rfl ?_ | refine WPc.seq ?_ | refine WPc.block ?_ | refine WPc.ret ?_ | refine WPc.exit ?_ | refine WPc.skip ?_ | refine WPc.region ?_
   | (refine isReg 11 ?_; refine WPc.drA [([9], [47, 48, 49, 51, 52, 53]), ([9], [46, 48, 51, 52, 53]), ([9], [46, 47, 51, 52, 53]), ([1, 2, 9], [46, 47, 48, 51, 52, 53]), ([0, 1, 2, 3, 9], [46, 47, 48, 49, 51, 52, 53]), ([9], [46, 47, 48, 49, 50, 52]), ([9], [46, 47, 48, 49, 50, 51]), ([5, 6, 9], [46, 47, 48, 49, 50, 51, 52]), ([0, 1, 2, 3, 4, 5, 6, 7, 9], [46, 47, 48, 49, 50, 51, 52, 53])] [(9, 8), (9, 0), (9, 1), (9, 2), (9, 3), (9, 4), (9, 5), (9, 6), (9, 7)] (Γx := [rowN 36 21 (.slice (some ⟨g2, 0, none⟩) (l.length + 1) cap2) (l.length + 1) X1]) ?_; dsimp only [prev0, List.length_nil, List.length_cons])
   | (refine gAny ?_; first | (refine gD 49 ?_; refine RGl.rdX (fun e hk => by (try dsimp only [bndR, ensR, oksR, fcutR, List.append_nil, List.nil_append, List.cons_append, List.append_assoc] at hk ⊢); exact ReadR.binE rfl rfl (BinR.addI (by omega) (by omega)) hi1) ?_) | (refine gD 50 ?_; refine RGl.rdX (fun e hk => by (try dsimp only [bndR, ensR, oksR, fcutR, List.append_nil, List.nil_append, List.cons_append, List.append_assoc] at hk ⊢); exact ReadR.sliceLoV (i := i + 1) rfl rfl (by omega) (by omega)) ?_) | (refine gD 53 ?_; refine RGl.rdX (fun e hk => by (try dsimp only [bndR, ensR, oksR, fcutR, List.append_nil, List.nil_append, List.cons_append, List.append_assoc] at hk ⊢); exact ReadR.sliceLoV (i := i) rfl rfl (by omega) (by omega)) ?_) | (refine gOp ?_; (refine RGl.turn (fun e hk => by (try dsimp only [bndR, ensR, oksR, fcutR, List.append_nil, List.nil_append, List.cons_append, List.append_assoc] at hk ⊢); exact OpT.copyN (k := i + 1) (m := l.length + 1) (dLen := l.length + 1 - (i + 1)) (m2 := l.length - i) (ys := bks (l.drop i)) rfl rfl takesA (hD _ memA) hLd (l.length - i) (fun u hu => honeD u (List.mem_of_mem_take hu)) (Nat.min_eq_left (by omega)) (by omega) (by omega)) ?_)) | (refine gOp ?_; first | refine RGl.rdA ?_ | refine RGl.rdX (fun e hk => by (try dsimp only [bndR, ensR, oksR, fcutR, List.append_nil, List.nil_append, List.cons_append, List.append_assoc] at hk ⊢); exact readB) ?_) | (refine gCp ?_; refine RGl.cpA ?_) | (refine RGl.fin (fun e hk => ?_); (try dsimp only [bndA, ensAR, oksA, List.append_nil, List.nil_append, List.cons_append, List.append_assoc] at hk ⊢); (repeat (obtain ⟨hk1, hk⟩ := hk))) | fail)
   | (refine isCond ?_; first | refine WPc.cT ?_ | refine WPc.cF ?_ | (refine WPc.cQ (fun hc => ?_) (fun hc => ?_) <;> try exact prA))
   | (refine isD 49 ?_; refine WPl.rdX (ReadR.binE rfl rfl (BinR.addI (by omega) (by omega)) hi1) ?_)
   | (refine isD 50 ?_; refine WPl.rdX (ReadR.sliceLoV (i := i + 1) rfl rfl (by omega) (by omega)) ?_)
   | (refine isD 53 ?_; refine WPl.rdX (ReadR.sliceLoV (i := i) rfl rfl (by omega) (by omega)) ?_)
   | (refine isCp ?_; first | refine WPl.cpA fun v => ?_ | refine WPl.cpE fun v => ?_)
   | (refine isOp ?_; first | refine WPl.rd ?_ | refine WPl.sk ?_ | refine WPl.rdB ?_)
   | (show WPl _ _ _ _ _ _ _ (⟨_, .indexAddr _ _ _, _, _, _, _⟩ :: _) _; refine WPl.rdX (ReadR.indexE rfl rfl hasA (by first | assumption | omega)) ?_)
   | (show WPl _ _ _ _ _ _ _ (⟨_, .fieldAddr _ _ _, _, _, _, _⟩ :: _) _; refine WPl.rdX (ReadR.fieldE rfl hasA (by first | assumption | omega)) ?_)
   | (show WPl _ _ _ _ _ _ _ (⟨_, .load _ _, _, _, _, _⟩ :: _) _; first | refine WPl.rdX (ReadR.loadE rfl hasA (by assumption)) ?_ | refine WPl.rdX (ReadR.loadES (by assumption) (by first | assumption | omega) rfl hasA) ?_)
   | (show WPl _ _ _ _ _ _ _ (⟨_, .slice _ _ _ _ _, _, _, _, _⟩ :: _) _; first | refine WPl.rdX (ReadR.sliceH rfl rfl hasA (by omega)) ?_ | refine WPl.rdX (ReadR.sliceL rfl rfl hasA (by omega)) ?_ | refine WPl.rdX (ReadR.sliceLH rfl rfl rfl hasA (by omega) (by omega)) ?_)
   | (refine WPl.spQ (fun hc => ?_) (fun hc => ?_) <;> try exact prA)
   | fail)
  have hfin : X1.take ((i + 1) * 21) ++ (bks (l.drop i)).take ((l.length - i) * 21) ++ X1.drop ((i + 1) * 21 + (l.length - i) * 21) = bks (l.take i ++ c :: l.drop i) := by
    rw [← hbres, hX1]
    exact lay_grow (by omega) (by simpa using hc) (by omega) hZl
  rw [hfin, ← hres]
  exact WPq.dR
/-- Insert where there is room. -/
theorem ginsS_t (g cap g1 c1 : Nat) (l : List Bk) (c : Bk) (i : Nat) (hi : i < l.length) (hl : l.length ≤ 1000) (hcap : l.length + 1 ≤ cap) : Triple Try.prog 28 #[.slice (some ⟨g, 0, none⟩) l.length cap, .int .i64 (i : Int), .slice (some ⟨g1, 0, none⟩) 1 c1] [rowN 36 21 (.slice (some ⟨g, 0, none⟩) l.length cap) l.length (bks l), rowN 36 21 (.slice (some ⟨g1, 0, none⟩) 1 c1) 1 (bks [c])] (RRow 36 21 (l.take i ++ c :: l.drop i).length (bks (l.take i ++ c :: l.drop i))) := by
  have hL := bks_len (l := l)
  have hc := bks_len (l := [c])
  have hone := bks_one' (l := [c])
  have honeD := bks_one' (l := l.drop i)
  have hLt := bks_len (l := l.take i)
  have hLd := bks_len (l := l.drop i)
  rw [List.length_take] at hLt
  rw [List.length_drop] at hLd
  have hne : ¬ (i : Int) = (l.length : Int) := by omega
  have hn1 : Value.int .i64 ((l.length : Int) + ((1 : Nat) : Int)) = .int .i64 ((l.length + 1 : Nat) : Int) := by congr 1
  have hi1 : Value.int .i64 ((i : Int) + ((1 : Nat) : Int)) = .int .i64 ((i + 1 : Nat) : Int) := by congr 1
  have hres : (l.take i ++ c :: l.drop i).length = l.length + 1 := by rw [List.length_append, List.length_cons, List.length_take, List.length_drop]; omega
  have hbres : bks (l.take i) ++ bks [c] ++ bks (l.drop i) = bks (l.take i ++ c :: l.drop i) := by rw [← bks_app, ← bks_app, List.append_assoc]; rfl
  have hgt : ¬ ((l.length + 1 : Nat) : Int) > (cap : Int) := by
    intro h
    have : (cap : Int) < ((l.length + 1 : Nat) : Int) := h
    omega
  have honeA := bks_one' (l := l)
  refine Triple.enter Try.func28 rfl Try.ntmps28 rfl (fun W => ?_)
  dsimp only [argsF, Nat.reduceAdd]
  refine WPc.rowUp (m := l.length) (m' := l.length + 1) (by omega) (by omega) hcap fun ys hys => ?_
  have hyl : ys.length = 21 := by omega
  have hXl : (bks l ++ ys).length = (l.length + 1) * 21 := by rw [List.length_append]; omega
  have hSrc : ∀ Γ, rowN 36 21 (.slice (some ⟨g, 0, none⟩) (l.length + 1) cap) (l.length + 1) (bks l ++ ys) ∈ Γ → HasS Γ (.slice (some ⟨g, i * 21, none⟩) (l.length + 1 - i) (cap - i)) (l.length + 1 - i) (((bks l ++ ys).drop (i * 21)).take ((l.length + 1 - i) * 21)) := fun Γ h => by
    have := HasS.sub (HasS.row h) hXl (k := i) (n := l.length + 1 - i) (by omega)
    rwa [subv_k (by omega)] at this
  have hS1 : ((bks l ++ ys).drop (i * 21)).take ((l.length + 1 - i) * 21) = bks (l.drop i) ++ ys := by
    rw [List.drop_append_of_le_length (by omega), bks_drop, List.take_of_length_le (by rw [List.length_append]; omega)]
  rw [hS1] at hSrc
  obtain ⟨X1, hX1⟩ : ∃ X1, X1 = bks l ++ ys := ⟨_, rfl⟩
  rw [← hX1] at hSrc hXl ⊢
  obtain ⟨X2, hX2⟩ : ∃ X2, X2 = X1.take ((i + 1) * 21) ++ (bks (l.drop i) ++ ys).take ((l.length - i) * 21) ++ X1.drop ((i + 1) * 21 + (l.length - i) * 21) := ⟨_, rfl⟩
  have hone2 : ∀ u ∈ (bks (l.drop i) ++ ys).take ((l.length - i) * 21), u.oneCell' = true := fun u hu => by
    rw [List.take_left' hLd] at hu
    exact honeD u hu
  have hl2 : (bks (l.drop i) ++ ys).length = (l.length + 1 - i) * 21 := by rw [List.length_append]; omega
  repeat' (first
   | refine WPl.nil ?_ | refine WPq.then ?_ | refine WPq.thenR ?_ | refine WPq.thenE ?_ | refine WPq.blockN ?_ | refine WPq.blockR ?_ | refine WPq.blockE ?_ | refine WPq.blockO rfl ?_ | refine WPc.seq ?_ | refine WPc.block ?_ | refine WPc.ret ?_ | refine WPc.exit ?_ | refine WPc.skip ?_ | refine WPc.region ?_
   | (refine isReg 15 ?_; refine WPc.drA [([9], [70, 71, 72, 74, 75, 76]), ([9], [69, 71, 74, 75, 76]), ([9], [69, 70, 74, 75, 76]), ([1, 2, 9], [69, 70, 71, 74, 75, 76]), ([0, 1, 2, 3, 9], [69, 70, 71, 72, 74, 75, 76]), ([9], [69, 70, 71, 72, 73, 75]), ([9], [69, 70, 71, 72, 73, 74]), ([5, 6, 9], [69, 70, 71, 72, 73, 74, 75]), ([0, 1, 2, 3, 4, 5, 6, 7, 9], [69, 70, 71, 72, 73, 74, 75, 76])] [(9, 8), (9, 0), (9, 1), (9, 2), (9, 3), (9, 4), (9, 5), (9, 6), (9, 7)] (Γx := [rowN 36 21 (.slice (some ⟨g, 0, none⟩) (l.length + 1) cap) (l.length + 1) X1]) ?_; dsimp only [prev0, List.length_nil, List.length_cons])
   | (refine gAny ?_; first | (refine gD 12 ?_; refine RGl.rdX (fun e hk => by (try dsimp only [bndR, ensR, oksR, fcutR, List.append_nil, List.nil_append, List.cons_append, List.append_assoc] at hk ⊢); exact ReadR.sliceLoV (i := i) rfl rfl (by omega) (by omega)) ?_) | (refine gD 16 ?_; refine RGl.rdX (fun e hk => by (try dsimp only [bndR, ensR, oksR, fcutR, List.append_nil, List.nil_append, List.cons_append, List.append_assoc] at hk ⊢); exact ReadR.binE rfl rfl BinR.eql (congrArg Value.bool (decide_eq_false (show ¬ (1 : Int) = 0 by omega)))) ?_) | (refine gD 19 ?_; refine RGl.rdX (fun e hk => by (try dsimp only [bndR, ensR, oksR, fcutR, List.append_nil, List.nil_append, List.cons_append, List.append_assoc] at hk ⊢); exact ReadR.lenV ⟨_, Try.underlying31⟩ rfl) ?_) | (refine gD 22 ?_; refine RGl.rdX (fun e hk => by (try dsimp only [bndR, ensR, oksR, fcutR, List.append_nil, List.nil_append, List.cons_append, List.append_assoc] at hk ⊢); exact ReadR.binE rfl rfl BinR.eql (congrArg Value.bool (decide_eq_false hne))) ?_) | (refine gD 28 ?_; refine RGl.rdX (fun e hk => by (try dsimp only [bndR, ensR, oksR, fcutR, List.append_nil, List.nil_append, List.cons_append, List.append_assoc] at hk ⊢); exact ReadR.binE rfl rfl (BinR.addI (by omega) (by omega)) hn1) ?_) | (refine gD 30 ?_; refine RGl.rdX (fun e hk => by (try dsimp only [bndR, ensR, oksR, fcutR, List.append_nil, List.nil_append, List.cons_append, List.append_assoc] at hk ⊢); exact ReadR.capV ⟨_, Try.underlying31⟩ rfl) ?_) | (refine gD 31 ?_; refine RGl.rdX (fun e hk => by (try dsimp only [bndR, ensR, oksR, fcutR, List.append_nil, List.nil_append, List.cons_append, List.append_assoc] at hk ⊢); exact ReadR.binE rfl rfl BinR.gtr (congrArg Value.bool (decide_eq_false hgt))) ?_) | (refine gD 59 ?_; refine RGl.rdX (fun e hk => by (try dsimp only [bndR, ensR, oksR, fcutR, List.append_nil, List.nil_append, List.cons_append, List.append_assoc] at hk ⊢); exact ReadR.binE rfl rfl (BinR.addI (by omega) (by omega)) hn1) ?_) | (refine gD 60 ?_; refine RGl.rdX (fun e hk => by (try dsimp only [bndR, ensR, oksR, fcutR, List.append_nil, List.nil_append, List.cons_append, List.append_assoc] at hk ⊢); exact ReadR.sliceCap (j := l.length + 1) rfl rfl (by omega)) ?_) | (refine gD 65 ?_; refine RGl.rdX (fun e hk => by (try dsimp only [bndR, ensR, oksR, fcutR, List.append_nil, List.nil_append, List.cons_append, List.append_assoc] at hk ⊢); exact ReadR.binE rfl rfl (BinR.addI (by omega) (by omega)) hi1) ?_) | (refine gD 66 ?_; refine RGl.rdX (fun e hk => by (try dsimp only [bndR, ensR, oksR, fcutR, List.append_nil, List.nil_append, List.cons_append, List.append_assoc] at hk ⊢); exact ReadR.sliceLoV (i := i + 1) rfl rfl (by omega) (by omega)) ?_) | (refine gD 72 ?_; refine RGl.rdX (fun e hk => by (try dsimp only [bndR, ensR, oksR, fcutR, List.append_nil, List.nil_append, List.cons_append, List.append_assoc] at hk ⊢); exact ReadR.binE rfl rfl (BinR.addI (by omega) (by omega)) hi1) ?_) | (refine gD 73 ?_; refine RGl.rdX (fun e hk => by (try dsimp only [bndR, ensR, oksR, fcutR, List.append_nil, List.nil_append, List.cons_append, List.append_assoc] at hk ⊢); exact ReadR.sliceLoV (i := i + 1) rfl rfl (by omega) (by omega)) ?_) | (refine gD 76 ?_; refine RGl.rdX (fun e hk => by (try dsimp only [bndR, ensR, oksR, fcutR, List.append_nil, List.nil_append, List.cons_append, List.append_assoc] at hk ⊢); exact ReadR.sliceLoV (i := i) rfl rfl (by omega) (by omega)) ?_) | (refine gD 80 ?_; refine RGl.rdX (fun e hk => by (try dsimp only [bndR, ensR, oksR, fcutR, List.append_nil, List.nil_append, List.cons_append, List.append_assoc] at hk ⊢); exact ReadR.sliceLoV (i := i) rfl rfl (by omega) (by omega)) ?_) | (refine gOp ?_; (refine RGl.turn (fun e hk => by (try dsimp only [bndR, ensR, oksR, fcutR, List.append_nil, List.nil_append, List.cons_append, List.append_assoc] at hk ⊢); exact OpT.copyN (k := i + 1) (m := l.length + 1) (dLen := l.length + 1 - (i + 1)) (m2 := l.length + 1 - i) (ys := bks (l.drop i) ++ ys) rfl rfl takesA (hSrc _ memA) hl2 (l.length - i) hone2 (by show min _ _ = _; omega) (by omega) (by omega)) ?_)) | (refine gOp ?_; first | refine RGl.rdA ?_ | refine RGl.rdX (fun e hk => by (try dsimp only [bndR, ensR, oksR, fcutR, List.append_nil, List.nil_append, List.cons_append, List.append_assoc] at hk ⊢); exact readB) ?_) | (refine gCp ?_; refine RGl.cpA ?_) | (refine RGl.fin (fun e hk => ?_); (try dsimp only [bndA, ensAR, oksA, List.append_nil, List.nil_append, List.cons_append, List.append_assoc] at hk ⊢); (repeat (obtain ⟨hk1, hk⟩ := hk))) | fail)
   | (refine isCond ?_; first | refine WPc.cT ?_ | refine WPc.cF ?_ | (refine WPc.cQ (fun hc => ?_) (fun hc => ?_) <;> try exact prA))
   | (refine isD 12 ?_; refine WPl.rdX (ReadR.sliceLoV (i := i) rfl rfl (by omega) (by omega)) ?_)
   | (refine isD 16 ?_; refine WPl.rdX (ReadR.binE rfl rfl BinR.eql (congrArg Value.bool (decide_eq_false (show ¬ (1 : Int) = 0 by omega)))) ?_)
   | (refine isD 19 ?_; refine WPl.rdX (ReadR.lenV ⟨_, Try.underlying31⟩ rfl) ?_)
   | (refine isD 22 ?_; refine WPl.rdX (ReadR.binE rfl rfl BinR.eql (congrArg Value.bool (decide_eq_false hne))) ?_)
   | (refine isD 28 ?_; refine WPl.rdX (ReadR.binE rfl rfl (BinR.addI (by omega) (by omega)) hn1) ?_)
   | (refine isD 30 ?_; refine WPl.rdX (ReadR.capV ⟨_, Try.underlying31⟩ rfl) ?_)
   | (refine isD 31 ?_; refine WPl.rdX (ReadR.binE rfl rfl BinR.gtr (congrArg Value.bool (decide_eq_false hgt))) ?_)
   | (refine isD 59 ?_; refine WPl.rdX (ReadR.binE rfl rfl (BinR.addI (by omega) (by omega)) hn1) ?_)
   | (refine isD 60 ?_; refine WPl.rdX (ReadR.sliceCap (j := l.length + 1) rfl rfl (by omega)) ?_)
   | (refine isD 65 ?_; refine WPl.rdX (ReadR.binE rfl rfl (BinR.addI (by omega) (by omega)) hi1) ?_)
   | (refine isD 66 ?_; refine WPl.rdX (ReadR.sliceLoV (i := i + 1) rfl rfl (by omega) (by omega)) ?_)
   | (refine isD 67 ?_; refine WPl.ovl (m1 := 1) (m2 := l.length + 1) Try.func51 (by kernel_rfl) (by kernel_rfl) (by kernel_rfl) (by kernel_rfl) (by omega) (by omega) (xs := bks [c]) (ys := X1) (g1 := g1) (g2 := g) (c1 := c1) (c2 := cap) (tS := 31) (tR := 4) ?_)
   | (refine isD 72 ?_; refine WPl.rdX (ReadR.binE rfl rfl (BinR.addI (by omega) (by omega)) hi1) ?_)
   | (refine isD 73 ?_; refine WPl.rdX (ReadR.sliceLoV (i := i + 1) rfl rfl (by omega) (by omega)) ?_)
   | (refine isD 76 ?_; refine WPl.rdX (ReadR.sliceLoV (i := i) rfl rfl (by omega) (by omega)) ?_)
   | (refine isD 80 ?_; refine WPl.rdX (ReadR.sliceLoV (i := i) rfl rfl (by omega) (by omega)) ?_)
   | (refine isCp ?_; first | refine WPl.cpA fun v => ?_ | refine WPl.cpE fun v => ?_)
   | (refine isOp ?_; first | refine WPl.rd ?_ | refine WPl.sk ?_ | refine WPl.rdB ?_)
   | (show WPl _ _ _ _ _ _ _ (⟨_, .indexAddr _ _ _, _, _, _, _⟩ :: _) _; refine WPl.rdX (ReadR.indexE rfl rfl hasA (by first | assumption | omega)) ?_)
   | (show WPl _ _ _ _ _ _ _ (⟨_, .fieldAddr _ _ _, _, _, _, _⟩ :: _) _; refine WPl.rdX (ReadR.fieldE rfl hasA (by first | assumption | omega)) ?_)
   | (show WPl _ _ _ _ _ _ _ (⟨_, .load _ _, _, _, _, _⟩ :: _) _; first | refine WPl.rdX (ReadR.loadE rfl hasA (by assumption)) ?_ | refine WPl.rdX (ReadR.loadES (by assumption) (by first | assumption | omega) rfl hasA) ?_)
   | (show WPl _ _ _ _ _ _ _ (⟨_, .slice _ _ _ _ _, _, _, _, _⟩ :: _) _; first | refine WPl.rdX (ReadR.sliceH rfl rfl hasA (by omega)) ?_ | refine WPl.rdX (ReadR.sliceL rfl rfl hasA (by omega)) ?_ | refine WPl.rdX (ReadR.sliceLH rfl rfl rfl hasA (by omega) (by omega)) ?_)
   | (refine WPl.spQ (fun hc => ?_) (fun hc => ?_) <;> try exact prA)
   | fail)
  rw [← hX2]
  have hs82 : (X2.take (i * 21) ++ (bks [c]).take (1 * 21) ++ X2.drop (i * 21 + 1 * 21)) = bks (l.take i ++ c :: l.drop i) := by
    rw [← hbres, hX2, hX1]
    exact lay_shift hL (by omega) (by simpa using hc) hyl bks_take hLd
  repeat' (first
   | refine WPl.nil ?_ | refine WPq.then ?_ | refine WPq.thenR ?_ | refine WPq.thenE ?_ | refine WPq.blockN ?_ | refine WPq.blockR ?_ | refine WPq.blockE ?_ | refine WPq.blockO rfl ?_ | refine WPc.seq ?_ | refine WPc.block ?_ | refine WPc.ret ?_ | refine WPc.exit ?_ | refine WPc.skip ?_ | refine WPc.region ?_
   | (refine isCond ?_; first | refine WPc.cT ?_ | refine WPc.cF ?_ | (refine WPc.cQ (fun hc => ?_) (fun hc => ?_) <;> try exact prA))
   | (refine isD 82 ?_; refine WPl.copyN (k := i) (m := l.length + 1) (dLen := l.length + 1 - i) (m2 := 1) (ys := bks [c]) hasA hc 1 (fun u hu => hone u (List.mem_of_mem_take hu)) (Nat.min_eq_left (by omega)) (by omega) (by omega) (fun v82 => ?_) rfl)
   | (refine isCp ?_; first | refine WPl.cpA fun v => ?_ | refine WPl.cpE fun v => ?_)
   | (refine isOp ?_; first | refine WPl.rd ?_ | refine WPl.sk ?_ | refine WPl.rdB ?_)
   | (show WPl _ _ _ _ _ _ _ (⟨_, .indexAddr _ _ _, _, _, _, _⟩ :: _) _; refine WPl.rdX (ReadR.indexE rfl rfl hasA (by first | assumption | omega)) ?_)
   | (show WPl _ _ _ _ _ _ _ (⟨_, .fieldAddr _ _ _, _, _, _, _⟩ :: _) _; refine WPl.rdX (ReadR.fieldE rfl hasA (by first | assumption | omega)) ?_)
   | (show WPl _ _ _ _ _ _ _ (⟨_, .load _ _, _, _, _, _⟩ :: _) _; first | refine WPl.rdX (ReadR.loadE rfl hasA (by assumption)) ?_ | refine WPl.rdX (ReadR.loadES (by assumption) (by first | assumption | omega) rfl hasA) ?_)
   | (show WPl _ _ _ _ _ _ _ (⟨_, .slice _ _ _ _ _, _, _, _, _⟩ :: _) _; first | refine WPl.rdX (ReadR.sliceH rfl rfl hasA (by omega)) ?_ | refine WPl.rdX (ReadR.sliceL rfl rfl hasA (by omega)) ?_ | refine WPl.rdX (ReadR.sliceLH rfl rfl rfl hasA (by omega) (by omega)) ?_)
   | (refine WPl.spQ (fun hc => ?_) (fun hc => ?_) <;> try exact prA)
   | fail)
  rw [hs82, ← hres]
  exact WPq.dR
theorem Triple.knowG {P : Program} {f : FuncId} {args : Array Value} {Γ : List Asn} {R : Value → List Asn → Prop} {p : Prop} (hk : ∀ w, Holds Γ w → p) (h : p → Triple P f args Γ R) : Triple P f args Γ R := by
  with_unfolding_all exact fun w hw ha => h (hk w hw) w hw ha
theorem gins_t (vb v1 : Value) (l : List Bk) (c : Bk) (i : Nat) (hi : i ≤ l.length) (hl : l.length ≤ 1000) : Triple Try.prog 28 #[vb, .int .i64 (i : Int), v1] [rowN 36 21 vb l.length (bks l), rowN 36 21 v1 1 (bks [c])] (RRow 36 21 (l.take i ++ c :: l.drop i).length (bks (l.take i ++ c :: l.drop i))) := by
  by_cases hin : i = l.length
  · subst hin
    rw [List.take_of_length_le (Nat.le_refl _), List.drop_of_length_le (Nat.le_refl _)]
    exact ginsE_t vb v1 l c hl
  · refine Triple.knowG (row_room (v := vb) memA (by omega)) ?_
    rintro ⟨g, cap, rfl, hcap⟩
    by_cases hc : l.length + 1 ≤ cap
    · refine Triple.knowG (row_room (v := v1) memA (by omega)) ?_
      rintro ⟨g1, c1, rfl, hc1⟩
      exact ginsS_t g cap g1 c1 l c i (by omega) hl hc
    · exact ginsG_t g cap v1 l c i (by omega) hl hcap (by omega)
theorem gdelE_t (g cap : Nat) (l : List Bk) (i : Nat) (hi : i < l.length) (hl : l.length ≤ 1000) (hcap : l.length ≤ cap) : Triple Try.prog 46 #[.slice (some ⟨g, 0, none⟩) l.length cap, .int .i64 (i : Int), .int .i64 ((i + 1 : Nat) : Int)] [rowN 36 21 (.slice (some ⟨g, 0, none⟩) l.length cap) l.length (bks l)] (RRow 36 21 (l.take i ++ l.drop (i + 1)).length (bks (l.take i ++ l.drop (i + 1)))) := by
  have hL := bks_len (l := l)
  have hLt := bks_len (l := l.take i)
  have hLd := bks_len (l := l.drop (i + 1))
  rw [List.length_take] at hLt
  rw [List.length_drop] at hLd
  have honeD := bks_one' (l := l.drop (i + 1))
  have hne : ¬ (i : Int) = ((i + 1 : Nat) : Int) := by omega
  have hres : (l.take i ++ l.drop (i + 1)).length = l.length - 1 := by rw [List.length_append, List.length_take, List.length_drop]; omega
  have hkn : i + (l.length - (i + 1)) = l.length - 1 := by omega
  have hD : ∀ Γ, rowN 36 21 (.slice (some ⟨g, 0, none⟩) l.length cap) l.length (bks l) ∈ Γ → HasS Γ (subv 21 (.slice (some ⟨g, 0, none⟩) l.length cap) (i + 1) (l.length - (i + 1))) (l.length - (i + 1)) (bks (l.drop (i + 1))) := fun Γ h => by
    have := HasS.sub (HasS.row h) hL (k := i + 1) (n := l.length - (i + 1)) (by omega)
    rwa [bks_drop, List.take_of_length_le (by omega)] at this
  obtain ⟨X1, hX1⟩ : ∃ X1, X1 = (bks l).take (i * 21) ++ bks (l.drop (i + 1)) ++ (bks l).drop (i * 21 + (bks (l.drop (i + 1))).length) := ⟨_, rfl⟩
  have hX1l : X1.length = l.length * 21 := by rw [hX1, List.length_append, List.length_append, bks_take, List.length_drop]; omega
  have hX1t : X1.take ((l.length - 1) * 21) = bks (l.take i ++ l.drop (i + 1)) := by
    rw [hX1, bks_take, ← bks_app]
    exact List.take_left' (by rw [bks_len, hres])
  refine Triple.enter Try.func46 rfl Try.ntmps46 rfl (fun W => ?_)
  dsimp only [argsF, Nat.reduceAdd]
  repeat' (first
   | refine WPl.nil ?_ | refine WPq.then ?_ | refine WPq.thenR ?_ | refine WPq.thenE ?_ | refine WPq.blockN ?_ | refine WPq.blockR ?_ | refine WPq.blockE ?_ | refine WPq.blockO rfl ?_ | refine WPc.seq ?_ | refine WPc.block ?_ | refine WPc.ret ?_ | refine WPc.exit ?_ | refine WPc.skip ?_ | refine WPc.region ?_
   | (refine isReg 5 ?_; refine WPc.drA [([8], [21, 23, 24, 25]), ([8], [20, 23, 24, 25]), ([0, 1, 8], [20, 21, 23, 24, 25]), ([8], [20, 21, 22, 24]), ([8], [20, 21, 22, 23]), ([3, 4, 8], [20, 21, 22, 23, 24]), ([0, 1, 2, 3, 4, 5, 8], [20, 21, 22, 23, 24, 25]), ([0, 1, 2, 3, 4, 5, 6, 8], [20, 21, 22, 23, 24, 25, 26])] [(8, 6), (8, 0), (8, 1), (8, 2), (8, 3), (8, 4), (8, 5)] (Γx := [rowN 36 21 (.slice (some ⟨g, 0, none⟩) l.length cap) l.length (bks l)]) ?_; dsimp only [prev0, List.length_nil, List.length_cons])
   | (refine gAny ?_; first | (refine gD 12 ?_; refine RGl.rdX (fun e hk => by (try dsimp only [bndR, ensR, oksR, fcutR, List.append_nil, List.nil_append, List.cons_append, List.append_assoc] at hk ⊢); exact ReadR.lenV ⟨_, Try.underlying31⟩ rfl) ?_) | (refine gD 13 ?_; refine RGl.rdX (fun e hk => by (try dsimp only [bndR, ensR, oksR, fcutR, List.append_nil, List.nil_append, List.cons_append, List.append_assoc] at hk ⊢); exact ReadR.slice3V (i := i) (j := i + 1) (m := l.length) rfl rfl rfl rfl (by omega) (by omega) hcap) ?_) | (refine gD 16 ?_; refine RGl.rdX (fun e hk => by (try dsimp only [bndR, ensR, oksR, fcutR, List.append_nil, List.nil_append, List.cons_append, List.append_assoc] at hk ⊢); exact ReadR.binE rfl rfl BinR.eql (congrArg Value.bool (decide_eq_false hne))) ?_) | (refine gD 19 ?_; refine RGl.rdX (fun e hk => by (try dsimp only [bndR, ensR, oksR, fcutR, List.append_nil, List.nil_append, List.cons_append, List.append_assoc] at hk ⊢); exact ReadR.lenV ⟨_, Try.underlying31⟩ rfl) ?_) | (refine gD 22 ?_; refine RGl.rdX (fun e hk => by (try dsimp only [bndR, ensR, oksR, fcutR, List.append_nil, List.nil_append, List.cons_append, List.append_assoc] at hk ⊢); exact ReadR.sliceCap (j := i) rfl rfl (by omega)) ?_) | (refine gOp ?_; (refine RGl.turns (c := fun _ => .slice (some ⟨g, 0, none⟩) (i + (l.length - (i + 1))) cap) (fun e hk => by (try dsimp only [bndR, ensR, oksR, fcutR, List.append_nil, List.nil_append, List.cons_append, List.append_assoc] at hk ⊢); exact OpT.appIn (k := i) (m := l.length) (m2 := l.length - (i + 1)) (ys := bks (l.drop (i + 1))) rfl rfl takesA (hD _ memA) hLd honeD (by omega) (by omega)) ?_)) | (refine gOp ?_; first | refine RGl.rdA ?_ | refine RGl.rdX (fun e hk => by (try dsimp only [bndR, ensR, oksR, fcutR, List.append_nil, List.nil_append, List.cons_append, List.append_assoc] at hk ⊢); exact readB) ?_) | (refine gApp ?_; refine RGl.appA ?_) | (refine RGl.fin (fun e hk => ?_); (try dsimp only [bndA, ensAR, oksA, List.append_nil, List.nil_append, List.cons_append, List.append_assoc] at hk ⊢); (repeat (obtain ⟨hk1, hk⟩ := hk))) | fail)
   | (refine isCond ?_; first | refine WPc.cT ?_ | refine WPc.cF ?_ | (refine WPc.cQ (fun hc => ?_) (fun hc => ?_) <;> try exact prA))
   | (refine isD 12 ?_; refine WPl.rdX (ReadR.lenV ⟨_, Try.underlying31⟩ rfl) ?_)
   | (refine isD 13 ?_; refine WPl.rdX (ReadR.slice3V (i := i) (j := i + 1) (m := l.length) rfl rfl rfl rfl (by omega) (by omega) hcap) ?_)
   | (refine isD 16 ?_; refine WPl.rdX (ReadR.binE rfl rfl BinR.eql (congrArg Value.bool (decide_eq_false hne))) ?_)
   | (refine isD 19 ?_; refine WPl.rdX (ReadR.lenV ⟨_, Try.underlying31⟩ rfl) ?_)
   | (refine isD 22 ?_; refine WPl.rdX (ReadR.sliceCap (j := i) rfl rfl (by omega)) ?_)
   | (refine isOp ?_; first | refine WPl.rd ?_ | refine WPl.sk ?_ | refine WPl.rdB ?_)
   | (show WPl _ _ _ _ _ _ _ (⟨_, .indexAddr _ _ _, _, _, _, _⟩ :: _) _; refine WPl.rdX (ReadR.indexE rfl rfl hasA (by first | assumption | omega)) ?_)
   | (show WPl _ _ _ _ _ _ _ (⟨_, .fieldAddr _ _ _, _, _, _, _⟩ :: _) _; refine WPl.rdX (ReadR.fieldE rfl hasA (by first | assumption | omega)) ?_)
   | (show WPl _ _ _ _ _ _ _ (⟨_, .load _ _, _, _, _, _⟩ :: _) _; first | refine WPl.rdX (ReadR.loadE rfl hasA (by assumption)) ?_ | refine WPl.rdX (ReadR.loadES (by assumption) (by first | assumption | omega) rfl hasA) ?_)
   | (show WPl _ _ _ _ _ _ _ (⟨_, .slice _ _ _ _ _, _, _, _, _⟩ :: _) _; first | refine WPl.rdX (ReadR.sliceH rfl rfl hasA (by omega)) ?_ | refine WPl.rdX (ReadR.sliceL rfl rfl hasA (by omega)) ?_ | refine WPl.rdX (ReadR.sliceLH rfl rfl rfl hasA (by omega) (by omega)) ?_)
   | (refine WPl.spQ (fun hc => ?_) (fun hc => ?_) <;> try exact prA)
   | fail)
  rw [hkn, ← hX1]
  repeat' (first
   | refine WPl.nil ?_ | refine WPq.then ?_ | refine WPq.thenR ?_ | refine WPq.thenE ?_ | refine WPq.blockN ?_ | refine WPq.blockR ?_ | refine WPq.blockE ?_ | refine WPq.blockO rfl ?_ | refine WPc.seq ?_ | refine WPc.block ?_ | refine WPc.ret ?_ | refine WPc.exit ?_ | refine WPc.skip ?_ | refine WPc.region ?_
   | (refine isCond ?_; first | refine WPc.cT ?_ | refine WPc.cF ?_ | (refine WPc.cQ (fun hc => ?_) (fun hc => ?_) <;> try exact prA))
   | (refine isD 29 ?_; refine WPl.rdX (ReadR.lenV ⟨_, Try.underlying31⟩ rfl) ?_)
   | (refine isD 31 ?_; refine WPl.rdX (ReadR.sliceLHV (m := l.length) (i := l.length - 1) (j := l.length) rfl rfl rfl (by omega) hcap) ?_)
   | (show WPl _ _ _ _ _ _ _ (⟨none, .call ⟨.builtin .clear, _, _⟩, _, _, _, _⟩ :: _) _; refine WPl.clearN (e := 36) (sz := 21) (k := l.length - 1) (j := l.length - (l.length - 1)) (m := l.length) (s := .slice (some ⟨g, 0, none⟩) l.length cap) (xs := X1) (by kernel_rfl) (by omega) ?_)
   | (refine isOp ?_; first | refine WPl.rd ?_ | refine WPl.sk ?_ | refine WPl.rdB ?_)
   | (show WPl _ _ _ _ _ _ _ (⟨_, .indexAddr _ _ _, _, _, _, _⟩ :: _) _; refine WPl.rdX (ReadR.indexE rfl rfl hasA (by first | assumption | omega)) ?_)
   | (show WPl _ _ _ _ _ _ _ (⟨_, .fieldAddr _ _ _, _, _, _, _⟩ :: _) _; refine WPl.rdX (ReadR.fieldE rfl hasA (by first | assumption | omega)) ?_)
   | (show WPl _ _ _ _ _ _ _ (⟨_, .load _ _, _, _, _, _⟩ :: _) _; first | refine WPl.rdX (ReadR.loadE rfl hasA (by assumption)) ?_ | refine WPl.rdX (ReadR.loadES (by assumption) (by first | assumption | omega) rfl hasA) ?_)
   | (show WPl _ _ _ _ _ _ _ (⟨_, .slice _ _ _ _ _, _, _, _, _⟩ :: _) _; first | refine WPl.rdX (ReadR.sliceH rfl rfl hasA (by omega)) ?_ | refine WPl.rdX (ReadR.sliceL rfl rfl hasA (by omega)) ?_ | refine WPl.rdX (ReadR.sliceLH rfl rfl rfl hasA (by omega) (by omega)) ?_)
   | (refine WPl.spQ (fun hc => ?_) (fun hc => ?_) <;> try exact prA)
   | fail)
  refine WPq.rowDown (m := l.length) (xs := X1.take ((l.length - 1) * 21) ++ clr Try.prog 36 (l.length - (l.length - 1))) (l.length - 1) (by omega) (by omega) ?_
  rw [List.take_left' (by rw [List.length_take]; omega), hX1t, ← hres]
  exact WPq.dR
theorem gdel_t (vb : Value) (l : List Bk) (i : Nat) (hi : i < l.length) (hl : l.length ≤ 1000) : Triple Try.prog 46 #[vb, .int .i64 (i : Int), .int .i64 ((i + 1 : Nat) : Int)] [rowN 36 21 vb l.length (bks l)] (RRow 36 21 (l.take i ++ l.drop (i + 1)).length (bks (l.take i ++ l.drop (i + 1)))) := by
  refine Triple.knowG (row_room (v := vb) memA (by omega)) ?_
  rintro ⟨g, cap, rfl, hcap⟩
  exact gdelE_t g cap l i hi hl hcap
end Go.Proofs.Ytpjfkomicehinaa
