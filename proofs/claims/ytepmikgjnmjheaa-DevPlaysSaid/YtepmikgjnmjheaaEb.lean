/- Reference of layer 3 (dev): its calls, told by the same plain functions as the program's. -/
import Derived.Test.YtepmikgjnmjheaaEa
namespace Go.Proofs.Ytepmikgjnmjheaa
open Go.RowKit
set_option linter.unusedSimpArgs false
set_option linter.unusedVariables false
theorem WPq.nilRowN {n : Nat} {W : World} {S : Nat → Prop} {Γ : List Asn} {F : List (Nat × Value)} {Q : Exit → Act → World → Prop} {e : Exit} (ety : TypeId) (sz : Nat) (h : WPq n W S (rowN ety sz (.slice none 0 0) 0 [] :: Γ) F Q e) : WPq n W S Γ F Q e := fun a w hf hg =>
  h a w hf ⟨hg.mod, fun A hA => by
      rcases List.mem_cons.1 hA with rfl | hA
      · exact World.ownsRow_nil w 0 ety sz
      · exact hg.all A hA,
    List.pairwise_cons.2 ⟨fun B _ _ g hg' _ => (by cases (show (none : Option Nat) = some g from hg')), hg.apart⟩, fun A hA ho g hg' => by
      rcases List.mem_cons.1 hA with rfl | hA
      · exact (by cases (show (none : Option Nat) = some g from hg'))
      · exact hg.mine A hA ho g hg'⟩
section
variable {P : Program} {n : Nat} {Γ : List Asn} {F : List (Nat × Value)} {d : Option Tmp} {ty : TypeId} {pos : String} {af : Array Edge} {gd : Option (Nat × Bool)}
def setsV (l : List Value) : List (Nat × Value) → List Value
  | [] => l
  | (i, v) :: qs => setsV (l.set i v) qs
def evVs (F : List (Nat × Value)) (m : Nat) : List (Nat × Operand) → List (Nat × Value) → Prop
  | [], [] => True
  | (j, x) :: ps, (i, v) :: qs => Nat.beq i j = true ∧ Nat.blt i m = true ∧ evF F x = some v ∧ v.oneCell' = true ∧ evVs F m ps qs
  | _, _ => False
theorem evVs.nil {m : Nat} : evVs F m [] [] := trivial
theorem evVs.cons {m j : Nat} {x : Operand} {ps : List (Nat × Operand)} {v : Value} {qs : List (Nat × Value)} (h0 : Nat.blt j m = true) (h2 : evF F x = some v) (h3 : v.oneCell' = true) (k : evVs F m ps qs) : evVs F m ((j, x) :: ps) ((j, v) :: qs) := ⟨Nat.beq_refl j, h0, h2, h3, k⟩
theorem fill_arrV {a : Act} {m : Nat} (hf : Fr n F a) : ∀ (ps : List (Nat × Operand)) (qs : List (Nat × Value)) (l : List Value), evVs F m ps qs → l.length = m →
    Instr.fill (fun i => some (i * 1, 1)) l.toArray (ps.map fun q => (q.1, a.eval q.2)) = some (setsV l qs).toArray ∧ (setsV l qs).length = m
  | [], [], l, _, h => by simp [Instr.fill, setsV, h]
  | (j, x) :: ps, (i, v) :: qs, l, h, hl => by
    obtain ⟨h1, h0, h2, h3, h5⟩ := h
    obtain rfl := beq_true h1
    have hlt : i < m := Nat.le_of_ble_eq_true h0
    have ih := fill_arrV hf ps qs (l.set i v) h5 (by simp [hl])
    refine ⟨?_, ih.2⟩
    have hc := cells_one (v := v) h3
    simp only [List.map_cons, hf.eval h2, Instr.fill, hc, Nat.mul_one]
    have hno : ¬ ((#[v] : Array Value).size ≠ 1 || decide (i + (#[v] : Array Value).size > l.toArray.size)) = true := by simp; omega
    rw [if_neg hno]
    have e2 : (((#[v] : Array Value).zipIdx).foldl (fun cs (c, j) => cs.setIfInBounds (i + j) c) l.toArray) = (l.set i v).toArray := by
      simp
    rw [e2]
    have ih1 := ih.1
    simp only [Nat.mul_one] at ih1
    exact ih1
  | [], _ :: _, _, h, _ => h.elim
  | _ :: _, [], _, h, _ => h.elim
theorem ReadR.buildArrV {T e : TypeId} {m : Nat} {zs : List Value} [hT : ArrI P T m e] [hz : ZeroI P T [(m, zs)]] [he : TyI P e false 1] {ps : List (Nat × Operand)} {qs : List (Nat × Value)} (h : evVs F m ps qs) (hl0 : zs.length = m := by rfl) :
    ReadR P n Γ F ⟨d, .build T ps.toArray, ty, pos, af, gd⟩ (ag [(m, setsV zs qs)]) := fun ρ w hf hw => by
  obtain ⟨z, h1, h2⟩ := hz.run w
  have h3 := (fill_arrV hf ps qs zs h hl0).1
  have hl : (ps.toArray.map fun (i, x) => (i, ρ.eval x)).toList = ps.map fun x => (x.1, ρ.eval x.2) := by simp
  simp only [flat, List.append_nil] at h2
  simp only [execOp, Instr.build, Sem.run_bind, h1, Result.andThen_ok, run_underlying hT.und, he.run_sizeOf, hl, h2, h3, Sem.run_pure, ag, flat, List.append_nil]
theorem ReadR.buildF4 {T e : TypeId} {zs : List Value} [hT : ArrI P T 4 e] [hz : ZeroI P T [(4, zs)]] [he : TyI P e false 1] {ps : List (Nat × Operand)} (h : evVs F 4 ps [(0, .int .i64 (-1)), (1, .int .i64 (-1)), (2, .int .i64 (-1)), (3, .int .i64 (-1))]) (hl0 : zs.length = 4 := by rfl) :
    ReadR P n Γ F ⟨d, .build T ps.toArray, ty, pos, af, gd⟩ (ag [(4, intsV f4)]) := by
  have := ReadR.buildArrV (P := P) (n := n) (Γ := Γ) (d := d) (ty := ty) (pos := pos) (af := af) (gd := gd) (T := T) (e := e) (m := 4) (zs := zs) h hl0
  match zs, hl0, this with
  | [_, _, _, _], _, this => exact this
end
open Go.RowKit
set_option linter.unusedSimpArgs false
set_option linter.unusedVariables false
set_option maxRecDepth 20000
set_option maxHeartbeats 4000000
attribute [local irreducible] WPc WPl WPq ReadR OpT BinR HasS bx rdN rowN Take Takes Prov Triple ResF BuildP Done ag Int.decLt Int.decLe Int.instDecidableEq
attribute [local irreducible] mp rmp rg rgo bag vrow secs mput mget mfind mdel intsV skeys vault pickG fburn fb1 valsV
def RfS.vw (R : RfS) : Dv := ⟨R.fu, R.L.map (·.2), fun j => (vers R.Z (j : Int)).map (·.2), R.wr⟩
def RRf (gX n k : Nat) (c : Value) (D : Dv) : Value → List Asn → Prop := fun v Γ => ∃ R, v = c ∧ R.vw = D ∧ RInv n k R ∧ Γ = rsA gX R
def RRnew (n : Nat) : Value → List Asn → Prop := fun v Γ => ∃ gX R, v = hD gX ∧ R.vw = ⟨f4, List.replicate n (secF 0), fun _ => [], 0⟩ ∧ RInv n 0 R ∧ Γ = rsA gX R
structure NOk (n : Nat) (st : Nat × List (Value × Sec) × Value) : Prop where
  v : st.2.2.oneCell' = true
  l : st.1 ≤ n
  e : st.2.1.length = st.1
  m : ∀ x ∈ st.2.1, x.2 = secF 0 ∧ x.1.oneCell' = true
theorem secF0_b : (secF 0).b = List.replicate 256 0 := rfl
theorem f4_ok : FOk [(4, intsV f4)] := FOk.seg (by rw [intsV_len]; rfl) (intsV_one f4) .nil
theorem rdc_ok {vL vA vB : Value} {fu : List Int} {wr : Int} (h1 : vL.oneCell' = true) (h2 : vA.oneCell' = true) (h3 : vB.oneCell' = true) (h4 : fu.length = 4) : FOk (rdc vL vA vB fu wr) := .one1 h1 (.one1 h2 (.one1 h3 (FOk.seg (by rw [intsV_len, h4]) (intsV_one fu) (.one1 rfl .nil))))
theorem rnew_t (n : Nat) (hn : n ≤ 100000) : Triple Try.prog 21 #[.int .i64 (n : Int)] [] (RRnew n) := by
  have e1 : rowN 31 1 (.slice none 0 0) 0 [] = rowN 31 1 (.slice none 0 0) 0 (valsV []) := by with_unfolding_all rfl
  have e2 : rowN 3 1 (.slice none 0 0) 0 [] = rowN 3 1 (.slice none 0 0) 0 (intsV (zAt [])) := by with_unfolding_all rfl
  refine Triple.enter Try.func21 rfl Try.ntmps21 rfl (fun W => ?_)
  dsimp only [argsF, Nat.reduceAdd]
  repeat' (first
   | refine WPl.nil ?_ | refine WPq.then ?_ | refine WPq.thenR ?_ | refine WPq.thenE ?_ | refine WPq.blockN ?_ | refine WPq.blockR ?_ | refine WPq.blockE ?_ | refine WPq.blockO rfl ?_ | refine WPc.seq ?_ | refine WPc.block ?_ | refine WPc.ret ?_ | refine WPc.exit ?_ | refine WPc.skip ?_ | refine WPc.region ?_
   | (refine isCond ?_; first | refine WPc.cT ?_ | refine WPc.cF ?_ | (refine WPc.cQ (fun hc => ?_) (fun hc => ?_) <;> try exact prA))
   | (refine isD 5 ?_; refine WPl.rdX (ReadR.buildF4 (.cons rfl rfl rfl (.cons rfl rfl rfl (.cons rfl rfl rfl (.cons rfl rfl rfl .nil))))) ?_)
   | (refine isD 6 ?_; refine WPl.rdX (ReadR.build (cs' := rdc (.slice none 0 0) (.slice none 0 0) (.slice none 0 0) f4 0) (.cons (off := 3) (sz := 4) (new := [(4, intsV f4)]) rfl rfl (.agg f4_ok) rfl rfl .nil)) ?_)
   | (refine isD 7 ?_; refine WPl.boxC (rdc (.slice none 0 0) (.slice none 0 0) (.slice none 0 0) f4 0) (rdc_ok rfl rfl rfl rfl) rfl (fun gX => ?_))
   | (refine isMk ?_; refine WPl.mk fun v hv => ?_)
   | (refine isOp ?_; first | refine WPl.rd ?_ | refine WPl.sk ?_ | refine WPl.rdB ?_)
   | (refine isBx ?_; refine WPl.nw fun g => ?_)
   | (refine isSt ?_; first | refine WPl.st1 ?_ | refine WPl.stA ?_ | refine WPl.stEB ?_ | refine WPl.stRB ?_)
   | (show WPl _ _ _ _ _ _ _ (⟨_, .indexAddr _ _ _, _, _, _, _⟩ :: _) _; refine WPl.rdX (ReadR.indexE rfl rfl hasA (by first | assumption | omega)) ?_)
   | (show WPl _ _ _ _ _ _ _ (⟨_, .fieldAddr _ _ _, _, _, _, _⟩ :: _) _; refine WPl.rdX (ReadR.fieldE rfl hasA (by first | assumption | omega)) ?_)
   | (show WPl _ _ _ _ _ _ _ (⟨_, .load _ _, _, _, _, _⟩ :: _) _; first | refine WPl.rdX (ReadR.loadE rfl hasA (by assumption)) ?_ | refine WPl.rdX (ReadR.loadES (by assumption) (by first | assumption | omega) rfl hasA) ?_)
   | (show WPl _ _ _ _ _ _ _ (⟨_, .slice _ _ _ _ _, _, _, _, _⟩ :: _) _; first | refine WPl.rdX (ReadR.sliceH rfl rfl hasA (by omega)) ?_ | refine WPl.rdX (ReadR.sliceL rfl rfl hasA (by omega)) ?_ | refine WPl.rdX (ReadR.sliceLH rfl rfl rfl hasA (by omega) (by omega)) ?_)
   | (refine WPl.spQ (fun hc => ?_) (fun hc => ?_) <;> try exact prA)
   | fail)
  refine WPc.vault0 ?_
  refine WPc.nilRowN 31 1 ?_
  rw [e1]
  first | refine WPc.loop (σ := Nat × List (Value × Sec) × Value) (fun st => NOk n st) (fun st => [bx gX 51 (rdc st.2.2 (.slice none 0 0) (.slice none 0 0) f4 0), rowN 31 1 st.2.2 st.1 (valsV st.2.1), vault st.2.1.reverse]) (fun st => [(0, .int .i64 (n : Int)), (3, hD gX), (4, .int .i64 (st.1 : Int))]) (fun st => n - st.1) ((0, [], .slice none 0 0)) ?_ takesA frsA (fun st km hx hk => ?_)
  · exact ⟨rfl, Nat.zero_le _, rfl, fun x hx => by cases hx⟩
  obtain ⟨i, L, vL⟩ := st
  obtain ⟨hv, hl, he, hm⟩ := hx
  dsimp only at hv hl he hm hk ⊢
  have hkm : km = n - i := hk
  clear hk
  by_cases hlt : i < n
  · have hlt' : (i : Int) < (n : Int) := by omega
    repeat' (first
     | refine WPl.nil ?_ | refine WPq.then ?_ | refine WPq.thenR ?_ | refine WPq.thenE ?_ | refine WPq.blockN ?_ | refine WPq.blockR ?_ | refine WPq.blockE ?_ | refine WPq.blockO rfl ?_ | refine WPc.seq ?_ | refine WPc.block ?_ | refine WPc.ret ?_ | refine WPc.exit ?_ | refine WPc.skip ?_ | refine WPc.region ?_
     | (refine isReg 5 ?_; refine WPc.drA [([11, 12], [14, 15, 16, 17, 18, 19, 20]), ([11, 12], [13, 18, 19]), ([1, 11, 12], [13, 14, 18, 19]), ([1, 2, 11, 12], [13, 14, 15, 18, 19]), ([1, 2, 3, 11, 12], [13, 14, 15, 16, 18, 19]), ([11, 12], [13, 14, 15, 16, 17]), ([5, 11, 12], [13, 14, 15, 16, 17, 18]), ([1, 2, 3, 4, 5, 6, 11, 12], [13, 14, 15, 16, 17, 18, 19]), ([0, 1, 2, 3, 4, 5, 6, 7, 11, 12], [13, 14, 15, 16, 17, 18, 19, 20]), ([0, 1, 2, 3, 4, 5, 6, 7, 8, 11, 12], [13, 14, 15, 16, 17, 18, 19, 20, 21]), ([0, 1, 2, 3, 4, 5, 6, 7, 8, 9, 11, 12], [13, 14, 15, 16, 17, 18, 19, 20, 21, 22])] [(12, 7), (11, 10), (12, 1), (12, 2), (12, 3), (12, 4), (12, 5), (12, 6), (11, 0), (11, 1), (11, 2), (11, 3), (11, 4), (11, 5), (11, 6), (11, 7), (11, 8), (11, 9)] (Γx := [bx gX 51 (rdc vL (.slice none 0 0) (.slice none 0 0) f4 0), rowN 31 1 vL i (valsV L)]) ?_; dsimp only [prev0, List.length_nil, List.length_cons])
     | (refine gAny ?_; first | (refine gD 20 ?_; refine RGl.row (Γ1 := fun e => [rowN 31 1 vL i ((valsV L))]) (m := fun e => i + 1) (xs := fun e => (valsV L) ++ [(e 5).1]) (fun e hk => by (try dsimp only [bndR, ensR, oksR, fcutR, List.append_nil, List.nil_append, List.cons_append, List.append_assoc] at hk ⊢); exact OpT.appendN (m := i) (m2 := 1) (xs := (valsV L)) (ys := [(e 5).1]) rfl rfl takesA (hasA) rfl (fun u hu => by rw [List.mem_singleton.1 hu]; (repeat (obtain ⟨hk1, hk⟩ := hk)) <;> assumption) (by omega)) ?_) | (refine gSt ?_; refine RGl.turn (fun e hk => by (try dsimp only [bndR, ensR, oksR, fcutR, List.append_nil, List.nil_append, List.cons_append, List.append_assoc] at hk ⊢); exact OpT.store1 rfl rfl takesA (by (repeat (obtain ⟨hk1, hk⟩ := hk)) <;> assumption) (by dsimp only [sel, takeCh, upd, dropCh, appCh, setAt, chAt, Option.map_some, List.cons_append, List.nil_append, Nat.reduceSub, Nat.reduceAdd] <;> exact rfl)) ?_) | (refine gOp ?_; first | refine RGl.rdA ?_ | refine RGl.rdX (fun e hk => by (try dsimp only [bndR, ensR, oksR, fcutR, List.append_nil, List.nil_append, List.cons_append, List.append_assoc] at hk ⊢); exact readB) ?_) | (refine gLit ?_; refine RGl.litA ?_) | (refine gApp ?_; refine RGl.appA ?_) | (refine gSt ?_; refine RGl.stA ?_) | (refine gMk ?_; refine RGl.mkA ?_) | (refine RGl.fin (fun e hk => ?_); (try dsimp only [bndA, ensAR, oksA, List.append_nil, List.nil_append, List.cons_append, List.append_assoc] at hk ⊢); (repeat (obtain ⟨hk1, hk⟩ := hk))) | fail)
     | (refine isCond ?_; first | refine WPc.cT ?_ | refine WPc.cF ?_ | (refine WPc.cQ (fun hc => ?_) (fun hc => ?_) <;> try first | exact prA | (exfalso; first | omega)))
     | (refine isMk ?_; refine WPl.mk fun v hv => ?_)
     | (refine isOp ?_; first | refine WPl.rd ?_ | refine WPl.sk ?_ | refine WPl.rdB ?_)
     | (refine isBx ?_; refine WPl.nw fun g => ?_)
     | (refine isSt ?_; first | refine WPl.st1 ?_ | refine WPl.stA ?_ | refine WPl.stEB ?_ | refine WPl.stRB ?_)
     | (show WPl _ _ _ _ _ _ _ (⟨_, .indexAddr _ _ _, _, _, _, _⟩ :: _) _; refine WPl.rdX (ReadR.indexE rfl rfl hasA (by first | assumption | omega)) ?_)
     | (show WPl _ _ _ _ _ _ _ (⟨_, .fieldAddr _ _ _, _, _, _, _⟩ :: _) _; refine WPl.rdX (ReadR.fieldE rfl hasA (by first | assumption | omega)) ?_)
     | (show WPl _ _ _ _ _ _ _ (⟨_, .load _ _, _, _, _, _⟩ :: _) _; first | refine WPl.rdX (ReadR.loadE rfl hasA (by assumption)) ?_ | refine WPl.rdX (ReadR.loadES (by assumption) (by first | assumption | omega) rfl hasA) ?_)
     | (show WPl _ _ _ _ _ _ _ (⟨_, .slice _ _ _ _ _, _, _, _, _⟩ :: _) _; first | refine WPl.rdX (ReadR.sliceH rfl rfl hasA (by omega)) ?_ | refine WPl.rdX (ReadR.sliceL rfl rfl hasA (by omega)) ?_ | refine WPl.rdX (ReadR.sliceLH rfl rfl rfl hasA (by omega) (by omega)) ?_)
     | (refine WPl.spQ (fun hc => ?_) (fun hc => ?_) <;> try first | exact prA | (exfalso; first | omega))
     | fail)
    dsimp only [Nat.reduceAdd] at *
    have h5 : (e 5).1.oneCell' = true := by assumption
    have h7 : (e 7).1.oneCell' = true := by assumption
    refine WPq.vaultIn (A := ob (e 5).1 (secF 0).b) (v := (e 5).1) (s := secF 0) .ob ?_
    rw [show valsV L ++ [(e 5).1] = valsV (L ++ [((e 5).1, secF 0)]) by with_unfolding_all (unfold valsV; rw [List.map_append]; rfl), show ((e 5).1, secF 0) :: L.reverse = (L ++ [((e 5).1, secF 0)]).reverse by rw [List.reverse_append]; rfl]
    refine WPq.rnd (i + 1, L ++ [((e 5).1, secF 0)], (e 7).1) ⟨h7, hlt, by rw [List.length_append, he]; rfl, fun x hx => ?_⟩ (by dsimp only; omega)
    rcases List.mem_append.1 hx with hx | hx
    · exact hm x hx
    · rw [List.mem_singleton.1 hx]; exact ⟨rfl, h5⟩
  · have hin : i = n := by omega
    subst hin
    repeat' (first
     | refine WPl.nil ?_ | refine WPq.then ?_ | refine WPq.thenR ?_ | refine WPq.thenE ?_ | refine WPq.blockN ?_ | refine WPq.blockR ?_ | refine WPq.blockE ?_ | refine WPq.blockO rfl ?_ | refine WPc.seq ?_ | refine WPc.block ?_ | refine WPc.ret ?_ | refine WPc.exit ?_ | refine WPc.skip ?_ | refine WPc.region ?_
     | (refine isCond ?_; first | refine WPc.cT ?_ | refine WPc.cF ?_ | (refine WPc.cQ (fun hc => ?_) (fun hc => ?_) <;> try first | exact prA | (exfalso; first | omega)))
     | (refine isMk ?_; refine WPl.mk fun v hv => ?_)
     | (refine isOp ?_; first | refine WPl.rd ?_ | refine WPl.sk ?_ | refine WPl.rdB ?_)
     | (refine isBx ?_; refine WPl.nw fun g => ?_)
     | (refine isSt ?_; first | refine WPl.st1 ?_ | refine WPl.stA ?_ | refine WPl.stEB ?_ | refine WPl.stRB ?_)
     | (show WPl _ _ _ _ _ _ _ (⟨_, .indexAddr _ _ _, _, _, _, _⟩ :: _) _; refine WPl.rdX (ReadR.indexE rfl rfl hasA (by first | assumption | omega)) ?_)
     | (show WPl _ _ _ _ _ _ _ (⟨_, .fieldAddr _ _ _, _, _, _, _⟩ :: _) _; refine WPl.rdX (ReadR.fieldE rfl hasA (by first | assumption | omega)) ?_)
     | (show WPl _ _ _ _ _ _ _ (⟨_, .load _ _, _, _, _, _⟩ :: _) _; first | refine WPl.rdX (ReadR.loadE rfl hasA (by assumption)) ?_ | refine WPl.rdX (ReadR.loadES (by assumption) (by first | assumption | omega) rfl hasA) ?_)
     | (show WPl _ _ _ _ _ _ _ (⟨_, .slice _ _ _ _ _, _, _, _, _⟩ :: _) _; first | refine WPl.rdX (ReadR.sliceH rfl rfl hasA (by omega)) ?_ | refine WPl.rdX (ReadR.sliceL rfl rfl hasA (by omega)) ?_ | refine WPl.rdX (ReadR.sliceLH rfl rfl rfl hasA (by omega) (by omega)) ?_)
     | (refine WPl.spQ (fun hc => ?_) (fun hc => ?_) <;> try first | exact prA | (exfalso; first | omega))
     | fail)
    refine WPq.nilRowN 3 1 ?_
    refine WPq.nilRowN 31 1 ?_
    rw [e2, e1]
    subst he
    refine WPq.dX (ho := ownsW) (vs := [hD gX]) (rsA gX ⟨vL, L, .slice none 0 0, .slice none 0 0, [], f4, 0, L.reverse⟩) ⟨gX, _, rfl, ?_, ⟨⟨hv, rfl, rfl⟩, rfl, f4_in, rfl, Nat.le_refl _, fun z hz => (by cases hz), fun x hx => ⟨List.mem_reverse.2 hx, (hm x hx).2⟩, fun z hz => (by cases hz), by show (0:Int) ≤ 0; omega, by show (0 : Int) ≤ 0; omega⟩, rfl⟩
    show Dv.mk f4 (L.map (·.2)) _ 0 = _
    rw [show L.map (·.2) = List.replicate L.length (secF 0) from ?_]
    · rfl
    · exact List.eq_replicate_iff.2 ⟨by rw [List.length_map], fun s hs => by
        obtain ⟨x, hx, rfl⟩ := List.mem_map.1 hs
        exact (hm x hx).1⟩
end Go.Proofs.Ytepmikgjnmjheaa
