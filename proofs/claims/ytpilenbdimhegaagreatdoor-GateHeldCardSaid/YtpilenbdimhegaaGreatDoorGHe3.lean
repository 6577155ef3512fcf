/- What the row of gateHeld_card_holds needs: part 3. -/
import Derived.Test.YtpilenbdimhegaaGreatDoorGHe2
import Derived.Maps.Keyed
import Derived.DeepKeys4
/- Separation: the rules with what the walk can find by itself. -/
namespace Go.Proofs.YtpilenbdimhegaaGreatDoor
open Go.RowKit
set_option linter.unusedSimpArgs false
set_option linter.unusedVariables false
set_option maxRecDepth 20000
set_option maxHeartbeats 4000000
attribute [local irreducible] WPc WPl WPq ReadR OpT BinR HasS bx rdN rowN Take Takes Prov Triple ResF BuildP Done ag Int.decLt Int.decLe Int.instDecidableEq

/-! ### Searches -/

theorem ba_loop (b : ByteArray) : ∀ k i r, b.size - i = k → ByteArray.toList.loop b i r = r.reverse ++ b.data.toList.drop i := by
  intro k
  induction k with
  | zero =>
    intro i r h
    unfold ByteArray.toList.loop
    have : ¬ i < b.size := by omega
    rw [if_neg this, List.drop_of_length_le (by simpa using Nat.le_of_not_lt this), List.append_nil]
  | succ k ih =>
    intro i r h
    unfold ByteArray.toList.loop
    have hlt : i < b.size := by omega
    rw [if_pos hlt, ih (i + 1) _ (by omega)]
    have hl : i < b.data.toList.length := by simpa using hlt
    rw [List.drop_eq_getElem_cons hl]
    have : b.get! i = b.data.toList[i] := by
      simp [ByteArray.get!]
      rw [getElem!_pos b.data i (by simpa using hlt)]
    rw [this, List.reverse_cons, List.append_assoc]
    rfl
theorem ba_toList (b : ByteArray) : b.toList = b.data.toList := by
  unfold ByteArray.toList; rw [ba_loop b _ 0 [] rfl]; rfl
theorem strU_toList (l : List UInt8) : (strU l).toList = l := by
  rw [ba_toList]
  unfold strU strOfNums
  rw [List.map_map]
  simp only []
  conv => rhs; rw [← List.map_id l]
  apply List.map_congr_left
  intro b _
  simp
theorem BinR.strUE {P : Program} {T : TypeId} {l m : List UInt8} : BinR P .eql T (.string (strU l)) (.string (strU m)) (.bool (decide (l = m))) := by
  have := BinR.strE (P := P) (T := T) (a := strU l) (b := strU m)
  rw [strU_toList, strU_toList] at this
  rwa [show (l == m) = decide (l = m) by rw [Bool.eq_iff_iff]; simp] at this
theorem ReadR.binE {P : Program} {n : Nat} {Γ : List Asn} {F : List (Nat × Value)} {d : Option Tmp} {ty : TypeId} {pos : String} {af : Array Edge} {gd : Option (Nat × Bool)} {op : BinOp} {T t2 : TypeId} {x y : Operand} {a b v v' : Value} (hx : evF F x = some a) (hy : evF F y = some b) (h : BinR P op T a b v) (e : v = v') :
    ReadR P n Γ F ⟨d, .binOp op T x y t2, ty, pos, af, gd⟩ v' := e ▸ ReadR.bin hx hy h
theorem seg_len (l : List UInt8) (k n : Nat) : (seg l k n).length = min n (l.length - k) := by simp [seg]
theorem clash1 {b : Bool} {p : Prop} (h : b = false) (k : b = true) : p := by subst h; cases k
theorem clash2 {b : Bool} {p : Prop} (h : b = true) (k : b = false) : p := by subst h; cases k
theorem natA {a b : Nat} (h : a ≤ b := by first | omega | exact Nat.le_of_ble_eq_true rfl | (simp only [List.length_append, List.length_cons, List.length_nil, List.length_replicate, seg_len, be_length, nbs, List.length_map]; omega) | fail) : a ≤ b := h
theorem idx_of {F : List (Nat × Value)} {x : Operand} {k : IntKind} {c : Int} {i : Nat} (h : evF F x = some (.int k c)) (hc : c = Int.ofNat i) : evF F x = some (.int k (Int.ofNat i)) := hc ▸ h
theorem idx_lit (n : Nat) : (@OfNat.ofNat Int n _) = Int.ofNat (@OfNat.ofNat Nat n _) := rfl
theorem idxA {F : List (Nat × Value)} {x : Operand} {k : IntKind} {i : Nat} (h : evF F x = some (.int k (Int.ofNat i)) := by apply idx_of; exact rfl; first | (with_reducible exact idx_lit _) | exact rfl | fail) : evF F x = some (.int k (Int.ofNat i)) := h
theorem memA {A : Asn} {Γ : List Asn} (h : A ∈ Γ := by ((repeat (first | exact List.Mem.head _ | apply List.Mem.tail | fail)) <;> fail)) : A ∈ Γ := h
theorem takeA {A : Asn} {Γ Γ' : List Asn} (h : Take Γ A Γ' := by ((repeat' (first | exact Take.here | apply Take.there | fail)) <;> fail)) : Take Γ A Γ' := h
theorem takesA {Γ Δ Γ' : List Asn} (h : Takes Γ Δ Γ' := by ((repeat' (first | exact Takes.nil | exact Takes.all | apply Takes.cons | exact Take.here | apply Take.there | apply Takes.skip | fail)) <;> fail)) : Takes Γ Δ Γ' := h
theorem frsA {F F' : List (Nat × Value)} (h : FrSub F F' := by ((repeat' (first | exact FrSub.nil | apply FrSub.cons | exact rfl | fail)) <;> fail)) : FrSub F F' := h
theorem evsA {F : List (Nat × Value)} {xs : List Operand} {vs : List Value} (h : evFs F xs vs := by ((repeat' (first | exact evFs.nil | apply evFs.cons | exact rfl | fail)) <;> fail)) : evFs F xs vs := h
theorem boxcA {cs : Ch} {o n : Nat} {l : List UInt8} (h : BoxC cs o n l := by ((repeat' (first | exact BoxC.all | exact BoxC.part rfl rfl | (apply BoxC.there; exact rfl; dsimp only [Nat.reduceSub, Nat.reduceAdd]) | fail)) <;> fail)) : BoxC cs o n l := h
theorem ovcA {new : List UInt8} {cs cs' : Ch} {o : Nat} (h : OvC new cs o cs' := by ((repeat' (first | exact rfl | (apply OvC.here; exact rfl) | (apply OvC.there; exact rfl; dsimp only [Nat.reduceSub, Nat.reduceAdd]) | (simp only [List.length_replicate, be_length]; omega) | omega | (simp; omega) | fail)) <;> fail)) : OvC new cs o cs' := h
theorem has0A {Γ : List Asn} {v : Value} {n : Nat} {xs : List Value} (h : HasS Γ v n xs := by first | exact HasS.rd memA | exact HasS.row memA | exact HasS.hd memA | exact HasS.boxB memA boxcA rfl rfl | fail) : HasS Γ v n xs := h
theorem hasA {Γ : List Asn} {v : Value} {n : Nat} {xs : List Value} (h : HasS Γ v n xs := by first | exact HasS.rd memA | exact HasS.row memA | exact HasS.hd memA | exact HasS.boxB memA boxcA rfl rfl | exact HasS.subB has0A (by omega) | exact HasS.nilB | exact HasS.nil | fail) : HasS Γ v n xs := h
theorem provA {Γ : List Asn} {A : Asn} (h : Prov Γ A := by exact Prov.rd hasA) : Prov Γ A := h
theorem provsT {Γ Δ : List Asn} (h : Provs Γ Δ := by ((repeat' (first | exact Provs.rbz | apply Provs.skipA | fail)) <;> fail)) : Provs Γ Δ := h
theorem provsA {Γ Δ : List Asn} (h : Provs Γ Δ := by ((repeat' (first | exact Provs.nil | apply Provs.cons | exact provA | exact provsT | fail)) <;> fail)) : Provs Γ Δ := h
theorem fokA {cs : Ch} (h : FOk cs := by ((repeat' (first | exact FOk.nil | apply FOk.one1 | apply FOk.bytes | exact rfl | exact LenI.len | assumption | (simp; done) | (simp [*]; done) | fail)) <;> fail)) : FOk cs := h
theorem partA {v : Value} {new : Ch} (h : PartV v new := by first | exact PartV.agg fokA | exact PartV.one rfl | exact PartV.one (by assumption) | fail) : PartV v new := h
theorem buildA {places : List (Nat × Nat)} {F : List (Nat × Value)} {ps : List (Nat × Operand)} {cs cs' : Ch} (h : BuildP places F ps cs cs' := by ((repeat' (first | exact BuildP.nil | apply BuildP.cons | (show upd _ _ _ _ = some _; dsimp only [sel, takeCh, upd, dropCh, appCh, setAt, chAt, Option.map_some, List.cons_append, List.nil_append, Nat.reduceSub, Nat.reduceAdd] <;> exact rfl) | exact rfl | exact partA | fail)) <;> fail)) : BuildP places F ps cs cs' := h
theorem evpA {F : List (Nat × Value)} {i : Nat} {ps : List (Nat × Operand)} {vs : List Value} (h : evPs F i ps vs := by ((repeat' (first | exact evPs.nil | apply evPs.cons | exact rfl | fail)) <;> fail)) : evPs F i ps vs := h
theorem oneA {Γ : List Asn} {vs : List Value} (h : OneL Γ vs := by ((repeat' (first | exact OneL.nil | apply OneL.lit rfl | apply OneL.has hasA | (apply OneL.lit; assumption) | fail)) <;> fail)) : OneL Γ vs := h
theorem evbA {F : List (Nat × Value)} {i : Nat} {ps : List (Nat × Operand)} {es : List Int} (h : evBs F i ps es := by ((repeat' (first | exact evBs.nil | apply evBs.cons | exact rfl | omega | exact u8_ge _ | exact u8_lt _ | fail)) <;> fail)) : evBs F i ps es := h
theorem resA {P : Program} {Γ : List Asn} {F : List (Nat × Value)} {rs : List ResultVar} {vs : List Value} (h : ResF P Γ F rs vs := by ((repeat' (first | exact ResF.nil | apply ResF.tmp | apply ResF.cellA | apply ResF.cell1 | (show sel _ _ _ = some _; dsimp only [sel, takeCh, upd, dropCh, appCh, setAt, chAt, Option.map_some, List.cons_append, List.nil_append, Nat.reduceSub, Nat.reduceAdd] <;> exact rfl) | exact rfl | exact memA | fail)) <;> fail)) : ResF P Γ F rs vs := h
theorem lenA {l : List UInt8} {n : Nat} (h : l.length = n := by first | exact LenI.len | exact rfl | assumption | (simp; done) | (simp [*]; done) | fail) : l.length = n := h
theorem eqcA {ks : List (Option IntKind)} {cs ds : Ch} {b : Bool} (h : EqC ks cs ds b := by ((repeat' (first | exact EqC.nil | apply EqC.bool | apply EqC.int | (apply EqC.bytes; exact rfl; exact rfl; exact lenA; exact lenA) | fail)) <;> fail)) : EqC ks cs ds b := h
theorem binA {P : Program} {op : BinOp} {T : TypeId} {a b v : Value} (h : BinR P op T a b v := by first | (apply BinR.lss) | (apply BinR.leq) | (apply BinR.gtr) | (apply BinR.geq) | (apply BinR.eql) | (apply BinR.neq) | (apply BinR.addI; omega; omega) | (apply BinR.subI; omega; omega) | (apply BinR.mulI; omega; omega) | (apply BinR.addU; omega; omega) | (apply BinR.subU; omega; omega) | (apply BinR.eqlB; kernel_rfl) | (apply BinR.neqB; kernel_rfl) | (apply BinR.eqlA; exact eqcA) | (apply BinR.neqA; exact eqcA) | (apply BinR.strUE) | (apply BinR.strUN) | (apply BinR.strE) | (apply BinR.strN) | fail) : BinR P op T a b v := h

section
variable {P : Program} {n : Nat} {W : World} {S : Nat → Prop} {Γ : List Asn} {F : List (Nat × Value)} {Q : Exit → Act → World → Prop}
variable {ops : Array Oper} {os : List Oper} {o : Oper} {d : Tmp}

theorem convA {k : IntKind} {a : Int} (h : k.wrap a = a := by first | exact rfl | exact conv_u8 | (simp only [IntKind.wrap_i64, IntKind.wrap_u64, IntKind.wrap_u8, IntKind.wrap_u16, IntKind.wrap_u32]; omega) | fail) : k.wrap a = a := h
theorem readA {v : Value} (h : ReadR P n Γ F o v := by first | (apply ReadR.move; exact rfl) | (apply ReadR.assign; exact rfl) | (apply ReadR.extract; exact rfl; exact rfl) | (apply ReadR.field; exact rfl) | (apply ReadR.loadS; exact rfl; exact memA; exact rfl) | (apply ReadR.loadA; exact rfl; exact memA; (dsimp only [sel, takeCh, upd, dropCh, appCh, setAt, chAt, Option.map_some, List.cons_append, List.nil_append, Nat.reduceSub, Nat.reduceAdd] <;> exact rfl)) | (apply ReadR.loadBx; exact rfl; exact memA; exact boxcA) | (apply ReadR.len; exact rfl; exact hasA) | (apply ReadR.bin; exact rfl; exact rfl; exact binA) | (apply ReadR.not; exact rfl) | (apply ReadR.pickT; exact rfl; exact rfl) | (apply ReadR.pickF; exact rfl; exact rfl) | (apply ReadR.indexE1; exact rfl; exact idxA; exact hasA; exact natA) | (apply ReadR.loadEB; exact rfl; exact hasA; exact natA) | (apply ReadR.indexR; exact rfl; exact idxA; exact natA) | (apply ReadR.loadRB; exact rfl; exact memA; exact rfl; exact natA) | (apply ReadR.sliceLH; exact rfl; exact idxA; exact idxA; exact hasA; exact natA; exact natA) | (apply ReadR.sliceL; exact rfl; exact idxA; exact hasA; exact natA) | (apply ReadR.sliceH; exact rfl; exact idxA; exact hasA; exact natA) | (apply ReadR.conv; exact rfl; exact convA) | (apply ReadR.conv8; exact idxA) | (apply ReadR.build; exact buildA) | (apply ReadR.buildZ) | (apply ReadR.buildArr; exact evasA) | (apply ReadR.nilCheck; exact rfl) | (apply ReadR.min; exact rfl; exact rfl) | (apply ReadR.max; exact rfl; exact rfl) | (apply ReadR.arrL; exact rfl; exact idxA; exact natA) | (apply ReadR.arrLH; exact rfl; exact idxA; exact idxA; exact natA; exact natA; exact natA) | (apply ReadR.arrH; exact rfl; exact idxA; exact natA) | (apply ReadR.arrAll; exact rfl) | (apply ReadR.loadEA0; exact rfl; exact hasA; exact lenA) | (apply ReadR.loadEAB; exact rfl; exact hasA; exact natA) | (apply ReadR.toArrS; exact rfl; exact rfl) | (apply ReadR.toArr; exact rfl; exact hasA; exact natA; exact natA) | (apply ReadR.eqNil; exact rfl; exact hasA) | (apply ReadR.str; kernel_rfl; kernel_rfl; exact rfl; exact hasA) | fail) : ReadR P n Γ F o v := h

theorem WPl.rd {v : Value} (k : WPl P n W S Γ ((d, v) :: F) ops os Q) (hd : o.dst = some d := by first | rfl | fail) (hlt : Nat.blt d n = true := by first | rfl | fail) (hw : wantG F ops o.guard = some true := by first | rfl | fail) (h : ReadR P n Γ F o v := by first | exact readA | fail) :
    WPl P n W S Γ F ops (o :: os) Q := WPl.read hd hlt hw h k
/-- A read by a law that is named. -/
theorem WPl.rdX {v : Value} (h : ReadR P n Γ F o v) (k : WPl P n W S Γ ((d, v) :: F) ops os Q) (hd : o.dst = some d := by first | rfl | fail) (hlt : Nat.blt d n = true := by first | rfl | fail) (hw : wantG F ops o.guard = some true := by first | rfl | fail) :
    WPl P n W S Γ F ops (o :: os) Q := WPl.read hd hlt hw h k
theorem WPl.sk (k : WPl P n W S Γ ((d, undef) :: F) ops os Q) (hw : wantG F ops o.guard = some false := by first | rfl | fail) (hd : o.dst = some d := by first | rfl | fail) (hlt : Nat.blt d n = true := by first | rfl | fail) : WPl P n W S Γ F ops (o :: os) Q := WPl.skip hw hd hlt k
theorem WPl.nw {T : TypeId} {cs : Ch} (k : ∀ g, WPl P n W S (bx g T cs :: Γ) ((d, .pointer (some ⟨g, 0, none⟩)) :: F) ops os Q) (hd : o.dst = some d := by first | rfl | fail) (hlt : Nat.blt d n = true := by first | rfl | fail) (hw : wantG F ops o.guard = some true := by first | rfl | fail)
    (h : OpT P n Γ F o [] (RNew T cs) := by first | exact OpT.alloc | exact OpT.boxA rfl fokA | exact OpT.box1 rfl rfl | exact OpT.box1 rfl (by assumption) | fail) : WPl P n W S Γ F ops (o :: os) Q := WPl.new hd hlt hw h k
theorem WPl.stA {T T' : TypeId} {sz g off : Nat} {cs cs' new : Ch} {a x : Operand} {Γf : List Asn} {ty : TypeId} {pos : String} {af : Array Edge} {gd : Option (Nat × Bool)} [hT : TyI P T true sz] (k : WPl P n W S (bx g T' cs' :: Γf) F ops os Q)
    (ha : evF F a = some (.pointer (some ⟨g, off, none⟩)) := by first | rfl | fail) (hx : evF F x = some (ag new) := by first | rfl | fail) (hp : Take Γ (bx g T' cs) Γf := by first | exact takeA | fail) (hn : FOk new := by first | exact fokA | fail) (ht : total new = sz := by first | rfl | fail) (hu : upd new cs off sz = some cs' := by first | (dsimp only [sel, takeCh, upd, dropCh, appCh, setAt, chAt, Option.map_some, List.cons_append, List.nil_append, Nat.reduceSub, Nat.reduceAdd] <;> exact rfl) | fail) (hw : wantG F ops gd = some true := by first | rfl | fail) :
    WPl P n W S Γ F ops (⟨none, .store T a x, ty, pos, af, gd⟩ :: os) Q := WPl.turn (.cons hp .nil) rfl hw (OpT.storeA ha hx (.cons hp .nil) hn ht hu) k
theorem WPl.st1 {T T' : TypeId} {g off : Nat} {cs cs' : Ch} {v : Value} {a x : Operand} {Γf : List Asn} {ty : TypeId} {pos : String} {af : Array Edge} {gd : Option (Nat × Bool)} [hT : TyI P T false 1] (k : WPl P n W S (bx g T' cs' :: Γf) F ops os Q)
    (ha : evF F a = some (.pointer (some ⟨g, off, none⟩)) := by first | rfl | fail) (hx : evF F x = some v := by first | rfl | fail) (hp : Take Γ (bx g T' cs) Γf := by first | exact takeA | fail) (h1 : v.oneCell' = true := by first | rfl | assumption | fail) (hu : upd [(1, [v])] cs off 1 = some cs' := by first | (dsimp only [sel, takeCh, upd, dropCh, appCh, setAt, chAt, Option.map_some, List.cons_append, List.nil_append, Nat.reduceSub, Nat.reduceAdd] <;> exact rfl) | fail) (hw : wantG F ops gd = some true := by first | rfl | fail) :
    WPl P n W S Γ F ops (⟨none, .store T a x, ty, pos, af, gd⟩ :: os) Q := WPl.turn (.cons hp .nil) rfl hw (OpT.store1 ha hx (.cons hp .nil) h1 hu) k
theorem OpT.storeRB {d : Option Tmp} {T T' : TypeId} {g off i m : Nat} {cs cs' : Ch} {l : List UInt8} {c : Int} {b : UInt8} {a x : Operand} {Γf : List Asn} {ty : TypeId} {pos : String} {af : Array Edge} {gd : Option (Nat × Bool)} [hT : TyI P T false 1] (ha : evF F a = some (.pointer (some ⟨g, off + i, none⟩))) (hx : evF F x = some (.int .u8 c)) (hp : Takes Γ [bx g T' cs] Γf) (hb : c = ((b.toNat : Nat) : Int)) (hc : chAt cs off = some (m, u8s l)) (hi : i < l.length) (hu : setAt (u8s (l.set i b)) cs off = some cs') :
    OpT P n Γ F ⟨d, .store T a x, ty, pos, af, gd⟩ [bx g T' cs] (RLeave [bx g T' cs']) := OpT.storeR ha hx hp rfl hc (by rw [u8s_length]; exact hi) (by subst hb; rw [u8s_set]; exact hu)
theorem byteA {c : Int} {b : UInt8} (h : c = ((b.toNat : Nat) : Int) := by first | exact rfl | (with_reducible exact (Int.toNat_of_nonneg (by omega)).symm) | fail) : c = ((b.toNat : Nat) : Int) := h
theorem WPl.stRB {T T' : TypeId} {g off i m : Nat} {cs cs' : Ch} {l : List UInt8} {c : Int} {b : UInt8} {a x : Operand} {Γf : List Asn} {ty : TypeId} {pos : String} {af : Array Edge} {gd : Option (Nat × Bool)} [hT : TyI P T false 1] (k : WPl P n W S (bx g T' cs' :: Γf) F ops os Q)
    (ha : evF F a = some (.pointer (some ⟨g, off + i, none⟩)) := by first | rfl | fail) (hx : evF F x = some (.int .u8 c) := by first | rfl | fail) (hb : c = ((b.toNat : Nat) : Int) := by first | exact byteA | fail) (hp : Take Γ (bx g T' cs) Γf := by first | exact takeA | fail) (hc : chAt cs off = some (m, u8s l) := by first | rfl | fail) (hi : i < l.length := by first | exact natA | fail) (hu : setAt (u8s (l.set i b)) cs off = some cs' := by first | (dsimp only [sel, takeCh, upd, dropCh, appCh, setAt, chAt, Option.map_some, List.cons_append, List.nil_append, Nat.reduceSub, Nat.reduceAdd] <;> exact rfl) | fail) (hw : wantG F ops gd = some true := by first | rfl | fail) :
    WPl P n W S Γ F ops (⟨none, .store T a x, ty, pos, af, gd⟩ :: os) Q := WPl.turn (.cons hp .nil) rfl hw (OpT.storeRB ha hx (.cons hp .nil) hb hc hi hu) k
theorem WPl.stEB {T : TypeId} {i : Nat} {s : Value} {l : List UInt8} {c : Int} {b : UInt8} {a x : Operand} {Γf : List Asn} {ty : TypeId} {pos : String} {af : Array Edge} {gd : Option (Nat × Bool)} [hT : TyI P T false 1] (k : WPl P n W S (ob s (l.set i b) :: Γf) F ops os Q)
    (ha : evF F a = some (.pointer (some (ela s i))) := by first | rfl | fail) (hx : evF F x = some (.int .u8 c) := by first | rfl | fail) (hb : c = ((b.toNat : Nat) : Int) := by first | exact byteA | fail) (hp : Take Γ (ob s l) Γf := by first | exact takeA | fail) (hi : i < l.length := by first | exact natA | fail) (hw : wantG F ops gd = some true := by first | rfl | fail) :
    WPl P n W S Γ F ops (⟨none, .store T a x, ty, pos, af, gd⟩ :: os) Q := WPl.turn (.cons hp .nil) rfl hw (OpT.storeEB ha hx (.cons hp .nil) hi hb) k
/-- A literal of bytes. -/
theorem WPl.lit {T : TypeId} {bytes : Nat} {z : Value} [hT : SliI P T 5] [he : EltI P 5 z bytes] {ps : List (Nat × Operand)} {es : List Int} {m : Nat} {ty : TypeId} {pos : String} {af : Array Edge} {gd : Option (Nat × Bool)} (k : ∀ v, v.oneCell' = true → WPl P n W S (ob v (nbs es) :: Γ) ((d, v) :: F) ops os Q)
    (hlt : Nat.blt d n = true := by first | rfl | fail) (hw : wantG F ops gd = some true := by first | rfl | fail) (h : evBs F 0 ps es := by first | exact evbA | fail) (hm : es.length = m := by first | rfl | fail) (hsm : Nat.ble m 16777216 = true := by first | rfl | fail) :
    WPl P n W S Γ F ops (⟨some d, .buildSlice T m ps.toArray, ty, pos, af, gd⟩ :: os) Q := WPl.row .nil rfl hlt hw (OpT.buildB h hm hsm) k
/-- A literal of values. -/
theorem WPl.lits {T e : TypeId} {bytes : Nat} {z : Value} [hT : SliI P T e] [he : EltI P e z bytes] {ps : List (Nat × Operand)} {vs : List Value} {m : Nat} {ty : TypeId} {pos : String} {af : Array Edge} {gd : Option (Nat × Bool)} (k : ∀ v, v.oneCell' = true → WPl P n W S (rowN e 1 v m vs :: Γ) ((d, v) :: F) ops os Q)
    (hlt : Nat.blt d n = true := by first | rfl | fail) (hw : wantG F ops gd = some true := by first | rfl | fail) (h : evPs F 0 ps vs := by first | exact evpA | fail) (h1 : OneL Γ vs := by first | exact oneA | fail) (hm : vs.length = m := by first | rfl | fail) (hsm : Nat.ble m 16777216 = true := by first | rfl | fail) :
    WPl P n W S Γ F ops (⟨some d, .buildSlice T m ps.toArray, ty, pos, af, gd⟩ :: os) Q := WPl.row .nil rfl hlt hw (OpT.buildSlice h h1 hm hsm) k
/-- append of bytes. -/
theorem WPl.app {T : TypeId} {z : Value} {bytes : Nat} {ty : TypeId} {pos : String} {af : Array Edge} {gd : Option (Nat × Bool)} [hT : SliI P T 5] [he : EltI P 5 z bytes] {s x : Operand} {v v2 : Value} {l l2 : List UInt8} {Γf : List Asn} (k : ∀ v, v.oneCell' = true → WPl P n W S (ob v (l ++ l2) :: Γf) ((d, v) :: F) ops os Q)
    (hlt : Nat.blt d n = true := by first | rfl | fail) (hw : wantG F ops gd = some true := by first | rfl | fail) (hs : evF F s = some v := by first | rfl | fail) (hx : evF F x = some v2 := by first | rfl | fail) (hp : Take Γ (ob v l) Γf := by first | exact takeA | fail) (h2 : HasS Γ v2 l2.length (u8s l2) := by first | exact hasA | fail) (h63 : l.length + l2.length ≤ 1099511627776 := by (try simp only [List.length_append, List.length_cons, List.length_nil, seg_len, be_length, nbs, List.length_map]); omega) (hby : Nat.ble bytes 128 = true := by first | rfl | fail) :
    WPl P n W S Γ F ops (⟨some d, .call { callee := .builtin .append, args := #[s, x], argTypes := #[T, T] }, ty, pos, af, gd⟩ :: os) Q :=
  WPl.row (.cons hp .nil) rfl hlt hw (OpT.appendB hs hx (.cons hp .nil) h2 h63 hby) k

variable {f : FuncId} {xs : List Operand} {ts : Array TypeId} {ty : TypeId} {pos : String} {af : Array Edge} {gd : Option (Nat × Bool)} {vs : List Value} {Δ : List Asn}
theorem WPl.cV {c : Value} (h : Triple P f vs.toArray Δ (RVal c)) (k : WPl P n W S Γ ((d, c) :: F) ops os Q) (hx : evFs F xs vs := by first | exact evsA | fail) (hΔ : Provs Γ Δ := by first | exact provsA | fail) (hc : isCode P f = true := by first | kernel_rfl | fail) (hd : Nat.blt d n = true := by first | rfl | fail) (hw : wantG F ops gd = some true := by first | rfl | fail) :
    WPl P n W S Γ F ops (⟨some d, .call { callee := .value (.func f), args := xs.toArray, argTypes := ts }, ty, pos, af, gd⟩ :: os) Q := WPl.callV h hx hΔ hc hd hw k
theorem WPl.cR {e : TypeId} {sz m : Nat} {us : List Value} (h : Triple P f vs.toArray Δ (RRow e sz m us)) (k : ∀ v, v.oneCell' = true → WPl P n W S (rowN e sz v m us :: Γ) ((d, v) :: F) ops os Q) (hx : evFs F xs vs := by first | exact evsA | fail) (hΔ : Provs Γ Δ := by first | exact provsA | fail) (hc : isCode P f = true := by first | kernel_rfl | fail) (hd : Nat.blt d n = true := by first | rfl | fail) (hw : wantG F ops gd = some true := by first | rfl | fail) :
    WPl P n W S Γ F ops (⟨some d, .call { callee := .value (.func f), args := xs.toArray, argTypes := ts }, ty, pos, af, gd⟩ :: os) Q := WPl.callR h hx hΔ hc hd hw k
theorem WPl.cX {d : Option Tmp} {R : Value → List Asn → Prop} (h : Triple P f vs.toArray Δ R) (k : ∀ v Γ', R v Γ' → WPl P n W S (Γ' ++ Γ) (putF F d v) ops os Q) (hx : evFs F xs vs := by first | exact evsA | fail) (hΔ : Provs Γ Δ := by first | exact provsA | fail) (hc : isCode P f = true := by first | kernel_rfl | fail) (hd : dstOk n d = true := by first | rfl | fail) (hw : wantG F ops gd = some true := by first | rfl | fail) :
    WPl P n W S Γ F ops (⟨d, .call { callee := .value (.func f), args := xs.toArray, argTypes := ts }, ty, pos, af, gd⟩ :: os) Q := WPl.call h hx hΔ hc hd hw k

theorem WPl.cH {m : Nat} {us : List Value} (h : Triple P f vs.toArray Δ (RHd m us)) (k : ∀ v, v.oneCell' = true → WPl P n W S (hdN v m us :: Γ) ((d, v) :: F) ops os Q) (hx : evFs F xs vs := by first | exact evsA | fail) (hΔ : Provs Γ Δ := by first | exact provsA | fail) (hc : isCode P f = true := by first | kernel_rfl | fail) (hd : Nat.blt d n = true := by first | rfl | fail) (hw : wantG F ops gd = some true := by first | rfl | fail) :
    WPl P n W S Γ F ops (⟨some d, .call { callee := .value (.func f), args := xs.toArray, argTypes := ts }, ty, pos, af, gd⟩ :: os) Q := WPl.hd rfl hd hw (OpT.call h hx hΔ hc) k
theorem WPl.cR2 {e : TypeId} {sz m : Nat} {us : List Value} {c : Value} (h : Triple P f vs.toArray Δ (RRow2 e sz m us c)) (k : ∀ v, v.oneCell' = true → WPl P n W S (rowN e sz v m us :: Γ) ((d, .tuple #[v, c]) :: F) ops os Q) (hx : evFs F xs vs := by first | exact evsA | fail) (hΔ : Provs Γ Δ := by first | exact provsA | fail) (hc : isCode P f = true := by first | kernel_rfl | fail) (hd : Nat.blt d n = true := by first | rfl | fail) (hw : wantG F ops gd = some true := by first | rfl | fail) :
    WPl P n W S Γ F ops (⟨some d, .call { callee := .value (.func f), args := xs.toArray, argTypes := ts }, ty, pos, af, gd⟩ :: os) Q := WPl.row2 rfl hd hw (OpT.call h hx hΔ hc) k
theorem WPl.cpA {dT sT e : TypeId} {ag : Bool} [hT : SliI P dT e] [he : TyI P e ag 1] {x y : Operand} {g o dLen dCap : Nat} {T' : TypeId} {cs cs' : Ch} {v2 : Value} {l2 new : List UInt8} {Γf : List Asn} (k : ∀ v, WPl P n W S (bx g T' cs' :: Γf) ((d, v) :: F) ops os Q) (hx : evF F x = some (.slice (some ⟨g, o, none⟩) dLen dCap) := by first | rfl | fail) (hy : evF F y = some v2 := by first | rfl | fail) (hp : Take Γ (bx g T' cs) Γf := by first | exact takeA | fail) (h2 : HasS Γ v2 l2.length (u8s l2) := by first | exact hasA | fail)
    (hnew : l2.take dLen = new := by first | exact List.take_of_length_le (by first | omega | (simp; done) | (simp; omega) | fail) | rfl | fail) (ho : OvC new cs o cs' := by first | exact ovcA | fail) (hlt : Nat.blt d n = true := by first | rfl | fail) (hw : wantG F ops gd = some true := by first | rfl | fail) :
    WPl P n W S Γ F ops (⟨some d, .call { callee := .builtin .copy, args := #[x, y], argTypes := #[dT, sT] }, ty, pos, af, gd⟩ :: os) Q := WPl.turnD (.cons hp .nil) rfl hlt hw (OpT.copyA hx hy (.cons hp .nil) h2 hnew ho) k
theorem WPl.mk {T : TypeId} {bytes : Nat} [hT : SliI P T 5] [he : EltI P 5 (.int .u8 0) bytes] {x y : Operand} {k1 k2 : IntKind} {m : Nat} (k : ∀ v, v.oneCell' = true → WPl P n W S (ob v (List.replicate m 0) :: Γ) ((d, v) :: F) ops os Q) (hx : evF F x = some (.int k1 (Int.ofNat m)) := by first | exact idxA | fail) (hy : evF F y = some (.int k2 (Int.ofNat m)) := by first | exact idxA | fail) (hlt : Nat.blt d n = true := by first | rfl | fail) (hm : m ≤ 1099511627776 := by first | omega | fail) (hby : Nat.ble bytes 128 = true := by first | rfl | fail) (hw : wantG F ops gd = some true := by first | rfl | fail) :
    WPl P n W S Γ F ops (⟨some d, .makeSlice T x y, ty, pos, af, gd⟩ :: os) Q := WPl.row .nil rfl hlt hw (OpT.makeB hx hy hm hby) k
theorem WPc.cT {c : Operand} {x y : Code} (h : WPc P n W S Γ F x Q) (hc : evF F c = some (.bool true) := by first | rfl | fail) : WPc P n W S Γ F (.cond c x y) Q := WPc.condT hc h
theorem WPc.cF {c : Operand} {x y : Code} (h : WPc P n W S Γ F y Q) (hc : evF F c = some (.bool false) := by first | rfl | fail) : WPc P n W S Γ F (.cond c x y) Q := WPc.condF hc h
theorem WPc.cS {c : Operand} {x y : Code} {b : Bool} (h1 : b = true → WPc P n W S Γ F x Q) (h2 : b = false → WPc P n W S Γ F y Q) (hc : evF F c = some (.bool b) := by first | rfl | fail) : WPc P n W S Γ F (.cond c x y) Q := WPc.cond hc h1 h2

theorem WPq.dV {fn : Func} {rs : List ResultVar} {vs : List Value} {c : Value} {e : Exit} (he : e = .ret ∨ e = .normal := by first | exact .inl rfl | exact .inr rfl | fail) (hr : fn.results = rs.toArray := by first | rfl | fail) (h : ResF P Γ F rs vs := by first | exact resA | fail) (hc : resV vs = c := by first | rfl | fail) : WPq n W S Γ F (Done P fn W S (RVal c)) e := WPq.doneV he hr h hc
theorem WPq.dR {fn : Func} {rs : List ResultVar} {v : Value} {e : TypeId} {sz m : Nat} {us : List Value} {Γx : List Asn} {ex : Exit} (he : ex = .ret ∨ ex = .normal := by first | exact .inl rfl | exact .inr rfl | fail) (hr : fn.results = rs.toArray := by first | rfl | fail) (h : ResF P Γ F rs [v] := by first | exact resA | fail) (hp : Take Γ (rowN e sz v m us) Γx := by first | exact takeA | fail) (h1 : v.oneCell' = true := by first | rfl | assumption | fail) :
    WPq n W S Γ F (Done P fn W S (RRow e sz m us)) ex := WPq.doneR he hr h hp h1
theorem WPq.dR2 {fn : Func} {rs : List ResultVar} {v c : Value} {e : TypeId} {sz m : Nat} {us : List Value} {Γx : List Asn} {ex : Exit} (he : ex = .ret ∨ ex = .normal := by first | exact .inl rfl | exact .inr rfl | fail) (hr : fn.results = rs.toArray := by first | rfl | fail) (h : ResF P Γ F rs [v, c] := by first | exact resA | fail) (hp : Take Γ (rowN e sz v m us) Γx := by first | exact takeA | fail) (h1 : v.oneCell' = true := by first | rfl | assumption | fail) :
    WPq n W S Γ F (Done P fn W S (RRow2 e sz m us c)) ex := WPq.doneR2 he hr h hp h1
theorem WPq.dBH {fn : Func} {rs : List ResultVar} {g : Nat} {T : TypeId} {cs : Ch} {o c m : Nat} {l : List UInt8} {Γx : List Asn} {ex : Exit} (he : ex = .ret ∨ ex = .normal := by first | exact .inl rfl | exact .inr rfl | fail) (hr : fn.results = rs.toArray := by first | rfl | fail) (h : ResF P (hdN (.slice (some ⟨g, o, none⟩) m c) l.length (u8s l) :: Γx) F rs [.slice (some ⟨g, o, none⟩) m c] := by first | exact resA | fail) (hp : Take Γ (bx g T cs) Γx := by first | exact takeA | fail) (hv : HasS [bx g T cs] (.slice (some ⟨g, o, none⟩) m c) l.length (u8s l) := by first | exact hasA | fail) :
    WPq n W S Γ F (Done P fn W S (RHd l.length (u8s l))) ex := WPq.doneBH he hr h hp hv
theorem WPq.rnd {σ : Type} {ok : σ → Prop} {ΓI : σ → List Asn} {FI : σ → List (Nat × Value)} {μ : σ → Nat} {k : Nat} (x' : σ) {Γx : List Asn} (h0 : ok x') (hμ : μ x' < k) (hΓ : Takes Γ (ΓI x') Γx := by first | exact takesA | fail) (hF : FrSub F (FI x') := by first | exact frsA | fail) :
    WPq n W S Γ F (Exit.then (fun a w => ∃ x', ok x' ∧ μ x' < k ∧ Fr n (FI x') a ∧ Good W S (ΓI x') w) Q) .normal := WPq.round x' h0 hμ hΓ hF

end

/-! ### In regions that draw their order -/

theorem own_nil : ∀ A, A ∈ ([] : List Asn) → A.own = true := fun _ h => by cases h
theorem own_cons {A : Asn} {Γ : List Asn} (h : A.own = true) (k : ∀ B, B ∈ Γ → B.own = true) : ∀ B, B ∈ A :: Γ → B.own = true := fun B hB => by
  rcases List.mem_cons.1 hB with rfl | hB
  · exact h
  · exact k B hB
section
variable {P : Program} {n : Nat} {Γ : List Asn} {F : List (Nat × Value)} {ops : Array Oper} {eats : List (Nat × Nat)} {K : Prev → Prop} {j : Nat} {os : List Oper} {o : Oper} {D bad : List Nat} {Ds : List (List Nat × List Nat)} {prev : Prev}
theorem RGl.rdA {c : Env → Value} (k : RGl P n Γ F ops eats K (j + 1) os Ds ((j, o.dst, ⟨fun e _ => c e, fun _ _ => [], fun _ _ => True⟩) :: prev)) (hw : ∀ e, wantG (bndR D e prev ++ fcutR bad F) ops o.guard = some true := by intro e; first | rfl | fail)
    (h : ∀ e, oksR D e prev → ReadR P n (ensR eats D j e prev ++ Γ) (bndR D e prev ++ fcutR bad F) o (c e) := by intro e hk; (try dsimp only [bndR, ensR, oksR, fcutR, List.append_nil, List.nil_append, List.cons_append, List.append_assoc] at hk ⊢); first | exact readA | fail) (hi : ∀ e, c (mask D e) = c e := by intro e; first | rfl | fail) :
    RGl P n Γ F ops eats K j (o :: os) ((D, bad) :: Ds) prev := RGl.vl (fun e he => (h e he).opT) k hw hi
theorem RGl.rdX {c : Env → Value} (h : ∀ e, oksR D e prev → ReadR P n (ensR eats D j e prev ++ Γ) (bndR D e prev ++ fcutR bad F) o (c e)) (k : RGl P n Γ F ops eats K (j + 1) os Ds ((j, o.dst, ⟨fun e _ => c e, fun _ _ => [], fun _ _ => True⟩) :: prev)) (hw : ∀ e, wantG (bndR D e prev ++ fcutR bad F) ops o.guard = some true := by intro e; first | rfl | fail)
    (hi : ∀ e, c (mask D e) = c e := by intro e; first | rfl | fail) :
    RGl P n Γ F ops eats K j (o :: os) ((D, bad) :: Ds) prev := RGl.vl (fun e he => (h e he).opT) k hw hi
theorem RGl.nwA {T : Env → TypeId} {cs : Env → Ch} (k : RGl P n Γ F ops eats K (j + 1) os Ds ((j, o.dst, ⟨fun _ r => .pointer (some ⟨blk r.1, 0, none⟩), fun e r => [bx (blk r.1) (T e) (cs e)], fun _ _ => True⟩) :: prev)) (hw : ∀ e, wantG (bndR D e prev ++ fcutR bad F) ops o.guard = some true := by intro e; first | rfl | fail)
    (h : ∀ e, oksR D e prev → OpT P n (ensR eats D j e prev ++ Γ) (bndR D e prev ++ fcutR bad F) o [] (RNew (T e) (cs e)) := by intro e hk; (try dsimp only [bndR, ensR, oksR, fcutR, List.append_nil, List.nil_append, List.cons_append, List.append_assoc] at hk ⊢); first | exact OpT.alloc | exact OpT.boxA rfl fokA | exact OpT.box1 rfl rfl | exact OpT.box1 rfl (by assumption) | fail) (hi : ∀ e, T (mask D e) = T e ∧ cs (mask D e) = cs e := by intro e; first | exact ⟨rfl, rfl⟩ | fail) :
    RGl P n Γ F ops eats K j (o :: os) ((D, bad) :: Ds) prev := RGl.new h k hw hi
theorem RGl.litA {ety : Env → TypeId} {sz : Env → Nat} {m : Env → Nat} {xs : Env → List Value} (k : RGl P n Γ F ops eats K (j + 1) os Ds ((j, o.dst, ⟨fun _ r => r.1, fun e r => [rowN (ety e) (sz e) r.1 (m e) (xs e)], fun _ r => r.1.oneCell' = true⟩) :: prev)) (hw : ∀ e, wantG (bndR D e prev ++ fcutR bad F) ops o.guard = some true := by intro e; first | rfl | fail)
    (h : ∀ e, oksR D e prev → OpT P n (ensR eats D j e prev ++ Γ) (bndR D e prev ++ fcutR bad F) o [] (RRow (ety e) (sz e) (m e) (xs e)) := by intro e hk; (try dsimp only [bndR, ensR, oksR, fcutR, List.append_nil, List.nil_append, List.cons_append, List.append_assoc] at hk ⊢); first | exact OpT.buildB evbA rfl rfl | exact OpT.buildSlice evpA oneA rfl rfl | fail) (hs : ∀ e, [] = eaten1R eats j e prev := by intro e; first | rfl | fail) (hi : ∀ e, ety (mask D e) = ety e ∧ sz (mask D e) = sz e ∧ m (mask D e) = m e ∧ xs (mask D e) = xs e := by intro e; first | exact ⟨rfl, rfl, rfl, rfl⟩ | fail) :
    RGl P n Γ F ops eats K j (o :: os) ((D, bad) :: Ds) prev := RGl.row (Γ1 := fun _ => []) h k hs hw hi
theorem RGl.appA {ety : Env → TypeId} {sz : Env → Nat} {m : Env → Nat} {xs : Env → List Value} {A : Env → Asn} (k : RGl P n Γ F ops eats K (j + 1) os Ds ((j, o.dst, ⟨fun _ r => r.1, fun e r => [rowN (ety e) (sz e) r.1 (m e) (xs e)], fun _ r => r.1.oneCell' = true⟩) :: prev)) (hw : ∀ e, wantG (bndR D e prev ++ fcutR bad F) ops o.guard = some true := by intro e; first | rfl | fail)
    (h : ∀ e, oksR D e prev → OpT P n (ensR eats D j e prev ++ Γ) (bndR D e prev ++ fcutR bad F) o [A e] (RRow (ety e) (sz e) (m e) (xs e)) := by intro e hk; (try dsimp only [bndR, ensR, oksR, fcutR, List.append_nil, List.nil_append, List.cons_append, List.append_assoc] at hk ⊢); first | exact OpT.appendB rfl rfl takesA hasA (by (try simp only [List.length_append, List.length_cons, List.length_nil, seg_len, be_length, nbs, List.length_map]); omega) rfl | fail) (hs : ∀ e, [A e] = eaten1R eats j e prev := by intro e; first | rfl | fail) (hi : ∀ e, ety (mask D e) = ety e ∧ sz (mask D e) = sz e ∧ m (mask D e) = m e ∧ xs (mask D e) = xs e := by intro e; first | exact ⟨rfl, rfl, rfl, rfl⟩ | fail) :
    RGl P n Γ F ops eats K j (o :: os) ((D, bad) :: Ds) prev := RGl.row (Γ1 := fun e => [A e]) h k hs hw hi
theorem RGl.stA {A B : Env → Asn} (k : RGl P n Γ F ops eats K (j + 1) os Ds ((j, o.dst, ⟨fun _ r => r.1, fun e r => [B e], fun _ _ => True⟩) :: prev)) (hw : ∀ e, wantG (bndR D e prev ++ fcutR bad F) ops o.guard = some true := by intro e; first | rfl | fail)
    (h : ∀ e, oksR D e prev → OpT P n (ensR eats D j e prev ++ Γ) (bndR D e prev ++ fcutR bad F) o [A e] (RLeave [B e]) := by intro e hk; (try dsimp only [bndR, ensR, oksR, fcutR, List.append_nil, List.nil_append, List.cons_append, List.append_assoc] at hk ⊢); first | exact OpT.storeA rfl rfl takesA fokA rfl (by dsimp only [sel, takeCh, upd, dropCh, appCh, setAt, chAt, Option.map_some, List.cons_append, List.nil_append, Nat.reduceSub, Nat.reduceAdd] <;> exact rfl) | exact OpT.store1 rfl rfl takesA rfl (by dsimp only [sel, takeCh, upd, dropCh, appCh, setAt, chAt, Option.map_some, List.cons_append, List.nil_append, Nat.reduceSub, Nat.reduceAdd] <;> exact rfl) | exact OpT.store1 rfl rfl takesA (by assumption) (by dsimp only [sel, takeCh, upd, dropCh, appCh, setAt, chAt, Option.map_some, List.cons_append, List.nil_append, Nat.reduceSub, Nat.reduceAdd] <;> exact rfl) | exact OpT.storeEB rfl rfl takesA natA byteA | exact OpT.storeRB rfl rfl takesA byteA rfl natA (by dsimp only [sel, takeCh, upd, dropCh, appCh, setAt, chAt, Option.map_some, List.cons_append, List.nil_append, Nat.reduceSub, Nat.reduceAdd] <;> exact rfl) | fail) (hs : ∀ e, [A e] = eaten1R eats j e prev := by intro e; first | rfl | fail) (hi : ∀ e, B (mask D e) = B e := by intro e; first | rfl | fail) :
    RGl P n Γ F ops eats K j (o :: os) ((D, bad) :: Ds) prev := RGl.turn h k hs hw hi
theorem RGl.cpA {A B : Env → Asn} (k : RGl P n Γ F ops eats K (j + 1) os Ds ((j, o.dst, ⟨fun _ r => r.1, fun e r => [B e], fun _ _ => True⟩) :: prev)) (hw : ∀ e, wantG (bndR D e prev ++ fcutR bad F) ops o.guard = some true := by intro e; first | rfl | fail)
    (h : ∀ e, oksR D e prev → OpT P n (ensR eats D j e prev ++ Γ) (bndR D e prev ++ fcutR bad F) o [A e] (RLeave [B e]) := by intro e hk; (try dsimp only [bndR, ensR, oksR, fcutR, List.append_nil, List.nil_append, List.cons_append, List.append_assoc] at hk ⊢); first | exact OpT.copyA rfl rfl takesA hasA (by first | exact List.take_of_length_le (by first | omega | (simp; done) | (simp; omega) | fail) | rfl | fail) ovcA | exact OpT.copyE rfl rfl takesA hasA (by first | omega | (simp; omega) | fail) (by first | exact List.take_of_length_le (by first | omega | (simp; done) | (simp; omega) | fail) | rfl | fail) | fail) (hs : ∀ e, [A e] = eaten1R eats j e prev := by intro e; first | rfl | fail) (hi : ∀ e, B (mask D e) = B e := by intro e; first | rfl | fail) :
    RGl P n Γ F ops eats K j (o :: os) ((D, bad) :: Ds) prev := RGl.turn h k hs hw hi
end


/-! ### Short words for the walks' texts -/
theorem iffA {a p : Prop} (h : a ↔ p := by (try simp only [decide_eq_true_eq, decide_eq_false_iff_not, Bool.not_eq_true', Bool.not_eq_false', Bool.and_eq_true, Bool.or_eq_true, Bool.and_eq_false_iff, Bool.or_eq_false_iff, Bool.not_true, Bool.not_false, Int.not_lt, Int.not_le]); exact Iff.rfl) : a ↔ p := h
theorem prA {q : Prop} (h : False := by first | omega | exact clash1 hc (by assumption) | exact clash2 hc (by assumption) | exact hc trivial | exact hc (by assumption) | exact absurd hc (by assumption) | fail) : q := h.elim
section
variable {P : Program} {n : Nat} {W : World} {S : Nat → Prop} {Γ : List Asn} {F : List (Nat × Value)} {Q : Exit → Act → World → Prop}
variable {ops : Array Oper} {os : List Oper} {o : Oper}
theorem WPc.cQ {c : Operand} {x y : Code} {b : Bool} {p q : Prop} (h1 : p → WPc P n W S Γ F x Q) (h2 : q → WPc P n W S Γ F y Q) (hc : evF F c = some (.bool b) := by first | rfl | fail) (e1 : (b = true) ↔ p := by exact iffA) (e2 : (b = false) ↔ q := by exact iffA) : WPc P n W S Γ F (.cond c x y) Q := WPc.cond hc (fun h => h1 (e1.1 h)) (fun h => h2 (e2.1 h))
theorem WPl.spQ {op : Op} {e : Tmp} {j : Nat} {b c : Bool} {d : Nat} {ty : TypeId} {pos : String} {af : Array Edge} {p q : Prop} (h1 : p → WPl P n W S Γ ((d, .bool b) :: F) ops (⟨some e, op, ty, pos, af, none⟩ :: os) Q) (h2 : q → WPl P n W S Γ ((e, undef) :: (d, .bool (!b)) :: F) ops os Q) (hd : (ops[j]?).bind (·.dst) = some d := by first | rfl | fail) (h : lkT F d = some (.bool c) := by first | rfl | fail) (hlt : Nat.blt e n = true := by first | rfl | fail) (e1 : (c = b) ↔ p := by exact iffA) (e2 : (c = !b) ↔ q := by exact iffA) :
    WPl P n W S Γ F ops (⟨some e, op, ty, pos, af, some (j, b)⟩ :: os) Q := WPl.splitG hd h hlt (fun h => h1 (e1.1 h)) (fun h => h2 (e2.1 h))
theorem isCond {c : Operand} {x y : Code} (h : WPc P n W S Γ F (.cond c x y) Q) : WPc P n W S Γ F (.cond c x y) Q := h
theorem isReg (id : Nat) {l : Array Oper} (h : WPc P n W S Γ F (.region id l true) Q) : WPc P n W S Γ F (.region id l true) Q := h
theorem isOp (h : WPl P n W S Γ F ops (o :: os) Q) : WPl P n W S Γ F ops (o :: os) Q := h
section
variable {dd : Option Tmp} {op : Op} {ty : TypeId} {pos : String} {af : Array Edge} {gd : Option (Nat × Bool)} {T : TypeId} {x y z : Operand} {xs : Array Operand} {ts : Array TypeId} {m : Nat} {ps : Array (Nat × Operand)}
theorem isD (d : Nat) (h : WPl P n W S Γ F ops (⟨some d, op, ty, pos, af, gd⟩ :: os) Q) : WPl P n W S Γ F ops (⟨some d, op, ty, pos, af, gd⟩ :: os) Q := h
theorem isC (d : Nat) (h : WPl P n W S Γ F ops (⟨some d, .call ⟨.value x, xs, ts⟩, ty, pos, af, gd⟩ :: os) Q) : WPl P n W S Γ F ops (⟨some d, .call ⟨.value x, xs, ts⟩, ty, pos, af, gd⟩ :: os) Q := h
theorem isCl (h : WPl P n W S Γ F ops (⟨dd, .call ⟨.value x, xs, ts⟩, ty, pos, af, gd⟩ :: os) Q) : WPl P n W S Γ F ops (⟨dd, .call ⟨.value x, xs, ts⟩, ty, pos, af, gd⟩ :: os) Q := h
theorem isSt (h : WPl P n W S Γ F ops (⟨dd, .store T x y, ty, pos, af, gd⟩ :: os) Q) : WPl P n W S Γ F ops (⟨dd, .store T x y, ty, pos, af, gd⟩ :: os) Q := h
theorem isAl (h : WPl P n W S Γ F ops (⟨dd, .alloc T, ty, pos, af, gd⟩ :: os) Q) : WPl P n W S Γ F ops (⟨dd, .alloc T, ty, pos, af, gd⟩ :: os) Q := h
theorem isBx (h : WPl P n W S Γ F ops (⟨dd, .box T x, ty, pos, af, gd⟩ :: os) Q) : WPl P n W S Γ F ops (⟨dd, .box T x, ty, pos, af, gd⟩ :: os) Q := h
theorem isLit (h : WPl P n W S Γ F ops (⟨dd, .buildSlice T m ps, ty, pos, af, gd⟩ :: os) Q) : WPl P n W S Γ F ops (⟨dd, .buildSlice T m ps, ty, pos, af, gd⟩ :: os) Q := h
theorem isApp (h : WPl P n W S Γ F ops (⟨dd, .call ⟨.builtin .append, xs, ts⟩, ty, pos, af, gd⟩ :: os) Q) : WPl P n W S Γ F ops (⟨dd, .call ⟨.builtin .append, xs, ts⟩, ty, pos, af, gd⟩ :: os) Q := h
theorem isCp (h : WPl P n W S Γ F ops (⟨dd, .call ⟨.builtin .copy, xs, ts⟩, ty, pos, af, gd⟩ :: os) Q) : WPl P n W S Γ F ops (⟨dd, .call ⟨.builtin .copy, xs, ts⟩, ty, pos, af, gd⟩ :: os) Q := h
end
end
section
variable {P : Program} {n : Nat} {Γ : List Asn} {F : List (Nat × Value)} {ops : Array Oper} {eats : List (Nat × Nat)} {K : Prev → Prop} {j : Nat} {os : List Oper} {o : Oper} {Ds : List (List Nat × List Nat)} {prev : Prev}
theorem gAny {os : List Oper} (h : RGl P n Γ F ops eats K j os Ds prev) : RGl P n Γ F ops eats K j os Ds prev := h
theorem gOp (h : RGl P n Γ F ops eats K j (o :: os) Ds prev) : RGl P n Γ F ops eats K j (o :: os) Ds prev := h
variable {dd : Option Tmp} {op : Op} {ty : TypeId} {pos : String} {af : Array Edge} {gd : Option (Nat × Bool)} {T : TypeId} {x y z : Operand} {xs : Array Operand} {ts : Array TypeId} {m : Nat} {ps : Array (Nat × Operand)} {gi : Nat × Bool}
theorem gGd (h : RGl P n Γ F ops eats K j (⟨dd, op, ty, pos, af, some gi⟩ :: os) Ds prev) : RGl P n Γ F ops eats K j (⟨dd, op, ty, pos, af, some gi⟩ :: os) Ds prev := h
theorem gD (d : Nat) (h : RGl P n Γ F ops eats K j (⟨some d, op, ty, pos, af, gd⟩ :: os) Ds prev) : RGl P n Γ F ops eats K j (⟨some d, op, ty, pos, af, gd⟩ :: os) Ds prev := h
theorem gC (d : Nat) (h : RGl P n Γ F ops eats K j (⟨some d, .call ⟨.value x, xs, ts⟩, ty, pos, af, gd⟩ :: os) Ds prev) : RGl P n Γ F ops eats K j (⟨some d, .call ⟨.value x, xs, ts⟩, ty, pos, af, gd⟩ :: os) Ds prev := h
theorem gCl (h : RGl P n Γ F ops eats K j (⟨dd, .call ⟨.value x, xs, ts⟩, ty, pos, af, gd⟩ :: os) Ds prev) : RGl P n Γ F ops eats K j (⟨dd, .call ⟨.value x, xs, ts⟩, ty, pos, af, gd⟩ :: os) Ds prev := h
theorem gSt (h : RGl P n Γ F ops eats K j (⟨dd, .store T x y, ty, pos, af, gd⟩ :: os) Ds prev) : RGl P n Γ F ops eats K j (⟨dd, .store T x y, ty, pos, af, gd⟩ :: os) Ds prev := h
theorem gAl (h : RGl P n Γ F ops eats K j (⟨dd, .alloc T, ty, pos, af, gd⟩ :: os) Ds prev) : RGl P n Γ F ops eats K j (⟨dd, .alloc T, ty, pos, af, gd⟩ :: os) Ds prev := h
theorem gBx (h : RGl P n Γ F ops eats K j (⟨dd, .box T x, ty, pos, af, gd⟩ :: os) Ds prev) : RGl P n Γ F ops eats K j (⟨dd, .box T x, ty, pos, af, gd⟩ :: os) Ds prev := h
theorem gLit (h : RGl P n Γ F ops eats K j (⟨dd, .buildSlice T m ps, ty, pos, af, gd⟩ :: os) Ds prev) : RGl P n Γ F ops eats K j (⟨dd, .buildSlice T m ps, ty, pos, af, gd⟩ :: os) Ds prev := h
theorem gApp (h : RGl P n Γ F ops eats K j (⟨dd, .call ⟨.builtin .append, xs, ts⟩, ty, pos, af, gd⟩ :: os) Ds prev) : RGl P n Γ F ops eats K j (⟨dd, .call ⟨.builtin .append, xs, ts⟩, ty, pos, af, gd⟩ :: os) Ds prev := h
theorem gCp (h : RGl P n Γ F ops eats K j (⟨dd, .call ⟨.builtin .copy, xs, ts⟩, ty, pos, af, gd⟩ :: os) Ds prev) : RGl P n Γ F ops eats K j (⟨dd, .call ⟨.builtin .copy, xs, ts⟩, ty, pos, af, gd⟩ :: os) Ds prev := h
end
/-- A drawn region, its side conditions had by themselves. -/
theorem WPc.drA {P : Program} {n : Nat} {W : World} {S : Nat → Prop} {Γ : List Asn} {F : List (Nat × Value)} {Q : Exit → Act → World → Prop} {id : Nat} {l : List Oper} (Ds : List (List Nat × List Nat)) (eats : List (Nat × Nat)) {Γx Γr : List Asn} (h : RGl P n Γr F l.toArray eats (fun prev => ∀ e, oksA e prev → WPq n W S (ensA eats e prev ++ Γr) (bndA e prev ++ F) Q .normal) 0 l Ds (prev0 l.length Γx))
    (hx : Takes Γ Γx Γr := by exact takesA) (hox : ∀ A, A ∈ Γx → A.own = true := by ((repeat' (first | exact own_nil | refine own_cons (by first | exact bx_own | exact rowN_own | exact rfl) ?_ | fail)) <;> fail)) (hm : P.follows .mixedOrders = true := by kernel_rfl) (hok : regOk n Γx.length l Ds eats = true := by kernel_rfl) :
    WPc P n W S Γ F (.region id l.toArray true) Q := WPc.drawn Ds eats hx hox hm hok h
theorem OpT.callN {P : Program} {n : Nat} {Γ : List Asn} {F : List (Nat × Value)} {d : Option Tmp} {f : FuncId} {xs : List Operand} {ts : Array TypeId} {ty : TypeId} {pos : String} {af : Array Edge} {gd : Option (Nat × Bool)} {vs : List Value} {Δ : List Asn} {R : Value → List Asn → Prop}
    (h : Triple P f vs.toArray Δ R) (hx : evFs F xs vs := by (try dsimp only [bndR, ensR, oksR, fcutR, List.append_nil, List.nil_append, List.cons_append, List.append_assoc]); exact evsA) (hΔ : Provs Γ Δ := by (try dsimp only [bndR, ensR, oksR, fcutR, List.append_nil, List.nil_append, List.cons_append, List.append_assoc]); exact provsA) (hc : isCode P f = true := by kernel_rfl) : OpT P n Γ F ⟨d, .call { callee := .value (.func f), args := xs.toArray, argTypes := ts }, ty, pos, af, gd⟩ [] R := OpT.call h hx hΔ hc

end Go.Proofs.YtpilenbdimhegaaGreatDoor
/- Separation: what numbers do, as the walk meets them, of all kinds. -/
namespace Go.Proofs.YtpilenbdimhegaaGreatDoor
open Go.RowKit
set_option linter.unusedSimpArgs false
set_option linter.unusedVariables false

def kmin : IntKind → Int
  | .u8 | .u16 | .u32 | .u64 => 0
  | .i8 => -128 | .i16 => -32768 | .i32 => -2147483648 | .i64 => -9223372036854775808
def kmax : IntKind → Int
  | .u8 => 255 | .u16 => 65535 | .u32 => 4294967295 | .u64 => 18446744073709551615
  | .i8 => 127 | .i16 => 32767 | .i32 => 2147483647 | .i64 => 9223372036854775807
theorem wrapK {k : IntKind} {a : Int} (h1 : kmin k ≤ a) (h2 : a ≤ kmax k) : k.wrap a = a := by
  cases k <;> simp only [kmin, kmax] at h1 h2 <;> simp [IntKind.wrap, IntKind.bits, IntKind.signed] <;> omega

variable {P : Program} {T : TypeId} {k k2 : IntKind} {a b : Int}
theorem BinR.addK (h1 : kmin k ≤ a + b) (h2 : a + b ≤ kmax k) : BinR P .add T (.int k a) (.int k b) (.int k (a + b)) := BinR.addW.of (by rw [wrapK h1 h2])
theorem BinR.mulK (h1 : kmin k ≤ a * b) (h2 : a * b ≤ kmax k) : BinR P .mul T (.int k a) (.int k b) (.int k (a * b)) := BinR.mulW.of (by rw [wrapK h1 h2])
theorem BinR.quoK (h0 : 0 ≤ a) (hb : 0 < b) (h2 : a ≤ kmax k) : BinR P .quo T (.int k a) (.int k b) (.int k (a / b)) := fun X Y w => by
  have hne : b ≠ 0 := by omega
  have e : a.tdiv b = a / b := Int.tdiv_eq_ediv_of_nonneg h0
  have h3 : 0 ≤ a / b := Int.ediv_nonneg h0 (by omega)
  have h4 : a / b ≤ a := Int.ediv_le_self _ h0
  have h5 : kmin k ≤ 0 := by cases k <;> decide
  simp [eqGuard, binOp, Op.intDiv, hne, e, wrapK (k := k) (a := a / b) (by omega) (by omega)]
theorem BinR.remK (h0 : 0 ≤ a) (hb : 0 < b) : BinR P .rem T (.int k a) (.int k b) (.int k (a % b)) := fun X Y w => by
  have hne : b ≠ 0 := by omega
  have e : a.tmod b = a % b := Int.tmod_eq_emod_of_nonneg h0
  simp [eqGuard, binOp, Op.intDiv, hne, e]
/-- A shift by a number that is written. -/
theorem BinR.shlK {n : Nat} {s : Int} (hs : s = Int.ofNat n) (hn : Nat.ble n (kw k) = true) (h1 : kmin k ≤ a * 2 ^ n) (h2 : a * 2 ^ n ≤ kmax k) : BinR P .shl T (.int k a) (.int k2 s) (.int k (a * 2 ^ n)) := fun X Y w => by
  subst hs
  have h0 : ¬ ((n : Nat) : Int) < 0 := by omega
  have hm : min n k.bits = n := by rw [kw_bits]; exact Nat.min_eq_left (Nat.le_of_ble_eq_true hn)
  simp only [eqGuard, binOp, Op.shift, Int.ofNat_eq_natCast, h0, if_false, Int.toNat_natCast, hm]
  rw [wrapK h1 h2]
  simp
theorem BinR.shrK {n : Nat} {s : Int} (hs : s = Int.ofNat n) (hn : Nat.ble n (kw k) = true) : BinR P .shr T (.int k a) (.int k2 s) (.int k (a / 2 ^ n)) := fun X Y w => by
  subst hs
  have h0 : ¬ ((n : Nat) : Int) < 0 := by omega
  have hm : min n k.bits = n := by rw [kw_bits]; exact Nat.min_eq_left (Nat.le_of_ble_eq_true hn)
  simp only [eqGuard, binOp, Op.shift, Int.ofNat_eq_natCast, h0, if_false, Int.toNat_natCast, hm]
  rw [Int.fdiv_eq_ediv_of_nonneg _ (by exact Int.le_of_lt (Int.pow_pos (by decide)))]
  simp
theorem kmax_lt (hk : isU k = true) : kmax k < ((2 ^ kw k : Nat) : Int) := by cases k <;> simp [isU] at hk <;> simp [kmax, kw]
theorem BinR.andZ (hk : isU k = true) (ha : 0 ≤ a) (ha' : a ≤ kmax k) (hb : 0 ≤ b) (hb' : b ≤ kmax k) : BinR P .and T (.int k a) (.int k b) (.int k ((a.toNat &&& b.toNat : Nat) : Int)) := by
  have hl := kmax_lt hk
  have := BinR.andN (P := P) (T := T) (k := k) (a := a.toNat) (b := b.toNat) hk (by omega) (by omega)
  rwa [Int.toNat_of_nonneg ha, Int.toNat_of_nonneg hb] at this
/-- A number's lowest bits. -/
theorem BinR.andLow {n : Nat} {m : Int} (hk : isU k = true) (hm : b = m) (hn : m + 1 = ((2 ^ n : Nat) : Int)) (ha : 0 ≤ a) (ha' : a ≤ kmax k) (hb' : m ≤ kmax k) : BinR P .and T (.int k a) (.int k b) (.int k (a % (m + 1))) := by
  subst hm
  have hp : 0 < 2 ^ n := Nat.pow_pos (by decide)
  have hb : 0 ≤ b := by omega
  refine (BinR.andZ hk ha ha' hb hb').of ?_
  have e : b.toNat = 2 ^ n - 1 := by omega
  rw [e, Nat.and_two_pow_sub_one_eq_mod, hn, Int.natCast_emod, Int.toNat_of_nonneg ha]
section
variable {n : Nat} {Γ : List Asn} {F : List (Nat × Value)} {d : Option Tmp} {ty : TypeId} {pos : String} {af : Array Edge} {gd : Option (Nat × Bool)}
/-- All bits turned. -/
theorem ReadR.xorU {x : Operand} {T : TypeId} (hx : evF F x = some (.int k a)) (hk : isU k = true) (h0 : 0 ≤ a) (h1 : a ≤ kmax k) : ReadR P n Γ F ⟨d, .unOp .xor T x, ty, pos, af, gd⟩ (.int k (kmax k - a)) := fun ρ w hf hw => by
  have hl := kmax_lt hk
  obtain ⟨m, rfl⟩ := Int.eq_ofNat_of_zero_le h0
  have e : (BitVec.ofInt k.bits k.max ^^^ BitVec.ofInt k.bits (m : Int)).toNat = 2 ^ kw k - 1 - m := by
    have e1 : BitVec.ofInt k.bits k.max = BitVec.allOnes k.bits := by cases k <;> simp [isU] at hk <;> decide
    rw [e1, BitVec.allOnes_xor, BitVec.toNat_not, kw_bits, bv_nat (by omega)]
  have hs : k.signed = false := by cases k <;> simp [isU] at hk <;> rfl
  have hmx : kmax k = ((2 ^ kw k - 1 : Nat) : Int) := by cases k <;> simp [isU] at hk <;> decide
  have h5 : kmin k = 0 := by cases k <;> simp [isU] at hk <;> rfl
  have e2 : k.wrap (((2 ^ kw k - 1 - m : Nat) : Int)) = kmax k - (m : Int) := by
    rw [wrapK (by rw [h5]; omega) (by rw [hmx]; omega), hmx]; omega
  simp only [execOp, hf.eval hx, Op.unary, hs, Bool.false_eq_true, if_false, Op.intBits, e, e2]
  simp
theorem idxZ {x : Operand} {c : Int} (h : evF F x = some (.int k c)) (h0 : 0 ≤ c) : evF F x = some (.int k (Int.ofNat c.toNat)) := by
  rw [Int.ofNat_eq_natCast, Int.toNat_of_nonneg h0]; exact h
end

theorem boolV {p q : Prop} [Decidable p] [Decidable q] (h : p ↔ q) : Value.bool (decide p) = .bool (decide q) := by rw [decide_eq_decide.2 h]
theorem intV {k : IntKind} {a b : Int} (h : a = b) : Value.int k a = .int k b := by rw [h]
theorem binB {op : BinOp} {a b v : Value} (h : BinR P op T a b v := by first | exact binA | (apply BinR.addK; (simp only [kmin]; omega); (simp only [kmax]; omega)) | (apply BinR.subK; (simp only [kmin]; omega); (simp only [kmax]; omega)) | (apply BinR.mulK; (simp only [kmin]; omega); (simp only [kmax]; omega)) | (apply BinR.quoK; omega; omega; (simp only [kmax]; omega)) | (apply BinR.remK; omega; omega) | (apply BinR.shrK; exact rfl; exact rfl) | (apply BinR.shlK; exact rfl; exact rfl; (simp only [kmin]; omega); (simp only [kmax]; omega)) | (apply BinR.orAdd; exact rfl; omega; (simp only [kmax]; omega); omega; omega) | (apply BinR.andLow (n := 4); exact rfl; exact rfl; exact rfl; omega; (simp only [kmax]; omega); (simp only [kmax]; omega)) | (apply BinR.andLow (n := 16); exact rfl; exact rfl; exact rfl; omega; (simp only [kmax]; omega); (simp only [kmax]; omega)) | fail) : BinR P op T a b v := h

section
variable {n : Nat} {W : World} {S : Nat → Prop} {Γ : List Asn} {F : List (Nat × Value)} {Q : Exit → Act → World → Prop}
variable {ops : Array Oper} {os : List Oper} {o : Oper} {d : Tmp}
theorem readB {v : Value} (h : ReadR P n Γ F o v := by first | (apply ReadR.bin; exact rfl; exact rfl; exact binB) | (apply ReadR.xorU; exact rfl; exact rfl; omega; (simp only [kmax]; omega)) | (apply ReadR.conv; exact rfl; exact convB) | (apply ReadR.indexE1; exact rfl; (apply idxZ; exact rfl; omega); exact hasA; omega) | (apply ReadR.indexR; exact rfl; (apply idxZ; exact rfl; omega); omega) | (apply ReadR.sliceLH; exact rfl; (first | exact idxA | (apply idxZ; exact rfl; omega)); (first | exact idxA | (apply idxZ; exact rfl; omega)); exact hasA; omega; omega) | (apply ReadR.sliceL; exact rfl; (apply idxZ; exact rfl; omega); exact hasA; omega) | (apply ReadR.sliceH; exact rfl; (apply idxZ; exact rfl; omega); exact hasA; omega) | (apply ReadR.arrL; exact rfl; (apply idxZ; exact rfl; omega); omega) | fail) : ReadR P n Γ F o v := h
/-- A read of the second kind. -/
theorem WPl.rdB {v : Value} (k : WPl P n W S Γ ((d, v) :: F) ops os Q) (hd : o.dst = some d := by first | rfl | fail) (hlt : Nat.blt d n = true := by first | rfl | fail) (hw : wantG F ops o.guard = some true := by first | rfl | fail) (h : ReadR P n Γ F o v := by first | exact readB | fail) :
    WPl P n W S Γ F ops (o :: os) Q := WPl.read hd hlt hw h k

/-- The rule of a call that takes some of the state, and gives it back. -/
theorem WPl.cO {d : Option Tmp} {f : FuncId} {xs : List Operand} {ts : Array TypeId} {ty : TypeId} {pos : String} {af : Array Edge} {gd : Option (Nat × Bool)} {vs : List Value} {Δ Γo Γf : List Asn} {R : Value → List Asn → Prop}
    (h : Triple P f vs.toArray (Δ ++ Γo) R) (k : ∀ v Γ', R v Γ' → WPl P n W S (Γ' ++ Γf) (putF F d v) ops os Q) (hfp : ∀ A, A ∈ Δ → ∀ g, A.fp g → ∃ B, B ∈ Γf ∧ B.fp g) (hx : evFs F xs vs := by first | exact evsA | fail) (hp : Takes Γ Γo Γf := by first | exact takesA | fail) (hΔ : Provs Γf Δ := by first | exact provsA | fail) (hc : isCode P f = true := by first | kernel_rfl | fail) (hd : dstOk n d = true := by first | rfl | fail) (hw : wantG F ops gd = some true := by first | rfl | fail) :
    WPl P n W S Γ F ops (⟨d, .call { callee := .value (.func f), args := xs.toArray, argTypes := ts }, ty, pos, af, gd⟩ :: os) Q := WPl.callO h hx hp hΔ hfp hc hd hw k
/-- Such a call that gives a value, and turns one block. -/
def RTurn (c : Value) (A : Asn) : Value → List Asn → Prop := fun v Γ => v = c ∧ Γ = [A]
theorem fpRd {Γf : List Asn} {v : Value} {m : Nat} {xs : List Value} (h : rdN v m xs ∈ Γf) : ∀ A, A ∈ [rdN v m xs] → ∀ g, A.fp g → ∃ B, B ∈ Γf ∧ B.fp g := fun A hA g hg => ⟨_, h, by rw [← List.mem_singleton.1 hA]; exact hg⟩
theorem fpOb {Γf : List Asn} {e : TypeId} {sz : Nat} {v : Value} {m : Nat} {xs : List Value} (h : rowN e sz v m xs ∈ Γf) : ∀ A, A ∈ [rdN v m xs] → ∀ g, A.fp g → ∃ B, B ∈ Γf ∧ B.fp g := fun A hA g hg => ⟨_, h, by rw [List.mem_singleton.1 hA] at hg; exact hg.2⟩
theorem fpNil {Γf : List Asn} : ∀ A, A ∈ ([] : List Asn) → ∀ g, A.fp g → ∃ B, B ∈ Γf ∧ B.fp g := fun _ h => by cases h
theorem fpA {Γf Δ : List Asn} (h : ∀ A, A ∈ Δ → ∀ g, A.fp g → ∃ B, B ∈ Γf ∧ B.fp g := by first | exact fpNil | exact fpRd memA | exact fpOb memA | fail) : ∀ A, A ∈ Δ → ∀ g, A.fp g → ∃ B, B ∈ Γf ∧ B.fp g := h
theorem WPl.cT {d : Option Tmp} {f : FuncId} {xs : List Operand} {ts : Array TypeId} {ty : TypeId} {pos : String} {af : Array Edge} {gd : Option (Nat × Bool)} {vs : List Value} {Δ Γf : List Asn} {A B : Asn} {c : Value}
    (h : Triple P f vs.toArray (Δ ++ [A]) (RTurn c B)) (k : WPl P n W S (B :: Γf) (putF F d c) ops os Q) (hx : evFs F xs vs := by first | exact evsA | fail) (hp : Takes Γ [A] Γf := by first | exact takesA | fail) (hfp : ∀ A, A ∈ Δ → ∀ g, A.fp g → ∃ B, B ∈ Γf ∧ B.fp g := by first | exact fpA | fail) (hΔ : Provs Γf Δ := by first | exact provsA | fail) (hc : isCode P f = true := by first | kernel_rfl | fail) (hd : dstOk n d = true := by first | rfl | fail) (hw : wantG F ops gd = some true := by first | rfl | fail) :
    WPl P n W S Γ F ops (⟨d, .call { callee := .value (.func f), args := xs.toArray, argTypes := ts }, ty, pos, af, gd⟩ :: os) Q :=
  WPl.callO h hx hp hΔ hfp hc hd hw (by rintro v Γ' ⟨rfl, rfl⟩; exact k)
theorem WPq.dT {fn : Func} {rs : List ResultVar} {vs : List Value} {c : Value} {A : Asn} {Γx : List Asn} {e : Exit} (he : e = .ret ∨ e = .normal := by first | exact .inl rfl | exact .inr rfl | fail) (hr : fn.results = rs.toArray := by first | rfl | fail) (h : ResF P Γ F rs vs := by first | exact resA | fail) (hp : Takes Γ [A] Γx := by first | exact takesA | fail) (hc : resV vs = c := by first | rfl | fail) (ho : A.own = true := by first | exact bx_own | exact rowN_own | rfl | fail) :
    WPq n W S Γ F (Done P fn W S (RTurn c A)) e := WPq.done he hr h hp (fun B hB => by rw [List.mem_singleton.1 hB]; exact ho) ⟨hc, rfl⟩
end
end Go.Proofs.YtpilenbdimhegaaGreatDoor
/- Maps: what they hold, and what operations do with them. -/
namespace Go.Proofs.YtpilenbdimhegaaGreatDoor
open Go.RowKit
set_option linter.unusedSimpArgs false
set_option linter.unusedVariables false
set_option linter.unusedSectionVars false

/-- How keys and elements stand in a map. -/
structure MK (K V : Type) where
  kc : K → Value
  vc : V → Value
  v0 : V
  wf : K → Prop
section
variable {K V : Type} [DecidableEq K]
def mfind : List (K × V) → K → Option V
  | [], _ => none
  | x :: l, k => if x.1 = k then some x.2 else mfind l k
def mput : List (K × V) → K → V → List (K × V)
  | [], k, v => [(k, v)]
  | x :: l, k, v => if x.1 = k then (k, v) :: l else x :: mput l k v
def mdel : List (K × V) → K → List (K × V)
  | [], _ => []
  | x :: l, k => if x.1 = k then l else x :: mdel l k
def mget (M : MK K V) (l : List (K × V)) (k : K) : V := (mfind l k).getD M.v0
def mhas (l : List (K × V)) (k : K) : Bool := (mfind l k).isSome
theorem mfind_none {l : List (K × V)} {k : K} (h : ∀ x ∈ l, x.1 ≠ k) : mfind l k = none ∧ (∀ v, mput l k v = l ++ [(k, v)]) ∧ mdel l k = l := by
  induction l with
  | nil => exact ⟨rfl, fun _ => rfl, rfl⟩
  | cons x l ih =>
    obtain ⟨h1, h2, h3⟩ := ih fun y hy => h y (List.mem_cons_of_mem _ hy)
    have hx := h x (List.mem_cons_self ..)
    simp only [mfind, mput, mdel, if_neg hx, h1, h2, h3, List.cons_append, implies_true, and_self]
theorem mfind_some {l : List (K × V)} {k : K} (hn : (l.map (·.1)).Nodup) : ∀ {j : Nat} {x : K × V}, l[j]? = some x → x.1 = k → mfind l k = some x.2 ∧ (∀ v, mput l k v = l.set j (k, v)) ∧ mdel l k = l.eraseIdx j := by
  induction l with
  | nil => intro j x h; simp at h
  | cons y l ih =>
    intro j x h hk
    rw [List.map_cons, List.nodup_cons] at hn
    cases j with
    | zero =>
      simp only [List.getElem?_cons_zero, Option.some.injEq] at h
      subst h
      simp only [mfind, mput, mdel, if_pos hk, List.set_cons_zero, List.eraseIdx_cons_zero, implies_true, and_self]
    | succ j =>
      simp only [List.getElem?_cons_succ] at h
      have hne : y.1 ≠ k := by
        intro e
        apply hn.1
        rw [e, ← hk]
        exact List.mem_map.2 ⟨x, List.mem_of_getElem? h, rfl⟩
      obtain ⟨h1, h2, h3⟩ := ih hn.2 h hk
      simp only [mfind, mput, mdel, if_neg hne, h1, h2, h3, List.set_cons_succ, List.eraseIdx_cons_succ, implies_true, and_self]
theorem mput_keys {l : List (K × V)} {k : K} {v : V} (hn : (l.map (·.1)).Nodup) : ((mput l k v).map (·.1)).Nodup := by
  have key : ∀ l : List (K × V), ∀ a, a ∈ (mput l k v).map (·.1) → a = k ∨ a ∈ l.map (·.1) := by
    intro l
    induction l with
    | nil => intro a h; simpa [mput] using h
    | cons x l ih =>
      intro a h
      unfold mput at h
      split at h
      · simp only [List.map_cons, List.mem_cons] at h ⊢
        rcases h with h | h
        · exact .inl h
        · exact .inr (.inr h)
      · simp only [List.map_cons, List.mem_cons] at h ⊢
        rcases h with h | h
        · exact .inr (.inl h)
        · rcases ih a h with h | h
          · exact .inl h
          · exact .inr (.inr h)
  induction l with
  | nil => simp [mput]
  | cons x l ih =>
    rw [List.map_cons, List.nodup_cons] at hn
    unfold mput
    split
    · rename_i e
      subst e
      rw [List.map_cons, List.nodup_cons]
      exact hn
    · rename_i e
      rw [List.map_cons, List.nodup_cons]
      refine ⟨fun hm => ?_, ih hn.2⟩
      rcases key l _ hm with h | h
      · exact e h
      · exact hn.1 h
theorem mdel_sub {l : List (K × V)} {k : K} : (mdel l k).Sublist l := by
  induction l with
  | nil => exact .slnil
  | cons x l ih =>
    unfold mdel
    split
    · exact List.sublist_cons_self ..
    · exact ih.cons_cons _
theorem mdel_keys {l : List (K × V)} {k : K} (hn : (l.map (·.1)).Nodup) : ((mdel l k).map (·.1)).Nodup := (mdel_sub.map _).nodup hn
theorem mfind_put {l : List (K × V)} {k k' : K} {v : V} : mfind (mput l k v) k' = if k = k' then some v else mfind l k' := by
  induction l with
  | nil => simp [mput, mfind]
  | cons x l ih =>
    unfold mput
    split
    · rename_i e
      subst e
      simp only [mfind]
      split <;> rfl
    · rename_i e
      simp only [mfind, ih]
      by_cases h : x.1 = k'
      · have : k ≠ k' := fun hh => e (h.trans hh.symm)
        rw [if_pos h, if_neg this, if_pos h]
      · rw [if_neg h, if_neg h]
end

/-- Map g is one's own, and holds these. -/
def mp {K V : Type} (M : MK K V) (g : Nat) (l : List (K × V)) : Asn where
  own := true
  fp := fun g' => g' = g
  holds := fun w => ∃ es clock, w.heap[g]? = some (.map es clock) ∧ es.toList.map (fun e => (e.key, e.val)) = l.map (fun x => (M.kc x.1, M.vc x.2)) ∧ (es.toList.map (·.born)).Pairwise (· < ·) ∧ (∀ e ∈ es.toList, e.born < clock) ∧ (l.map (·.1)).Nodup ∧ ∀ x ∈ l, M.wf x.1
  lt := fun w h g' hg => by
    subst hg
    obtain ⟨es, clock, h, _⟩ := h
    rcases Nat.lt_or_ge g' w.heap.size with h1 | h1
    · exact h1
    · rw [Array.getElem?_eq_none h1] at h; cases h
  loc := fun w w' h hl => by
    obtain ⟨es, clock, h, h2⟩ := h
    exact ⟨es, clock, by rw [hl g rfl]; exact h, h2⟩
theorem mp_own {K V : Type} {M : MK K V} {g : Nat} {l : List (K × V)} : (mp M g l).own = true := rfl

class MapI {K V : Type} (P : Program) (T : TypeId) (M : MK K V) : Prop where
  law : ∃ kT eT, P.underlying T = some (.map kT eT) ∧ Go.Maps.Keyed P kT ∧ (∀ k, M.wf k → ∃ l, keyOf P kT (M.kc k) = some l) ∧ ∀ w, (zeroValue eT).run P w = .ok (M.vc M.v0) w
  inj : ∀ a b, M.kc a = M.kc b → a = b

section
variable {K V : Type} [DecidableEq K] {P : Program} {T : TypeId} {M : MK K V}
theorem mp_at {es : List MapEntry} {l : List (K × V)} (h : es.map (fun e => (e.key, e.val)) = l.map (fun x => (M.kc x.1, M.vc x.2))) {j : Nat} {e : MapEntry} (he : es[j]? = some e) : ∃ x, l[j]? = some x ∧ e.key = M.kc x.1 ∧ e.val = M.vc x.2 := by
  have h1 : (es.map (fun e => (e.key, e.val)))[j]? = some (e.key, e.val) := by rw [List.getElem?_map, he]; rfl
  rw [h, List.getElem?_map] at h1
  cases hx : l[j]? with
  | none => rw [hx] at h1; cases h1
  | some x =>
    rw [hx] at h1
    simp only [Option.map_some, Option.some.injEq, Prod.mk.injEq] at h1
    exact ⟨x, rfl, h1.1.symm, h1.2.symm⟩
theorem mp_key {es : List MapEntry} {l : List (K × V)} (h : es.map (fun e => (e.key, e.val)) = l.map (fun x => (M.kc x.1, M.vc x.2))) {e : MapEntry} (he : e ∈ es) : ∃ x ∈ l, e.key = M.kc x.1 := by
  obtain ⟨j, hj⟩ := List.getElem?_of_mem he
  obtain ⟨x, h0, h1, _⟩ := mp_at h hj
  exact ⟨x, List.mem_of_getElem? h0, h1⟩
theorem mp_no {es : List MapEntry} {l : List (K × V)} (h : es.map (fun e => (e.key, e.val)) = l.map (fun x => (M.kc x.1, M.vc x.2))) {k : K} (hk : ∀ e ∈ es, e.key ≠ M.kc k) : ∀ x ∈ l, x.1 ≠ k := by
  intro x hx e
  have : (M.kc x.1, M.vc x.2) ∈ es.map (fun e => (e.key, e.val)) := by rw [h]; exact List.mem_map.2 ⟨x, hx, rfl⟩
  obtain ⟨y, hy, he⟩ := List.mem_map.1 this
  simp only [Prod.mk.injEq] at he
  exact hk y hy (by rw [he.1, e])
theorem run_mlook [h : MapI P T M] {g : Nat} {l : List (K × V)} {w : World} (hm : (mp M g l).holds w) (k : K) (hkw : M.wf k) (ok : Bool) :
    (Instr.lookup T (.map (some g)) (M.kc k) ok).run P w = .ok (if ok then .tuple #[M.vc (mget M l k), .bool (mhas l k)] else M.vc (mget M l k)) w := by
  obtain ⟨kT, eT, hu, hK, hk, hz⟩ := h.law
  obtain ⟨es, clock, hb, he, h1, h2, hn, hwf⟩ := hm
  obtain ⟨kl, hkl⟩ := hk k hkw
  have hall : ∀ e ∈ es.toList, ∃ l, keyOf P kT e.key = some l := fun e hm => by
    obtain ⟨x', hx', hk'⟩ := mp_key he hm
    rw [hk']; exact hk _ (hwf x' hx')
  rcases hK.find w hkl es.toList hall with ⟨f1, f2⟩ | ⟨j, e0, f1, f2, f3⟩
  · have := (mfind_none (mp_no he f2)).1
    simp [Instr.lookup, run_underlying hu, MapKept.run_getObj_map hb, hK.check w _ hkl, f1, hz, Result.andThen, mget, mhas, this]
  · obtain ⟨x, g1, g2, g3⟩ := mp_at he f2
    have hx : x.1 = k := h.inj _ _ (g2.symm.trans f3)
    have := (mfind_some hn g1 hx).1
    simp [Instr.lookup, run_underlying hu, MapKept.run_getObj_map hb, hK.check w _ hkl, f1, Result.andThen, mget, mhas, this, g3]
theorem mod_block {S : Nat → Prop} {g : Nat} (hg : S g) (w : World) (o : Obj) : Mod S w (ChangeMaps.setBlock w g o) :=
  ⟨rfl, rfl, rfl, by simp [ChangeMaps.setBlock], Nat.le_refl _, fun k _ hk => by
    have : g ≠ k := fun e => hk (e ▸ hg)
    simp [ChangeMaps.setBlock, Array.getElem?_setIfInBounds, this]⟩
theorem block_set {w : World} {g : Nat} {o o' : Obj} (h : w.heap[g]? = some o) : (ChangeMaps.setBlock w g o').heap[g]? = some o' := by
  have : g < w.heap.size := (Array.getElem?_eq_some_iff.1 h).1
  simp [ChangeMaps.setBlock, Array.getElem?_setIfInBounds, this]
theorem mput_wf {l : List (K × V)} {k : K} {v : V} (h : ∀ x ∈ l, M.wf x.1) (hk : M.wf k) : ∀ x ∈ Go.Proofs.YtpilenbdimhegaaGreatDoor.mput l k v, M.wf x.1 := by
  induction l with
  | nil => intro x hx; simp only [Go.Proofs.YtpilenbdimhegaaGreatDoor.mput, List.mem_singleton] at hx; subst hx; exact hk
  | cons y l ih =>
    intro x hx
    unfold Go.Proofs.YtpilenbdimhegaaGreatDoor.mput at hx
    split at hx
    · rcases List.mem_cons.1 hx with rfl | hx
      · exact hk
      · exact h x (List.mem_cons_of_mem _ hx)
    · rcases List.mem_cons.1 hx with rfl | hx
      · exact h _ (List.mem_cons_self ..)
      · exact ih (fun z hz => h z (List.mem_cons_of_mem _ hz)) x hx
theorem run_mput [h : MapI P T M] {g : Nat} {l : List (K × V)} {w : World} (hm : (mp M g l).holds w) (k : K) (hkw : M.wf k) (v : V) :
    ∃ o, (Instr.mapUpdate T (.map (some g)) (M.kc k) (M.vc v)).run P w = .ok () (ChangeMaps.setBlock w g o) ∧ (mp M g (mput l k v)).holds (ChangeMaps.setBlock w g o) := by
  obtain ⟨kT, eT, hu, hK, hk, hz⟩ := h.law
  obtain ⟨es, clock, hb, he, h1, h2, hn, hwf⟩ := hm
  obtain ⟨kl, hkl⟩ := hk k hkw
  have hall : ∀ e ∈ es.toList, ∃ l, keyOf P kT e.key = some l := fun e hm => by
    obtain ⟨x', hx', hk'⟩ := mp_key he hm
    rw [hk']; exact hk _ (hwf x' hx')
  rcases hK.find w hkl es.toList hall with ⟨f1, f2⟩ | ⟨j, e0, f1, f2, f3⟩
  · refine ⟨.map (es.push ⟨M.kc k, M.vc v, clock⟩) (clock + 1), ?_, ?_⟩
    · simp [Instr.mapUpdate, run_underlying hu, MapKept.run_getObj_map hb, hK.check w false hkl, f1, MapKept.run_setObj_map _ hb, Result.andThen, ChangeMaps.setBlock]
    · refine ⟨_, _, block_set hb, ?_, ?_, ?_, mput_keys hn, mput_wf hwf hkw⟩
      · rw [(mfind_none (mp_no he f2)).2.1 v, Array.toList_push, List.map_append, List.map_append, he]; rfl
      · rw [Array.toList_push, List.map_append, List.pairwise_append]
        refine ⟨h1, List.pairwise_singleton _ _, fun a ha b hb' => ?_⟩
        obtain ⟨e, he', rfl⟩ := List.mem_map.1 ha
        simp only [List.map_cons, List.map_nil, List.mem_singleton] at hb'
        subst hb'
        exact h2 e he'
      · intro e he'
        rw [Array.toList_push, List.mem_append, List.mem_singleton] at he'
        rcases he' with he' | rfl
        · exact Nat.lt_succ_of_lt (h2 e he')
        · exact Nat.lt_succ_self _
  · obtain ⟨x, g1, g2, g3⟩ := mp_at he f2
    have hx : x.1 = k := h.inj _ _ (g2.symm.trans f3)
    have hj : es[j]? = some e0 := by simpa using f2
    refine ⟨.map (es.modify j fun e => { e with key := M.kc k, val := M.vc v }) clock, ?_, ?_⟩
    · have hst := hK.stays w hkl
      simp [Instr.mapUpdate, run_underlying hu, MapKept.run_getObj_map hb, hK.check w false hkl, f1, hj, f3, hst, MapKept.run_setObj_map _ hb, Result.andThen, ChangeMaps.setBlock]
    · have hs : (es.modify j fun e => { e with key := M.kc k, val := M.vc v }).toList = es.toList.set j { e0 with key := M.kc k, val := M.vc v } := by
        rw [Array.toList_modify, ChangeMaps.modify_eq_set _ _ _ _ f2]
      refine ⟨_, _, block_set hb, ?_, ?_, ?_, mput_keys hn, mput_wf hwf hkw⟩
      · rw [hs, (mfind_some hn g1 hx).2.1 v, List.map_set, List.map_set, he]
      · rw [hs, List.map_set]
        have : (es.toList.map (·.born))[j]? = some e0.born := by rw [List.getElem?_map, f2]; rfl
        have h3 : (es.toList.map (·.born)).set j e0.born = es.toList.map (·.born) := by
          apply List.ext_getElem?
          intro i
          rw [List.getElem?_set]
          split
          · rename_i e; subst e
            split
            · exact this.symm
            · rename_i h4
              rw [List.getElem?_eq_none (by omega)]
          · rfl
        show List.Pairwise _ ((es.toList.map (·.born)).set j e0.born)
        rw [h3]; exact h1
      · intro e he'
        rw [hs] at he'
        rcases List.mem_or_eq_of_mem_set he' with h4 | rfl
        · exact h2 e h4
        · exact h2 e0 (List.mem_of_getElem? f2)
theorem run_mdel [h : MapI P T M] {g : Nat} {l : List (K × V)} {w : World} {kT' ty : TypeId} (hm : (mp M g l).holds w) (k : K) (hkw : M.wf k) :
    ∃ o, (Builtin.delete_ #[T, kT'] ty #[.map (some g), M.kc k]).run P w = .ok (.tuple #[]) (ChangeMaps.setBlock w g o) ∧ (mp M g (mdel l k)).holds (ChangeMaps.setBlock w g o) := by
  obtain ⟨kT, eT, hu, hK, hk, hz⟩ := h.law
  obtain ⟨es, clock, hb, he, h1, h2, hn, hwf⟩ := hm
  obtain ⟨kl, hkl⟩ := hk k hkw
  have hall : ∀ e ∈ es.toList, ∃ l, keyOf P kT e.key = some l := fun e hm => by
    obtain ⟨x', hx', hk'⟩ := mp_key he hm
    rw [hk']; exact hk _ (hwf x' hx')
  rcases hK.find w hkl es.toList hall with ⟨f1, f2⟩ | ⟨j, e0, f1, f2, f3⟩
  · refine ⟨.map es clock, ?_, ⟨es, clock, block_set hb, ?_, h1, h2, mdel_keys hn, fun x hx => hwf x (mdel_sub.subset hx)⟩⟩
    · simp [Builtin.delete_, run_underlying hu, MapKept.run_getObj_map hb, hK.check w _ hkl, f1, MapKept.run_setObj_map _ hb, Result.andThen, ChangeMaps.setBlock]
    · rw [(mfind_none (mp_no he f2)).2.2]; exact he
  · obtain ⟨x, g1, g2, g3⟩ := mp_at he f2
    have hx : x.1 = k := h.inj _ _ (g2.symm.trans f3)
    have hs : (es.eraseIdxIfInBounds j).toList = es.toList.eraseIdx j := by
      unfold Array.eraseIdxIfInBounds
      split
      · rw [Array.toList_eraseIdx]
      · rename_i h4
        rw [List.eraseIdx_of_length_le (by simpa using h4)]
    refine ⟨.map (es.eraseIdxIfInBounds j) clock, ?_, ⟨_, clock, block_set hb, ?_, ?_, ?_, mdel_keys hn, fun x hx => hwf x (mdel_sub.subset hx)⟩⟩
    · simp [Builtin.delete_, run_underlying hu, MapKept.run_getObj_map hb, hK.check w _ hkl, f1, MapKept.run_setObj_map _ hb, Result.andThen, ChangeMaps.setBlock]
    · rw [hs, (mfind_some hn g1 hx).2.2, ChangeMaps.map_eraseIdx, ChangeMaps.map_eraseIdx, he]
    · rw [hs]
      exact h1.sublist ((List.eraseIdx_sublist _ _).map _)
    · intro e he'
      rw [hs] at he'
      exact h2 e (List.mem_of_mem_eraseIdx he')

variable {n : Nat} {W : World} {S : Nat → Prop} {Γ : List Asn} {F : List (Nat × Value)} {Q : Exit → Act → World → Prop} {ops : Array Oper} {os : List Oper}
variable {ty : TypeId} {pos : String} {af : Array Edge} {gd : Option (Nat × Bool)}
theorem ReadR.lookOk [h : MapI P T M] {d : Option Tmp} {x i : Operand} {g : Nat} {l : List (K × V)} {k : K} {c : Value} {b : Bool} (hkw : M.wf k) (hx : evF F x = some (.map (some g))) (hi : evF F i = some (M.kc k)) (hm : mp M g l ∈ Γ) (hc : M.vc (mget M l k) = c) (hb : mhas l k = b) :
    ReadR P n Γ F ⟨d, .lookup T x i true, ty, pos, af, gd⟩ (.tuple #[c, .bool b]) := fun ρ w hf hw => by
  have := run_mlook (P := P) (T := T) (hw _ hm) k hkw true
  subst hc
  subst hb
  simp [execOp, hf.eval hx, hf.eval hi, this]
theorem ReadR.mlen [h : MapI P T M] {d : Option Tmp} {x : Operand} {g : Nat} {l : List (K × V)} (hx : evF F x = some (.map (some g))) (hm : mp M g l ∈ Γ) :
    ReadR P n Γ F ⟨d, .call { callee := .builtin .len, args := #[x], argTypes := #[T] }, ty, pos, af, gd⟩ (.int .i64 (l.length : Int)) := fun ρ w hf hw => by
  obtain ⟨kT, eT, hu, _⟩ := h.law
  obtain ⟨es, clock, hb, he, _⟩ := hw _ hm
  have hl : es.size = l.length := by have := congrArg List.length he; simpa using this
  simp [execOp, resolve, invoke, builtin, Builtin.len_, hf.eval hx, run_underlying hu, MapKept.run_getObj_map hb, Result.andThen, goInt, hl]
theorem OpT.mput [h : MapI P T M] {d : Option Tmp} {x i y : Operand} {g : Nat} {l : List (K × V)} {k : K} {v : V} {Γf : List Asn} (hkw : M.wf k) (hx : evF F x = some (.map (some g))) (hi : evF F i = some (M.kc k)) (hy : evF F y = some (M.vc v)) (hp : Takes Γ [mp M g l] Γf) :
    OpT P n Γ F ⟨d, .mapUpdate T x i y, ty, pos, af, gd⟩ [mp M g l] (RLeave [mp M g (Go.Proofs.YtpilenbdimhegaaGreatDoor.mput l k v)]) := fun ρ w hf hw _ => by
  have hb : (mp M g l).holds w := hw _ (hp.mem_iff.2 (List.mem_cons_self ..))
  obtain ⟨o, h1, h2⟩ := run_mput (P := P) (T := T) hb k hkw v
  have : (execOp ρ.eval ⟨d, .mapUpdate T x i y, ty, pos, af, gd⟩).run P w = .ok .skip (ChangeMaps.setBlock w g o) := by
    simp [execOp, hf.eval hx, hf.eval hi, hf.eval hy, Sem.run_bind, h1]
  unfold DoesW
  rw [this]
  have hg : ownFp [mp M g l] g := ⟨_, List.mem_singleton.2 rfl, rfl, rfl⟩
  exact ⟨_, rfl, .one (mod_block hg _ _) h2 fun g' hg' => .inr (by rw [show g' = g from hg']; exact hg)⟩
theorem OpT.mdel [h : MapI P T M] {d : Option Tmp} {x i : Operand} {kT' : TypeId} {g : Nat} {l : List (K × V)} {k : K} {Γf : List Asn} (hkw : M.wf k) (hx : evF F x = some (.map (some g))) (hi : evF F i = some (M.kc k)) (hp : Takes Γ [mp M g l] Γf) :
    OpT P n Γ F ⟨d, .call { callee := .builtin .delete, args := #[x, i], argTypes := #[T, kT'] }, ty, pos, af, gd⟩ [mp M g l] (RLeave [mp M g (Go.Proofs.YtpilenbdimhegaaGreatDoor.mdel l k)]) := fun ρ w hf hw _ => by
  have hb : (mp M g l).holds w := hw _ (hp.mem_iff.2 (List.mem_cons_self ..))
  obtain ⟨o, h1, h2⟩ := run_mdel (P := P) (T := T) (kT' := kT') (ty := ty) hb k hkw
  have : (execOp ρ.eval ⟨d, .call { callee := .builtin .delete, args := #[x, i], argTypes := #[T, kT'] }, ty, pos, af, gd⟩).run P w = .ok (.value (.tuple #[])) (ChangeMaps.setBlock w g o) := by
    simp [execOp, resolve, invoke, builtin, hf.eval hx, hf.eval hi, Sem.run_bind, h1]
  unfold DoesW
  rw [this]
  have hg : ownFp [mp M g l] g := ⟨_, List.mem_singleton.2 rfl, rfl, rfl⟩
  exact ⟨_, rfl, .one (mod_block hg _ _) h2 fun g' hg' => .inr (by rw [show g' = g from hg']; exact hg)⟩
/-! ### Keys of integers and bools -/
def inR : Value → Prop
  | .int k n => (Lit.int k n).wf = true
  | _ => True
theorem mapM_ex {α β : Type} {f : α → Option β} : ∀ {l : List α}, (∀ x ∈ l, ∃ y, f x = some y) → ∃ r, l.mapM f = some r
  | [], _ => ⟨[], rfl⟩
  | a :: l, h => by
    obtain ⟨y, hy⟩ := h a (List.mem_cons_self ..)
    obtain ⟨r, hr⟩ := mapM_ex fun x hx => h x (List.mem_cons_of_mem _ hx)
    exact ⟨y :: r, by rw [List.mapM_cons, hy, hr]; rfl⟩
theorem shp_rep {ks : List (Option IntKind)} : ∀ {n i : Nat} {vs : List Value}, Shp (List.replicate n ks).flatten vs → i < n → Shp ks ((vs.drop (i * ks.length)).take ks.length)
  | 0, _, _, _, h => absurd h (Nat.not_lt_zero _)
  | n + 1, i, vs, h, hi => by
    rw [List.replicate_succ, List.flatten_cons] at h
    obtain ⟨v1, v2, rfl, h1, h2⟩ := Shp.split h
    have hl := h1.length
    cases i with
    | zero =>
      rw [Nat.zero_mul, List.drop_zero, List.take_append_of_le_length (by omega), List.take_of_length_le (by omega)]
      exact h1
    | succ i =>
      rw [Nat.succ_mul, Nat.add_comm, ← List.drop_drop, show (v1 ++ v2).drop ks.length = v2 by rw [← hl, List.drop_left]]
      exact shp_rep h2 (by omega)
theorem shp_fields {P : Program} {fuel tot : Nat} (vs : List Value) : ∀ (fs : List Field) (off : Nat) (ks : List (Option IntKind)), (fs.foldr (fun f acc => fun off => if f.offset = off then (flatT P fuel f.type).bind fun ks => if P.cellsOf f.type = ks.length then (acc (off + ks.length)).map (ks ++ ·) else none else none) (fun off => if tot = off then some [] else none)) off = some ks → Shp ks (vs.drop off) →
    ∀ f ∈ fs, ∃ k1, flatT P fuel f.type = some k1 ∧ P.cellsOf f.type = k1.length ∧ Shp k1 ((vs.drop f.offset).take (P.cellsOf f.type))
  | [], _, _, _, _, f, hf => by cases hf
  | g :: fs, off, ks, h, hs, f, hf => by
    rw [List.foldr_cons] at h
    split at h
    · rename_i ho
      cases h1 : flatT P fuel g.type with
      | none => rw [h1] at h; cases h
      | some k1 =>
        rw [h1] at h
        simp only [Option.bind_some] at h
        split at h
        · rename_i hc
          cases h2 : (fs.foldr (fun f acc => fun off => if f.offset = off then (flatT P fuel f.type).bind fun ks => if P.cellsOf f.type = ks.length then (acc (off + ks.length)).map (ks ++ ·) else none else none) (fun off => if tot = off then some [] else none)) (off + k1.length) with
          | none => rw [h2] at h; cases h
          | some k2 =>
            rw [h2] at h
            simp only [Option.map_some, Option.some.injEq] at h
            subst h
            obtain ⟨c1, c2⟩ := Shp.cut hs
            rw [List.drop_drop] at c2
            rcases List.mem_cons.1 hf with rfl | hf
            · exact ⟨k1, h1, hc, by rw [ho, hc]; exact c1⟩
            · exact shp_fields vs fs _ _ h2 c2 f hf
        · cases h
    · cases h
theorem flat_total {P : Program} {fuel tot : Nat} : ∀ {fs : List Field} {off : Nat} {ks : List (Option IntKind)}, (fs.foldr (fun f acc => fun off => if f.offset = off then (flatT P fuel f.type).bind fun ks => if P.cellsOf f.type = ks.length then (acc (off + ks.length)).map (ks ++ ·) else none else none) (fun off => if tot = off then some [] else none)) off = some ks → off + ks.length = tot
  | [], off, ks, h => by
    simp only [List.foldr_nil] at h
    split at h
    · rename_i e; cases h; simpa using e.symm
    · cases h
  | g :: fs, off, ks, h => by
    rw [List.foldr_cons] at h
    split at h
    · cases h1 : flatT P fuel g.type with
      | none => rw [h1] at h; cases h
      | some k1 =>
        rw [h1] at h
        simp only [Option.bind_some] at h
        split at h
        · cases h2 : (fs.foldr (fun f acc => fun off => if f.offset = off then (flatT P fuel f.type).bind fun ks => if P.cellsOf f.type = ks.length then (acc (off + ks.length)).map (ks ++ ·) else none else none) (fun off => if tot = off then some [] else none)) (off + k1.length) with
          | none => rw [h2] at h; cases h
          | some k2 =>
            rw [h2] at h
            simp only [Option.map_some, Option.some.injEq] at h
            subst h
            have := flat_total h2
            simp only [List.length_append]
            omega
        · cases h
    · cases h
theorem keyLits_shp {P : Program} : ∀ (fuel d : Nat) (t : TypeId) (ks : List (Option IntKind)) (vs : List Value), fuel ≤ d → flatT P fuel t = some ks → eqFine P fuel t = true → Shp ks vs → (∀ v ∈ vs, inR v) → ∃ ls, P.keyLits d t vs = some ls
  | 0, _, _, _, _, _, h, _, _, _ => (by cases h)
  | fuel + 1, 0, _, _, _, h, _, _, _, _ => absurd h (Nat.not_succ_le_zero _)
  | fuel + 1, d + 1, t, ks, vs, hd, hf, he, hs, hr => by
    have hd' : fuel ≤ d := Nat.le_of_succ_le_succ hd
    unfold flatT at hf
    unfold eqFine at he
    unfold Program.keyLits
    cases hu : P.underlying t with
    | none => rw [hu] at hf; cases hf
    | some dd =>
      rw [hu] at hf he
      cases dd with
      | bool =>
        cases hf
        match vs, hs with
        | [v], h =>
          obtain ⟨⟨b, rfl⟩, _⟩ := h
          exact ⟨_, rfl⟩
      | int k =>
        cases hf
        match vs, hs with
        | [v], h =>
          obtain ⟨⟨n, rfl⟩, _⟩ := h
          have : (Lit.int k n).wf = true := hr _ (List.mem_singleton.2 rfl)
          exact ⟨[.int k n], by simp only [this, and_self, if_true]⟩
      | array n e =>
        simp only at hf he
        cases h1 : flatT P fuel e with
        | none => rw [h1] at hf; cases hf
        | some k1 =>
          rw [h1] at hf
          simp only [Option.bind_some] at hf
          split at hf
          · rename_i hc
            simp only [Option.some.injEq] at hf
            subst hf
            have hl : vs.length = P.cellsOf t := by rw [hs.length, hc.2]; simp
            obtain ⟨r, hr2⟩ := mapM_ex (f := fun i => P.keyLits d e ((vs.drop (i * P.cellsOf e)).take (P.cellsOf e))) (l := List.range n) fun i hi => by
              rw [hc.1]
              exact keyLits_shp fuel d e k1 _ hd' h1 he (shp_rep hs (List.mem_range.1 hi)) fun v hv => hr v (List.mem_of_mem_drop (List.mem_of_mem_take hv))
            refine ⟨r.flatten, ?_⟩
            simp only
            rw [if_pos hl, hr2]; rfl
          · cases hf
      | struct fs =>
        simp only [Bool.and_eq_true, List.all_eq_true, decide_eq_true_eq] at hf he
        have hfl := shp_fields (P := P) (fuel := fuel) vs fs.toList 0 ks hf (by rw [List.drop_zero]; exact hs)
        obtain ⟨r, hr2⟩ := mapM_ex (f := fun f : Field => P.keyLits d f.type ((vs.drop f.offset).take (P.cellsOf f.type))) (l := fs.toList) fun f hf' => by
          obtain ⟨k1, g1, g2, g3⟩ := hfl f hf'
          exact keyLits_shp fuel d f.type k1 _ hd' g1 (he.2 f hf').2 g3 fun v hv => hr v (List.mem_of_mem_drop (List.mem_of_mem_take hv))
        have hl : vs.length = P.cellsOf t := by
          rw [hs.length]
          have := flat_total hf; omega
        have hn : fs.all (·.name != "_") = true := by
          rw [← Array.all_toList, List.all_eq_true]
          intro f hf'
          simpa using (he.2 f hf').1
        refine ⟨r.flatten, ?_⟩
        simp only
        rw [if_pos ⟨hl, hn⟩, hr2]; rfl
      | _ => cases hf
theorem keyOf_shp {P : Program} {t : TypeId} {ks : List (Option IntKind)} {cs : Ch} (hE : EqTy P t ks) (hk : P.keyType t = true) (hsz : 8 ≤ P.types.size + 1) (hc : P.cellsOf t = ks.length) (hs : Shp ks (flat cs)) (hr : ∀ v ∈ flat cs, inR v) : ∃ l, keyOf P t (ag cs) = some l := by
  obtain ⟨dd, hu, ha⟩ := hE.agg
  obtain ⟨ls, hls⟩ := keyLits_shp 8 (P.types.size + 1) t ks (flat cs) hsz hE.flat hE.fine hs hr
  have hfm : (ag cs).formed P t = true := by
    unfold ag Value.formed
    rw [hu]
    cases dd <;> first | (cases ha; done) | (simp [hc, hs.length])
  refine ⟨.string (keyBytes ls), ?_⟩
  unfold keyOf
  rw [hu, hk, hfm]
  have hcell : (ag cs).cells.toList = flat cs := by unfold ag; simp [Value.cells]
  cases dd <;> first | (cases ha; done) | (simp only [hcell, hls, Bool.and_self, if_true, Option.map_some])
def RMap {K V : Type} (M : MK K V) (l : List (K × V)) : Value → List Asn → Prop := fun v Γ => ∃ g, v = .map (some g) ∧ Γ = [mp M g l]
theorem OpT.mnew {K V : Type} (M : MK K V) {d : Option Tmp} {T : TypeId} : OpT P n Γ F ⟨d, .makeMap T none, ty, pos, af, gd⟩ [] (RMap M []) := fun ρ w hf hw _ => by
  have : (execOp ρ.eval ⟨d, .makeMap T none, ty, pos, af, gd⟩).run P w = .ok (.value (.map (some w.heap.size))) (w.alloc (.map #[] 0)) := by
    simp [execOp, Instr.makeMap, Sem.run_bind, newObj, Sem.run]
  unfold DoesW
  rw [this]
  exact ⟨_, ⟨_, rfl, rfl⟩, .one (Mod.alloc _ _ _) ⟨#[], 0, alloc_new _ _, rfl, .nil, fun e he => by simp at he, .nil, fun x hx => by cases hx⟩ fun g hg => .inl (Nat.le_of_eq hg.symm)⟩
theorem WPl.mnew {K V : Type} (M : MK K V) {d : Nat} {T : TypeId} (k : ∀ g, WPl P n W S (mp M g [] :: Γ) ((d, .map (some g)) :: F) ops os Q) (hlt : Nat.blt d n = true := by first | rfl | fail) (hw : wantG F ops gd = some true := by first | rfl | fail) :
    WPl P n W S Γ F ops (⟨some d, .makeMap T none, ty, pos, af, gd⟩ :: os) Q :=
  WPl.op .nil hlt hw (OpT.mnew M) (by rintro v Γ' ⟨g, rfl, rfl⟩; exact k g)
theorem WPl.mput [h : MapI P T M] {x i y : Operand} {g : Nat} {l : List (K × V)} (kk : K) (vv : V) (hkw : M.wf kk) {Γf : List Asn} (k : WPl P n W S (mp M g (Go.Proofs.YtpilenbdimhegaaGreatDoor.mput l kk vv) :: Γf) F ops os Q) (hx : evF F x = some (.map (some g)) := by first | rfl | fail) (hi : evF F i = some (M.kc kk) := by first | rfl | fail) (hy : evF F y = some (M.vc vv) := by first | rfl | fail) (hp : Take Γ (mp M g l) Γf := by first | exact takeA | fail) (hw : wantG F ops gd = some true := by first | rfl | fail) :
    WPl P n W S Γ F ops (⟨none, .mapUpdate T x i y, ty, pos, af, gd⟩ :: os) Q := WPl.turn (.cons hp .nil) rfl hw (OpT.mput hkw hx hi hy (.cons hp .nil)) k
theorem WPl.mdel [h : MapI P T M] {x i : Operand} {kT' : TypeId} {g : Nat} {l : List (K × V)} (kk : K) (hkw : M.wf kk) {Γf : List Asn} (k : WPl P n W S (mp M g (Go.Proofs.YtpilenbdimhegaaGreatDoor.mdel l kk) :: Γf) F ops os Q) (hx : evF F x = some (.map (some g)) := by first | rfl | fail) (hi : evF F i = some (M.kc kk) := by first | rfl | fail) (hp : Take Γ (mp M g l) Γf := by first | exact takeA | fail) (hw : wantG F ops gd = some true := by first | rfl | fail) :
    WPl P n W S Γ F ops (⟨none, .call { callee := .builtin .delete, args := #[x, i], argTypes := #[T, kT'] }, ty, pos, af, gd⟩ :: os) Q := WPl.turn (.cons hp .nil) rfl hw (OpT.mdel hkw hx hi (.cons hp .nil)) k
end
end Go.Proofs.YtpilenbdimhegaaGreatDoor
/- Separation: pointers compared with nil, calls that turn several blocks, fields of structs that are values. -/
namespace Go.Proofs.YtpilenbdimhegaaGreatDoor
open Go.RowKit
set_option linter.unusedSimpArgs false
set_option linter.unusedVariables false

section
variable {P : Program} {n : Nat} {W : World} {S : Nat → Prop} {Γ : List Asn} {F : List (Nat × Value)} {Q : Exit → Act → World → Prop} {ops : Array Oper} {os : List Oper}
variable {d : Option Tmp} {ty : TypeId} {pos : String} {af : Array Edge} {gd : Option (Nat × Bool)} {T t2 : TypeId} {x y : Operand} {a : Addr}
theorem BinR.ptrE {p : Option Addr} (hT : P.underlying T = some (.pointer (P.pointee T))) : BinR P .eql T (.pointer p) (.pointer none) (.bool p.isNone) := fun X Y w => by
  rw [Sem.run_bind, show (eqGuard .eql T X Y (.pointer p) (.pointer none)).run P w = .ok () w by simp [eqGuard], Result.andThen_ok, run_eql_pointer_nil w T p hT]
theorem ReadR.pE0 (hx : evF F x = some (.pointer none)) (hy : evF F y = some (.pointer none)) (hT : P.underlying T = some (.pointer (P.pointee T))) : ReadR P n Γ F ⟨d, .binOp .eql T x y t2, ty, pos, af, gd⟩ (.bool true) := ReadR.bin hx hy (BinR.ptrE hT)
theorem ReadR.pE1 (hx : evF F x = some (.pointer (some a))) (hy : evF F y = some (.pointer none)) (hT : P.underlying T = some (.pointer (P.pointee T))) : ReadR P n Γ F ⟨d, .binOp .eql T x y t2, ty, pos, af, gd⟩ (.bool false) := ReadR.bin hx hy (BinR.ptrE hT)
theorem readP {o : Oper} {v : Value} (h : ReadR P n Γ F o v := by first | exact ReadR.pE0 rfl rfl (by kernel_rfl) | exact ReadR.pE1 rfl rfl (by kernel_rfl) | exact ReadR.pN0 rfl rfl (by kernel_rfl) | exact ReadR.pN1 rfl rfl (by kernel_rfl) | fail) : ReadR P n Γ F o v := h

/-- It gives this value, and leaves these. -/
def RTurns (c : Value) (Γ1 : List Asn) : Value → List Asn → Prop := fun v Γ => v = c ∧ Γ = Γ1
theorem WPl.cTs {d : Option Tmp} {f : FuncId} {xs : List Operand} {ts : Array TypeId} {vs : List Value} {Γo Γf Γ1 : List Asn} {c : Value}
    (h : Triple P f vs.toArray Γo (RTurns c Γ1)) (k : WPl P n W S (Γ1 ++ Γf) (putF F d c) ops os Q) (hx : evFs F xs vs := by first | exact evsA | fail) (hp : Takes Γ Γo Γf := by first | exact takesA | fail) (hc : isCode P f = true := by first | kernel_rfl | fail) (hd : dstOk n d = true := by first | rfl | fail) (hw : wantG F ops gd = some true := by first | rfl | fail) :
    WPl P n W S Γ F ops (⟨d, .call { callee := .value (.func f), args := xs.toArray, argTypes := ts }, ty, pos, af, gd⟩ :: os) Q :=
  WPl.callO (Δ := []) h hx hp .nil fpNil hc hd hw (by rintro v Γ' ⟨rfl, rfl⟩; exact k)
/-- A call of which what it leaves is told. -/
theorem WPl.cXs {d : Option Tmp} {f : FuncId} {xs : List Operand} {ts : Array TypeId} {vs : List Value} {Γo Γf : List Asn} {R : Value → List Asn → Prop}
    (h : Triple P f vs.toArray Γo R) (k : ∀ v Γ', R v Γ' → WPl P n W S (Γ' ++ Γf) (putF F d v) ops os Q) (hx : evFs F xs vs := by first | exact evsA | fail) (hp : Takes Γ Γo Γf := by first | exact takesA | fail) (hc : isCode P f = true := by first | kernel_rfl | fail) (hd : dstOk n d = true := by first | rfl | fail) (hw : wantG F ops gd = some true := by first | rfl | fail) :
    WPl P n W S Γ F ops (⟨d, .call { callee := .value (.func f), args := xs.toArray, argTypes := ts }, ty, pos, af, gd⟩ :: os) Q :=
  WPl.callO (Δ := []) h hx hp .nil fpNil hc hd hw k
theorem ownsA {Γ : List Asn} (h : ∀ A, A ∈ Γ → A.own = true := by ((repeat' (first | exact own_nil | refine own_cons (by first | exact bx_own | exact rowN_own | exact mp_own | exact rfl) ?_ | fail)) <;> fail)) : ∀ A, A ∈ Γ → A.own = true := h
theorem WPq.dTs {fn : Func} {rs : List ResultVar} {vs : List Value} {c : Value} {Γ1 Γx : List Asn} {e : Exit} (he : e = .ret ∨ e = .normal := by first | exact .inl rfl | exact .inr rfl | fail) (hr : fn.results = rs.toArray := by first | rfl | fail) (h : ResF P Γ F rs vs := by first | exact resA | fail) (hp : Takes Γ Γ1 Γx := by first | exact takesA | fail) (hc : resV vs = c := by first | rfl | fail) (ho : ∀ A, A ∈ Γ1 → A.own = true := by first | exact ownsA | fail) :
    WPq n W S Γ F (Done P fn W S (RTurns c Γ1)) e := WPq.done he hr h hp ho ⟨hc, rfl⟩
end
/-! ### Several assertions of one's own as one -/
def star (Γ : List Asn) : Asn where
  own := true
  fp := fun g => ∃ A, A ∈ Γ ∧ A.fp g
  holds := fun w => Holds Γ w ∧ Γ.Pairwise Apart
  lt := fun w h g hg => by
    obtain ⟨A, hA, hg⟩ := hg
    exact A.lt w (h.1 A hA) g hg
  loc := fun w w' h hl => ⟨fun A hA => A.loc w w' (h.1 A hA) fun g hg => hl g ⟨A, hA, hg⟩, h.2⟩
/-- A field of a struct that is a value. -/
def fieldD (P : Program) (T : TypeId) (k : Nat) : Option (Nat × Option Bool) := match P.underlying T with | some (.struct fs) => (fs[k]?).map fun f => (f.offset, (P.underlying f.type).map aggB) | _ => none
end Go.Proofs.YtpilenbdimhegaaGreatDoor
/- Plain facts: masks of bytes, sums of words. -/
namespace Go.Proofs.YtpilenbdimhegaaGreatDoor
set_option linter.unusedVariables false
set_option linter.unusedSimpArgs false

/-! ### Masks -/

/-- A byte's first k bits. -/
def mskb (k : Nat) (c : UInt8) : UInt8 := UInt8.ofNat (c.toNat / 2 ^ (8 - k) * 2 ^ (8 - k))
/-- How many bits of the byte at a place count. -/
def nbit (n i : Nat) : Nat := min (n - 8 * i) 8
def maskB (l : List UInt8) (n : Nat) : List UInt8 := l.mapIdx fun i c => mskb (nbit n i) c
@[simp] theorem maskB_length (l : List UInt8) (n : Nat) : (maskB l n).length = l.length := by simp [maskB]
theorem mskb_toNat (k : Nat) (c : UInt8) : (mskb k c).toNat = c.toNat / 2 ^ (8 - k) * 2 ^ (8 - k) := by
  unfold mskb
  rw [UInt8.toNat_ofNat']
  have h1 := c.toNat_lt
  have h2 := Nat.div_mul_le_self c.toNat (2 ^ (8 - k))
  exact Nat.mod_eq_of_lt (by omega)
theorem mskb_zero (c : UInt8) : mskb 0 c = 0 := by
  apply UInt8.toNat_inj.1
  rw [mskb_toNat]
  have h1 := c.toNat_lt
  rw [Nat.div_eq_of_lt (by simpa using h1)]
  simp
theorem maskB_zero (l : List UInt8) : maskB l 0 = List.replicate l.length 0 := by
  apply List.ext_getElem
  · simp
  · intro i h1 h2
    simp [maskB, nbit, mskb_zero]

/-- Bytes of which the first i are masked. -/
def maskTo (l : List UInt8) (n i : Nat) : List UInt8 := maskB (l.take i) n ++ l.drop i
theorem maskTo_zero (l : List UInt8) (n : Nat) : maskTo l n 0 = l := by simp [maskTo, maskB]
theorem maskTo_all {l : List UInt8} {n i : Nat} (h : l.length ≤ i) : maskTo l n i = maskB l n := by simp [maskTo, List.take_of_length_le h, List.drop_of_length_le h]
theorem maskTo_length (l : List UInt8) (n i : Nat) : (maskTo l n i).length = l.length := by simp [maskTo]; omega
theorem maskTo_get {l : List UInt8} {n i : Nat} (h : i < l.length) : (maskTo l n i).getD i 0 = l.getD i 0 := by
  simp only [maskTo, List.getD_eq_getElem?_getD]
  rw [List.getElem?_append_right (by simp; omega)]
  simp
  congr 2
  omega
theorem maskTo_succ {l : List UInt8} {n i : Nat} (h : i < l.length) : maskTo l n (i + 1) = (maskTo l n i).set i (mskb (nbit n i) (l.getD i 0)) := by
  unfold maskTo
  have hl : (maskB (l.take i) n).length = i := by simp; omega
  rw [List.set_append_right _ _ (by omega), hl, Nat.sub_self]
  have e1 : l.drop i = l[i] :: l.drop (i + 1) := List.drop_eq_getElem_cons h
  have e2 : maskB (l.take (i + 1)) n = maskB (l.take i) n ++ [mskb (nbit n i) (l.getD i 0)] := by
    rw [take_snoc l h]
    simp only [maskB, List.mapIdx_append, List.mapIdx_cons, List.mapIdx_nil]
    congr 2
    simp
    rw [Nat.min_eq_left (by omega)]
  rw [e1, List.set_cons_zero, e2]
  simp

/-! ### Sums -/

/-- The words of bytes, added; whether the next byte is a high one. -/
def wsum : Bool → List UInt8 → Nat
  | _, [] => 0
  | true, b :: l => 256 * b.toNat + wsum false l
  | false, b :: l => b.toNat + wsum true l
def par : Bool → List UInt8 → Bool
  | b, [] => b
  | b, _ :: l => par (!b) l
theorem par_append (b : Bool) (l m : List UInt8) : par b (l ++ m) = par (par b l) m := by
  induction l generalizing b with
  | nil => rfl
  | cons x l ih => exact ih (!b)
theorem wsum_append (b : Bool) (l m : List UInt8) : wsum b (l ++ m) = wsum b l + wsum (par b l) m := by
  induction l generalizing b with
  | nil => cases b <;> simp [wsum, par]
  | cons x l ih => cases b <;> simp [wsum, par, ih, Nat.add_assoc]
theorem wsum_le (b : Bool) (l : List UInt8) : wsum b l ≤ 65280 * l.length := by
  induction l generalizing b with
  | nil => cases b <;> simp [wsum]
  | cons x l ih =>
    have := x.toNat_lt
    have h1 := ih true
    have h2 := ih false
    cases b <;> simp only [wsum, List.length_cons] <;> omega
theorem par_even : ∀ (b : Bool) (l : List UInt8), par b l = if l.length % 2 = 0 then b else !b
  | b, [] => by simp [par]
  | b, x :: l => by
    rw [par, par_even (!b) l, List.length_cons]
    by_cases h : l.length % 2 = 0
    · rw [if_pos h, if_neg (by omega)]
    · rw [if_neg h, if_pos (by omega), Bool.not_not]
/-- A sum, what is above 16 bits added below. -/
def fold (n : Nat) : Nat := if n = 0 then 0 else (n - 1) % 65535 + 1
theorem fold_le (n : Nat) : fold n ≤ 65535 := by unfold fold; split <;> omega
theorem fold_low {n : Nat} (h : n ≤ 65535) : fold n = n := by unfold fold; split <;> omega
theorem fold_step {n : Nat} : fold (n % 65536 + n / 65536) = fold n := by unfold fold; split <;> split <;> omega
def csum (l : List UInt8) : Nat := 65535 - fold (wsum true l)
theorem csum_le (l : List UInt8) : csum l ≤ 65535 := by unfold csum; omega
/-- How great a number may be behind so many rounds. -/
def fbnd : Nat → Nat
  | 0 => 18446744073709551615
  | 1 => 281474976776192
  | 2 => 8589934592
  | 3 => 262144
  | 4 => 65539
  | _ => 65535
theorem fbnd_step {n : Nat} : ∀ {i : Nat}, n ≤ fbnd i → 65536 ≤ n → n % 65536 + n / 65536 ≤ fbnd (i + 1)
  | 0, h, _ => by simp only [fbnd] at *; omega
  | 1, h, _ => by simp only [fbnd] at *; omega
  | 2, h, _ => by simp only [fbnd] at *; omega
  | 3, h, _ => by simp only [fbnd] at *; omega
  | 4, h, _ => by simp only [fbnd] at *; omega
  | i + 5, h, h' => by simp only [fbnd] at *; omega
theorem fbnd_end {n i : Nat} (h : n ≤ fbnd i) (hi : 5 ≤ i) : n ≤ 65535 := by
  obtain ⟨j, rfl⟩ : ∃ j, i = j + 5 := ⟨i - 5, by omega⟩
  exact h
theorem fbnd_le (i : Nat) : fbnd i ≤ 18446744073709551615 := by
  unfold fbnd; split <;> omega

end Go.Proofs.YtpilenbdimhegaaGreatDoor
