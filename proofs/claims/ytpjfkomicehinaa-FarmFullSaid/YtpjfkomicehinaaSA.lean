/- Separation: the rules with what the walk can find by itself. -/
import Derived.Test.YtpjfkomicehinaaSM
namespace Go.Proofs.Ytpjfkomicehinaa
open Go.RowKit
set_option linter.unusedSimpArgs false
set_option linter.unusedVariables false
set_option maxRecDepth 20000
set_option maxHeartbeats 4000000
attribute [local irreducible] WPc WPl WPq ReadR OpT BinR HasS bx rdN rowN Take Takes Prov Triple ResF BuildP Done ag Int.decLt Int.decLe Int.instDecidableEq

/-! ### Searches -/

theorem ba_loop (b : ByteArray) : ∀ k i r, b.size - i = k → ByteArray.toList.loop b i r = r.reverse ++ b.data.toList.drop i := by
  intro k
  induction k with
  | zero =>
    intro i r h
    unfold ByteArray.toList.loop
    have : ¬ i < b.size := by omega
    rw [if_neg this, List.drop_of_length_le (by simpa using Nat.le_of_not_lt this), List.append_nil]
  | succ k ih =>
    intro i r h
    unfold ByteArray.toList.loop
    have hlt : i < b.size := by omega
    rw [if_pos hlt, ih (i + 1) _ (by omega)]
    have hl : i < b.data.toList.length := by simpa using hlt
    rw [List.drop_eq_getElem_cons hl]
    have : b.get! i = b.data.toList[i] := by
      simp [ByteArray.get!]
      rw [getElem!_pos b.data i (by simpa using hlt)]
    rw [this, List.reverse_cons, List.append_assoc]
    rfl
theorem ba_toList (b : ByteArray) : b.toList = b.data.toList := by
  unfold ByteArray.toList; rw [ba_loop b _ 0 [] rfl]; rfl
theorem strU_toList (l : List UInt8) : (strU l).toList = l := by
  rw [ba_toList]
  unfold strU strOfNums
  rw [List.map_map]
  simp only []
  conv => rhs; rw [← List.map_id l]
  apply List.map_congr_left
  intro b _
  simp
theorem BinR.strUE {P : Program} {T : TypeId} {l m : List UInt8} : BinR P .eql T (.string (strU l)) (.string (strU m)) (.bool (decide (l = m))) := by
  have := BinR.strE (P := P) (T := T) (a := strU l) (b := strU m)
  rw [strU_toList, strU_toList] at this
  rwa [show (l == m) = decide (l = m) by rw [Bool.eq_iff_iff]; simp] at this
theorem BinR.strUN {P : Program} {T : TypeId} {l m : List UInt8} : BinR P .neq T (.string (strU l)) (.string (strU m)) (.bool (!decide (l = m))) := by
  have := BinR.strN (P := P) (T := T) (a := strU l) (b := strU m)
  rw [strU_toList, strU_toList] at this
  rwa [show (l == m) = decide (l = m) by rw [Bool.eq_iff_iff]; simp] at this
theorem ReadR.binE {P : Program} {n : Nat} {Γ : List Asn} {F : List (Nat × Value)} {d : Option Tmp} {ty : TypeId} {pos : String} {af : Array Edge} {gd : Option (Nat × Bool)} {op : BinOp} {T t2 : TypeId} {x y : Operand} {a b v v' : Value} (hx : evF F x = some a) (hy : evF F y = some b) (h : BinR P op T a b v) (e : v = v') :
    ReadR P n Γ F ⟨d, .binOp op T x y t2, ty, pos, af, gd⟩ v' := e ▸ ReadR.bin hx hy h
theorem seg_len (l : List UInt8) (k n : Nat) : (seg l k n).length = min n (l.length - k) := by simp [seg]
theorem clash1 {b : Bool} {p : Prop} (h : b = false) (k : b = true) : p := by subst h; cases k
theorem clash2 {b : Bool} {p : Prop} (h : b = true) (k : b = false) : p := by subst h; cases k
theorem natA {a b : Nat} (h : a ≤ b := by first | omega | exact Nat.le_of_ble_eq_true rfl | (simp only [List.length_append, List.length_cons, List.length_nil, List.length_replicate, seg_len, be_length, nbs, List.length_map]; omega) | fail) : a ≤ b := h
theorem idx_of {F : List (Nat × Value)} {x : Operand} {k : IntKind} {c : Int} {i : Nat} (h : evF F x = some (.int k c)) (hc : c = Int.ofNat i) : evF F x = some (.int k (Int.ofNat i)) := hc ▸ h
theorem idx_lit (n : Nat) : (@OfNat.ofNat Int n _) = Int.ofNat (@OfNat.ofNat Nat n _) := rfl
theorem idxA {F : List (Nat × Value)} {x : Operand} {k : IntKind} {i : Nat} (h : evF F x = some (.int k (Int.ofNat i)) := by apply idx_of; exact rfl; first | (with_reducible exact idx_lit _) | exact rfl | fail) : evF F x = some (.int k (Int.ofNat i)) := h
theorem memA {A : Asn} {Γ : List Asn} (h : A ∈ Γ := by ((repeat (first | exact List.Mem.head _ | apply List.Mem.tail | fail)) <;> fail)) : A ∈ Γ := h
theorem takeA {A : Asn} {Γ Γ' : List Asn} (h : Take Γ A Γ' := by ((repeat' (first | exact Take.here | apply Take.there | fail)) <;> fail)) : Take Γ A Γ' := h
theorem takesA {Γ Δ Γ' : List Asn} (h : Takes Γ Δ Γ' := by ((repeat' (first | exact Takes.nil | exact Takes.all | apply Takes.cons | exact Take.here | apply Take.there | apply Takes.skip | fail)) <;> fail)) : Takes Γ Δ Γ' := h
theorem frsA {F F' : List (Nat × Value)} (h : FrSub F F' := by ((repeat' (first | exact FrSub.nil | apply FrSub.cons | exact rfl | fail)) <;> fail)) : FrSub F F' := h
theorem evsA {F : List (Nat × Value)} {xs : List Operand} {vs : List Value} (h : evFs F xs vs := by ((repeat' (first | exact evFs.nil | apply evFs.cons | exact rfl | fail)) <;> fail)) : evFs F xs vs := h
theorem boxcA {cs : Ch} {o n : Nat} {l : List UInt8} (h : BoxC cs o n l := by ((repeat' (first | exact BoxC.all | exact BoxC.part rfl rfl | (apply BoxC.there; exact rfl; dsimp only [Nat.reduceSub, Nat.reduceAdd]) | fail)) <;> fail)) : BoxC cs o n l := h
theorem ovcA {new : List UInt8} {cs cs' : Ch} {o : Nat} (h : OvC new cs o cs' := by ((repeat' (first | exact rfl | (apply OvC.here; exact rfl) | (apply OvC.there; exact rfl; dsimp only [Nat.reduceSub, Nat.reduceAdd]) | (simp only [List.length_replicate, be_length]; omega) | omega | (simp; omega) | fail)) <;> fail)) : OvC new cs o cs' := h
theorem has0A {Γ : List Asn} {v : Value} {n : Nat} {xs : List Value} (h : HasS Γ v n xs := by first | exact HasS.rd memA | exact HasS.row memA | exact HasS.hd memA | exact HasS.boxB memA boxcA rfl rfl | fail) : HasS Γ v n xs := h
theorem hasA {Γ : List Asn} {v : Value} {n : Nat} {xs : List Value} (h : HasS Γ v n xs := by first | exact HasS.rd memA | exact HasS.row memA | exact HasS.hd memA | exact HasS.boxB memA boxcA rfl rfl | exact HasS.subB has0A (by omega) | exact HasS.nilB | exact HasS.nil | fail) : HasS Γ v n xs := h
theorem provA {Γ : List Asn} {A : Asn} (h : Prov Γ A := by exact Prov.rd hasA) : Prov Γ A := h
theorem provsT {Γ Δ : List Asn} (h : Provs Γ Δ := by ((repeat' (first | exact Provs.rbz | apply Provs.skipA | fail)) <;> fail)) : Provs Γ Δ := h
theorem provsA {Γ Δ : List Asn} (h : Provs Γ Δ := by ((repeat' (first | exact Provs.nil | apply Provs.cons | exact provA | exact provsT | fail)) <;> fail)) : Provs Γ Δ := h
theorem fokA {cs : Ch} (h : FOk cs := by ((repeat' (first | exact FOk.nil | apply FOk.one1 | apply FOk.bytes | exact rfl | exact LenI.len | assumption | (simp; done) | (simp [*]; done) | fail)) <;> fail)) : FOk cs := h
theorem partA {v : Value} {new : Ch} (h : PartV v new := by first | exact PartV.agg fokA | exact PartV.one rfl | exact PartV.one (by assumption) | fail) : PartV v new := h
theorem evasA {F : List (Nat × Value)} {m : Nat} {ps : List (Nat × Operand)} {qs : List (Nat × Int)} (h : evAs F m ps qs := by ((repeat' (first | exact evAs.nil | (apply evAs.cons; exact rfl; exact rfl) | decide | omega | exact u8_ge _ | exact u8_lt _ | fail)) <;> fail)) : evAs F m ps qs := h
theorem buildA {places : List (Nat × Nat)} {F : List (Nat × Value)} {ps : List (Nat × Operand)} {cs cs' : Ch} (h : BuildP places F ps cs cs' := by ((repeat' (first | exact BuildP.nil | apply BuildP.cons | (show upd _ _ _ _ = some _; dsimp only [sel, takeCh, upd, dropCh, appCh, setAt, chAt, Option.map_some, List.cons_append, List.nil_append, Nat.reduceSub, Nat.reduceAdd] <;> exact rfl) | exact rfl | exact partA | fail)) <;> fail)) : BuildP places F ps cs cs' := h
theorem evpA {F : List (Nat × Value)} {i : Nat} {ps : List (Nat × Operand)} {vs : List Value} (h : evPs F i ps vs := by ((repeat' (first | exact evPs.nil | apply evPs.cons | exact rfl | fail)) <;> fail)) : evPs F i ps vs := h
theorem oneA {Γ : List Asn} {vs : List Value} (h : OneL Γ vs := by ((repeat' (first | exact OneL.nil | apply OneL.lit rfl | apply OneL.has hasA | (apply OneL.lit; assumption) | fail)) <;> fail)) : OneL Γ vs := h
theorem evbA {F : List (Nat × Value)} {i : Nat} {ps : List (Nat × Operand)} {es : List Int} (h : evBs F i ps es := by ((repeat' (first | exact evBs.nil | apply evBs.cons | exact rfl | omega | exact u8_ge _ | exact u8_lt _ | fail)) <;> fail)) : evBs F i ps es := h
theorem resA {P : Program} {Γ : List Asn} {F : List (Nat × Value)} {rs : List ResultVar} {vs : List Value} (h : ResF P Γ F rs vs := by ((repeat' (first | exact ResF.nil | apply ResF.tmp | apply ResF.cellA | apply ResF.cell1 | (show sel _ _ _ = some _; dsimp only [sel, takeCh, upd, dropCh, appCh, setAt, chAt, Option.map_some, List.cons_append, List.nil_append, Nat.reduceSub, Nat.reduceAdd] <;> exact rfl) | exact rfl | exact memA | fail)) <;> fail)) : ResF P Γ F rs vs := h
theorem lenA {l : List UInt8} {n : Nat} (h : l.length = n := by first | exact LenI.len | exact rfl | assumption | (simp; done) | (simp [*]; done) | fail) : l.length = n := h
theorem eqcA {ks : List (Option IntKind)} {cs ds : Ch} {b : Bool} (h : EqC ks cs ds b := by ((repeat' (first | exact EqC.nil | apply EqC.bool | apply EqC.int | (apply EqC.bytes; exact rfl; exact rfl; exact lenA; exact lenA) | fail)) <;> fail)) : EqC ks cs ds b := h
theorem binA {P : Program} {op : BinOp} {T : TypeId} {a b v : Value} (h : BinR P op T a b v := by first | (apply BinR.lss) | (apply BinR.leq) | (apply BinR.gtr) | (apply BinR.geq) | (apply BinR.eql) | (apply BinR.neq) | (apply BinR.addI; omega; omega) | (apply BinR.subI; omega; omega) | (apply BinR.mulI; omega; omega) | (apply BinR.addU; omega; omega) | (apply BinR.subU; omega; omega) | (apply BinR.eqlB; kernel_rfl) | (apply BinR.neqB; kernel_rfl) | (apply BinR.eqlA; exact eqcA) | (apply BinR.neqA; exact eqcA) | (apply BinR.strUE) | (apply BinR.strUN) | (apply BinR.strE) | (apply BinR.strN) | fail) : BinR P op T a b v := h

section
variable {P : Program} {n : Nat} {W : World} {S : Nat → Prop} {Γ : List Asn} {F : List (Nat × Value)} {Q : Exit → Act → World → Prop}
variable {ops : Array Oper} {os : List Oper} {o : Oper} {d : Tmp}

theorem convA {k : IntKind} {a : Int} (h : k.wrap a = a := by first | exact rfl | exact conv_u8 | (simp only [IntKind.wrap_i64, IntKind.wrap_u64, IntKind.wrap_u8, IntKind.wrap_u16, IntKind.wrap_u32]; omega) | fail) : k.wrap a = a := h
theorem readA {v : Value} (h : ReadR P n Γ F o v := by first | (apply ReadR.move; exact rfl) | (apply ReadR.assign; exact rfl) | (apply ReadR.extract; exact rfl; exact rfl) | (apply ReadR.field; exact rfl) | (apply ReadR.loadS; exact rfl; exact memA; exact rfl) | (apply ReadR.loadA; exact rfl; exact memA; (dsimp only [sel, takeCh, upd, dropCh, appCh, setAt, chAt, Option.map_some, List.cons_append, List.nil_append, Nat.reduceSub, Nat.reduceAdd] <;> exact rfl)) | (apply ReadR.loadBx; exact rfl; exact memA; exact boxcA) | (apply ReadR.len; exact rfl; exact hasA) | (apply ReadR.bin; exact rfl; exact rfl; exact binA) | (apply ReadR.not; exact rfl) | (apply ReadR.pickT; exact rfl; exact rfl) | (apply ReadR.pickF; exact rfl; exact rfl) | (apply ReadR.indexE1; exact rfl; exact idxA; exact hasA; exact natA) | (apply ReadR.loadEB; exact rfl; exact hasA; exact natA) | (apply ReadR.indexR; exact rfl; exact idxA; exact natA) | (apply ReadR.loadRB; exact rfl; exact memA; exact rfl; exact natA) | (apply ReadR.sliceLH; exact rfl; exact idxA; exact idxA; exact hasA; exact natA; exact natA) | (apply ReadR.sliceL; exact rfl; exact idxA; exact hasA; exact natA) | (apply ReadR.sliceH; exact rfl; exact idxA; exact hasA; exact natA) | (apply ReadR.conv; exact rfl; exact convA) | (apply ReadR.conv8; exact idxA) | (apply ReadR.build; exact buildA) | (apply ReadR.buildZ) | (apply ReadR.buildArr; exact evasA) | (apply ReadR.nilCheck; exact rfl) | (apply ReadR.min; exact rfl; exact rfl) | (apply ReadR.max; exact rfl; exact rfl) | (apply ReadR.arrL; exact rfl; exact idxA; exact natA) | (apply ReadR.arrLH; exact rfl; exact idxA; exact idxA; exact natA; exact natA; exact natA) | (apply ReadR.arrH; exact rfl; exact idxA; exact natA) | (apply ReadR.arrAll; exact rfl) | (apply ReadR.loadEA0; exact rfl; exact hasA; exact lenA) | (apply ReadR.loadEAB; exact rfl; exact hasA; exact natA) | (apply ReadR.toArrS; exact rfl; exact rfl) | (apply ReadR.toArr; exact rfl; exact hasA; exact natA; exact natA) | (apply ReadR.eqNil; exact rfl; exact hasA) | (apply ReadR.str; kernel_rfl; kernel_rfl; exact rfl; exact hasA) | fail) : ReadR P n Γ F o v := h

theorem WPl.rd {v : Value} (k : WPl P n W S Γ ((d, v) :: F) ops os Q) (hd : o.dst = some d := by first | rfl | fail) (hlt : Nat.blt d n = true := by first | rfl | fail) (hw : wantG F ops o.guard = some true := by first | rfl | fail) (h : ReadR P n Γ F o v := by first | exact readA | fail) :
    WPl P n W S Γ F ops (o :: os) Q := WPl.read hd hlt hw h k
/-- A read by a law that is named. -/
theorem WPl.rdX {v : Value} (h : ReadR P n Γ F o v) (k : WPl P n W S Γ ((d, v) :: F) ops os Q) (hd : o.dst = some d := by first | rfl | fail) (hlt : Nat.blt d n = true := by first | rfl | fail) (hw : wantG F ops o.guard = some true := by first | rfl | fail) :
    WPl P n W S Γ F ops (o :: os) Q := WPl.read hd hlt hw h k
theorem WPl.sk (k : WPl P n W S Γ ((d, undef) :: F) ops os Q) (hw : wantG F ops o.guard = some false := by first | rfl | fail) (hd : o.dst = some d := by first | rfl | fail) (hlt : Nat.blt d n = true := by first | rfl | fail) : WPl P n W S Γ F ops (o :: os) Q := WPl.skip hw hd hlt k
theorem WPl.nw {T : TypeId} {cs : Ch} (k : ∀ g, WPl P n W S (bx g T cs :: Γ) ((d, .pointer (some ⟨g, 0, none⟩)) :: F) ops os Q) (hd : o.dst = some d := by first | rfl | fail) (hlt : Nat.blt d n = true := by first | rfl | fail) (hw : wantG F ops o.guard = some true := by first | rfl | fail)
    (h : OpT P n Γ F o [] (RNew T cs) := by first | exact OpT.alloc | exact OpT.boxA rfl fokA | exact OpT.box1 rfl rfl | exact OpT.box1 rfl (by assumption) | fail) : WPl P n W S Γ F ops (o :: os) Q := WPl.new hd hlt hw h k
theorem WPl.stA {T T' : TypeId} {sz g off : Nat} {cs cs' new : Ch} {a x : Operand} {Γf : List Asn} {ty : TypeId} {pos : String} {af : Array Edge} {gd : Option (Nat × Bool)} [hT : TyI P T true sz] (k : WPl P n W S (bx g T' cs' :: Γf) F ops os Q)
    (ha : evF F a = some (.pointer (some ⟨g, off, none⟩)) := by first | rfl | fail) (hx : evF F x = some (ag new) := by first | rfl | fail) (hp : Take Γ (bx g T' cs) Γf := by first | exact takeA | fail) (hn : FOk new := by first | exact fokA | fail) (ht : total new = sz := by first | rfl | fail) (hu : upd new cs off sz = some cs' := by first | (dsimp only [sel, takeCh, upd, dropCh, appCh, setAt, chAt, Option.map_some, List.cons_append, List.nil_append, Nat.reduceSub, Nat.reduceAdd] <;> exact rfl) | fail) (hw : wantG F ops gd = some true := by first | rfl | fail) :
    WPl P n W S Γ F ops (⟨none, .store T a x, ty, pos, af, gd⟩ :: os) Q := WPl.turn (.cons hp .nil) rfl hw (OpT.storeA ha hx (.cons hp .nil) hn ht hu) k
theorem WPl.st1 {T T' : TypeId} {g off : Nat} {cs cs' : Ch} {v : Value} {a x : Operand} {Γf : List Asn} {ty : TypeId} {pos : String} {af : Array Edge} {gd : Option (Nat × Bool)} [hT : TyI P T false 1] (k : WPl P n W S (bx g T' cs' :: Γf) F ops os Q)
    (ha : evF F a = some (.pointer (some ⟨g, off, none⟩)) := by first | rfl | fail) (hx : evF F x = some v := by first | rfl | fail) (hp : Take Γ (bx g T' cs) Γf := by first | exact takeA | fail) (h1 : v.oneCell' = true := by first | rfl | assumption | fail) (hu : upd [(1, [v])] cs off 1 = some cs' := by first | (dsimp only [sel, takeCh, upd, dropCh, appCh, setAt, chAt, Option.map_some, List.cons_append, List.nil_append, Nat.reduceSub, Nat.reduceAdd] <;> exact rfl) | fail) (hw : wantG F ops gd = some true := by first | rfl | fail) :
    WPl P n W S Γ F ops (⟨none, .store T a x, ty, pos, af, gd⟩ :: os) Q := WPl.turn (.cons hp .nil) rfl hw (OpT.store1 ha hx (.cons hp .nil) h1 hu) k
/-- A store into an array of bytes in a block. -/
theorem WPl.stR {T T' : TypeId} {g off i m : Nat} {cs cs' : Ch} {l : List UInt8} {c : Int} {b : UInt8} {a x : Operand} {Γf : List Asn} {ty : TypeId} {pos : String} {af : Array Edge} {gd : Option (Nat × Bool)} [hT : TyI P T false 1] (hi : i < l.length) (hb : c = ((b.toNat : Nat) : Int)) (k : WPl P n W S (bx g T' cs' :: Γf) F ops os Q)
    (ha : evF F a = some (.pointer (some ⟨g, off + i, none⟩)) := by first | rfl | fail) (hx : evF F x = some (.int .u8 c) := by first | rfl | fail) (hp : Take Γ (bx g T' cs) Γf := by first | exact takeA | fail) (hc : chAt cs off = some (m, u8s l) := by first | rfl | fail) (hu : setAt (u8s (l.set i b)) cs off = some cs' := by first | (dsimp only [sel, takeCh, upd, dropCh, appCh, setAt, chAt, Option.map_some, List.cons_append, List.nil_append, Nat.reduceSub, Nat.reduceAdd] <;> exact rfl) | fail) (hw : wantG F ops gd = some true := by first | rfl | fail) :
    WPl P n W S Γ F ops (⟨none, .store T a x, ty, pos, af, gd⟩ :: os) Q :=
  WPl.turn (.cons hp .nil) rfl hw (OpT.storeR ha hx (.cons hp .nil) rfl hc (by rw [u8s_length]; exact hi) (by subst hb; rw [u8s_set]; exact hu)) k
/-- A store into bytes of one's own. -/
theorem WPl.stE {T : TypeId} {i : Nat} {s : Value} {l : List UInt8} {c : Int} {b : UInt8} {a x : Operand} {Γf : List Asn} {ty : TypeId} {pos : String} {af : Array Edge} {gd : Option (Nat × Bool)} [hT : TyI P T false 1] (hi : i < l.length) (hb : c = ((b.toNat : Nat) : Int)) (k : WPl P n W S (ob s (l.set i b) :: Γf) F ops os Q)
    (ha : evF F a = some (.pointer (some (ela s i))) := by first | rfl | fail) (hx : evF F x = some (.int .u8 c) := by first | rfl | fail) (hp : Take Γ (ob s l) Γf := by first | exact takeA | fail) (hw : wantG F ops gd = some true := by first | rfl | fail) :
    WPl P n W S Γ F ops (⟨none, .store T a x, ty, pos, af, gd⟩ :: os) Q :=
  WPl.turn (.cons hp .nil) rfl hw (OpT.storeEB ha hx (.cons hp .nil) hi hb) k
theorem OpT.storeRB {d : Option Tmp} {T T' : TypeId} {g off i m : Nat} {cs cs' : Ch} {l : List UInt8} {c : Int} {b : UInt8} {a x : Operand} {Γf : List Asn} {ty : TypeId} {pos : String} {af : Array Edge} {gd : Option (Nat × Bool)} [hT : TyI P T false 1] (ha : evF F a = some (.pointer (some ⟨g, off + i, none⟩))) (hx : evF F x = some (.int .u8 c)) (hp : Takes Γ [bx g T' cs] Γf) (hb : c = ((b.toNat : Nat) : Int)) (hc : chAt cs off = some (m, u8s l)) (hi : i < l.length) (hu : setAt (u8s (l.set i b)) cs off = some cs') :
    OpT P n Γ F ⟨d, .store T a x, ty, pos, af, gd⟩ [bx g T' cs] (RLeave [bx g T' cs']) := OpT.storeR ha hx hp rfl hc (by rw [u8s_length]; exact hi) (by subst hb; rw [u8s_set]; exact hu)
theorem byteA {c : Int} {b : UInt8} (h : c = ((b.toNat : Nat) : Int) := by first | exact rfl | (with_reducible exact (Int.toNat_of_nonneg (by omega)).symm) | fail) : c = ((b.toNat : Nat) : Int) := h
theorem WPl.stRB {T T' : TypeId} {g off i m : Nat} {cs cs' : Ch} {l : List UInt8} {c : Int} {b : UInt8} {a x : Operand} {Γf : List Asn} {ty : TypeId} {pos : String} {af : Array Edge} {gd : Option (Nat × Bool)} [hT : TyI P T false 1] (k : WPl P n W S (bx g T' cs' :: Γf) F ops os Q)
    (ha : evF F a = some (.pointer (some ⟨g, off + i, none⟩)) := by first | rfl | fail) (hx : evF F x = some (.int .u8 c) := by first | rfl | fail) (hb : c = ((b.toNat : Nat) : Int) := by first | exact byteA | fail) (hp : Take Γ (bx g T' cs) Γf := by first | exact takeA | fail) (hc : chAt cs off = some (m, u8s l) := by first | rfl | fail) (hi : i < l.length := by first | exact natA | fail) (hu : setAt (u8s (l.set i b)) cs off = some cs' := by first | (dsimp only [sel, takeCh, upd, dropCh, appCh, setAt, chAt, Option.map_some, List.cons_append, List.nil_append, Nat.reduceSub, Nat.reduceAdd] <;> exact rfl) | fail) (hw : wantG F ops gd = some true := by first | rfl | fail) :
    WPl P n W S Γ F ops (⟨none, .store T a x, ty, pos, af, gd⟩ :: os) Q := WPl.turn (.cons hp .nil) rfl hw (OpT.storeRB ha hx (.cons hp .nil) hb hc hi hu) k
theorem WPl.stEB {T : TypeId} {i : Nat} {s : Value} {l : List UInt8} {c : Int} {b : UInt8} {a x : Operand} {Γf : List Asn} {ty : TypeId} {pos : String} {af : Array Edge} {gd : Option (Nat × Bool)} [hT : TyI P T false 1] (k : WPl P n W S (ob s (l.set i b) :: Γf) F ops os Q)
    (ha : evF F a = some (.pointer (some (ela s i))) := by first | rfl | fail) (hx : evF F x = some (.int .u8 c) := by first | rfl | fail) (hb : c = ((b.toNat : Nat) : Int) := by first | exact byteA | fail) (hp : Take Γ (ob s l) Γf := by first | exact takeA | fail) (hi : i < l.length := by first | exact natA | fail) (hw : wantG F ops gd = some true := by first | rfl | fail) :
    WPl P n W S Γ F ops (⟨none, .store T a x, ty, pos, af, gd⟩ :: os) Q := WPl.turn (.cons hp .nil) rfl hw (OpT.storeEB ha hx (.cons hp .nil) hi hb) k
/-- A literal of bytes. -/
theorem WPl.lit {T : TypeId} {bytes : Nat} {z : Value} [hT : SliI P T 5] [he : EltI P 5 z bytes] {ps : List (Nat × Operand)} {es : List Int} {m : Nat} {ty : TypeId} {pos : String} {af : Array Edge} {gd : Option (Nat × Bool)} (k : ∀ v, v.oneCell' = true → WPl P n W S (ob v (nbs es) :: Γ) ((d, v) :: F) ops os Q)
    (hlt : Nat.blt d n = true := by first | rfl | fail) (hw : wantG F ops gd = some true := by first | rfl | fail) (h : evBs F 0 ps es := by first | exact evbA | fail) (hm : es.length = m := by first | rfl | fail) (hsm : Nat.ble m 16777216 = true := by first | rfl | fail) :
    WPl P n W S Γ F ops (⟨some d, .buildSlice T m ps.toArray, ty, pos, af, gd⟩ :: os) Q := WPl.row .nil rfl hlt hw (OpT.buildB h hm hsm) k
/-- A literal of values. -/
theorem WPl.lits {T e : TypeId} {bytes : Nat} {z : Value} [hT : SliI P T e] [he : EltI P e z bytes] {ps : List (Nat × Operand)} {vs : List Value} {m : Nat} {ty : TypeId} {pos : String} {af : Array Edge} {gd : Option (Nat × Bool)} (k : ∀ v, v.oneCell' = true → WPl P n W S (rowN e 1 v m vs :: Γ) ((d, v) :: F) ops os Q)
    (hlt : Nat.blt d n = true := by first | rfl | fail) (hw : wantG F ops gd = some true := by first | rfl | fail) (h : evPs F 0 ps vs := by first | exact evpA | fail) (h1 : OneL Γ vs := by first | exact oneA | fail) (hm : vs.length = m := by first | rfl | fail) (hsm : Nat.ble m 16777216 = true := by first | rfl | fail) :
    WPl P n W S Γ F ops (⟨some d, .buildSlice T m ps.toArray, ty, pos, af, gd⟩ :: os) Q := WPl.row .nil rfl hlt hw (OpT.buildSlice h h1 hm hsm) k
/-- append of bytes. -/
theorem WPl.app {T : TypeId} {z : Value} {bytes : Nat} {ty : TypeId} {pos : String} {af : Array Edge} {gd : Option (Nat × Bool)} [hT : SliI P T 5] [he : EltI P 5 z bytes] {s x : Operand} {v v2 : Value} {l l2 : List UInt8} {Γf : List Asn} (k : ∀ v, v.oneCell' = true → WPl P n W S (ob v (l ++ l2) :: Γf) ((d, v) :: F) ops os Q)
    (hlt : Nat.blt d n = true := by first | rfl | fail) (hw : wantG F ops gd = some true := by first | rfl | fail) (hs : evF F s = some v := by first | rfl | fail) (hx : evF F x = some v2 := by first | rfl | fail) (hp : Take Γ (ob v l) Γf := by first | exact takeA | fail) (h2 : HasS Γ v2 l2.length (u8s l2) := by first | exact hasA | fail) (h63 : l.length + l2.length ≤ 1099511627776 := by (try simp only [List.length_append, List.length_cons, List.length_nil, seg_len, be_length, nbs, List.length_map]); omega) (hby : Nat.ble bytes 128 = true := by first | rfl | fail) :
    WPl P n W S Γ F ops (⟨some d, .call { callee := .builtin .append, args := #[s, x], argTypes := #[T, T] }, ty, pos, af, gd⟩ :: os) Q :=
  WPl.row (.cons hp .nil) rfl hlt hw (OpT.appendB hs hx (.cons hp .nil) h2 h63 hby) k

variable {f : FuncId} {xs : List Operand} {ts : Array TypeId} {ty : TypeId} {pos : String} {af : Array Edge} {gd : Option (Nat × Bool)} {vs : List Value} {Δ : List Asn}
theorem WPl.cV {c : Value} (h : Triple P f vs.toArray Δ (RVal c)) (k : WPl P n W S Γ ((d, c) :: F) ops os Q) (hx : evFs F xs vs := by first | exact evsA | fail) (hΔ : Provs Γ Δ := by first | exact provsA | fail) (hc : isCode P f = true := by first | kernel_rfl | fail) (hd : Nat.blt d n = true := by first | rfl | fail) (hw : wantG F ops gd = some true := by first | rfl | fail) :
    WPl P n W S Γ F ops (⟨some d, .call { callee := .value (.func f), args := xs.toArray, argTypes := ts }, ty, pos, af, gd⟩ :: os) Q := WPl.callV h hx hΔ hc hd hw k
theorem WPl.cR {e : TypeId} {sz m : Nat} {us : List Value} (h : Triple P f vs.toArray Δ (RRow e sz m us)) (k : ∀ v, v.oneCell' = true → WPl P n W S (rowN e sz v m us :: Γ) ((d, v) :: F) ops os Q) (hx : evFs F xs vs := by first | exact evsA | fail) (hΔ : Provs Γ Δ := by first | exact provsA | fail) (hc : isCode P f = true := by first | kernel_rfl | fail) (hd : Nat.blt d n = true := by first | rfl | fail) (hw : wantG F ops gd = some true := by first | rfl | fail) :
    WPl P n W S Γ F ops (⟨some d, .call { callee := .value (.func f), args := xs.toArray, argTypes := ts }, ty, pos, af, gd⟩ :: os) Q := WPl.callR h hx hΔ hc hd hw k
theorem WPl.cX {d : Option Tmp} {R : Value → List Asn → Prop} (h : Triple P f vs.toArray Δ R) (k : ∀ v Γ', R v Γ' → WPl P n W S (Γ' ++ Γ) (putF F d v) ops os Q) (hx : evFs F xs vs := by first | exact evsA | fail) (hΔ : Provs Γ Δ := by first | exact provsA | fail) (hc : isCode P f = true := by first | kernel_rfl | fail) (hd : dstOk n d = true := by first | rfl | fail) (hw : wantG F ops gd = some true := by first | rfl | fail) :
    WPl P n W S Γ F ops (⟨d, .call { callee := .value (.func f), args := xs.toArray, argTypes := ts }, ty, pos, af, gd⟩ :: os) Q := WPl.call h hx hΔ hc hd hw k

theorem WPl.cH {m : Nat} {us : List Value} (h : Triple P f vs.toArray Δ (RHd m us)) (k : ∀ v, v.oneCell' = true → WPl P n W S (hdN v m us :: Γ) ((d, v) :: F) ops os Q) (hx : evFs F xs vs := by first | exact evsA | fail) (hΔ : Provs Γ Δ := by first | exact provsA | fail) (hc : isCode P f = true := by first | kernel_rfl | fail) (hd : Nat.blt d n = true := by first | rfl | fail) (hw : wantG F ops gd = some true := by first | rfl | fail) :
    WPl P n W S Γ F ops (⟨some d, .call { callee := .value (.func f), args := xs.toArray, argTypes := ts }, ty, pos, af, gd⟩ :: os) Q := WPl.hd rfl hd hw (OpT.call h hx hΔ hc) k
theorem WPl.cR2 {e : TypeId} {sz m : Nat} {us : List Value} {c : Value} (h : Triple P f vs.toArray Δ (RRow2 e sz m us c)) (k : ∀ v, v.oneCell' = true → WPl P n W S (rowN e sz v m us :: Γ) ((d, .tuple #[v, c]) :: F) ops os Q) (hx : evFs F xs vs := by first | exact evsA | fail) (hΔ : Provs Γ Δ := by first | exact provsA | fail) (hc : isCode P f = true := by first | kernel_rfl | fail) (hd : Nat.blt d n = true := by first | rfl | fail) (hw : wantG F ops gd = some true := by first | rfl | fail) :
    WPl P n W S Γ F ops (⟨some d, .call { callee := .value (.func f), args := xs.toArray, argTypes := ts }, ty, pos, af, gd⟩ :: os) Q := WPl.row2 rfl hd hw (OpT.call h hx hΔ hc) k
theorem WPl.cpA {dT sT e : TypeId} {ag : Bool} [hT : SliI P dT e] [he : TyI P e ag 1] {x y : Operand} {g o dLen dCap : Nat} {T' : TypeId} {cs cs' : Ch} {v2 : Value} {l2 new : List UInt8} {Γf : List Asn} (k : ∀ v, WPl P n W S (bx g T' cs' :: Γf) ((d, v) :: F) ops os Q) (hx : evF F x = some (.slice (some ⟨g, o, none⟩) dLen dCap) := by first | rfl | fail) (hy : evF F y = some v2 := by first | rfl | fail) (hp : Take Γ (bx g T' cs) Γf := by first | exact takeA | fail) (h2 : HasS Γ v2 l2.length (u8s l2) := by first | exact hasA | fail)
    (hnew : l2.take dLen = new := by first | exact List.take_of_length_le (by first | omega | (simp; done) | (simp; omega) | fail) | rfl | fail) (ho : OvC new cs o cs' := by first | exact ovcA | fail) (hlt : Nat.blt d n = true := by first | rfl | fail) (hw : wantG F ops gd = some true := by first | rfl | fail) :
    WPl P n W S Γ F ops (⟨some d, .call { callee := .builtin .copy, args := #[x, y], argTypes := #[dT, sT] }, ty, pos, af, gd⟩ :: os) Q := WPl.turnD (.cons hp .nil) rfl hlt hw (OpT.copyA hx hy (.cons hp .nil) h2 hnew ho) k
theorem WPl.cpE {dT sT : TypeId} [hT : SliI P dT 5] [he : TyI P 5 false 1] {x y : Operand} {s v2 : Value} {k dLen : Nat} {l l2 new : List UInt8} {Γf : List Asn} (kk : ∀ v, WPl P n W S (ob s (over l k new) :: Γf) ((d, v) :: F) ops os Q) (hx : evF F x = some (subv 1 s k dLen) := by first | rfl | fail) (hy : evF F y = some v2 := by first | rfl | fail) (hp : Take Γ (ob s l) Γf := by first | exact takeA | fail) (h2 : HasS Γ v2 l2.length (u8s l2) := by first | exact hasA | fail) (hk : k + dLen ≤ l.length := by first | omega | (simp; omega) | fail)
    (hnew : l2.take dLen = new := by first | exact List.take_of_length_le (by first | omega | (simp; done) | (simp; omega) | fail) | rfl | fail) (hlt : Nat.blt d n = true := by first | rfl | fail) (hw : wantG F ops gd = some true := by first | rfl | fail) :
    WPl P n W S Γ F ops (⟨some d, .call { callee := .builtin .copy, args := #[x, y], argTypes := #[dT, sT] }, ty, pos, af, gd⟩ :: os) Q := WPl.turnD (.cons hp .nil) rfl hlt hw (OpT.copyE hx hy (.cons hp .nil) h2 hk hnew) kk
theorem WPl.mk {T : TypeId} {bytes : Nat} [hT : SliI P T 5] [he : EltI P 5 (.int .u8 0) bytes] {x y : Operand} {k1 k2 : IntKind} {m : Nat} (k : ∀ v, v.oneCell' = true → WPl P n W S (ob v (List.replicate m 0) :: Γ) ((d, v) :: F) ops os Q) (hx : evF F x = some (.int k1 (Int.ofNat m)) := by first | exact idxA | fail) (hy : evF F y = some (.int k2 (Int.ofNat m)) := by first | exact idxA | fail) (hlt : Nat.blt d n = true := by first | rfl | fail) (hm : m ≤ 1099511627776 := by first | omega | fail) (hby : Nat.ble bytes 128 = true := by first | rfl | fail) (hw : wantG F ops gd = some true := by first | rfl | fail) :
    WPl P n W S Γ F ops (⟨some d, .makeSlice T x y, ty, pos, af, gd⟩ :: os) Q := WPl.row .nil rfl hlt hw (OpT.makeB hx hy hm hby) k
theorem WPl.spl {op : Op} {e : Tmp} {j : Nat} {b c : Bool} {d : Nat} (h1 : c = b → WPl P n W S Γ ((d, .bool b) :: F) ops (⟨some e, op, ty, pos, af, none⟩ :: os) Q) (h2 : c = !b → WPl P n W S Γ ((e, undef) :: (d, .bool (!b)) :: F) ops os Q) (hd : (ops[j]?).bind (·.dst) = some d := by first | rfl | fail) (h : lkT F d = some (.bool c) := by first | rfl | fail) (hlt : Nat.blt e n = true := by first | rfl | fail) :
    WPl P n W S Γ F ops (⟨some e, op, ty, pos, af, some (j, b)⟩ :: os) Q := WPl.splitG hd h hlt h1 h2

theorem WPc.cT {c : Operand} {x y : Code} (h : WPc P n W S Γ F x Q) (hc : evF F c = some (.bool true) := by first | rfl | fail) : WPc P n W S Γ F (.cond c x y) Q := WPc.condT hc h
theorem WPc.cF {c : Operand} {x y : Code} (h : WPc P n W S Γ F y Q) (hc : evF F c = some (.bool false) := by first | rfl | fail) : WPc P n W S Γ F (.cond c x y) Q := WPc.condF hc h
theorem WPc.cS {c : Operand} {x y : Code} {b : Bool} (h1 : b = true → WPc P n W S Γ F x Q) (h2 : b = false → WPc P n W S Γ F y Q) (hc : evF F c = some (.bool b) := by first | rfl | fail) : WPc P n W S Γ F (.cond c x y) Q := WPc.cond hc h1 h2

theorem WPq.dV {fn : Func} {rs : List ResultVar} {vs : List Value} {c : Value} {e : Exit} (he : e = .ret ∨ e = .normal := by first | exact .inl rfl | exact .inr rfl | fail) (hr : fn.results = rs.toArray := by first | rfl | fail) (h : ResF P Γ F rs vs := by first | exact resA | fail) (hc : resV vs = c := by first | rfl | fail) : WPq n W S Γ F (Done P fn W S (RVal c)) e := WPq.doneV he hr h hc
theorem WPq.dR {fn : Func} {rs : List ResultVar} {v : Value} {e : TypeId} {sz m : Nat} {us : List Value} {Γx : List Asn} {ex : Exit} (he : ex = .ret ∨ ex = .normal := by first | exact .inl rfl | exact .inr rfl | fail) (hr : fn.results = rs.toArray := by first | rfl | fail) (h : ResF P Γ F rs [v] := by first | exact resA | fail) (hp : Take Γ (rowN e sz v m us) Γx := by first | exact takeA | fail) (h1 : v.oneCell' = true := by first | rfl | assumption | fail) :
    WPq n W S Γ F (Done P fn W S (RRow e sz m us)) ex := WPq.doneR he hr h hp h1
theorem WPq.dH {fn : Func} {rs : List ResultVar} {v : Value} {m : Nat} {us : List Value} {Γx : List Asn} {ex : Exit} (he : ex = .ret ∨ ex = .normal := by first | exact .inl rfl | exact .inr rfl | fail) (hr : fn.results = rs.toArray := by first | rfl | fail) (h : ResF P Γ F rs [v] := by first | exact resA | fail) (hp : Take Γ (hdN v m us) Γx := by first | exact takeA | fail) (h1 : v.oneCell' = true := by first | rfl | assumption | fail) :
    WPq n W S Γ F (Done P fn W S (RHd m us)) ex := WPq.doneH he hr h hp h1
theorem WPq.dR2 {fn : Func} {rs : List ResultVar} {v c : Value} {e : TypeId} {sz m : Nat} {us : List Value} {Γx : List Asn} {ex : Exit} (he : ex = .ret ∨ ex = .normal := by first | exact .inl rfl | exact .inr rfl | fail) (hr : fn.results = rs.toArray := by first | rfl | fail) (h : ResF P Γ F rs [v, c] := by first | exact resA | fail) (hp : Take Γ (rowN e sz v m us) Γx := by first | exact takeA | fail) (h1 : v.oneCell' = true := by first | rfl | assumption | fail) :
    WPq n W S Γ F (Done P fn W S (RRow2 e sz m us c)) ex := WPq.doneR2 he hr h hp h1
theorem WPq.dBH {fn : Func} {rs : List ResultVar} {g : Nat} {T : TypeId} {cs : Ch} {o c m : Nat} {l : List UInt8} {Γx : List Asn} {ex : Exit} (he : ex = .ret ∨ ex = .normal := by first | exact .inl rfl | exact .inr rfl | fail) (hr : fn.results = rs.toArray := by first | rfl | fail) (h : ResF P (hdN (.slice (some ⟨g, o, none⟩) m c) l.length (u8s l) :: Γx) F rs [.slice (some ⟨g, o, none⟩) m c] := by first | exact resA | fail) (hp : Take Γ (bx g T cs) Γx := by first | exact takeA | fail) (hv : HasS [bx g T cs] (.slice (some ⟨g, o, none⟩) m c) l.length (u8s l) := by first | exact hasA | fail) :
    WPq n W S Γ F (Done P fn W S (RHd l.length (u8s l))) ex := WPq.doneBH he hr h hp hv
theorem WPq.rnd {σ : Type} {ok : σ → Prop} {ΓI : σ → List Asn} {FI : σ → List (Nat × Value)} {μ : σ → Nat} {k : Nat} (x' : σ) {Γx : List Asn} (h0 : ok x') (hμ : μ x' < k) (hΓ : Takes Γ (ΓI x') Γx := by first | exact takesA | fail) (hF : FrSub F (FI x') := by first | exact frsA | fail) :
    WPq n W S Γ F (Exit.then (fun a w => ∃ x', ok x' ∧ μ x' < k ∧ Fr n (FI x') a ∧ Good W S (ΓI x') w) Q) .normal := WPq.round x' h0 hμ hΓ hF

end

/-! ### In regions that draw their order -/

theorem own_nil : ∀ A, A ∈ ([] : List Asn) → A.own = true := fun _ h => by cases h
theorem own_cons {A : Asn} {Γ : List Asn} (h : A.own = true) (k : ∀ B, B ∈ Γ → B.own = true) : ∀ B, B ∈ A :: Γ → B.own = true := fun B hB => by
  rcases List.mem_cons.1 hB with rfl | hB
  · exact h
  · exact k B hB
theorem ownA {Γ : List Asn} (h : ∀ A, A ∈ Γ → A.own = true := by ((repeat' (first | exact own_nil | refine own_cons (by first | exact bx_own | exact rowN_own | exact rfl) ?_ | fail)) <;> fail)) : ∀ A, A ∈ Γ → A.own = true := h

section
variable {P : Program} {n : Nat} {Γ : List Asn} {F : List (Nat × Value)} {ops : Array Oper} {eats : List (Nat × Nat)} {K : Prev → Prop} {j : Nat} {os : List Oper} {o : Oper} {D bad : List Nat} {Ds : List (List Nat × List Nat)} {prev : Prev}
theorem RGl.rdA {c : Env → Value} (k : RGl P n Γ F ops eats K (j + 1) os Ds ((j, o.dst, ⟨fun e _ => c e, fun _ _ => [], fun _ _ => True⟩) :: prev)) (hw : ∀ e, wantG (bndR D e prev ++ fcutR bad F) ops o.guard = some true := by intro e; first | rfl | fail)
    (h : ∀ e, oksR D e prev → ReadR P n (ensR eats D j e prev ++ Γ) (bndR D e prev ++ fcutR bad F) o (c e) := by intro e hk; (try dsimp only [bndR, ensR, oksR, fcutR, List.append_nil, List.nil_append, List.cons_append, List.append_assoc] at hk ⊢); first | exact readA | fail) (hi : ∀ e, c (mask D e) = c e := by intro e; first | rfl | fail) :
    RGl P n Γ F ops eats K j (o :: os) ((D, bad) :: Ds) prev := RGl.vl (fun e he => (h e he).opT) k hw hi
theorem RGl.rdX {c : Env → Value} (h : ∀ e, oksR D e prev → ReadR P n (ensR eats D j e prev ++ Γ) (bndR D e prev ++ fcutR bad F) o (c e)) (k : RGl P n Γ F ops eats K (j + 1) os Ds ((j, o.dst, ⟨fun e _ => c e, fun _ _ => [], fun _ _ => True⟩) :: prev)) (hw : ∀ e, wantG (bndR D e prev ++ fcutR bad F) ops o.guard = some true := by intro e; first | rfl | fail)
    (hi : ∀ e, c (mask D e) = c e := by intro e; first | rfl | fail) :
    RGl P n Γ F ops eats K j (o :: os) ((D, bad) :: Ds) prev := RGl.vl (fun e he => (h e he).opT) k hw hi
theorem RGl.nwA {T : Env → TypeId} {cs : Env → Ch} (k : RGl P n Γ F ops eats K (j + 1) os Ds ((j, o.dst, ⟨fun _ r => .pointer (some ⟨blk r.1, 0, none⟩), fun e r => [bx (blk r.1) (T e) (cs e)], fun _ _ => True⟩) :: prev)) (hw : ∀ e, wantG (bndR D e prev ++ fcutR bad F) ops o.guard = some true := by intro e; first | rfl | fail)
    (h : ∀ e, oksR D e prev → OpT P n (ensR eats D j e prev ++ Γ) (bndR D e prev ++ fcutR bad F) o [] (RNew (T e) (cs e)) := by intro e hk; (try dsimp only [bndR, ensR, oksR, fcutR, List.append_nil, List.nil_append, List.cons_append, List.append_assoc] at hk ⊢); first | exact OpT.alloc | exact OpT.boxA rfl fokA | exact OpT.box1 rfl rfl | exact OpT.box1 rfl (by assumption) | fail) (hi : ∀ e, T (mask D e) = T e ∧ cs (mask D e) = cs e := by intro e; first | exact ⟨rfl, rfl⟩ | fail) :
    RGl P n Γ F ops eats K j (o :: os) ((D, bad) :: Ds) prev := RGl.new h k hw hi
theorem RGl.litA {ety : Env → TypeId} {sz : Env → Nat} {m : Env → Nat} {xs : Env → List Value} (k : RGl P n Γ F ops eats K (j + 1) os Ds ((j, o.dst, ⟨fun _ r => r.1, fun e r => [rowN (ety e) (sz e) r.1 (m e) (xs e)], fun _ r => r.1.oneCell' = true⟩) :: prev)) (hw : ∀ e, wantG (bndR D e prev ++ fcutR bad F) ops o.guard = some true := by intro e; first | rfl | fail)
    (h : ∀ e, oksR D e prev → OpT P n (ensR eats D j e prev ++ Γ) (bndR D e prev ++ fcutR bad F) o [] (RRow (ety e) (sz e) (m e) (xs e)) := by intro e hk; (try dsimp only [bndR, ensR, oksR, fcutR, List.append_nil, List.nil_append, List.cons_append, List.append_assoc] at hk ⊢); first | exact OpT.buildB evbA rfl rfl | exact OpT.buildSlice evpA oneA rfl rfl | fail) (hs : ∀ e, [] = eaten1R eats j e prev := by intro e; first | rfl | fail) (hi : ∀ e, ety (mask D e) = ety e ∧ sz (mask D e) = sz e ∧ m (mask D e) = m e ∧ xs (mask D e) = xs e := by intro e; first | exact ⟨rfl, rfl, rfl, rfl⟩ | fail) :
    RGl P n Γ F ops eats K j (o :: os) ((D, bad) :: Ds) prev := RGl.row (Γ1 := fun _ => []) h k hs hw hi
theorem RGl.appA {ety : Env → TypeId} {sz : Env → Nat} {m : Env → Nat} {xs : Env → List Value} {A : Env → Asn} (k : RGl P n Γ F ops eats K (j + 1) os Ds ((j, o.dst, ⟨fun _ r => r.1, fun e r => [rowN (ety e) (sz e) r.1 (m e) (xs e)], fun _ r => r.1.oneCell' = true⟩) :: prev)) (hw : ∀ e, wantG (bndR D e prev ++ fcutR bad F) ops o.guard = some true := by intro e; first | rfl | fail)
    (h : ∀ e, oksR D e prev → OpT P n (ensR eats D j e prev ++ Γ) (bndR D e prev ++ fcutR bad F) o [A e] (RRow (ety e) (sz e) (m e) (xs e)) := by intro e hk; (try dsimp only [bndR, ensR, oksR, fcutR, List.append_nil, List.nil_append, List.cons_append, List.append_assoc] at hk ⊢); first | exact OpT.appendB rfl rfl takesA hasA (by (try simp only [List.length_append, List.length_cons, List.length_nil, seg_len, be_length, nbs, List.length_map]); omega) rfl | fail) (hs : ∀ e, [A e] = eaten1R eats j e prev := by intro e; first | rfl | fail) (hi : ∀ e, ety (mask D e) = ety e ∧ sz (mask D e) = sz e ∧ m (mask D e) = m e ∧ xs (mask D e) = xs e := by intro e; first | exact ⟨rfl, rfl, rfl, rfl⟩ | fail) :
    RGl P n Γ F ops eats K j (o :: os) ((D, bad) :: Ds) prev := RGl.row (Γ1 := fun e => [A e]) h k hs hw hi
theorem RGl.stA {A B : Env → Asn} (k : RGl P n Γ F ops eats K (j + 1) os Ds ((j, o.dst, ⟨fun _ r => r.1, fun e r => [B e], fun _ _ => True⟩) :: prev)) (hw : ∀ e, wantG (bndR D e prev ++ fcutR bad F) ops o.guard = some true := by intro e; first | rfl | fail)
    (h : ∀ e, oksR D e prev → OpT P n (ensR eats D j e prev ++ Γ) (bndR D e prev ++ fcutR bad F) o [A e] (RLeave [B e]) := by intro e hk; (try dsimp only [bndR, ensR, oksR, fcutR, List.append_nil, List.nil_append, List.cons_append, List.append_assoc] at hk ⊢); first | exact OpT.storeA rfl rfl takesA fokA rfl (by dsimp only [sel, takeCh, upd, dropCh, appCh, setAt, chAt, Option.map_some, List.cons_append, List.nil_append, Nat.reduceSub, Nat.reduceAdd] <;> exact rfl) | exact OpT.store1 rfl rfl takesA rfl (by dsimp only [sel, takeCh, upd, dropCh, appCh, setAt, chAt, Option.map_some, List.cons_append, List.nil_append, Nat.reduceSub, Nat.reduceAdd] <;> exact rfl) | exact OpT.store1 rfl rfl takesA (by assumption) (by dsimp only [sel, takeCh, upd, dropCh, appCh, setAt, chAt, Option.map_some, List.cons_append, List.nil_append, Nat.reduceSub, Nat.reduceAdd] <;> exact rfl) | exact OpT.storeEB rfl rfl takesA natA byteA | exact OpT.storeRB rfl rfl takesA byteA rfl natA (by dsimp only [sel, takeCh, upd, dropCh, appCh, setAt, chAt, Option.map_some, List.cons_append, List.nil_append, Nat.reduceSub, Nat.reduceAdd] <;> exact rfl) | fail) (hs : ∀ e, [A e] = eaten1R eats j e prev := by intro e; first | rfl | fail) (hi : ∀ e, B (mask D e) = B e := by intro e; first | rfl | fail) :
    RGl P n Γ F ops eats K j (o :: os) ((D, bad) :: Ds) prev := RGl.turn h k hs hw hi
theorem RGl.cpA {A B : Env → Asn} (k : RGl P n Γ F ops eats K (j + 1) os Ds ((j, o.dst, ⟨fun _ r => r.1, fun e r => [B e], fun _ _ => True⟩) :: prev)) (hw : ∀ e, wantG (bndR D e prev ++ fcutR bad F) ops o.guard = some true := by intro e; first | rfl | fail)
    (h : ∀ e, oksR D e prev → OpT P n (ensR eats D j e prev ++ Γ) (bndR D e prev ++ fcutR bad F) o [A e] (RLeave [B e]) := by intro e hk; (try dsimp only [bndR, ensR, oksR, fcutR, List.append_nil, List.nil_append, List.cons_append, List.append_assoc] at hk ⊢); first | exact OpT.copyA rfl rfl takesA hasA (by first | exact List.take_of_length_le (by first | omega | (simp; done) | (simp; omega) | fail) | rfl | fail) ovcA | exact OpT.copyE rfl rfl takesA hasA (by first | omega | (simp; omega) | fail) (by first | exact List.take_of_length_le (by first | omega | (simp; done) | (simp; omega) | fail) | rfl | fail) | fail) (hs : ∀ e, [A e] = eaten1R eats j e prev := by intro e; first | rfl | fail) (hi : ∀ e, B (mask D e) = B e := by intro e; first | rfl | fail) :
    RGl P n Γ F ops eats K j (o :: os) ((D, bad) :: Ds) prev := RGl.turn h k hs hw hi
theorem RGl.mkA {m : Env → Nat} {xs : Env → List Value} (k : RGl P n Γ F ops eats K (j + 1) os Ds ((j, o.dst, ⟨fun _ r => r.1, fun e r => [rowN 5 1 r.1 (m e) (xs e)], fun _ r => r.1.oneCell' = true⟩) :: prev)) (hw : ∀ e, wantG (bndR D e prev ++ fcutR bad F) ops o.guard = some true := by intro e; first | rfl | fail)
    (h : ∀ e, oksR D e prev → OpT P n (ensR eats D j e prev ++ Γ) (bndR D e prev ++ fcutR bad F) o [] (RRow 5 1 (m e) (xs e)) := by intro e hk; (try dsimp only [bndR, ensR, oksR, fcutR, List.append_nil, List.nil_append, List.cons_append, List.append_assoc] at hk ⊢); first | exact OpT.makeB idxA idxA (by omega) rfl | fail) (hs : ∀ e, [] = eaten1R eats j e prev := by intro e; first | rfl | fail) (hi : ∀ e, m (mask D e) = m e ∧ xs (mask D e) = xs e := by intro e; first | exact ⟨rfl, rfl⟩ | fail) :
    RGl P n Γ F ops eats K j (o :: os) ((D, bad) :: Ds) prev := RGl.row (Γ1 := fun _ => []) h k hs hw (fun e => ⟨rfl, rfl, (hi e).1, (hi e).2⟩)

end


/-! ### Short words for the walks' texts -/
theorem iffA {a p : Prop} (h : a ↔ p := by (try simp only [decide_eq_true_eq, decide_eq_false_iff_not, Bool.not_eq_true', Bool.not_eq_false', Bool.and_eq_true, Bool.or_eq_true, Bool.and_eq_false_iff, Bool.or_eq_false_iff, Bool.not_true, Bool.not_false, Int.not_lt, Int.not_le]); exact Iff.rfl) : a ↔ p := h
theorem prA {q : Prop} (h : False := by first | omega | exact clash1 hc (by assumption) | exact clash2 hc (by assumption) | exact hc trivial | exact hc (by assumption) | exact absurd hc (by assumption) | fail) : q := h.elim
section
variable {P : Program} {n : Nat} {W : World} {S : Nat → Prop} {Γ : List Asn} {F : List (Nat × Value)} {Q : Exit → Act → World → Prop}
variable {ops : Array Oper} {os : List Oper} {o : Oper}
theorem WPc.cQ {c : Operand} {x y : Code} {b : Bool} {p q : Prop} (h1 : p → WPc P n W S Γ F x Q) (h2 : q → WPc P n W S Γ F y Q) (hc : evF F c = some (.bool b) := by first | rfl | fail) (e1 : (b = true) ↔ p := by exact iffA) (e2 : (b = false) ↔ q := by exact iffA) : WPc P n W S Γ F (.cond c x y) Q := WPc.cond hc (fun h => h1 (e1.1 h)) (fun h => h2 (e2.1 h))
theorem WPl.spQ {op : Op} {e : Tmp} {j : Nat} {b c : Bool} {d : Nat} {ty : TypeId} {pos : String} {af : Array Edge} {p q : Prop} (h1 : p → WPl P n W S Γ ((d, .bool b) :: F) ops (⟨some e, op, ty, pos, af, none⟩ :: os) Q) (h2 : q → WPl P n W S Γ ((e, undef) :: (d, .bool (!b)) :: F) ops os Q) (hd : (ops[j]?).bind (·.dst) = some d := by first | rfl | fail) (h : lkT F d = some (.bool c) := by first | rfl | fail) (hlt : Nat.blt e n = true := by first | rfl | fail) (e1 : (c = b) ↔ p := by exact iffA) (e2 : (c = !b) ↔ q := by exact iffA) :
    WPl P n W S Γ F ops (⟨some e, op, ty, pos, af, some (j, b)⟩ :: os) Q := WPl.splitG hd h hlt (fun h => h1 (e1.1 h)) (fun h => h2 (e2.1 h))
theorem isCond {c : Operand} {x y : Code} (h : WPc P n W S Γ F (.cond c x y) Q) : WPc P n W S Γ F (.cond c x y) Q := h
theorem isReg (id : Nat) {l : Array Oper} (h : WPc P n W S Γ F (.region id l true) Q) : WPc P n W S Γ F (.region id l true) Q := h
theorem isOp (h : WPl P n W S Γ F ops (o :: os) Q) : WPl P n W S Γ F ops (o :: os) Q := h
section
variable {dd : Option Tmp} {op : Op} {ty : TypeId} {pos : String} {af : Array Edge} {gd : Option (Nat × Bool)} {T : TypeId} {x y z : Operand} {xs : Array Operand} {ts : Array TypeId} {m : Nat} {ps : Array (Nat × Operand)}
theorem isD (d : Nat) (h : WPl P n W S Γ F ops (⟨some d, op, ty, pos, af, gd⟩ :: os) Q) : WPl P n W S Γ F ops (⟨some d, op, ty, pos, af, gd⟩ :: os) Q := h
theorem isC (d : Nat) (h : WPl P n W S Γ F ops (⟨some d, .call ⟨.value x, xs, ts⟩, ty, pos, af, gd⟩ :: os) Q) : WPl P n W S Γ F ops (⟨some d, .call ⟨.value x, xs, ts⟩, ty, pos, af, gd⟩ :: os) Q := h
theorem isCl (h : WPl P n W S Γ F ops (⟨dd, .call ⟨.value x, xs, ts⟩, ty, pos, af, gd⟩ :: os) Q) : WPl P n W S Γ F ops (⟨dd, .call ⟨.value x, xs, ts⟩, ty, pos, af, gd⟩ :: os) Q := h
theorem isSt (h : WPl P n W S Γ F ops (⟨dd, .store T x y, ty, pos, af, gd⟩ :: os) Q) : WPl P n W S Γ F ops (⟨dd, .store T x y, ty, pos, af, gd⟩ :: os) Q := h
theorem isAl (h : WPl P n W S Γ F ops (⟨dd, .alloc T, ty, pos, af, gd⟩ :: os) Q) : WPl P n W S Γ F ops (⟨dd, .alloc T, ty, pos, af, gd⟩ :: os) Q := h
theorem isBx (h : WPl P n W S Γ F ops (⟨dd, .box T x, ty, pos, af, gd⟩ :: os) Q) : WPl P n W S Γ F ops (⟨dd, .box T x, ty, pos, af, gd⟩ :: os) Q := h
theorem isMk (h : WPl P n W S Γ F ops (⟨dd, .makeSlice T x y, ty, pos, af, gd⟩ :: os) Q) : WPl P n W S Γ F ops (⟨dd, .makeSlice T x y, ty, pos, af, gd⟩ :: os) Q := h
theorem isLit (h : WPl P n W S Γ F ops (⟨dd, .buildSlice T m ps, ty, pos, af, gd⟩ :: os) Q) : WPl P n W S Γ F ops (⟨dd, .buildSlice T m ps, ty, pos, af, gd⟩ :: os) Q := h
theorem isApp (h : WPl P n W S Γ F ops (⟨dd, .call ⟨.builtin .append, xs, ts⟩, ty, pos, af, gd⟩ :: os) Q) : WPl P n W S Γ F ops (⟨dd, .call ⟨.builtin .append, xs, ts⟩, ty, pos, af, gd⟩ :: os) Q := h
theorem isCp (h : WPl P n W S Γ F ops (⟨dd, .call ⟨.builtin .copy, xs, ts⟩, ty, pos, af, gd⟩ :: os) Q) : WPl P n W S Γ F ops (⟨dd, .call ⟨.builtin .copy, xs, ts⟩, ty, pos, af, gd⟩ :: os) Q := h
end
end
section
variable {P : Program} {n : Nat} {Γ : List Asn} {F : List (Nat × Value)} {ops : Array Oper} {eats : List (Nat × Nat)} {K : Prev → Prop} {j : Nat} {os : List Oper} {o : Oper} {Ds : List (List Nat × List Nat)} {prev : Prev}
theorem gAny {os : List Oper} (h : RGl P n Γ F ops eats K j os Ds prev) : RGl P n Γ F ops eats K j os Ds prev := h
theorem gOp (h : RGl P n Γ F ops eats K j (o :: os) Ds prev) : RGl P n Γ F ops eats K j (o :: os) Ds prev := h
variable {dd : Option Tmp} {op : Op} {ty : TypeId} {pos : String} {af : Array Edge} {gd : Option (Nat × Bool)} {T : TypeId} {x y z : Operand} {xs : Array Operand} {ts : Array TypeId} {m : Nat} {ps : Array (Nat × Operand)} {gi : Nat × Bool}
theorem gGd (h : RGl P n Γ F ops eats K j (⟨dd, op, ty, pos, af, some gi⟩ :: os) Ds prev) : RGl P n Γ F ops eats K j (⟨dd, op, ty, pos, af, some gi⟩ :: os) Ds prev := h
theorem gD (d : Nat) (h : RGl P n Γ F ops eats K j (⟨some d, op, ty, pos, af, gd⟩ :: os) Ds prev) : RGl P n Γ F ops eats K j (⟨some d, op, ty, pos, af, gd⟩ :: os) Ds prev := h
theorem gC (d : Nat) (h : RGl P n Γ F ops eats K j (⟨some d, .call ⟨.value x, xs, ts⟩, ty, pos, af, gd⟩ :: os) Ds prev) : RGl P n Γ F ops eats K j (⟨some d, .call ⟨.value x, xs, ts⟩, ty, pos, af, gd⟩ :: os) Ds prev := h
theorem gCl (h : RGl P n Γ F ops eats K j (⟨dd, .call ⟨.value x, xs, ts⟩, ty, pos, af, gd⟩ :: os) Ds prev) : RGl P n Γ F ops eats K j (⟨dd, .call ⟨.value x, xs, ts⟩, ty, pos, af, gd⟩ :: os) Ds prev := h
theorem gSt (h : RGl P n Γ F ops eats K j (⟨dd, .store T x y, ty, pos, af, gd⟩ :: os) Ds prev) : RGl P n Γ F ops eats K j (⟨dd, .store T x y, ty, pos, af, gd⟩ :: os) Ds prev := h
theorem gAl (h : RGl P n Γ F ops eats K j (⟨dd, .alloc T, ty, pos, af, gd⟩ :: os) Ds prev) : RGl P n Γ F ops eats K j (⟨dd, .alloc T, ty, pos, af, gd⟩ :: os) Ds prev := h
theorem gBx (h : RGl P n Γ F ops eats K j (⟨dd, .box T x, ty, pos, af, gd⟩ :: os) Ds prev) : RGl P n Γ F ops eats K j (⟨dd, .box T x, ty, pos, af, gd⟩ :: os) Ds prev := h
theorem gMk (h : RGl P n Γ F ops eats K j (⟨dd, .makeSlice T x y, ty, pos, af, gd⟩ :: os) Ds prev) : RGl P n Γ F ops eats K j (⟨dd, .makeSlice T x y, ty, pos, af, gd⟩ :: os) Ds prev := h
theorem gLit (h : RGl P n Γ F ops eats K j (⟨dd, .buildSlice T m ps, ty, pos, af, gd⟩ :: os) Ds prev) : RGl P n Γ F ops eats K j (⟨dd, .buildSlice T m ps, ty, pos, af, gd⟩ :: os) Ds prev := h
theorem gApp (h : RGl P n Γ F ops eats K j (⟨dd, .call ⟨.builtin .append, xs, ts⟩, ty, pos, af, gd⟩ :: os) Ds prev) : RGl P n Γ F ops eats K j (⟨dd, .call ⟨.builtin .append, xs, ts⟩, ty, pos, af, gd⟩ :: os) Ds prev := h
theorem gCp (h : RGl P n Γ F ops eats K j (⟨dd, .call ⟨.builtin .copy, xs, ts⟩, ty, pos, af, gd⟩ :: os) Ds prev) : RGl P n Γ F ops eats K j (⟨dd, .call ⟨.builtin .copy, xs, ts⟩, ty, pos, af, gd⟩ :: os) Ds prev := h
end
/-- A drawn region, its side conditions had by themselves. -/
theorem WPc.drA {P : Program} {n : Nat} {W : World} {S : Nat → Prop} {Γ : List Asn} {F : List (Nat × Value)} {Q : Exit → Act → World → Prop} {id : Nat} {l : List Oper} (Ds : List (List Nat × List Nat)) (eats : List (Nat × Nat)) {Γx Γr : List Asn} (h : RGl P n Γr F l.toArray eats (fun prev => ∀ e, oksA e prev → WPq n W S (ensA eats e prev ++ Γr) (bndA e prev ++ F) Q .normal) 0 l Ds (prev0 l.length Γx))
    (hx : Takes Γ Γx Γr := by exact takesA) (hox : ∀ A, A ∈ Γx → A.own = true := by ((repeat' (first | exact own_nil | refine own_cons (by first | exact bx_own | exact rowN_own | exact rfl) ?_ | fail)) <;> fail)) (hm : P.follows .mixedOrders = true := by kernel_rfl) (hok : regOk n Γx.length l Ds eats = true := by kernel_rfl) :
    WPc P n W S Γ F (.region id l.toArray true) Q := WPc.drawn Ds eats hx hox hm hok h
theorem OpT.callN {P : Program} {n : Nat} {Γ : List Asn} {F : List (Nat × Value)} {d : Option Tmp} {f : FuncId} {xs : List Operand} {ts : Array TypeId} {ty : TypeId} {pos : String} {af : Array Edge} {gd : Option (Nat × Bool)} {vs : List Value} {Δ : List Asn} {R : Value → List Asn → Prop}
    (h : Triple P f vs.toArray Δ R) (hx : evFs F xs vs := by (try dsimp only [bndR, ensR, oksR, fcutR, List.append_nil, List.nil_append, List.cons_append, List.append_assoc]); exact evsA) (hΔ : Provs Γ Δ := by (try dsimp only [bndR, ensR, oksR, fcutR, List.append_nil, List.nil_append, List.cons_append, List.append_assoc]); exact provsA) (hc : isCode P f = true := by kernel_rfl) : OpT P n Γ F ⟨d, .call { callee := .value (.func f), args := xs.toArray, argTypes := ts }, ty, pos, af, gd⟩ [] R := OpT.call h hx hΔ hc

end Go.Proofs.Ytpjfkomicehinaa
