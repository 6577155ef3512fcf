/- What the row of natRewrites_holds needs: part 3. -/
import Derived.Test.YtjfhiifpnpokpaaNrw2
/- Separation: the rules with what the walk can find by itself. -/
namespace Go.Proofs.Ytjfhiifpnpokpaa
open Go.RowKit
set_option linter.unusedSimpArgs false
set_option linter.unusedVariables false
set_option maxRecDepth 20000
set_option maxHeartbeats 4000000
attribute [local irreducible] WPc WPl WPq ReadR OpT BinR HasS bx rdN rowN Take Takes Prov Triple ResF BuildP Done ag Int.decLt Int.decLe Int.instDecidableEq

/-! ### Searches -/

theorem ReadR.binE {P : Program} {n : Nat} {Γ : List Asn} {F : List (Nat × Value)} {d : Option Tmp} {ty : TypeId} {pos : String} {af : Array Edge} {gd : Option (Nat × Bool)} {op : BinOp} {T t2 : TypeId} {x y : Operand} {a b v v' : Value} (hx : evF F x = some a) (hy : evF F y = some b) (h : BinR P op T a b v) (e : v = v') :
    ReadR P n Γ F ⟨d, .binOp op T x y t2, ty, pos, af, gd⟩ v' := e ▸ ReadR.bin hx hy h
theorem seg_len (l : List UInt8) (k n : Nat) : (seg l k n).length = min n (l.length - k) := by simp [seg]
theorem clash1 {b : Bool} {p : Prop} (h : b = false) (k : b = true) : p := by subst h; cases k
theorem clash2 {b : Bool} {p : Prop} (h : b = true) (k : b = false) : p := by subst h; cases k
theorem natA {a b : Nat} (h : a ≤ b := by first | omega | exact Nat.le_of_ble_eq_true rfl | (simp only [List.length_append, List.length_cons, List.length_nil, List.length_replicate, seg_len, be_length, nbs, List.length_map]; omega) | fail) : a ≤ b := h
theorem idx_of {F : List (Nat × Value)} {x : Operand} {k : IntKind} {c : Int} {i : Nat} (h : evF F x = some (.int k c)) (hc : c = Int.ofNat i) : evF F x = some (.int k (Int.ofNat i)) := hc ▸ h
theorem idx_lit (n : Nat) : (@OfNat.ofNat Int n _) = Int.ofNat (@OfNat.ofNat Nat n _) := rfl
theorem idxA {F : List (Nat × Value)} {x : Operand} {k : IntKind} {i : Nat} (h : evF F x = some (.int k (Int.ofNat i)) := by apply idx_of; exact rfl; first | (with_reducible exact idx_lit _) | exact rfl | fail) : evF F x = some (.int k (Int.ofNat i)) := h
theorem memA {A : Asn} {Γ : List Asn} (h : A ∈ Γ := by ((repeat (first | exact List.Mem.head _ | apply List.Mem.tail | fail)) <;> fail)) : A ∈ Γ := h
theorem takeA {A : Asn} {Γ Γ' : List Asn} (h : Take Γ A Γ' := by ((repeat' (first | exact Take.here | apply Take.there | fail)) <;> fail)) : Take Γ A Γ' := h
theorem takesA {Γ Δ Γ' : List Asn} (h : Takes Γ Δ Γ' := by ((repeat' (first | exact Takes.nil | exact Takes.all | apply Takes.cons | exact Take.here | apply Take.there | apply Takes.skip | fail)) <;> fail)) : Takes Γ Δ Γ' := h
theorem frsA {F F' : List (Nat × Value)} (h : FrSub F F' := by ((repeat' (first | exact FrSub.nil | apply FrSub.cons | exact rfl | fail)) <;> fail)) : FrSub F F' := h
theorem evsA {F : List (Nat × Value)} {xs : List Operand} {vs : List Value} (h : evFs F xs vs := by ((repeat' (first | exact evFs.nil | apply evFs.cons | exact rfl | fail)) <;> fail)) : evFs F xs vs := h
theorem boxcA {cs : Ch} {o n : Nat} {l : List UInt8} (h : BoxC cs o n l := by ((repeat' (first | exact BoxC.all | exact BoxC.part rfl rfl | (apply BoxC.there; exact rfl; dsimp only [Nat.reduceSub, Nat.reduceAdd]) | fail)) <;> fail)) : BoxC cs o n l := h
theorem ovcA {new : List UInt8} {cs cs' : Ch} {o : Nat} (h : OvC new cs o cs' := by ((repeat' (first | exact rfl | (apply OvC.here; exact rfl) | (apply OvC.there; exact rfl; dsimp only [Nat.reduceSub, Nat.reduceAdd]) | (simp only [List.length_replicate, be_length]; omega) | omega | (simp; omega) | fail)) <;> fail)) : OvC new cs o cs' := h
theorem has0A {Γ : List Asn} {v : Value} {n : Nat} {xs : List Value} (h : HasS Γ v n xs := by first | exact HasS.rd memA | exact HasS.row memA | exact HasS.hd memA | exact HasS.boxB memA boxcA rfl rfl | fail) : HasS Γ v n xs := h
theorem hasA {Γ : List Asn} {v : Value} {n : Nat} {xs : List Value} (h : HasS Γ v n xs := by first | exact HasS.rd memA | exact HasS.row memA | exact HasS.hd memA | exact HasS.boxB memA boxcA rfl rfl | exact HasS.subB has0A (by omega) | exact HasS.nilB | exact HasS.nil | fail) : HasS Γ v n xs := h
theorem provA {Γ : List Asn} {A : Asn} (h : Prov Γ A := by exact Prov.rd hasA) : Prov Γ A := h
theorem provsT {Γ Δ : List Asn} (h : Provs Γ Δ := by ((repeat' (first | exact Provs.rbz | apply Provs.skipA | fail)) <;> fail)) : Provs Γ Δ := h
theorem provsA {Γ Δ : List Asn} (h : Provs Γ Δ := by ((repeat' (first | exact Provs.nil | apply Provs.cons | exact provA | exact provsT | fail)) <;> fail)) : Provs Γ Δ := h
theorem fokA {cs : Ch} (h : FOk cs := by ((repeat' (first | exact FOk.nil | apply FOk.one1 | apply FOk.bytes | exact rfl | exact LenI.len | assumption | (simp; done) | (simp [*]; done) | fail)) <;> fail)) : FOk cs := h
theorem partA {v : Value} {new : Ch} (h : PartV v new := by first | exact PartV.agg fokA | exact PartV.one rfl | exact PartV.one (by assumption) | fail) : PartV v new := h
theorem evasA {F : List (Nat × Value)} {m : Nat} {ps : List (Nat × Operand)} {qs : List (Nat × Int)} (h : evAs F m ps qs := by ((repeat' (first | exact evAs.nil | (apply evAs.cons; exact rfl; exact rfl) | decide | omega | exact u8_ge _ | exact u8_lt _ | fail)) <;> fail)) : evAs F m ps qs := h
theorem buildA {places : List (Nat × Nat)} {F : List (Nat × Value)} {ps : List (Nat × Operand)} {cs cs' : Ch} (h : BuildP places F ps cs cs' := by ((repeat' (first | exact BuildP.nil | apply BuildP.cons | (show upd _ _ _ _ = some _; dsimp only [sel, takeCh, upd, dropCh, appCh, setAt, chAt, Option.map_some, List.cons_append, List.nil_append, Nat.reduceSub, Nat.reduceAdd] <;> exact rfl) | exact rfl | exact partA | fail)) <;> fail)) : BuildP places F ps cs cs' := h
theorem evpA {F : List (Nat × Value)} {i : Nat} {ps : List (Nat × Operand)} {vs : List Value} (h : evPs F i ps vs := by ((repeat' (first | exact evPs.nil | apply evPs.cons | exact rfl | fail)) <;> fail)) : evPs F i ps vs := h
theorem oneA {Γ : List Asn} {vs : List Value} (h : OneL Γ vs := by ((repeat' (first | exact OneL.nil | apply OneL.lit rfl | apply OneL.has hasA | (apply OneL.lit; assumption) | fail)) <;> fail)) : OneL Γ vs := h
theorem evbA {F : List (Nat × Value)} {i : Nat} {ps : List (Nat × Operand)} {es : List Int} (h : evBs F i ps es := by ((repeat' (first | exact evBs.nil | apply evBs.cons | exact rfl | omega | exact u8_ge _ | exact u8_lt _ | fail)) <;> fail)) : evBs F i ps es := h
theorem resA {P : Program} {Γ : List Asn} {F : List (Nat × Value)} {rs : List ResultVar} {vs : List Value} (h : ResF P Γ F rs vs := by ((repeat' (first | exact ResF.nil | apply ResF.tmp | apply ResF.cellA | apply ResF.cell1 | (show sel _ _ _ = some _; dsimp only [sel, takeCh, upd, dropCh, appCh, setAt, chAt, Option.map_some, List.cons_append, List.nil_append, Nat.reduceSub, Nat.reduceAdd] <;> exact rfl) | exact rfl | exact memA | fail)) <;> fail)) : ResF P Γ F rs vs := h
theorem lenA {l : List UInt8} {n : Nat} (h : l.length = n := by first | exact LenI.len | exact rfl | assumption | (simp; done) | (simp [*]; done) | fail) : l.length = n := h
theorem eqcA {ks : List (Option IntKind)} {cs ds : Ch} {b : Bool} (h : EqC ks cs ds b := by ((repeat' (first | exact EqC.nil | apply EqC.bool | apply EqC.int | (apply EqC.bytes; exact rfl; exact rfl; exact lenA; exact lenA) | fail)) <;> fail)) : EqC ks cs ds b := h
theorem binA {P : Program} {op : BinOp} {T : TypeId} {a b v : Value} (h : BinR P op T a b v := by first | (apply BinR.lss) | (apply BinR.leq) | (apply BinR.gtr) | (apply BinR.geq) | (apply BinR.eql) | (apply BinR.neq) | (apply BinR.addI; omega; omega) | (apply BinR.subI; omega; omega) | (apply BinR.mulI; omega; omega) | (apply BinR.addU; omega; omega) | (apply BinR.subU; omega; omega) | (apply BinR.eqlB; kernel_rfl) | (apply BinR.neqB; kernel_rfl) | (apply BinR.eqlA; exact eqcA) | (apply BinR.neqA; exact eqcA) | (apply BinR.strUE) | (apply BinR.strUN) | (apply BinR.strE) | (apply BinR.strN) | fail) : BinR P op T a b v := h

section
variable {P : Program} {n : Nat} {W : World} {S : Nat → Prop} {Γ : List Asn} {F : List (Nat × Value)} {Q : Exit → Act → World → Prop}
variable {ops : Array Oper} {os : List Oper} {o : Oper} {d : Tmp}

theorem convA {k : IntKind} {a : Int} (h : k.wrap a = a := by first | exact rfl | exact conv_u8 | (simp only [IntKind.wrap_i64, IntKind.wrap_u64, IntKind.wrap_u8, IntKind.wrap_u16, IntKind.wrap_u32]; omega) | fail) : k.wrap a = a := h
theorem readA {v : Value} (h : ReadR P n Γ F o v := by first | (apply ReadR.move; exact rfl) | (apply ReadR.assign; exact rfl) | (apply ReadR.extract; exact rfl; exact rfl) | (apply ReadR.field; exact rfl) | (apply ReadR.loadS; exact rfl; exact memA; exact rfl) | (apply ReadR.loadA; exact rfl; exact memA; (dsimp only [sel, takeCh, upd, dropCh, appCh, setAt, chAt, Option.map_some, List.cons_append, List.nil_append, Nat.reduceSub, Nat.reduceAdd] <;> exact rfl)) | (apply ReadR.loadBx; exact rfl; exact memA; exact boxcA) | (apply ReadR.len; exact rfl; exact hasA) | (apply ReadR.bin; exact rfl; exact rfl; exact binA) | (apply ReadR.not; exact rfl) | (apply ReadR.pickT; exact rfl; exact rfl) | (apply ReadR.pickF; exact rfl; exact rfl) | (apply ReadR.indexE1; exact rfl; exact idxA; exact hasA; exact natA) | (apply ReadR.loadEB; exact rfl; exact hasA; exact natA) | (apply ReadR.indexR; exact rfl; exact idxA; exact natA) | (apply ReadR.loadRB; exact rfl; exact memA; exact rfl; exact natA) | (apply ReadR.sliceLH; exact rfl; exact idxA; exact idxA; exact hasA; exact natA; exact natA) | (apply ReadR.sliceL; exact rfl; exact idxA; exact hasA; exact natA) | (apply ReadR.sliceH; exact rfl; exact idxA; exact hasA; exact natA) | (apply ReadR.conv; exact rfl; exact convA) | (apply ReadR.conv8; exact idxA) | (apply ReadR.build; exact buildA) | (apply ReadR.buildZ) | (apply ReadR.buildArr; exact evasA) | (apply ReadR.nilCheck; exact rfl) | (apply ReadR.min; exact rfl; exact rfl) | (apply ReadR.max; exact rfl; exact rfl) | (apply ReadR.arrL; exact rfl; exact idxA; exact natA) | (apply ReadR.arrLH; exact rfl; exact idxA; exact idxA; exact natA; exact natA; exact natA) | (apply ReadR.arrH; exact rfl; exact idxA; exact natA) | (apply ReadR.arrAll; exact rfl) | (apply ReadR.loadEA0; exact rfl; exact hasA; exact lenA) | (apply ReadR.loadEAB; exact rfl; exact hasA; exact natA) | (apply ReadR.toArrS; exact rfl; exact rfl) | (apply ReadR.toArr; exact rfl; exact hasA; exact natA; exact natA) | (apply ReadR.eqNil; exact rfl; exact hasA) | (apply ReadR.str; kernel_rfl; kernel_rfl; exact rfl; exact hasA) | fail) : ReadR P n Γ F o v := h

theorem WPl.rd {v : Value} (k : WPl P n W S Γ ((d, v) :: F) ops os Q) (hd : o.dst = some d := by first | rfl | fail) (hlt : Nat.blt d n = true := by first | rfl | fail) (hw : wantG F ops o.guard = some true := by first | rfl | fail) (h : ReadR P n Γ F o v := by first | exact readA | fail) :
    WPl P n W S Γ F ops (o :: os) Q := WPl.read hd hlt hw h k
/-- A read by a law that is named. -/
theorem WPl.rdX {v : Value} (h : ReadR P n Γ F o v) (k : WPl P n W S Γ ((d, v) :: F) ops os Q) (hd : o.dst = some d := by first | rfl | fail) (hlt : Nat.blt d n = true := by first | rfl | fail) (hw : wantG F ops o.guard = some true := by first | rfl | fail) :
    WPl P n W S Γ F ops (o :: os) Q := WPl.read hd hlt hw h k
theorem WPl.sk (k : WPl P n W S Γ ((d, undef) :: F) ops os Q) (hw : wantG F ops o.guard = some false := by first | rfl | fail) (hd : o.dst = some d := by first | rfl | fail) (hlt : Nat.blt d n = true := by first | rfl | fail) : WPl P n W S Γ F ops (o :: os) Q := WPl.skip hw hd hlt k
theorem WPl.nw {T : TypeId} {cs : Ch} (k : ∀ g, WPl P n W S (bx g T cs :: Γ) ((d, .pointer (some ⟨g, 0, none⟩)) :: F) ops os Q) (hd : o.dst = some d := by first | rfl | fail) (hlt : Nat.blt d n = true := by first | rfl | fail) (hw : wantG F ops o.guard = some true := by first | rfl | fail)
    (h : OpT P n Γ F o [] (RNew T cs) := by first | exact OpT.alloc | exact OpT.boxA rfl fokA | exact OpT.box1 rfl rfl | exact OpT.box1 rfl (by assumption) | fail) : WPl P n W S Γ F ops (o :: os) Q := WPl.new hd hlt hw h k
theorem WPl.stA {T T' : TypeId} {sz g off : Nat} {cs cs' new : Ch} {a x : Operand} {Γf : List Asn} {ty : TypeId} {pos : String} {af : Array Edge} {gd : Option (Nat × Bool)} [hT : TyI P T true sz] (k : WPl P n W S (bx g T' cs' :: Γf) F ops os Q)
    (ha : evF F a = some (.pointer (some ⟨g, off, none⟩)) := by first | rfl | fail) (hx : evF F x = some (ag new) := by first | rfl | fail) (hp : Take Γ (bx g T' cs) Γf := by first | exact takeA | fail) (hn : FOk new := by first | exact fokA | fail) (ht : total new = sz := by first | rfl | fail) (hu : upd new cs off sz = some cs' := by first | (dsimp only [sel, takeCh, upd, dropCh, appCh, setAt, chAt, Option.map_some, List.cons_append, List.nil_append, Nat.reduceSub, Nat.reduceAdd] <;> exact rfl) | fail) (hw : wantG F ops gd = some true := by first | rfl | fail) :
    WPl P n W S Γ F ops (⟨none, .store T a x, ty, pos, af, gd⟩ :: os) Q := WPl.turn (.cons hp .nil) rfl hw (OpT.storeA ha hx (.cons hp .nil) hn ht hu) k
theorem WPl.st1 {T T' : TypeId} {g off : Nat} {cs cs' : Ch} {v : Value} {a x : Operand} {Γf : List Asn} {ty : TypeId} {pos : String} {af : Array Edge} {gd : Option (Nat × Bool)} [hT : TyI P T false 1] (k : WPl P n W S (bx g T' cs' :: Γf) F ops os Q)
    (ha : evF F a = some (.pointer (some ⟨g, off, none⟩)) := by first | rfl | fail) (hx : evF F x = some v := by first | rfl | fail) (hp : Take Γ (bx g T' cs) Γf := by first | exact takeA | fail) (h1 : v.oneCell' = true := by first | rfl | assumption | fail) (hu : upd [(1, [v])] cs off 1 = some cs' := by first | (dsimp only [sel, takeCh, upd, dropCh, appCh, setAt, chAt, Option.map_some, List.cons_append, List.nil_append, Nat.reduceSub, Nat.reduceAdd] <;> exact rfl) | fail) (hw : wantG F ops gd = some true := by first | rfl | fail) :
    WPl P n W S Γ F ops (⟨none, .store T a x, ty, pos, af, gd⟩ :: os) Q := WPl.turn (.cons hp .nil) rfl hw (OpT.store1 ha hx (.cons hp .nil) h1 hu) k
theorem OpT.storeRB {d : Option Tmp} {T T' : TypeId} {g off i m : Nat} {cs cs' : Ch} {l : List UInt8} {c : Int} {b : UInt8} {a x : Operand} {Γf : List Asn} {ty : TypeId} {pos : String} {af : Array Edge} {gd : Option (Nat × Bool)} [hT : TyI P T false 1] (ha : evF F a = some (.pointer (some ⟨g, off + i, none⟩))) (hx : evF F x = some (.int .u8 c)) (hp : Takes Γ [bx g T' cs] Γf) (hb : c = ((b.toNat : Nat) : Int)) (hc : chAt cs off = some (m, u8s l)) (hi : i < l.length) (hu : setAt (u8s (l.set i b)) cs off = some cs') :
    OpT P n Γ F ⟨d, .store T a x, ty, pos, af, gd⟩ [bx g T' cs] (RLeave [bx g T' cs']) := OpT.storeR ha hx hp rfl hc (by rw [u8s_length]; exact hi) (by subst hb; rw [u8s_set]; exact hu)
theorem byteA {c : Int} {b : UInt8} (h : c = ((b.toNat : Nat) : Int) := by first | exact rfl | (with_reducible exact (Int.toNat_of_nonneg (by omega)).symm) | fail) : c = ((b.toNat : Nat) : Int) := h
theorem WPl.stRB {T T' : TypeId} {g off i m : Nat} {cs cs' : Ch} {l : List UInt8} {c : Int} {b : UInt8} {a x : Operand} {Γf : List Asn} {ty : TypeId} {pos : String} {af : Array Edge} {gd : Option (Nat × Bool)} [hT : TyI P T false 1] (k : WPl P n W S (bx g T' cs' :: Γf) F ops os Q)
    (ha : evF F a = some (.pointer (some ⟨g, off + i, none⟩)) := by first | rfl | fail) (hx : evF F x = some (.int .u8 c) := by first | rfl | fail) (hb : c = ((b.toNat : Nat) : Int) := by first | exact byteA | fail) (hp : Take Γ (bx g T' cs) Γf := by first | exact takeA | fail) (hc : chAt cs off = some (m, u8s l) := by first | rfl | fail) (hi : i < l.length := by first | exact natA | fail) (hu : setAt (u8s (l.set i b)) cs off = some cs' := by first | (dsimp only [sel, takeCh, upd, dropCh, appCh, setAt, chAt, Option.map_some, List.cons_append, List.nil_append, Nat.reduceSub, Nat.reduceAdd] <;> exact rfl) | fail) (hw : wantG F ops gd = some true := by first | rfl | fail) :
    WPl P n W S Γ F ops (⟨none, .store T a x, ty, pos, af, gd⟩ :: os) Q := WPl.turn (.cons hp .nil) rfl hw (OpT.storeRB ha hx (.cons hp .nil) hb hc hi hu) k
theorem WPl.stEB {T : TypeId} {i : Nat} {s : Value} {l : List UInt8} {c : Int} {b : UInt8} {a x : Operand} {Γf : List Asn} {ty : TypeId} {pos : String} {af : Array Edge} {gd : Option (Nat × Bool)} [hT : TyI P T false 1] (k : WPl P n W S (ob s (l.set i b) :: Γf) F ops os Q)
    (ha : evF F a = some (.pointer (some (ela s i))) := by first | rfl | fail) (hx : evF F x = some (.int .u8 c) := by first | rfl | fail) (hb : c = ((b.toNat : Nat) : Int) := by first | exact byteA | fail) (hp : Take Γ (ob s l) Γf := by first | exact takeA | fail) (hi : i < l.length := by first | exact natA | fail) (hw : wantG F ops gd = some true := by first | rfl | fail) :
    WPl P n W S Γ F ops (⟨none, .store T a x, ty, pos, af, gd⟩ :: os) Q := WPl.turn (.cons hp .nil) rfl hw (OpT.storeEB ha hx (.cons hp .nil) hi hb) k
/-- A literal of bytes. -/
theorem WPl.lit {T : TypeId} {bytes : Nat} {z : Value} [hT : SliI P T 5] [he : EltI P 5 z bytes] {ps : List (Nat × Operand)} {es : List Int} {m : Nat} {ty : TypeId} {pos : String} {af : Array Edge} {gd : Option (Nat × Bool)} (k : ∀ v, v.oneCell' = true → WPl P n W S (ob v (nbs es) :: Γ) ((d, v) :: F) ops os Q)
    (hlt : Nat.blt d n = true := by first | rfl | fail) (hw : wantG F ops gd = some true := by first | rfl | fail) (h : evBs F 0 ps es := by first | exact evbA | fail) (hm : es.length = m := by first | rfl | fail) (hsm : Nat.ble m 16777216 = true := by first | rfl | fail) :
    WPl P n W S Γ F ops (⟨some d, .buildSlice T m ps.toArray, ty, pos, af, gd⟩ :: os) Q := WPl.row .nil rfl hlt hw (OpT.buildB h hm hsm) k
/-- A literal of values. -/
theorem WPl.lits {T e : TypeId} {bytes : Nat} {z : Value} [hT : SliI P T e] [he : EltI P e z bytes] {ps : List (Nat × Operand)} {vs : List Value} {m : Nat} {ty : TypeId} {pos : String} {af : Array Edge} {gd : Option (Nat × Bool)} (k : ∀ v, v.oneCell' = true → WPl P n W S (rowN e 1 v m vs :: Γ) ((d, v) :: F) ops os Q)
    (hlt : Nat.blt d n = true := by first | rfl | fail) (hw : wantG F ops gd = some true := by first | rfl | fail) (h : evPs F 0 ps vs := by first | exact evpA | fail) (h1 : OneL Γ vs := by first | exact oneA | fail) (hm : vs.length = m := by first | rfl | fail) (hsm : Nat.ble m 16777216 = true := by first | rfl | fail) :
    WPl P n W S Γ F ops (⟨some d, .buildSlice T m ps.toArray, ty, pos, af, gd⟩ :: os) Q := WPl.row .nil rfl hlt hw (OpT.buildSlice h h1 hm hsm) k
/-- append of bytes. -/
theorem WPl.app {T : TypeId} {z : Value} {bytes : Nat} {ty : TypeId} {pos : String} {af : Array Edge} {gd : Option (Nat × Bool)} [hT : SliI P T 5] [he : EltI P 5 z bytes] {s x : Operand} {v v2 : Value} {l l2 : List UInt8} {Γf : List Asn} (k : ∀ v, v.oneCell' = true → WPl P n W S (ob v (l ++ l2) :: Γf) ((d, v) :: F) ops os Q)
    (hlt : Nat.blt d n = true := by first | rfl | fail) (hw : wantG F ops gd = some true := by first | rfl | fail) (hs : evF F s = some v := by first | rfl | fail) (hx : evF F x = some v2 := by first | rfl | fail) (hp : Take Γ (ob v l) Γf := by first | exact takeA | fail) (h2 : HasS Γ v2 l2.length (u8s l2) := by first | exact hasA | fail) (h63 : l.length + l2.length ≤ 1099511627776 := by (try simp only [List.length_append, List.length_cons, List.length_nil, seg_len, be_length, nbs, List.length_map]); omega) (hby : Nat.ble bytes 128 = true := by first | rfl | fail) :
    WPl P n W S Γ F ops (⟨some d, .call { callee := .builtin .append, args := #[s, x], argTypes := #[T, T] }, ty, pos, af, gd⟩ :: os) Q :=
  WPl.row (.cons hp .nil) rfl hlt hw (OpT.appendB hs hx (.cons hp .nil) h2 h63 hby) k

variable {f : FuncId} {xs : List Operand} {ts : Array TypeId} {ty : TypeId} {pos : String} {af : Array Edge} {gd : Option (Nat × Bool)} {vs : List Value} {Δ : List Asn}
theorem WPl.cV {c : Value} (h : Triple P f vs.toArray Δ (RVal c)) (k : WPl P n W S Γ ((d, c) :: F) ops os Q) (hx : evFs F xs vs := by first | exact evsA | fail) (hΔ : Provs Γ Δ := by first | exact provsA | fail) (hc : isCode P f = true := by first | kernel_rfl | fail) (hd : Nat.blt d n = true := by first | rfl | fail) (hw : wantG F ops gd = some true := by first | rfl | fail) :
    WPl P n W S Γ F ops (⟨some d, .call { callee := .value (.func f), args := xs.toArray, argTypes := ts }, ty, pos, af, gd⟩ :: os) Q := WPl.callV h hx hΔ hc hd hw k
theorem WPl.cR {e : TypeId} {sz m : Nat} {us : List Value} (h : Triple P f vs.toArray Δ (RRow e sz m us)) (k : ∀ v, v.oneCell' = true → WPl P n W S (rowN e sz v m us :: Γ) ((d, v) :: F) ops os Q) (hx : evFs F xs vs := by first | exact evsA | fail) (hΔ : Provs Γ Δ := by first | exact provsA | fail) (hc : isCode P f = true := by first | kernel_rfl | fail) (hd : Nat.blt d n = true := by first | rfl | fail) (hw : wantG F ops gd = some true := by first | rfl | fail) :
    WPl P n W S Γ F ops (⟨some d, .call { callee := .value (.func f), args := xs.toArray, argTypes := ts }, ty, pos, af, gd⟩ :: os) Q := WPl.callR h hx hΔ hc hd hw k
theorem WPl.cH {m : Nat} {us : List Value} (h : Triple P f vs.toArray Δ (RHd m us)) (k : ∀ v, v.oneCell' = true → WPl P n W S (hdN v m us :: Γ) ((d, v) :: F) ops os Q) (hx : evFs F xs vs := by first | exact evsA | fail) (hΔ : Provs Γ Δ := by first | exact provsA | fail) (hc : isCode P f = true := by first | kernel_rfl | fail) (hd : Nat.blt d n = true := by first | rfl | fail) (hw : wantG F ops gd = some true := by first | rfl | fail) :
    WPl P n W S Γ F ops (⟨some d, .call { callee := .value (.func f), args := xs.toArray, argTypes := ts }, ty, pos, af, gd⟩ :: os) Q := WPl.hd rfl hd hw (OpT.call h hx hΔ hc) k
theorem WPl.cR2 {e : TypeId} {sz m : Nat} {us : List Value} {c : Value} (h : Triple P f vs.toArray Δ (RRow2 e sz m us c)) (k : ∀ v, v.oneCell' = true → WPl P n W S (rowN e sz v m us :: Γ) ((d, .tuple #[v, c]) :: F) ops os Q) (hx : evFs F xs vs := by first | exact evsA | fail) (hΔ : Provs Γ Δ := by first | exact provsA | fail) (hc : isCode P f = true := by first | kernel_rfl | fail) (hd : Nat.blt d n = true := by first | rfl | fail) (hw : wantG F ops gd = some true := by first | rfl | fail) :
    WPl P n W S Γ F ops (⟨some d, .call { callee := .value (.func f), args := xs.toArray, argTypes := ts }, ty, pos, af, gd⟩ :: os) Q := WPl.row2 rfl hd hw (OpT.call h hx hΔ hc) k
theorem WPl.cpA {dT sT e : TypeId} {ag : Bool} [hT : SliI P dT e] [he : TyI P e ag 1] {x y : Operand} {g o dLen dCap : Nat} {T' : TypeId} {cs cs' : Ch} {v2 : Value} {l2 new : List UInt8} {Γf : List Asn} (k : ∀ v, WPl P n W S (bx g T' cs' :: Γf) ((d, v) :: F) ops os Q) (hx : evF F x = some (.slice (some ⟨g, o, none⟩) dLen dCap) := by first | rfl | fail) (hy : evF F y = some v2 := by first | rfl | fail) (hp : Take Γ (bx g T' cs) Γf := by first | exact takeA | fail) (h2 : HasS Γ v2 l2.length (u8s l2) := by first | exact hasA | fail)
    (hnew : l2.take dLen = new := by first | exact List.take_of_length_le (by first | omega | (simp; done) | (simp; omega) | fail) | rfl | fail) (ho : OvC new cs o cs' := by first | exact ovcA | fail) (hlt : Nat.blt d n = true := by first | rfl | fail) (hw : wantG F ops gd = some true := by first | rfl | fail) :
    WPl P n W S Γ F ops (⟨some d, .call { callee := .builtin .copy, args := #[x, y], argTypes := #[dT, sT] }, ty, pos, af, gd⟩ :: os) Q := WPl.turnD (.cons hp .nil) rfl hlt hw (OpT.copyA hx hy (.cons hp .nil) h2 hnew ho) k
theorem WPl.cpE {dT sT : TypeId} [hT : SliI P dT 5] [he : TyI P 5 false 1] {x y : Operand} {s v2 : Value} {k dLen : Nat} {l l2 new : List UInt8} {Γf : List Asn} (kk : ∀ v, WPl P n W S (ob s (over l k new) :: Γf) ((d, v) :: F) ops os Q) (hx : evF F x = some (subv 1 s k dLen) := by first | rfl | fail) (hy : evF F y = some v2 := by first | rfl | fail) (hp : Take Γ (ob s l) Γf := by first | exact takeA | fail) (h2 : HasS Γ v2 l2.length (u8s l2) := by first | exact hasA | fail) (hk : k + dLen ≤ l.length := by first | omega | (simp; omega) | fail)
    (hnew : l2.take dLen = new := by first | exact List.take_of_length_le (by first | omega | (simp; done) | (simp; omega) | fail) | rfl | fail) (hlt : Nat.blt d n = true := by first | rfl | fail) (hw : wantG F ops gd = some true := by first | rfl | fail) :
    WPl P n W S Γ F ops (⟨some d, .call { callee := .builtin .copy, args := #[x, y], argTypes := #[dT, sT] }, ty, pos, af, gd⟩ :: os) Q := WPl.turnD (.cons hp .nil) rfl hlt hw (OpT.copyE hx hy (.cons hp .nil) h2 hk hnew) kk
theorem WPl.mk {T : TypeId} {bytes : Nat} [hT : SliI P T 5] [he : EltI P 5 (.int .u8 0) bytes] {x y : Operand} {k1 k2 : IntKind} {m : Nat} (k : ∀ v, v.oneCell' = true → WPl P n W S (ob v (List.replicate m 0) :: Γ) ((d, v) :: F) ops os Q) (hx : evF F x = some (.int k1 (Int.ofNat m)) := by first | exact idxA | fail) (hy : evF F y = some (.int k2 (Int.ofNat m)) := by first | exact idxA | fail) (hlt : Nat.blt d n = true := by first | rfl | fail) (hm : m ≤ 1099511627776 := by first | omega | fail) (hby : Nat.ble bytes 128 = true := by first | rfl | fail) (hw : wantG F ops gd = some true := by first | rfl | fail) :
    WPl P n W S Γ F ops (⟨some d, .makeSlice T x y, ty, pos, af, gd⟩ :: os) Q := WPl.row .nil rfl hlt hw (OpT.makeB hx hy hm hby) k
theorem WPc.cT {c : Operand} {x y : Code} (h : WPc P n W S Γ F x Q) (hc : evF F c = some (.bool true) := by first | rfl | fail) : WPc P n W S Γ F (.cond c x y) Q := WPc.condT hc h
theorem WPc.cF {c : Operand} {x y : Code} (h : WPc P n W S Γ F y Q) (hc : evF F c = some (.bool false) := by first | rfl | fail) : WPc P n W S Γ F (.cond c x y) Q := WPc.condF hc h
theorem WPc.cS {c : Operand} {x y : Code} {b : Bool} (h1 : b = true → WPc P n W S Γ F x Q) (h2 : b = false → WPc P n W S Γ F y Q) (hc : evF F c = some (.bool b) := by first | rfl | fail) : WPc P n W S Γ F (.cond c x y) Q := WPc.cond hc h1 h2

theorem WPq.dV {fn : Func} {rs : List ResultVar} {vs : List Value} {c : Value} {e : Exit} (he : e = .ret ∨ e = .normal := by first | exact .inl rfl | exact .inr rfl | fail) (hr : fn.results = rs.toArray := by first | rfl | fail) (h : ResF P Γ F rs vs := by first | exact resA | fail) (hc : resV vs = c := by first | rfl | fail) : WPq n W S Γ F (Done P fn W S (RVal c)) e := WPq.doneV he hr h hc
theorem WPq.dR {fn : Func} {rs : List ResultVar} {v : Value} {e : TypeId} {sz m : Nat} {us : List Value} {Γx : List Asn} {ex : Exit} (he : ex = .ret ∨ ex = .normal := by first | exact .inl rfl | exact .inr rfl | fail) (hr : fn.results = rs.toArray := by first | rfl | fail) (h : ResF P Γ F rs [v] := by first | exact resA | fail) (hp : Take Γ (rowN e sz v m us) Γx := by first | exact takeA | fail) (h1 : v.oneCell' = true := by first | rfl | assumption | fail) :
    WPq n W S Γ F (Done P fn W S (RRow e sz m us)) ex := WPq.doneR he hr h hp h1
theorem WPq.dR2 {fn : Func} {rs : List ResultVar} {v c : Value} {e : TypeId} {sz m : Nat} {us : List Value} {Γx : List Asn} {ex : Exit} (he : ex = .ret ∨ ex = .normal := by first | exact .inl rfl | exact .inr rfl | fail) (hr : fn.results = rs.toArray := by first | rfl | fail) (h : ResF P Γ F rs [v, c] := by first | exact resA | fail) (hp : Take Γ (rowN e sz v m us) Γx := by first | exact takeA | fail) (h1 : v.oneCell' = true := by first | rfl | assumption | fail) :
    WPq n W S Γ F (Done P fn W S (RRow2 e sz m us c)) ex := WPq.doneR2 he hr h hp h1
theorem WPq.dBH {fn : Func} {rs : List ResultVar} {g : Nat} {T : TypeId} {cs : Ch} {o c m : Nat} {l : List UInt8} {Γx : List Asn} {ex : Exit} (he : ex = .ret ∨ ex = .normal := by first | exact .inl rfl | exact .inr rfl | fail) (hr : fn.results = rs.toArray := by first | rfl | fail) (h : ResF P (hdN (.slice (some ⟨g, o, none⟩) m c) l.length (u8s l) :: Γx) F rs [.slice (some ⟨g, o, none⟩) m c] := by first | exact resA | fail) (hp : Take Γ (bx g T cs) Γx := by first | exact takeA | fail) (hv : HasS [bx g T cs] (.slice (some ⟨g, o, none⟩) m c) l.length (u8s l) := by first | exact hasA | fail) :
    WPq n W S Γ F (Done P fn W S (RHd l.length (u8s l))) ex := WPq.doneBH he hr h hp hv
theorem WPq.rnd {σ : Type} {ok : σ → Prop} {ΓI : σ → List Asn} {FI : σ → List (Nat × Value)} {μ : σ → Nat} {k : Nat} (x' : σ) {Γx : List Asn} (h0 : ok x') (hμ : μ x' < k) (hΓ : Takes Γ (ΓI x') Γx := by first | exact takesA | fail) (hF : FrSub F (FI x') := by first | exact frsA | fail) :
    WPq n W S Γ F (Exit.then (fun a w => ∃ x', ok x' ∧ μ x' < k ∧ Fr n (FI x') a ∧ Good W S (ΓI x') w) Q) .normal := WPq.round x' h0 hμ hΓ hF

end

/-! ### In regions that draw their order -/

theorem own_nil : ∀ A, A ∈ ([] : List Asn) → A.own = true := fun _ h => by cases h
theorem own_cons {A : Asn} {Γ : List Asn} (h : A.own = true) (k : ∀ B, B ∈ Γ → B.own = true) : ∀ B, B ∈ A :: Γ → B.own = true := fun B hB => by
  rcases List.mem_cons.1 hB with rfl | hB
  · exact h
  · exact k B hB
section
variable {P : Program} {n : Nat} {Γ : List Asn} {F : List (Nat × Value)} {ops : Array Oper} {eats : List (Nat × Nat)} {K : Prev → Prop} {j : Nat} {os : List Oper} {o : Oper} {D bad : List Nat} {Ds : List (List Nat × List Nat)} {prev : Prev}
theorem RGl.rdA {c : Env → Value} (k : RGl P n Γ F ops eats K (j + 1) os Ds ((j, o.dst, ⟨fun e _ => c e, fun _ _ => [], fun _ _ => True⟩) :: prev)) (hw : ∀ e, wantG (bndR D e prev ++ fcutR bad F) ops o.guard = some true := by intro e; first | rfl | fail)
    (h : ∀ e, oksR D e prev → ReadR P n (ensR eats D j e prev ++ Γ) (bndR D e prev ++ fcutR bad F) o (c e) := by intro e hk; (try dsimp only [bndR, ensR, oksR, fcutR, List.append_nil, List.nil_append, List.cons_append, List.append_assoc] at hk ⊢); first | exact readA | fail) (hi : ∀ e, c (mask D e) = c e := by intro e; first | rfl | fail) :
    RGl P n Γ F ops eats K j (o :: os) ((D, bad) :: Ds) prev := RGl.vl (fun e he => (h e he).opT) k hw hi
theorem RGl.rdX {c : Env → Value} (h : ∀ e, oksR D e prev → ReadR P n (ensR eats D j e prev ++ Γ) (bndR D e prev ++ fcutR bad F) o (c e)) (k : RGl P n Γ F ops eats K (j + 1) os Ds ((j, o.dst, ⟨fun e _ => c e, fun _ _ => [], fun _ _ => True⟩) :: prev)) (hw : ∀ e, wantG (bndR D e prev ++ fcutR bad F) ops o.guard = some true := by intro e; first | rfl | fail)
    (hi : ∀ e, c (mask D e) = c e := by intro e; first | rfl | fail) :
    RGl P n Γ F ops eats K j (o :: os) ((D, bad) :: Ds) prev := RGl.vl (fun e he => (h e he).opT) k hw hi
theorem RGl.nwA {T : Env → TypeId} {cs : Env → Ch} (k : RGl P n Γ F ops eats K (j + 1) os Ds ((j, o.dst, ⟨fun _ r => .pointer (some ⟨blk r.1, 0, none⟩), fun e r => [bx (blk r.1) (T e) (cs e)], fun _ _ => True⟩) :: prev)) (hw : ∀ e, wantG (bndR D e prev ++ fcutR bad F) ops o.guard = some true := by intro e; first | rfl | fail)
    (h : ∀ e, oksR D e prev → OpT P n (ensR eats D j e prev ++ Γ) (bndR D e prev ++ fcutR bad F) o [] (RNew (T e) (cs e)) := by intro e hk; (try dsimp only [bndR, ensR, oksR, fcutR, List.append_nil, List.nil_append, List.cons_append, List.append_assoc] at hk ⊢); first | exact OpT.alloc | exact OpT.boxA rfl fokA | exact OpT.box1 rfl rfl | exact OpT.box1 rfl (by assumption) | fail) (hi : ∀ e, T (mask D e) = T e ∧ cs (mask D e) = cs e := by intro e; first | exact ⟨rfl, rfl⟩ | fail) :
    RGl P n Γ F ops eats K j (o :: os) ((D, bad) :: Ds) prev := RGl.new h k hw hi
theorem RGl.litA {ety : Env → TypeId} {sz : Env → Nat} {m : Env → Nat} {xs : Env → List Value} (k : RGl P n Γ F ops eats K (j + 1) os Ds ((j, o.dst, ⟨fun _ r => r.1, fun e r => [rowN (ety e) (sz e) r.1 (m e) (xs e)], fun _ r => r.1.oneCell' = true⟩) :: prev)) (hw : ∀ e, wantG (bndR D e prev ++ fcutR bad F) ops o.guard = some true := by intro e; first | rfl | fail)
    (h : ∀ e, oksR D e prev → OpT P n (ensR eats D j e prev ++ Γ) (bndR D e prev ++ fcutR bad F) o [] (RRow (ety e) (sz e) (m e) (xs e)) := by intro e hk; (try dsimp only [bndR, ensR, oksR, fcutR, List.append_nil, List.nil_append, List.cons_append, List.append_assoc] at hk ⊢); first | exact OpT.buildB evbA rfl rfl | exact OpT.buildSlice evpA oneA rfl rfl | fail) (hs : ∀ e, [] = eaten1R eats j e prev := by intro e; first | rfl | fail) (hi : ∀ e, ety (mask D e) = ety e ∧ sz (mask D e) = sz e ∧ m (mask D e) = m e ∧ xs (mask D e) = xs e := by intro e; first | exact ⟨rfl, rfl, rfl, rfl⟩ | fail) :
    RGl P n Γ F ops eats K j (o :: os) ((D, bad) :: Ds) prev := RGl.row (Γ1 := fun _ => []) h k hs hw hi
theorem RGl.appA {ety : Env → TypeId} {sz : Env → Nat} {m : Env → Nat} {xs : Env → List Value} {A : Env → Asn} (k : RGl P n Γ F ops eats K (j + 1) os Ds ((j, o.dst, ⟨fun _ r => r.1, fun e r => [rowN (ety e) (sz e) r.1 (m e) (xs e)], fun _ r => r.1.oneCell' = true⟩) :: prev)) (hw : ∀ e, wantG (bndR D e prev ++ fcutR bad F) ops o.guard = some true := by intro e; first | rfl | fail)
    (h : ∀ e, oksR D e prev → OpT P n (ensR eats D j e prev ++ Γ) (bndR D e prev ++ fcutR bad F) o [A e] (RRow (ety e) (sz e) (m e) (xs e)) := by intro e hk; (try dsimp only [bndR, ensR, oksR, fcutR, List.append_nil, List.nil_append, List.cons_append, List.append_assoc] at hk ⊢); first | exact OpT.appendB rfl rfl takesA hasA (by (try simp only [List.length_append, List.length_cons, List.length_nil, seg_len, be_length, nbs, List.length_map]); omega) rfl | fail) (hs : ∀ e, [A e] = eaten1R eats j e prev := by intro e; first | rfl | fail) (hi : ∀ e, ety (mask D e) = ety e ∧ sz (mask D e) = sz e ∧ m (mask D e) = m e ∧ xs (mask D e) = xs e := by intro e; first | exact ⟨rfl, rfl, rfl, rfl⟩ | fail) :
    RGl P n Γ F ops eats K j (o :: os) ((D, bad) :: Ds) prev := RGl.row (Γ1 := fun e => [A e]) h k hs hw hi
theorem RGl.stA {A B : Env → Asn} (k : RGl P n Γ F ops eats K (j + 1) os Ds ((j, o.dst, ⟨fun _ r => r.1, fun e r => [B e], fun _ _ => True⟩) :: prev)) (hw : ∀ e, wantG (bndR D e prev ++ fcutR bad F) ops o.guard = some true := by intro e; first | rfl | fail)
    (h : ∀ e, oksR D e prev → OpT P n (ensR eats D j e prev ++ Γ) (bndR D e prev ++ fcutR bad F) o [A e] (RLeave [B e]) := by intro e hk; (try dsimp only [bndR, ensR, oksR, fcutR, List.append_nil, List.nil_append, List.cons_append, List.append_assoc] at hk ⊢); first | exact OpT.storeA rfl rfl takesA fokA rfl (by dsimp only [sel, takeCh, upd, dropCh, appCh, setAt, chAt, Option.map_some, List.cons_append, List.nil_append, Nat.reduceSub, Nat.reduceAdd] <;> exact rfl) | exact OpT.store1 rfl rfl takesA rfl (by dsimp only [sel, takeCh, upd, dropCh, appCh, setAt, chAt, Option.map_some, List.cons_append, List.nil_append, Nat.reduceSub, Nat.reduceAdd] <;> exact rfl) | exact OpT.store1 rfl rfl takesA (by assumption) (by dsimp only [sel, takeCh, upd, dropCh, appCh, setAt, chAt, Option.map_some, List.cons_append, List.nil_append, Nat.reduceSub, Nat.reduceAdd] <;> exact rfl) | exact OpT.storeEB rfl rfl takesA natA byteA | exact OpT.storeRB rfl rfl takesA byteA rfl natA (by dsimp only [sel, takeCh, upd, dropCh, appCh, setAt, chAt, Option.map_some, List.cons_append, List.nil_append, Nat.reduceSub, Nat.reduceAdd] <;> exact rfl) | fail) (hs : ∀ e, [A e] = eaten1R eats j e prev := by intro e; first | rfl | fail) (hi : ∀ e, B (mask D e) = B e := by intro e; first | rfl | fail) :
    RGl P n Γ F ops eats K j (o :: os) ((D, bad) :: Ds) prev := RGl.turn h k hs hw hi
theorem RGl.cpA {A B : Env → Asn} (k : RGl P n Γ F ops eats K (j + 1) os Ds ((j, o.dst, ⟨fun _ r => r.1, fun e r => [B e], fun _ _ => True⟩) :: prev)) (hw : ∀ e, wantG (bndR D e prev ++ fcutR bad F) ops o.guard = some true := by intro e; first | rfl | fail)
    (h : ∀ e, oksR D e prev → OpT P n (ensR eats D j e prev ++ Γ) (bndR D e prev ++ fcutR bad F) o [A e] (RLeave [B e]) := by intro e hk; (try dsimp only [bndR, ensR, oksR, fcutR, List.append_nil, List.nil_append, List.cons_append, List.append_assoc] at hk ⊢); first | exact OpT.copyA rfl rfl takesA hasA (by first | exact List.take_of_length_le (by first | omega | (simp; done) | (simp; omega) | fail) | rfl | fail) ovcA | exact OpT.copyE rfl rfl takesA hasA (by first | omega | (simp; omega) | fail) (by first | exact List.take_of_length_le (by first | omega | (simp; done) | (simp; omega) | fail) | rfl | fail) | fail) (hs : ∀ e, [A e] = eaten1R eats j e prev := by intro e; first | rfl | fail) (hi : ∀ e, B (mask D e) = B e := by intro e; first | rfl | fail) :
    RGl P n Γ F ops eats K j (o :: os) ((D, bad) :: Ds) prev := RGl.turn h k hs hw hi
end


/-! ### Short words for the walks' texts -/
theorem iffA {a p : Prop} (h : a ↔ p := by (try simp only [decide_eq_true_eq, decide_eq_false_iff_not, Bool.not_eq_true', Bool.not_eq_false', Bool.and_eq_true, Bool.or_eq_true, Bool.and_eq_false_iff, Bool.or_eq_false_iff, Bool.not_true, Bool.not_false, Int.not_lt, Int.not_le]); exact Iff.rfl) : a ↔ p := h
theorem prA {q : Prop} (h : False := by first | omega | exact clash1 hc (by assumption) | exact clash2 hc (by assumption) | exact hc trivial | exact hc (by assumption) | exact absurd hc (by assumption) | fail) : q := h.elim
section
variable {P : Program} {n : Nat} {W : World} {S : Nat → Prop} {Γ : List Asn} {F : List (Nat × Value)} {Q : Exit → Act → World → Prop}
variable {ops : Array Oper} {os : List Oper} {o : Oper}
theorem WPc.cQ {c : Operand} {x y : Code} {b : Bool} {p q : Prop} (h1 : p → WPc P n W S Γ F x Q) (h2 : q → WPc P n W S Γ F y Q) (hc : evF F c = some (.bool b) := by first | rfl | fail) (e1 : (b = true) ↔ p := by exact iffA) (e2 : (b = false) ↔ q := by exact iffA) : WPc P n W S Γ F (.cond c x y) Q := WPc.cond hc (fun h => h1 (e1.1 h)) (fun h => h2 (e2.1 h))
theorem WPl.spQ {op : Op} {e : Tmp} {j : Nat} {b c : Bool} {d : Nat} {ty : TypeId} {pos : String} {af : Array Edge} {p q : Prop} (h1 : p → WPl P n W S Γ ((d, .bool b) :: F) ops (⟨some e, op, ty, pos, af, none⟩ :: os) Q) (h2 : q → WPl P n W S Γ ((e, undef) :: (d, .bool (!b)) :: F) ops os Q) (hd : (ops[j]?).bind (·.dst) = some d := by first | rfl | fail) (h : lkT F d = some (.bool c) := by first | rfl | fail) (hlt : Nat.blt e n = true := by first | rfl | fail) (e1 : (c = b) ↔ p := by exact iffA) (e2 : (c = !b) ↔ q := by exact iffA) :
    WPl P n W S Γ F ops (⟨some e, op, ty, pos, af, some (j, b)⟩ :: os) Q := WPl.splitG hd h hlt (fun h => h1 (e1.1 h)) (fun h => h2 (e2.1 h))
theorem isCond {c : Operand} {x y : Code} (h : WPc P n W S Γ F (.cond c x y) Q) : WPc P n W S Γ F (.cond c x y) Q := h
theorem isReg (id : Nat) {l : Array Oper} (h : WPc P n W S Γ F (.region id l true) Q) : WPc P n W S Γ F (.region id l true) Q := h
theorem isOp (h : WPl P n W S Γ F ops (o :: os) Q) : WPl P n W S Γ F ops (o :: os) Q := h
section
variable {dd : Option Tmp} {op : Op} {ty : TypeId} {pos : String} {af : Array Edge} {gd : Option (Nat × Bool)} {T : TypeId} {x y z : Operand} {xs : Array Operand} {ts : Array TypeId} {m : Nat} {ps : Array (Nat × Operand)}
theorem isD (d : Nat) (h : WPl P n W S Γ F ops (⟨some d, op, ty, pos, af, gd⟩ :: os) Q) : WPl P n W S Γ F ops (⟨some d, op, ty, pos, af, gd⟩ :: os) Q := h
theorem isC (d : Nat) (h : WPl P n W S Γ F ops (⟨some d, .call ⟨.value x, xs, ts⟩, ty, pos, af, gd⟩ :: os) Q) : WPl P n W S Γ F ops (⟨some d, .call ⟨.value x, xs, ts⟩, ty, pos, af, gd⟩ :: os) Q := h
theorem isCl (h : WPl P n W S Γ F ops (⟨dd, .call ⟨.value x, xs, ts⟩, ty, pos, af, gd⟩ :: os) Q) : WPl P n W S Γ F ops (⟨dd, .call ⟨.value x, xs, ts⟩, ty, pos, af, gd⟩ :: os) Q := h
theorem isSt (h : WPl P n W S Γ F ops (⟨dd, .store T x y, ty, pos, af, gd⟩ :: os) Q) : WPl P n W S Γ F ops (⟨dd, .store T x y, ty, pos, af, gd⟩ :: os) Q := h
theorem isAl (h : WPl P n W S Γ F ops (⟨dd, .alloc T, ty, pos, af, gd⟩ :: os) Q) : WPl P n W S Γ F ops (⟨dd, .alloc T, ty, pos, af, gd⟩ :: os) Q := h
theorem isBx (h : WPl P n W S Γ F ops (⟨dd, .box T x, ty, pos, af, gd⟩ :: os) Q) : WPl P n W S Γ F ops (⟨dd, .box T x, ty, pos, af, gd⟩ :: os) Q := h
theorem isLit (h : WPl P n W S Γ F ops (⟨dd, .buildSlice T m ps, ty, pos, af, gd⟩ :: os) Q) : WPl P n W S Γ F ops (⟨dd, .buildSlice T m ps, ty, pos, af, gd⟩ :: os) Q := h
theorem isApp (h : WPl P n W S Γ F ops (⟨dd, .call ⟨.builtin .append, xs, ts⟩, ty, pos, af, gd⟩ :: os) Q) : WPl P n W S Γ F ops (⟨dd, .call ⟨.builtin .append, xs, ts⟩, ty, pos, af, gd⟩ :: os) Q := h
theorem isCp (h : WPl P n W S Γ F ops (⟨dd, .call ⟨.builtin .copy, xs, ts⟩, ty, pos, af, gd⟩ :: os) Q) : WPl P n W S Γ F ops (⟨dd, .call ⟨.builtin .copy, xs, ts⟩, ty, pos, af, gd⟩ :: os) Q := h
end
end
section
variable {P : Program} {n : Nat} {Γ : List Asn} {F : List (Nat × Value)} {ops : Array Oper} {eats : List (Nat × Nat)} {K : Prev → Prop} {j : Nat} {os : List Oper} {o : Oper} {Ds : List (List Nat × List Nat)} {prev : Prev}
theorem gAny {os : List Oper} (h : RGl P n Γ F ops eats K j os Ds prev) : RGl P n Γ F ops eats K j os Ds prev := h
theorem gOp (h : RGl P n Γ F ops eats K j (o :: os) Ds prev) : RGl P n Γ F ops eats K j (o :: os) Ds prev := h
variable {dd : Option Tmp} {op : Op} {ty : TypeId} {pos : String} {af : Array Edge} {gd : Option (Nat × Bool)} {T : TypeId} {x y z : Operand} {xs : Array Operand} {ts : Array TypeId} {m : Nat} {ps : Array (Nat × Operand)} {gi : Nat × Bool}
theorem gGd (h : RGl P n Γ F ops eats K j (⟨dd, op, ty, pos, af, some gi⟩ :: os) Ds prev) : RGl P n Γ F ops eats K j (⟨dd, op, ty, pos, af, some gi⟩ :: os) Ds prev := h
theorem gD (d : Nat) (h : RGl P n Γ F ops eats K j (⟨some d, op, ty, pos, af, gd⟩ :: os) Ds prev) : RGl P n Γ F ops eats K j (⟨some d, op, ty, pos, af, gd⟩ :: os) Ds prev := h
theorem gC (d : Nat) (h : RGl P n Γ F ops eats K j (⟨some d, .call ⟨.value x, xs, ts⟩, ty, pos, af, gd⟩ :: os) Ds prev) : RGl P n Γ F ops eats K j (⟨some d, .call ⟨.value x, xs, ts⟩, ty, pos, af, gd⟩ :: os) Ds prev := h
theorem gCl (h : RGl P n Γ F ops eats K j (⟨dd, .call ⟨.value x, xs, ts⟩, ty, pos, af, gd⟩ :: os) Ds prev) : RGl P n Γ F ops eats K j (⟨dd, .call ⟨.value x, xs, ts⟩, ty, pos, af, gd⟩ :: os) Ds prev := h
theorem gSt (h : RGl P n Γ F ops eats K j (⟨dd, .store T x y, ty, pos, af, gd⟩ :: os) Ds prev) : RGl P n Γ F ops eats K j (⟨dd, .store T x y, ty, pos, af, gd⟩ :: os) Ds prev := h
theorem gAl (h : RGl P n Γ F ops eats K j (⟨dd, .alloc T, ty, pos, af, gd⟩ :: os) Ds prev) : RGl P n Γ F ops eats K j (⟨dd, .alloc T, ty, pos, af, gd⟩ :: os) Ds prev := h
theorem gBx (h : RGl P n Γ F ops eats K j (⟨dd, .box T x, ty, pos, af, gd⟩ :: os) Ds prev) : RGl P n Γ F ops eats K j (⟨dd, .box T x, ty, pos, af, gd⟩ :: os) Ds prev := h
theorem gLit (h : RGl P n Γ F ops eats K j (⟨dd, .buildSlice T m ps, ty, pos, af, gd⟩ :: os) Ds prev) : RGl P n Γ F ops eats K j (⟨dd, .buildSlice T m ps, ty, pos, af, gd⟩ :: os) Ds prev := h
theorem gApp (h : RGl P n Γ F ops eats K j (⟨dd, .call ⟨.builtin .append, xs, ts⟩, ty, pos, af, gd⟩ :: os) Ds prev) : RGl P n Γ F ops eats K j (⟨dd, .call ⟨.builtin .append, xs, ts⟩, ty, pos, af, gd⟩ :: os) Ds prev := h
theorem gCp (h : RGl P n Γ F ops eats K j (⟨dd, .call ⟨.builtin .copy, xs, ts⟩, ty, pos, af, gd⟩ :: os) Ds prev) : RGl P n Γ F ops eats K j (⟨dd, .call ⟨.builtin .copy, xs, ts⟩, ty, pos, af, gd⟩ :: os) Ds prev := h
end
/-- A drawn region, its side conditions had by themselves. -/
theorem WPc.drA {P : Program} {n : Nat} {W : World} {S : Nat → Prop} {Γ : List Asn} {F : List (Nat × Value)} {Q : Exit → Act → World → Prop} {id : Nat} {l : List Oper} (Ds : List (List Nat × List Nat)) (eats : List (Nat × Nat)) {Γx Γr : List Asn} (h : RGl P n Γr F l.toArray eats (fun prev => ∀ e, oksA e prev → WPq n W S (ensA eats e prev ++ Γr) (bndA e prev ++ F) Q .normal) 0 l Ds (prev0 l.length Γx))
    (hx : Takes Γ Γx Γr := by exact takesA) (hox : ∀ A, A ∈ Γx → A.own = true := by ((repeat' (first | exact own_nil | refine own_cons (by first | exact bx_own | exact rowN_own | exact rfl) ?_ | fail)) <;> fail)) (hm : P.follows .mixedOrders = true := by kernel_rfl) (hok : regOk n Γx.length l Ds eats = true := by kernel_rfl) :
    WPc P n W S Γ F (.region id l.toArray true) Q := WPc.drawn Ds eats hx hox hm hok h
theorem OpT.callN {P : Program} {n : Nat} {Γ : List Asn} {F : List (Nat × Value)} {d : Option Tmp} {f : FuncId} {xs : List Operand} {ts : Array TypeId} {ty : TypeId} {pos : String} {af : Array Edge} {gd : Option (Nat × Bool)} {vs : List Value} {Δ : List Asn} {R : Value → List Asn → Prop}
    (h : Triple P f vs.toArray Δ R) (hx : evFs F xs vs := by (try dsimp only [bndR, ensR, oksR, fcutR, List.append_nil, List.nil_append, List.cons_append, List.append_assoc]); exact evsA) (hΔ : Provs Γ Δ := by (try dsimp only [bndR, ensR, oksR, fcutR, List.append_nil, List.nil_append, List.cons_append, List.append_assoc]); exact provsA) (hc : isCode P f = true := by kernel_rfl) : OpT P n Γ F ⟨d, .call { callee := .value (.func f), args := xs.toArray, argTypes := ts }, ty, pos, af, gd⟩ [] R := OpT.call h hx hΔ hc

end Go.Proofs.Ytjfhiifpnpokpaa
/- Separation: what numbers do, as the walk meets them, of all kinds. -/
namespace Go.Proofs.Ytjfhiifpnpokpaa
open Go.RowKit
set_option linter.unusedSimpArgs false
set_option linter.unusedVariables false

def kmin : IntKind → Int
  | .u8 | .u16 | .u32 | .u64 => 0
  | .i8 => -128 | .i16 => -32768 | .i32 => -2147483648 | .i64 => -9223372036854775808
def kmax : IntKind → Int
  | .u8 => 255 | .u16 => 65535 | .u32 => 4294967295 | .u64 => 18446744073709551615
  | .i8 => 127 | .i16 => 32767 | .i32 => 2147483647 | .i64 => 9223372036854775807
theorem wrapK {k : IntKind} {a : Int} (h1 : kmin k ≤ a) (h2 : a ≤ kmax k) : k.wrap a = a := by
  cases k <;> simp only [kmin, kmax] at h1 h2 <;> simp [IntKind.wrap, IntKind.bits, IntKind.signed] <;> omega

variable {P : Program} {T : TypeId} {k k2 : IntKind} {a b : Int}
theorem BinR.addK (h1 : kmin k ≤ a + b) (h2 : a + b ≤ kmax k) : BinR P .add T (.int k a) (.int k b) (.int k (a + b)) := BinR.addW.of (by rw [wrapK h1 h2])
theorem BinR.mulK (h1 : kmin k ≤ a * b) (h2 : a * b ≤ kmax k) : BinR P .mul T (.int k a) (.int k b) (.int k (a * b)) := BinR.mulW.of (by rw [wrapK h1 h2])
theorem BinR.quoK (h0 : 0 ≤ a) (hb : 0 < b) (h2 : a ≤ kmax k) : BinR P .quo T (.int k a) (.int k b) (.int k (a / b)) := fun X Y w => by
  have hne : b ≠ 0 := by omega
  have e : a.tdiv b = a / b := Int.tdiv_eq_ediv_of_nonneg h0
  have h3 : 0 ≤ a / b := Int.ediv_nonneg h0 (by omega)
  have h4 : a / b ≤ a := Int.ediv_le_self _ h0
  have h5 : kmin k ≤ 0 := by cases k <;> decide
  simp [eqGuard, binOp, Op.intDiv, hne, e, wrapK (k := k) (a := a / b) (by omega) (by omega)]
theorem BinR.remK (h0 : 0 ≤ a) (hb : 0 < b) : BinR P .rem T (.int k a) (.int k b) (.int k (a % b)) := fun X Y w => by
  have hne : b ≠ 0 := by omega
  have e : a.tmod b = a % b := Int.tmod_eq_emod_of_nonneg h0
  simp [eqGuard, binOp, Op.intDiv, hne, e]
/-- A shift by a number that is written. -/
theorem BinR.shlK {n : Nat} {s : Int} (hs : s = Int.ofNat n) (hn : Nat.ble n (kw k) = true) (h1 : kmin k ≤ a * 2 ^ n) (h2 : a * 2 ^ n ≤ kmax k) : BinR P .shl T (.int k a) (.int k2 s) (.int k (a * 2 ^ n)) := fun X Y w => by
  subst hs
  have h0 : ¬ ((n : Nat) : Int) < 0 := by omega
  have hm : min n k.bits = n := by rw [kw_bits]; exact Nat.min_eq_left (Nat.le_of_ble_eq_true hn)
  simp only [eqGuard, binOp, Op.shift, Int.ofNat_eq_natCast, h0, if_false, Int.toNat_natCast, hm]
  rw [wrapK h1 h2]
  simp
theorem BinR.shrK {n : Nat} {s : Int} (hs : s = Int.ofNat n) (hn : Nat.ble n (kw k) = true) : BinR P .shr T (.int k a) (.int k2 s) (.int k (a / 2 ^ n)) := fun X Y w => by
  subst hs
  have h0 : ¬ ((n : Nat) : Int) < 0 := by omega
  have hm : min n k.bits = n := by rw [kw_bits]; exact Nat.min_eq_left (Nat.le_of_ble_eq_true hn)
  simp only [eqGuard, binOp, Op.shift, Int.ofNat_eq_natCast, h0, if_false, Int.toNat_natCast, hm]
  rw [Int.fdiv_eq_ediv_of_nonneg _ (by exact Int.le_of_lt (Int.pow_pos (by decide)))]
  simp
theorem kmax_lt (hk : isU k = true) : kmax k < ((2 ^ kw k : Nat) : Int) := by cases k <;> simp [isU] at hk <;> simp [kmax, kw]
theorem BinR.andZ (hk : isU k = true) (ha : 0 ≤ a) (ha' : a ≤ kmax k) (hb : 0 ≤ b) (hb' : b ≤ kmax k) : BinR P .and T (.int k a) (.int k b) (.int k ((a.toNat &&& b.toNat : Nat) : Int)) := by
  have hl := kmax_lt hk
  have := BinR.andN (P := P) (T := T) (k := k) (a := a.toNat) (b := b.toNat) hk (by omega) (by omega)
  rwa [Int.toNat_of_nonneg ha, Int.toNat_of_nonneg hb] at this
/-- A number's lowest bits. -/
theorem BinR.andLow {n : Nat} {m : Int} (hk : isU k = true) (hm : b = m) (hn : m + 1 = ((2 ^ n : Nat) : Int)) (ha : 0 ≤ a) (ha' : a ≤ kmax k) (hb' : m ≤ kmax k) : BinR P .and T (.int k a) (.int k b) (.int k (a % (m + 1))) := by
  subst hm
  have hp : 0 < 2 ^ n := Nat.pow_pos (by decide)
  have hb : 0 ≤ b := by omega
  refine (BinR.andZ hk ha ha' hb hb').of ?_
  have e : b.toNat = 2 ^ n - 1 := by omega
  rw [e, Nat.and_two_pow_sub_one_eq_mod, hn, Int.natCast_emod, Int.toNat_of_nonneg ha]
section
variable {n : Nat} {Γ : List Asn} {F : List (Nat × Value)} {d : Option Tmp} {ty : TypeId} {pos : String} {af : Array Edge} {gd : Option (Nat × Bool)}
/-- All bits turned. -/
theorem ReadR.xorU {x : Operand} {T : TypeId} (hx : evF F x = some (.int k a)) (hk : isU k = true) (h0 : 0 ≤ a) (h1 : a ≤ kmax k) : ReadR P n Γ F ⟨d, .unOp .xor T x, ty, pos, af, gd⟩ (.int k (kmax k - a)) := fun ρ w hf hw => by
  have hl := kmax_lt hk
  obtain ⟨m, rfl⟩ := Int.eq_ofNat_of_zero_le h0
  have e : (BitVec.ofInt k.bits k.max ^^^ BitVec.ofInt k.bits (m : Int)).toNat = 2 ^ kw k - 1 - m := by
    have e1 : BitVec.ofInt k.bits k.max = BitVec.allOnes k.bits := by cases k <;> simp [isU] at hk <;> decide
    rw [e1, BitVec.allOnes_xor, BitVec.toNat_not, kw_bits, bv_nat (by omega)]
  have hs : k.signed = false := by cases k <;> simp [isU] at hk <;> rfl
  have hmx : kmax k = ((2 ^ kw k - 1 : Nat) : Int) := by cases k <;> simp [isU] at hk <;> decide
  have h5 : kmin k = 0 := by cases k <;> simp [isU] at hk <;> rfl
  have e2 : k.wrap (((2 ^ kw k - 1 - m : Nat) : Int)) = kmax k - (m : Int) := by
    rw [wrapK (by rw [h5]; omega) (by rw [hmx]; omega), hmx]; omega
  simp only [execOp, hf.eval hx, Op.unary, hs, Bool.false_eq_true, if_false, Op.intBits, e, e2]
  simp
theorem idxZ {x : Operand} {c : Int} (h : evF F x = some (.int k c)) (h0 : 0 ≤ c) : evF F x = some (.int k (Int.ofNat c.toNat)) := by
  rw [Int.ofNat_eq_natCast, Int.toNat_of_nonneg h0]; exact h
end

theorem boolV {p q : Prop} [Decidable p] [Decidable q] (h : p ↔ q) : Value.bool (decide p) = .bool (decide q) := by rw [decide_eq_decide.2 h]
theorem intV {k : IntKind} {a b : Int} (h : a = b) : Value.int k a = .int k b := by rw [h]
theorem binB {op : BinOp} {a b v : Value} (h : BinR P op T a b v := by first | exact binA | (apply BinR.addK; (simp only [kmin]; omega); (simp only [kmax]; omega)) | (apply BinR.subK; (simp only [kmin]; omega); (simp only [kmax]; omega)) | (apply BinR.mulK; (simp only [kmin]; omega); (simp only [kmax]; omega)) | (apply BinR.quoK; omega; omega; (simp only [kmax]; omega)) | (apply BinR.remK; omega; omega) | (apply BinR.shrK; exact rfl; exact rfl) | (apply BinR.shlK; exact rfl; exact rfl; (simp only [kmin]; omega); (simp only [kmax]; omega)) | (apply BinR.orAdd; exact rfl; omega; (simp only [kmax]; omega); omega; omega) | (apply BinR.andLow (n := 4); exact rfl; exact rfl; exact rfl; omega; (simp only [kmax]; omega); (simp only [kmax]; omega)) | (apply BinR.andLow (n := 16); exact rfl; exact rfl; exact rfl; omega; (simp only [kmax]; omega); (simp only [kmax]; omega)) | fail) : BinR P op T a b v := h

section
variable {n : Nat} {W : World} {S : Nat → Prop} {Γ : List Asn} {F : List (Nat × Value)} {Q : Exit → Act → World → Prop}
variable {ops : Array Oper} {os : List Oper} {o : Oper} {d : Tmp}
theorem readB {v : Value} (h : ReadR P n Γ F o v := by first | (apply ReadR.bin; exact rfl; exact rfl; exact binB) | (apply ReadR.xorU; exact rfl; exact rfl; omega; (simp only [kmax]; omega)) | (apply ReadR.conv; exact rfl; exact convB) | (apply ReadR.indexE1; exact rfl; (apply idxZ; exact rfl; omega); exact hasA; omega) | (apply ReadR.indexR; exact rfl; (apply idxZ; exact rfl; omega); omega) | (apply ReadR.sliceLH; exact rfl; (first | exact idxA | (apply idxZ; exact rfl; omega)); (first | exact idxA | (apply idxZ; exact rfl; omega)); exact hasA; omega; omega) | (apply ReadR.sliceL; exact rfl; (apply idxZ; exact rfl; omega); exact hasA; omega) | (apply ReadR.sliceH; exact rfl; (apply idxZ; exact rfl; omega); exact hasA; omega) | (apply ReadR.arrL; exact rfl; (apply idxZ; exact rfl; omega); omega) | fail) : ReadR P n Γ F o v := h
/-- A read of the second kind. -/
theorem WPl.rdB {v : Value} (k : WPl P n W S Γ ((d, v) :: F) ops os Q) (hd : o.dst = some d := by first | rfl | fail) (hlt : Nat.blt d n = true := by first | rfl | fail) (hw : wantG F ops o.guard = some true := by first | rfl | fail) (h : ReadR P n Γ F o v := by first | exact readB | fail) :
    WPl P n W S Γ F ops (o :: os) Q := WPl.read hd hlt hw h k

/-- Such a call that gives a value, and turns one block. -/
def RTurn (c : Value) (A : Asn) : Value → List Asn → Prop := fun v Γ => v = c ∧ Γ = [A]
theorem fpRd {Γf : List Asn} {v : Value} {m : Nat} {xs : List Value} (h : rdN v m xs ∈ Γf) : ∀ A, A ∈ [rdN v m xs] → ∀ g, A.fp g → ∃ B, B ∈ Γf ∧ B.fp g := fun A hA g hg => ⟨_, h, by rw [← List.mem_singleton.1 hA]; exact hg⟩
theorem fpNil {Γf : List Asn} : ∀ A, A ∈ ([] : List Asn) → ∀ g, A.fp g → ∃ B, B ∈ Γf ∧ B.fp g := fun _ h => by cases h
theorem fpA {Γf Δ : List Asn} (h : ∀ A, A ∈ Δ → ∀ g, A.fp g → ∃ B, B ∈ Γf ∧ B.fp g := by first | exact fpNil | exact fpRd memA | exact fpOb memA | fail) : ∀ A, A ∈ Δ → ∀ g, A.fp g → ∃ B, B ∈ Γf ∧ B.fp g := h
theorem WPl.cT {d : Option Tmp} {f : FuncId} {xs : List Operand} {ts : Array TypeId} {ty : TypeId} {pos : String} {af : Array Edge} {gd : Option (Nat × Bool)} {vs : List Value} {Δ Γf : List Asn} {A B : Asn} {c : Value}
    (h : Triple P f vs.toArray (Δ ++ [A]) (RTurn c B)) (k : WPl P n W S (B :: Γf) (putF F d c) ops os Q) (hx : evFs F xs vs := by first | exact evsA | fail) (hp : Takes Γ [A] Γf := by first | exact takesA | fail) (hfp : ∀ A, A ∈ Δ → ∀ g, A.fp g → ∃ B, B ∈ Γf ∧ B.fp g := by first | exact fpA | fail) (hΔ : Provs Γf Δ := by first | exact provsA | fail) (hc : isCode P f = true := by first | kernel_rfl | fail) (hd : dstOk n d = true := by first | rfl | fail) (hw : wantG F ops gd = some true := by first | rfl | fail) :
    WPl P n W S Γ F ops (⟨d, .call { callee := .value (.func f), args := xs.toArray, argTypes := ts }, ty, pos, af, gd⟩ :: os) Q :=
  WPl.callO h hx hp hΔ hfp hc hd hw (by rintro v Γ' ⟨rfl, rfl⟩; exact k)
theorem WPq.dT {fn : Func} {rs : List ResultVar} {vs : List Value} {c : Value} {A : Asn} {Γx : List Asn} {e : Exit} (he : e = .ret ∨ e = .normal := by first | exact .inl rfl | exact .inr rfl | fail) (hr : fn.results = rs.toArray := by first | rfl | fail) (h : ResF P Γ F rs vs := by first | exact resA | fail) (hp : Takes Γ [A] Γx := by first | exact takesA | fail) (hc : resV vs = c := by first | rfl | fail) (ho : A.own = true := by first | exact bx_own | exact rowN_own | rfl | fail) :
    WPq n W S Γ F (Done P fn W S (RTurn c A)) e := WPq.done he hr h hp (fun B hB => by rw [List.mem_singleton.1 hB]; exact ho) ⟨hc, rfl⟩
end
end Go.Proofs.Ytjfhiifpnpokpaa
/- Plain facts: masks of bytes, sums of words. -/
namespace Go.Proofs.Ytjfhiifpnpokpaa
set_option linter.unusedVariables false
set_option linter.unusedSimpArgs false

/-! ### Masks -/

/-- A byte's first k bits. -/
def mskb (k : Nat) (c : UInt8) : UInt8 := UInt8.ofNat (c.toNat / 2 ^ (8 - k) * 2 ^ (8 - k))
/-- How many bits of the byte at a place count. -/
def nbit (n i : Nat) : Nat := min (n - 8 * i) 8
def maskB (l : List UInt8) (n : Nat) : List UInt8 := l.mapIdx fun i c => mskb (nbit n i) c
@[simp] theorem maskB_length (l : List UInt8) (n : Nat) : (maskB l n).length = l.length := by simp [maskB]
/-- Bytes of which the first i are masked. -/
def maskTo (l : List UInt8) (n i : Nat) : List UInt8 := maskB (l.take i) n ++ l.drop i
/-! ### Sums -/

/-- The words of bytes, added; whether the next byte is a high one. -/
def wsum : Bool → List UInt8 → Nat
  | _, [] => 0
  | true, b :: l => 256 * b.toNat + wsum false l
  | false, b :: l => b.toNat + wsum true l
def par : Bool → List UInt8 → Bool
  | b, [] => b
  | b, _ :: l => par (!b) l
theorem par_append (b : Bool) (l m : List UInt8) : par b (l ++ m) = par (par b l) m := by
  induction l generalizing b with
  | nil => rfl
  | cons x l ih => exact ih (!b)
theorem wsum_append (b : Bool) (l m : List UInt8) : wsum b (l ++ m) = wsum b l + wsum (par b l) m := by
  induction l generalizing b with
  | nil => cases b <;> simp [wsum, par]
  | cons x l ih => cases b <;> simp [wsum, par, ih, Nat.add_assoc]
theorem wsum_le (b : Bool) (l : List UInt8) : wsum b l ≤ 65280 * l.length := by
  induction l generalizing b with
  | nil => cases b <;> simp [wsum]
  | cons x l ih =>
    have := x.toNat_lt
    have h1 := ih true
    have h2 := ih false
    cases b <;> simp only [wsum, List.length_cons] <;> omega
theorem par_even : ∀ (b : Bool) (l : List UInt8), par b l = if l.length % 2 = 0 then b else !b
  | b, [] => by simp [par]
  | b, x :: l => by
    rw [par, par_even (!b) l, List.length_cons]
    by_cases h : l.length % 2 = 0
    · rw [if_pos h, if_neg (by omega)]
    · rw [if_neg h, if_pos (by omega), Bool.not_not]
/-- A sum, what is above 16 bits added below. -/
def fold (n : Nat) : Nat := if n = 0 then 0 else (n - 1) % 65535 + 1
theorem fold_le (n : Nat) : fold n ≤ 65535 := by unfold fold; split <;> omega
theorem fold_low {n : Nat} (h : n ≤ 65535) : fold n = n := by unfold fold; split <;> omega
theorem fold_step {n : Nat} : fold (n % 65536 + n / 65536) = fold n := by unfold fold; split <;> split <;> omega
theorem fold_mod (n : Nat) : fold n % 65535 = n % 65535 := by unfold fold; split <;> omega
theorem fold_full {n : Nat} : fold n = 65535 ↔ n % 65535 = 0 ∧ n ≠ 0 := by unfold fold; split <;> omega
def csum (l : List UInt8) : Nat := 65535 - fold (wsum true l)
theorem csum_le (l : List UInt8) : csum l ≤ 65535 := by unfold csum; omega
theorem csum_zero {l : List UInt8} : csum l = 0 ↔ wsum true l % 65535 = 0 ∧ wsum true l ≠ 0 := by
  unfold csum
  have := fold_le (wsum true l)
  rw [← fold_full]; omega
/-- How great a number may be behind so many rounds. -/
def fbnd : Nat → Nat
  | 0 => 18446744073709551615
  | 1 => 281474976776192
  | 2 => 8589934592
  | 3 => 262144
  | 4 => 65539
  | _ => 65535
theorem fbnd_step {n : Nat} : ∀ {i : Nat}, n ≤ fbnd i → 65536 ≤ n → n % 65536 + n / 65536 ≤ fbnd (i + 1)
  | 0, h, _ => by simp only [fbnd] at *; omega
  | 1, h, _ => by simp only [fbnd] at *; omega
  | 2, h, _ => by simp only [fbnd] at *; omega
  | 3, h, _ => by simp only [fbnd] at *; omega
  | 4, h, _ => by simp only [fbnd] at *; omega
  | i + 5, h, h' => by simp only [fbnd] at *; omega
theorem fbnd_end {n i : Nat} (h : n ≤ fbnd i) (hi : 5 ≤ i) : n ≤ 65535 := by
  obtain ⟨j, rfl⟩ : ∃ j, i = j + 5 := ⟨i - 5, by omega⟩
  exact h
theorem fbnd_le (i : Nat) : fbnd i ≤ 18446744073709551615 := by
  unfold fbnd; split <;> omega

end Go.Proofs.Ytjfhiifpnpokpaa
/- The types of this program, as instances: sizes, fields, zero values. Written by a program. -/
namespace Go.Proofs.Ytjfhiifpnpokpaa
open Go.RowKit
set_option linter.unusedSimpArgs false
set_option linter.unusedVariables false
set_option maxRecDepth 100000

instance : TyI Try.prog 2 false 1 := ⟨by kernel_rfl, by kernel_rfl⟩
instance : IntI Try.prog 2 .i64 := ⟨by kernel_rfl⟩
instance : ZeroI Try.prog 2 [(1, [.int .i64 0])] := ⟨by kernel_rfl, FOk.one1 rfl (FOk.nil)⟩
instance : TyI Try.prog 3 false 1 := ⟨by kernel_rfl, by kernel_rfl⟩
instance : IntI Try.prog 3 .i64 := ⟨by kernel_rfl⟩
instance : ZeroI Try.prog 3 [(1, [.int .i64 0])] := ⟨by kernel_rfl, FOk.one1 rfl (FOk.nil)⟩
instance : TyI Try.prog 4 false 1 := ⟨by kernel_rfl, by kernel_rfl⟩
instance : ZeroI Try.prog 4 [(1, [.bool false])] := ⟨by kernel_rfl, FOk.one1 rfl (FOk.nil)⟩
instance : TyI Try.prog 5 false 1 := ⟨by kernel_rfl, by kernel_rfl⟩
instance : IntI Try.prog 5 .u8 := ⟨by kernel_rfl⟩
instance : ZeroI Try.prog 5 [(1, [.int .u8 0])] := ⟨by kernel_rfl, FOk.one1 rfl (FOk.nil)⟩
instance : EltI Try.prog 5 (.int .u8 0) 1 := ⟨by kernel_rfl, rfl⟩
instance : TyI Try.prog 9 false 1 := ⟨by kernel_rfl, by kernel_rfl⟩
instance : ZeroI Try.prog 9 [(1, [.string (ByteArray.mk #[])])] := ⟨by kernel_rfl, FOk.one1 rfl (FOk.nil)⟩
instance : TyI Try.prog 12 false 1 := ⟨by kernel_rfl, by kernel_rfl⟩
instance : IntI Try.prog 12 .u64 := ⟨by kernel_rfl⟩
instance : ZeroI Try.prog 12 [(1, [.int .u64 0])] := ⟨by kernel_rfl, FOk.one1 rfl (FOk.nil)⟩
instance : TyI Try.prog 15 false 1 := ⟨by kernel_rfl, by kernel_rfl⟩
instance : ZeroI Try.prog 15 [(1, [.pointer none])] := ⟨by kernel_rfl, FOk.one1 rfl (FOk.nil)⟩
instance : TyI Try.prog 16 false 1 := ⟨by kernel_rfl, by kernel_rfl⟩
instance : ZeroI Try.prog 16 [(1, [.pointer none])] := ⟨by kernel_rfl, FOk.one1 rfl (FOk.nil)⟩
instance : TyI Try.prog 17 false 1 := ⟨by kernel_rfl, by kernel_rfl⟩
instance : ZeroI Try.prog 17 [(1, [.pointer none])] := ⟨by kernel_rfl, FOk.one1 rfl (FOk.nil)⟩
instance : TyI Try.prog 21 false 1 := ⟨by kernel_rfl, by kernel_rfl⟩
instance : IntI Try.prog 21 .i32 := ⟨by kernel_rfl⟩
instance : ZeroI Try.prog 21 [(1, [.int .i32 0])] := ⟨by kernel_rfl, FOk.one1 rfl (FOk.nil)⟩
instance : TyI Try.prog 22 false 1 := ⟨by kernel_rfl, by kernel_rfl⟩
instance : SliI Try.prog 22 5 := ⟨by kernel_rfl⟩
instance : ZeroI Try.prog 22 [(1, [.slice none 0 0])] := ⟨by kernel_rfl, FOk.one1 rfl (FOk.nil)⟩
instance : EltI Try.prog 22 (.slice none 0 0) 24 := ⟨by kernel_rfl, rfl⟩
instance : TyI Try.prog 23 true 16 := ⟨by kernel_rfl, by kernel_rfl⟩
instance : ArrI Try.prog 23 16 5 := ⟨by kernel_rfl⟩
instance : EqI Try.prog 23 [some .u8, some .u8, some .u8, some .u8, some .u8, some .u8, some .u8, some .u8, some .u8, some .u8, some .u8, some .u8, some .u8, some .u8, some .u8, some .u8] := ⟨⟨aggTy, by kernel_rfl, by kernel_rfl, by kernel_rfl⟩⟩
instance : ZeroI Try.prog 23 [(16, u8s (List.replicate 16 0))] := ⟨by kernel_rfl, FOk.bytes (by simp) (FOk.nil)⟩
instance : TyI Try.prog 24 true 17 := ⟨by kernel_rfl, by kernel_rfl⟩
instance : FldI Try.prog 24 0 0 := ⟨by kernel_rfl⟩
instance : FldI Try.prog 24 1 1 := ⟨by kernel_rfl⟩
instance : StrI Try.prog 24 [(0, 1), (1, 16)] := ⟨by kernel_rfl⟩
instance : EqI Try.prog 24 [none, some .u8, some .u8, some .u8, some .u8, some .u8, some .u8, some .u8, some .u8, some .u8, some .u8, some .u8, some .u8, some .u8, some .u8, some .u8, some .u8] := ⟨⟨aggTy, by kernel_rfl, by kernel_rfl, by kernel_rfl⟩⟩
instance : ZeroI Try.prog 24 [(1, [.bool false]), (16, u8s (List.replicate 16 0))] := ⟨by kernel_rfl, FOk.one1 rfl (FOk.bytes (by simp) (FOk.nil))⟩
instance : TyI Try.prog 25 true 17 := ⟨by kernel_rfl, by kernel_rfl⟩
instance : FldI Try.prog 25 0 0 := ⟨by kernel_rfl⟩
instance : FldI Try.prog 25 1 1 := ⟨by kernel_rfl⟩
instance : StrI Try.prog 25 [(0, 1), (1, 16)] := ⟨by kernel_rfl⟩
instance : EqI Try.prog 25 [none, some .u8, some .u8, some .u8, some .u8, some .u8, some .u8, some .u8, some .u8, some .u8, some .u8, some .u8, some .u8, some .u8, some .u8, some .u8, some .u8] := ⟨⟨aggTy, by kernel_rfl, by kernel_rfl, by kernel_rfl⟩⟩
instance : ZeroI Try.prog 25 [(1, [.bool false]), (16, u8s (List.replicate 16 0))] := ⟨by kernel_rfl, FOk.one1 rfl (FOk.bytes (by simp) (FOk.nil))⟩
instance : TyI Try.prog 26 false 1 := ⟨by kernel_rfl, by kernel_rfl⟩
instance : IntI Try.prog 26 .u16 := ⟨by kernel_rfl⟩
instance : ZeroI Try.prog 26 [(1, [.int .u16 0])] := ⟨by kernel_rfl, FOk.one1 rfl (FOk.nil)⟩
instance : TyI Try.prog 28 false 1 := ⟨by kernel_rfl, by kernel_rfl⟩
instance : IntI Try.prog 28 .i64 := ⟨by kernel_rfl⟩
instance : ZeroI Try.prog 28 [(1, [.int .i64 0])] := ⟨by kernel_rfl, FOk.one1 rfl (FOk.nil)⟩
instance : TyI Try.prog 32 true 39 := ⟨by kernel_rfl, by kernel_rfl⟩
instance : FldI Try.prog 32 0 0 := ⟨by kernel_rfl⟩
instance : FldI Try.prog 32 1 1 := ⟨by kernel_rfl⟩
instance : FldI Try.prog 32 2 2 := ⟨by kernel_rfl⟩
instance : FldI Try.prog 32 3 3 := ⟨by kernel_rfl⟩
instance : FldI Try.prog 32 4 20 := ⟨by kernel_rfl⟩
instance : FldI Try.prog 32 5 37 := ⟨by kernel_rfl⟩
instance : FldI Try.prog 32 6 38 := ⟨by kernel_rfl⟩
instance : StrI Try.prog 32 [(0, 1), (1, 1), (2, 1), (3, 17), (20, 17), (37, 1), (38, 1)] := ⟨by kernel_rfl⟩
instance : EqI Try.prog 32 [none, some .u8, some .i64, none, some .u8, some .u8, some .u8, some .u8, some .u8, some .u8, some .u8, some .u8, some .u8, some .u8, some .u8, some .u8, some .u8, some .u8, some .u8, some .u8, none, some .u8, some .u8, some .u8, some .u8, some .u8, some .u8, some .u8, some .u8, some .u8, some .u8, some .u8, some .u8, some .u8, some .u8, some .u8, some .u8, none, some .u8] := ⟨⟨aggTy, by kernel_rfl, by kernel_rfl, by kernel_rfl⟩⟩
instance : ZeroI Try.prog 32 [(1, [.bool false]), (1, [.int .u8 0]), (1, [.int .i64 0]), (1, [.bool false]), (16, u8s (List.replicate 16 0)), (1, [.bool false]), (16, u8s (List.replicate 16 0)), (1, [.bool false]), (1, [.int .u8 0])] := ⟨by kernel_rfl, FOk.one1 rfl (FOk.one1 rfl (FOk.one1 rfl (FOk.one1 rfl (FOk.bytes (by simp) (FOk.one1 rfl (FOk.bytes (by simp) (FOk.one1 rfl (FOk.one1 rfl (FOk.nil)))))))))⟩
instance : TyI Try.prog 33 true 39 := ⟨by kernel_rfl, by kernel_rfl⟩
instance : FldI Try.prog 33 0 0 := ⟨by kernel_rfl⟩
instance : FldI Try.prog 33 1 1 := ⟨by kernel_rfl⟩
instance : FldI Try.prog 33 2 2 := ⟨by kernel_rfl⟩
instance : FldI Try.prog 33 3 3 := ⟨by kernel_rfl⟩
instance : FldI Try.prog 33 4 20 := ⟨by kernel_rfl⟩
instance : FldI Try.prog 33 5 37 := ⟨by kernel_rfl⟩
instance : FldI Try.prog 33 6 38 := ⟨by kernel_rfl⟩
instance : StrI Try.prog 33 [(0, 1), (1, 1), (2, 1), (3, 17), (20, 17), (37, 1), (38, 1)] := ⟨by kernel_rfl⟩
instance : EqI Try.prog 33 [none, some .u8, some .i64, none, some .u8, some .u8, some .u8, some .u8, some .u8, some .u8, some .u8, some .u8, some .u8, some .u8, some .u8, some .u8, some .u8, some .u8, some .u8, some .u8, none, some .u8, some .u8, some .u8, some .u8, some .u8, some .u8, some .u8, some .u8, some .u8, some .u8, some .u8, some .u8, some .u8, some .u8, some .u8, some .u8, none, some .u8] := ⟨⟨aggTy, by kernel_rfl, by kernel_rfl, by kernel_rfl⟩⟩
instance : ZeroI Try.prog 33 [(1, [.bool false]), (1, [.int .u8 0]), (1, [.int .i64 0]), (1, [.bool false]), (16, u8s (List.replicate 16 0)), (1, [.bool false]), (16, u8s (List.replicate 16 0)), (1, [.bool false]), (1, [.int .u8 0])] := ⟨by kernel_rfl, FOk.one1 rfl (FOk.one1 rfl (FOk.one1 rfl (FOk.one1 rfl (FOk.bytes (by simp) (FOk.one1 rfl (FOk.bytes (by simp) (FOk.one1 rfl (FOk.one1 rfl (FOk.nil)))))))))⟩
instance : TyI Try.prog 34 true 6 := ⟨by kernel_rfl, by kernel_rfl⟩
instance : FldI Try.prog 34 0 0 := ⟨by kernel_rfl⟩
instance : FldI Try.prog 34 1 1 := ⟨by kernel_rfl⟩
instance : FldI Try.prog 34 2 2 := ⟨by kernel_rfl⟩
instance : FldI Try.prog 34 3 3 := ⟨by kernel_rfl⟩
instance : FldI Try.prog 34 4 4 := ⟨by kernel_rfl⟩
instance : FldI Try.prog 34 5 5 := ⟨by kernel_rfl⟩
instance : StrI Try.prog 34 [(0, 1), (1, 1), (2, 1), (3, 1), (4, 1), (5, 1)] := ⟨by kernel_rfl⟩
instance : EqI Try.prog 34 [some .u16, some .u16, some .u8, some .i64, none, some .i64] := ⟨⟨aggTy, by kernel_rfl, by kernel_rfl, by kernel_rfl⟩⟩
instance : ZeroI Try.prog 34 [(1, [.int .u16 0]), (1, [.int .u16 0]), (1, [.int .u8 0]), (1, [.int .i64 0]), (1, [.bool false]), (1, [.int .i64 0])] := ⟨by kernel_rfl, FOk.one1 rfl (FOk.one1 rfl (FOk.one1 rfl (FOk.one1 rfl (FOk.one1 rfl (FOk.one1 rfl (FOk.nil))))))⟩
instance : TyI Try.prog 35 true 6 := ⟨by kernel_rfl, by kernel_rfl⟩
instance : FldI Try.prog 35 0 0 := ⟨by kernel_rfl⟩
instance : FldI Try.prog 35 1 1 := ⟨by kernel_rfl⟩
instance : FldI Try.prog 35 2 2 := ⟨by kernel_rfl⟩
instance : FldI Try.prog 35 3 3 := ⟨by kernel_rfl⟩
instance : FldI Try.prog 35 4 4 := ⟨by kernel_rfl⟩
instance : FldI Try.prog 35 5 5 := ⟨by kernel_rfl⟩
instance : StrI Try.prog 35 [(0, 1), (1, 1), (2, 1), (3, 1), (4, 1), (5, 1)] := ⟨by kernel_rfl⟩
instance : EqI Try.prog 35 [some .u16, some .u16, some .u8, some .i64, none, some .i64] := ⟨⟨aggTy, by kernel_rfl, by kernel_rfl, by kernel_rfl⟩⟩
instance : ZeroI Try.prog 35 [(1, [.int .u16 0]), (1, [.int .u16 0]), (1, [.int .u8 0]), (1, [.int .i64 0]), (1, [.bool false]), (1, [.int .i64 0])] := ⟨by kernel_rfl, FOk.one1 rfl (FOk.one1 rfl (FOk.one1 rfl (FOk.one1 rfl (FOk.one1 rfl (FOk.one1 rfl (FOk.nil))))))⟩
instance : TyI Try.prog 36 true 37 := ⟨by kernel_rfl, by kernel_rfl⟩
instance : FldI Try.prog 36 0 0 := ⟨by kernel_rfl⟩
instance : FldI Try.prog 36 1 17 := ⟨by kernel_rfl⟩
instance : FldI Try.prog 36 2 34 := ⟨by kernel_rfl⟩
instance : FldI Try.prog 36 3 35 := ⟨by kernel_rfl⟩
instance : FldI Try.prog 36 4 36 := ⟨by kernel_rfl⟩
instance : StrI Try.prog 36 [(0, 17), (17, 17), (34, 1), (35, 1), (36, 1)] := ⟨by kernel_rfl⟩
instance : EqI Try.prog 36 [none, some .u8, some .u8, some .u8, some .u8, some .u8, some .u8, some .u8, some .u8, some .u8, some .u8, some .u8, some .u8, some .u8, some .u8, some .u8, some .u8, none, some .u8, some .u8, some .u8, some .u8, some .u8, some .u8, some .u8, some .u8, some .u8, some .u8, some .u8, some .u8, some .u8, some .u8, some .u8, some .u8, some .u16, some .u16, some .u8] := ⟨⟨aggTy, by kernel_rfl, by kernel_rfl, by kernel_rfl⟩⟩
instance : ZeroI Try.prog 36 [(1, [.bool false]), (16, u8s (List.replicate 16 0)), (1, [.bool false]), (16, u8s (List.replicate 16 0)), (1, [.int .u16 0]), (1, [.int .u16 0]), (1, [.int .u8 0])] := ⟨by kernel_rfl, FOk.one1 rfl (FOk.bytes (by simp) (FOk.one1 rfl (FOk.bytes (by simp) (FOk.one1 rfl (FOk.one1 rfl (FOk.one1 rfl (FOk.nil)))))))⟩
instance : TyI Try.prog 37 true 37 := ⟨by kernel_rfl, by kernel_rfl⟩
instance : FldI Try.prog 37 0 0 := ⟨by kernel_rfl⟩
instance : FldI Try.prog 37 1 17 := ⟨by kernel_rfl⟩
instance : FldI Try.prog 37 2 34 := ⟨by kernel_rfl⟩
instance : FldI Try.prog 37 3 35 := ⟨by kernel_rfl⟩
instance : FldI Try.prog 37 4 36 := ⟨by kernel_rfl⟩
instance : StrI Try.prog 37 [(0, 17), (17, 17), (34, 1), (35, 1), (36, 1)] := ⟨by kernel_rfl⟩
instance : EqI Try.prog 37 [none, some .u8, some .u8, some .u8, some .u8, some .u8, some .u8, some .u8, some .u8, some .u8, some .u8, some .u8, some .u8, some .u8, some .u8, some .u8, some .u8, none, some .u8, some .u8, some .u8, some .u8, some .u8, some .u8, some .u8, some .u8, some .u8, some .u8, some .u8, some .u8, some .u8, some .u8, some .u8, some .u8, some .u16, some .u16, some .u8] := ⟨⟨aggTy, by kernel_rfl, by kernel_rfl, by kernel_rfl⟩⟩
instance : ZeroI Try.prog 37 [(1, [.bool false]), (16, u8s (List.replicate 16 0)), (1, [.bool false]), (16, u8s (List.replicate 16 0)), (1, [.int .u16 0]), (1, [.int .u16 0]), (1, [.int .u8 0])] := ⟨by kernel_rfl, FOk.one1 rfl (FOk.bytes (by simp) (FOk.one1 rfl (FOk.bytes (by simp) (FOk.one1 rfl (FOk.one1 rfl (FOk.one1 rfl (FOk.nil)))))))⟩
instance : TyI Try.prog 38 true 82 := ⟨by kernel_rfl, by kernel_rfl⟩
instance : FldI Try.prog 38 0 0 := ⟨by kernel_rfl⟩
instance : FldI Try.prog 38 1 39 := ⟨by kernel_rfl⟩
instance : FldI Try.prog 38 2 45 := ⟨by kernel_rfl⟩
instance : StrI Try.prog 38 [(0, 39), (39, 6), (45, 37)] := ⟨by kernel_rfl⟩
instance : EqI Try.prog 38 [none, some .u8, some .i64, none, some .u8, some .u8, some .u8, some .u8, some .u8, some .u8, some .u8, some .u8, some .u8, some .u8, some .u8, some .u8, some .u8, some .u8, some .u8, some .u8, none, some .u8, some .u8, some .u8, some .u8, some .u8, some .u8, some .u8, some .u8, some .u8, some .u8, some .u8, some .u8, some .u8, some .u8, some .u8, some .u8, none, some .u8, some .u16, some .u16, some .u8, some .i64, none, some .i64, none, some .u8, some .u8, some .u8, some .u8, some .u8, some .u8, some .u8, some .u8, some .u8, some .u8, some .u8, some .u8, some .u8, some .u8, some .u8, some .u8, none, some .u8, some .u8, some .u8, some .u8, some .u8, some .u8, some .u8, some .u8, some .u8, some .u8, some .u8, some .u8, some .u8, some .u8, some .u8, some .u8, some .u16, some .u16, some .u8] := ⟨⟨aggTy, by kernel_rfl, by kernel_rfl, by kernel_rfl⟩⟩
instance : ZeroI Try.prog 38 [(1, [.bool false]), (1, [.int .u8 0]), (1, [.int .i64 0]), (1, [.bool false]), (16, u8s (List.replicate 16 0)), (1, [.bool false]), (16, u8s (List.replicate 16 0)), (1, [.bool false]), (1, [.int .u8 0]), (1, [.int .u16 0]), (1, [.int .u16 0]), (1, [.int .u8 0]), (1, [.int .i64 0]), (1, [.bool false]), (1, [.int .i64 0]), (1, [.bool false]), (16, u8s (List.replicate 16 0)), (1, [.bool false]), (16, u8s (List.replicate 16 0)), (1, [.int .u16 0]), (1, [.int .u16 0]), (1, [.int .u8 0])] := ⟨by kernel_rfl, FOk.one1 rfl (FOk.one1 rfl (FOk.one1 rfl (FOk.one1 rfl (FOk.bytes (by simp) (FOk.one1 rfl (FOk.bytes (by simp) (FOk.one1 rfl (FOk.one1 rfl (FOk.one1 rfl (FOk.one1 rfl (FOk.one1 rfl (FOk.one1 rfl (FOk.one1 rfl (FOk.one1 rfl (FOk.one1 rfl (FOk.bytes (by simp) (FOk.one1 rfl (FOk.bytes (by simp) (FOk.one1 rfl (FOk.one1 rfl (FOk.one1 rfl (FOk.nil))))))))))))))))))))))⟩
instance : TyI Try.prog 39 true 82 := ⟨by kernel_rfl, by kernel_rfl⟩
instance : FldI Try.prog 39 0 0 := ⟨by kernel_rfl⟩
instance : FldI Try.prog 39 1 39 := ⟨by kernel_rfl⟩
instance : FldI Try.prog 39 2 45 := ⟨by kernel_rfl⟩
instance : StrI Try.prog 39 [(0, 39), (39, 6), (45, 37)] := ⟨by kernel_rfl⟩
instance : EqI Try.prog 39 [none, some .u8, some .i64, none, some .u8, some .u8, some .u8, some .u8, some .u8, some .u8, some .u8, some .u8, some .u8, some .u8, some .u8, some .u8, some .u8, some .u8, some .u8, some .u8, none, some .u8, some .u8, some .u8, some .u8, some .u8, some .u8, some .u8, some .u8, some .u8, some .u8, some .u8, some .u8, some .u8, some .u8, some .u8, some .u8, none, some .u8, some .u16, some .u16, some .u8, some .i64, none, some .i64, none, some .u8, some .u8, some .u8, some .u8, some .u8, some .u8, some .u8, some .u8, some .u8, some .u8, some .u8, some .u8, some .u8, some .u8, some .u8, some .u8, none, some .u8, some .u8, some .u8, some .u8, some .u8, some .u8, some .u8, some .u8, some .u8, some .u8, some .u8, some .u8, some .u8, some .u8, some .u8, some .u8, some .u16, some .u16, some .u8] := ⟨⟨aggTy, by kernel_rfl, by kernel_rfl, by kernel_rfl⟩⟩
instance : ZeroI Try.prog 39 [(1, [.bool false]), (1, [.int .u8 0]), (1, [.int .i64 0]), (1, [.bool false]), (16, u8s (List.replicate 16 0)), (1, [.bool false]), (16, u8s (List.replicate 16 0)), (1, [.bool false]), (1, [.int .u8 0]), (1, [.int .u16 0]), (1, [.int .u16 0]), (1, [.int .u8 0]), (1, [.int .i64 0]), (1, [.bool false]), (1, [.int .i64 0]), (1, [.bool false]), (16, u8s (List.replicate 16 0)), (1, [.bool false]), (16, u8s (List.replicate 16 0)), (1, [.int .u16 0]), (1, [.int .u16 0]), (1, [.int .u8 0])] := ⟨by kernel_rfl, FOk.one1 rfl (FOk.one1 rfl (FOk.one1 rfl (FOk.one1 rfl (FOk.bytes (by simp) (FOk.one1 rfl (FOk.bytes (by simp) (FOk.one1 rfl (FOk.one1 rfl (FOk.one1 rfl (FOk.one1 rfl (FOk.one1 rfl (FOk.one1 rfl (FOk.one1 rfl (FOk.one1 rfl (FOk.one1 rfl (FOk.bytes (by simp) (FOk.one1 rfl (FOk.bytes (by simp) (FOk.one1 rfl (FOk.one1 rfl (FOk.one1 rfl (FOk.nil))))))))))))))))))))))⟩
instance : TyI Try.prog 57 false 1 := ⟨by kernel_rfl, by kernel_rfl⟩
instance : ZeroI Try.prog 57 [(1, [.pointer none])] := ⟨by kernel_rfl, FOk.one1 rfl (FOk.nil)⟩
instance : TyI Try.prog 59 true 83 := ⟨by kernel_rfl, by kernel_rfl⟩
instance : FldI Try.prog 59 0 0 := ⟨by kernel_rfl⟩
instance : FldI Try.prog 59 1 82 := ⟨by kernel_rfl⟩
instance : StrI Try.prog 59 [(0, 82), (82, 1)] := ⟨by kernel_rfl⟩
instance : ZeroI Try.prog 59 [(1, [.bool false]), (1, [.int .u8 0]), (1, [.int .i64 0]), (1, [.bool false]), (16, u8s (List.replicate 16 0)), (1, [.bool false]), (16, u8s (List.replicate 16 0)), (1, [.bool false]), (1, [.int .u8 0]), (1, [.int .u16 0]), (1, [.int .u16 0]), (1, [.int .u8 0]), (1, [.int .i64 0]), (1, [.bool false]), (1, [.int .i64 0]), (1, [.bool false]), (16, u8s (List.replicate 16 0)), (1, [.bool false]), (16, u8s (List.replicate 16 0)), (1, [.int .u16 0]), (1, [.int .u16 0]), (1, [.int .u8 0]), (1, [.slice none 0 0])] := ⟨by kernel_rfl, FOk.one1 rfl (FOk.one1 rfl (FOk.one1 rfl (FOk.one1 rfl (FOk.bytes (by simp) (FOk.one1 rfl (FOk.bytes (by simp) (FOk.one1 rfl (FOk.one1 rfl (FOk.one1 rfl (FOk.one1 rfl (FOk.one1 rfl (FOk.one1 rfl (FOk.one1 rfl (FOk.one1 rfl (FOk.one1 rfl (FOk.bytes (by simp) (FOk.one1 rfl (FOk.bytes (by simp) (FOk.one1 rfl (FOk.one1 rfl (FOk.one1 rfl (FOk.one1 rfl (FOk.nil)))))))))))))))))))))))⟩
instance : TyI Try.prog 60 true 83 := ⟨by kernel_rfl, by kernel_rfl⟩
instance : FldI Try.prog 60 0 0 := ⟨by kernel_rfl⟩
instance : FldI Try.prog 60 1 82 := ⟨by kernel_rfl⟩
instance : StrI Try.prog 60 [(0, 82), (82, 1)] := ⟨by kernel_rfl⟩
instance : ZeroI Try.prog 60 [(1, [.bool false]), (1, [.int .u8 0]), (1, [.int .i64 0]), (1, [.bool false]), (16, u8s (List.replicate 16 0)), (1, [.bool false]), (16, u8s (List.replicate 16 0)), (1, [.bool false]), (1, [.int .u8 0]), (1, [.int .u16 0]), (1, [.int .u16 0]), (1, [.int .u8 0]), (1, [.int .i64 0]), (1, [.bool false]), (1, [.int .i64 0]), (1, [.bool false]), (16, u8s (List.replicate 16 0)), (1, [.bool false]), (16, u8s (List.replicate 16 0)), (1, [.int .u16 0]), (1, [.int .u16 0]), (1, [.int .u8 0]), (1, [.slice none 0 0])] := ⟨by kernel_rfl, FOk.one1 rfl (FOk.one1 rfl (FOk.one1 rfl (FOk.one1 rfl (FOk.bytes (by simp) (FOk.one1 rfl (FOk.bytes (by simp) (FOk.one1 rfl (FOk.one1 rfl (FOk.one1 rfl (FOk.one1 rfl (FOk.one1 rfl (FOk.one1 rfl (FOk.one1 rfl (FOk.one1 rfl (FOk.one1 rfl (FOk.bytes (by simp) (FOk.one1 rfl (FOk.bytes (by simp) (FOk.one1 rfl (FOk.one1 rfl (FOk.one1 rfl (FOk.one1 rfl (FOk.nil)))))))))))))))))))))))⟩
instance : TyI Try.prog 64 false 1 := ⟨by kernel_rfl, by kernel_rfl⟩
instance : IntI Try.prog 64 .u64 := ⟨by kernel_rfl⟩
instance : ZeroI Try.prog 64 [(1, [.int .u64 0])] := ⟨by kernel_rfl, FOk.one1 rfl (FOk.nil)⟩
instance : TyI Try.prog 79 false 1 := ⟨by kernel_rfl, by kernel_rfl⟩
instance : IntI Try.prog 79 .u64 := ⟨by kernel_rfl⟩
instance : ZeroI Try.prog 79 [(1, [.int .u64 0])] := ⟨by kernel_rfl, FOk.one1 rfl (FOk.nil)⟩
instance : TyI Try.prog 81 true 12 := ⟨by kernel_rfl, by kernel_rfl⟩
instance : ArrI Try.prog 81 12 5 := ⟨by kernel_rfl⟩
instance : EqI Try.prog 81 [some .u8, some .u8, some .u8, some .u8, some .u8, some .u8, some .u8, some .u8, some .u8, some .u8, some .u8, some .u8] := ⟨⟨aggTy, by kernel_rfl, by kernel_rfl, by kernel_rfl⟩⟩
instance : ZeroI Try.prog 81 [(12, u8s (List.replicate 12 0))] := ⟨by kernel_rfl, FOk.bytes (by simp) (FOk.nil)⟩
instance : TyI Try.prog 86 false 1 := ⟨by kernel_rfl, by kernel_rfl⟩
instance : SliI Try.prog 86 22 := ⟨by kernel_rfl⟩
instance : ZeroI Try.prog 86 [(1, [.slice none 0 0])] := ⟨by kernel_rfl, FOk.one1 rfl (FOk.nil)⟩
instance : TyI Try.prog 91 false 1 := ⟨by kernel_rfl, by kernel_rfl⟩
instance : ZeroI Try.prog 91 [(1, [.pointer none])] := ⟨by kernel_rfl, FOk.one1 rfl (FOk.nil)⟩
instance : TyI Try.prog 92 true 40 := ⟨by kernel_rfl, by kernel_rfl⟩
instance : FldI Try.prog 92 0 0 := ⟨by kernel_rfl⟩
instance : FldI Try.prog 92 1 39 := ⟨by kernel_rfl⟩
instance : StrI Try.prog 92 [(0, 39), (39, 1)] := ⟨by kernel_rfl⟩
instance : ZeroI Try.prog 92 [(1, [.bool false]), (1, [.int .u8 0]), (1, [.int .i64 0]), (1, [.bool false]), (16, u8s (List.replicate 16 0)), (1, [.bool false]), (16, u8s (List.replicate 16 0)), (1, [.bool false]), (1, [.int .u8 0]), (1, [.slice none 0 0])] := ⟨by kernel_rfl, FOk.one1 rfl (FOk.one1 rfl (FOk.one1 rfl (FOk.one1 rfl (FOk.bytes (by simp) (FOk.one1 rfl (FOk.bytes (by simp) (FOk.one1 rfl (FOk.one1 rfl (FOk.one1 rfl (FOk.nil))))))))))⟩
instance : TyI Try.prog 93 true 40 := ⟨by kernel_rfl, by kernel_rfl⟩
instance : FldI Try.prog 93 0 0 := ⟨by kernel_rfl⟩
instance : FldI Try.prog 93 1 39 := ⟨by kernel_rfl⟩
instance : StrI Try.prog 93 [(0, 39), (39, 1)] := ⟨by kernel_rfl⟩
instance : ZeroI Try.prog 93 [(1, [.bool false]), (1, [.int .u8 0]), (1, [.int .i64 0]), (1, [.bool false]), (16, u8s (List.replicate 16 0)), (1, [.bool false]), (16, u8s (List.replicate 16 0)), (1, [.bool false]), (1, [.int .u8 0]), (1, [.slice none 0 0])] := ⟨by kernel_rfl, FOk.one1 rfl (FOk.one1 rfl (FOk.one1 rfl (FOk.one1 rfl (FOk.bytes (by simp) (FOk.one1 rfl (FOk.bytes (by simp) (FOk.one1 rfl (FOk.one1 rfl (FOk.one1 rfl (FOk.nil))))))))))⟩
instance : TyI Try.prog 100 false 1 := ⟨by kernel_rfl, by kernel_rfl⟩
instance : ZeroI Try.prog 100 [(1, [.pointer none])] := ⟨by kernel_rfl, FOk.one1 rfl (FOk.nil)⟩
instance : TyI Try.prog 101 true 2 := ⟨by kernel_rfl, by kernel_rfl⟩
instance : FldI Try.prog 101 0 0 := ⟨by kernel_rfl⟩
instance : FldI Try.prog 101 1 1 := ⟨by kernel_rfl⟩
instance : StrI Try.prog 101 [(0, 1), (1, 1)] := ⟨by kernel_rfl⟩
instance : EqI Try.prog 101 [some .u64, none] := ⟨⟨aggTy, by kernel_rfl, by kernel_rfl, by kernel_rfl⟩⟩
instance : ZeroI Try.prog 101 [(1, [.int .u64 0]), (1, [.bool false])] := ⟨by kernel_rfl, FOk.one1 rfl (FOk.one1 rfl (FOk.nil))⟩
instance : TyI Try.prog 102 true 2 := ⟨by kernel_rfl, by kernel_rfl⟩
instance : FldI Try.prog 102 0 0 := ⟨by kernel_rfl⟩
instance : FldI Try.prog 102 1 1 := ⟨by kernel_rfl⟩
instance : StrI Try.prog 102 [(0, 1), (1, 1)] := ⟨by kernel_rfl⟩
instance : EqI Try.prog 102 [some .u64, none] := ⟨⟨aggTy, by kernel_rfl, by kernel_rfl, by kernel_rfl⟩⟩
instance : ZeroI Try.prog 102 [(1, [.int .u64 0]), (1, [.bool false])] := ⟨by kernel_rfl, FOk.one1 rfl (FOk.one1 rfl (FOk.nil))⟩
instance : TyI Try.prog 110 false 1 := ⟨by kernel_rfl, by kernel_rfl⟩
instance : IntI Try.prog 110 .u32 := ⟨by kernel_rfl⟩
instance : ZeroI Try.prog 110 [(1, [.int .u32 0])] := ⟨by kernel_rfl, FOk.one1 rfl (FOk.nil)⟩
instance : TyI Try.prog 114 false 1 := ⟨by kernel_rfl, by kernel_rfl⟩
instance : ZeroI Try.prog 114 [(1, [.pointer none])] := ⟨by kernel_rfl, FOk.one1 rfl (FOk.nil)⟩
end Go.Proofs.Ytjfhiifpnpokpaa
/- Layer 1 (num): contracts. -/
namespace Go.Proofs.Ytjfhiifpnpokpaa
open Go.RowKit
set_option linter.unusedSimpArgs false
set_option linter.unusedVariables false
set_option maxRecDepth 20000
set_option maxHeartbeats 4000000
attribute [local irreducible] WPc WPl WPq ReadR OpT BinR HasS bx rdN rowN Take Takes Prov Triple ResF BuildP Done ag Int.decLt Int.decLe Int.instDecidableEq

theorem numGood_t (k : Int) : Triple Try.prog 61 #[.int .i64 k] [] (RVal (.bool (decide (1 ≤ k) && decide (k ≤ 8)))) := by
  refine Triple.enter Try.func61 rfl Try.ntmps61 rfl (fun W => ?_)
  dsimp only [argsF, Nat.reduceAdd]
  repeat' (first
   | refine WPl.nil ?_ | refine WPq.then ?_ | refine WPq.thenR ?_ | refine WPq.thenE ?_ | refine WPq.blockN ?_ | refine WPq.blockR ?_ | refine WPq.blockE ?_ | refine WPq.blockO rfl ?_ | refine WPc.seq ?_ | refine WPc.block ?_ | refine WPc.ret ?_ | refine WPc.exit ?_ | refine WPc.skip ?_ | refine WPc.region ?_
   | (refine isCond ?_; first | refine WPc.cT ?_ | refine WPc.cF ?_ | (refine WPc.cQ (fun hc => ?_) (fun hc => ?_) <;> try exact prA))
   | (refine isOp ?_; first | refine WPl.rd ?_ | refine WPl.sk ?_ | refine WPl.rdB ?_)
   | (show WPl _ _ _ _ _ _ _ (⟨_, .indexAddr _ _ _, _, _, _, _⟩ :: _) _; refine WPl.rdX (ReadR.indexE rfl rfl hasA (by first | assumption | omega)) ?_)
   | (show WPl _ _ _ _ _ _ _ (⟨_, .fieldAddr _ _ _, _, _, _, _⟩ :: _) _; refine WPl.rdX (ReadR.fieldE rfl hasA (by first | assumption | omega)) ?_)
   | (show WPl _ _ _ _ _ _ _ (⟨_, .load _ _, _, _, _, _⟩ :: _) _; first | refine WPl.rdX (ReadR.loadE rfl hasA (by assumption)) ?_ | refine WPl.rdX (ReadR.loadES (by assumption) (by first | assumption | omega) rfl hasA) ?_)
   | (show WPl _ _ _ _ _ _ _ (⟨_, .slice _ _ _ _ _, _, _, _, _⟩ :: _) _; first | refine WPl.rdX (ReadR.sliceH rfl rfl hasA (by omega)) ?_ | refine WPl.rdX (ReadR.sliceL rfl rfl hasA (by omega)) ?_ | refine WPl.rdX (ReadR.sliceLH rfl rfl rfl hasA (by omega) (by omega)) ?_)
   | (refine WPl.spQ (fun hc => ?_) (fun hc => ?_) <;> try exact prA)
   | fail)
  all_goals exact WPq.dV (hc := by simp [resV]; try omega)

theorem clone_t (v : Value) (l : List UInt8) (hl : l.length ≤ 1000000000) : Triple Try.prog 25 #[v] [rb v l] (ROb l) := by
  refine Triple.enter Try.func25 rfl Try.ntmps25 rfl (fun W => ?_)
  dsimp only [argsF, Nat.reduceAdd]
  refine WPc.nilRow 5 ?_
  repeat' (first
   | refine WPl.nil ?_ | refine WPq.then ?_ | refine WPq.thenR ?_ | refine WPq.thenE ?_ | refine WPq.blockN ?_ | refine WPq.blockR ?_ | refine WPq.blockE ?_ | refine WPq.blockO rfl ?_ | refine WPc.seq ?_ | refine WPc.block ?_ | refine WPc.ret ?_ | refine WPc.exit ?_ | refine WPc.skip ?_ | refine WPc.region ?_
   | (refine isCond ?_; first | refine WPc.cT ?_ | refine WPc.cF ?_)
   | (refine isOp ?_; first | refine WPl.rd ?_ | refine WPl.sk ?_ | refine WPl.rdB ?_)
   | (show WPl _ _ _ _ _ _ _ (⟨_, .indexAddr _ _ _, _, _, _, _⟩ :: _) _; refine WPl.rdX (ReadR.indexE rfl rfl hasA (by first | assumption | omega)) ?_)
   | (show WPl _ _ _ _ _ _ _ (⟨_, .fieldAddr _ _ _, _, _, _, _⟩ :: _) _; refine WPl.rdX (ReadR.fieldE rfl hasA (by first | assumption | omega)) ?_)
   | (show WPl _ _ _ _ _ _ _ (⟨_, .load _ _, _, _, _, _⟩ :: _) _; first | refine WPl.rdX (ReadR.loadE rfl hasA (by assumption)) ?_ | refine WPl.rdX (ReadR.loadES (by assumption) (by first | assumption | omega) rfl hasA) ?_)
   | (show WPl _ _ _ _ _ _ _ (⟨_, .slice _ _ _ _ _, _, _, _, _⟩ :: _) _; first | refine WPl.rdX (ReadR.sliceH rfl rfl hasA (by omega)) ?_ | refine WPl.rdX (ReadR.sliceL rfl rfl hasA (by omega)) ?_ | refine WPl.rdX (ReadR.sliceLH rfl rfl rfl hasA (by omega) (by omega)) ?_)
   | fail)
  refine WPc.cS (fun hc => WPc.know (HasS.nilLen hasA hc) fun h0 => ?_) (fun hc => ?_)
  · obtain rfl := List.length_eq_zero_iff.1 h0
    repeat' (first
     | refine WPl.nil ?_ | refine WPq.then ?_ | refine WPq.thenR ?_ | refine WPq.thenE ?_ | refine WPq.blockN ?_ | refine WPq.blockR ?_ | refine WPq.blockE ?_ | refine WPq.blockO rfl ?_ | refine WPc.seq ?_ | refine WPc.block ?_ | refine WPc.ret ?_ | refine WPc.exit ?_ | refine WPc.skip ?_ | refine WPc.region ?_
     | (refine isCond ?_; first | refine WPc.cT ?_ | refine WPc.cF ?_)
     | (refine isOp ?_; first | refine WPl.rd ?_ | refine WPl.sk ?_ | refine WPl.rdB ?_)
     | (show WPl _ _ _ _ _ _ _ (⟨_, .indexAddr _ _ _, _, _, _, _⟩ :: _) _; refine WPl.rdX (ReadR.indexE rfl rfl hasA (by first | assumption | omega)) ?_)
     | (show WPl _ _ _ _ _ _ _ (⟨_, .fieldAddr _ _ _, _, _, _, _⟩ :: _) _; refine WPl.rdX (ReadR.fieldE rfl hasA (by first | assumption | omega)) ?_)
     | (show WPl _ _ _ _ _ _ _ (⟨_, .load _ _, _, _, _, _⟩ :: _) _; first | refine WPl.rdX (ReadR.loadE rfl hasA (by assumption)) ?_ | refine WPl.rdX (ReadR.loadES (by assumption) (by first | assumption | omega) rfl hasA) ?_)
     | (show WPl _ _ _ _ _ _ _ (⟨_, .slice _ _ _ _ _, _, _, _, _⟩ :: _) _; first | refine WPl.rdX (ReadR.sliceH rfl rfl hasA (by omega)) ?_ | refine WPl.rdX (ReadR.sliceL rfl rfl hasA (by omega)) ?_ | refine WPl.rdX (ReadR.sliceLH rfl rfl rfl hasA (by omega) (by omega)) ?_)
     | fail)
    all_goals try (first | exact WPq.dTp | exact WPq.dTs | exact WPq.dV | exact WPq.dR | exact WPq.dR2 | exact WPq.dH | exact WPq.dBH | exact WPq.dT)
  · skip
    repeat' (first
     | refine WPl.nil ?_ | refine WPq.then ?_ | refine WPq.thenR ?_ | refine WPq.thenE ?_ | refine WPq.blockN ?_ | refine WPq.blockR ?_ | refine WPq.blockE ?_ | refine WPq.blockO rfl ?_ | refine WPc.seq ?_ | refine WPc.block ?_ | refine WPc.ret ?_ | refine WPc.exit ?_ | refine WPc.skip ?_ | refine WPc.region ?_
     | (refine isCond ?_; first | refine WPc.cT ?_ | refine WPc.cF ?_)
     | (refine isLit ?_; refine WPl.lit fun v hv => ?_)
     | (refine isApp ?_; refine WPl.app fun v hv => ?_)
     | (refine isOp ?_; first | refine WPl.rd ?_ | refine WPl.sk ?_ | refine WPl.rdB ?_)
     | (show WPl _ _ _ _ _ _ _ (⟨_, .indexAddr _ _ _, _, _, _, _⟩ :: _) _; refine WPl.rdX (ReadR.indexE rfl rfl hasA (by first | assumption | omega)) ?_)
     | (show WPl _ _ _ _ _ _ _ (⟨_, .fieldAddr _ _ _, _, _, _, _⟩ :: _) _; refine WPl.rdX (ReadR.fieldE rfl hasA (by first | assumption | omega)) ?_)
     | (show WPl _ _ _ _ _ _ _ (⟨_, .load _ _, _, _, _, _⟩ :: _) _; first | refine WPl.rdX (ReadR.loadE rfl hasA (by assumption)) ?_ | refine WPl.rdX (ReadR.loadES (by assumption) (by first | assumption | omega) rfl hasA) ?_)
     | (show WPl _ _ _ _ _ _ _ (⟨_, .slice _ _ _ _ _, _, _, _, _⟩ :: _) _; first | refine WPl.rdX (ReadR.sliceH rfl rfl hasA (by omega)) ?_ | refine WPl.rdX (ReadR.sliceL rfl rfl hasA (by omega)) ?_ | refine WPl.rdX (ReadR.sliceLH rfl rfl rfl hasA (by omega) (by omega)) ?_)
     | fail)
    all_goals try (first | exact WPq.dTp | exact WPq.dTs | exact WPq.dV | exact WPq.dR | exact WPq.dR2 | exact WPq.dH | exact WPq.dBH | exact WPq.dT)

theorem cut_t (v : Value) (l : List UInt8) (k n : Nat) (h : k + n ≤ l.length) (hl : l.length ≤ 1000000000) :
    Triple Try.prog 66 #[v, .int .i64 k, .int .i64 n] [rb v l] (RVal (.tuple #[subv 1 v k n, .bool true])) := by
  refine Triple.enter Try.func66 rfl Try.ntmps66 rfl (fun W => ?_)
  dsimp only [argsF, Nat.reduceAdd]
  repeat' (first
   | refine WPl.nil ?_ | refine WPq.then ?_ | refine WPq.thenR ?_ | refine WPq.thenE ?_ | refine WPq.blockN ?_ | refine WPq.blockR ?_ | refine WPq.blockE ?_ | refine WPq.blockO rfl ?_ | refine WPc.seq ?_ | refine WPc.block ?_ | refine WPc.ret ?_ | refine WPc.exit ?_ | refine WPc.skip ?_ | refine WPc.region ?_
   | (refine isCond ?_; first | refine WPc.cT ?_ | refine WPc.cF ?_ | (refine WPc.cQ (fun hc => ?_) (fun hc => ?_) <;> try exact prA))
   | (refine isOp ?_; first | refine WPl.rd ?_ | refine WPl.sk ?_ | refine WPl.rdB ?_)
   | (show WPl _ _ _ _ _ _ _ (⟨_, .indexAddr _ _ _, _, _, _, _⟩ :: _) _; refine WPl.rdX (ReadR.indexE rfl rfl hasA (by first | assumption | omega)) ?_)
   | (show WPl _ _ _ _ _ _ _ (⟨_, .fieldAddr _ _ _, _, _, _, _⟩ :: _) _; refine WPl.rdX (ReadR.fieldE rfl hasA (by first | assumption | omega)) ?_)
   | (show WPl _ _ _ _ _ _ _ (⟨_, .load _ _, _, _, _, _⟩ :: _) _; first | refine WPl.rdX (ReadR.loadE rfl hasA (by assumption)) ?_ | refine WPl.rdX (ReadR.loadES (by assumption) (by first | assumption | omega) rfl hasA) ?_)
   | (show WPl _ _ _ _ _ _ _ (⟨_, .slice _ _ _ _ _, _, _, _, _⟩ :: _) _; first | refine WPl.rdX (ReadR.sliceH rfl rfl hasA (by omega)) ?_ | refine WPl.rdX (ReadR.sliceL rfl rfl hasA (by omega)) ?_ | refine WPl.rdX (ReadR.sliceLH rfl rfl rfl hasA (by omega) (by omega)) ?_)
   | (refine WPl.spQ (fun hc => ?_) (fun hc => ?_) <;> try exact prA)
   | fail)
  all_goals try simp only [Nat.add_sub_cancel_left]
  all_goals try (first | exact WPq.dTp | exact WPq.dTs | exact WPq.dV | exact WPq.dR | exact WPq.dR2 | exact WPq.dH | exact WPq.dBH | exact WPq.dT)

theorem get_t (v : Value) (l : List UInt8) (k n : Nat) (h : k + n ≤ l.length) (hl : l.length ≤ 1000000000) (h1 : 1 ≤ n) (h8 : n ≤ 8) :
    Triple Try.prog 59 #[v, .int .i64 k, .int .i64 n] [rb v l] (RVal (.tuple #[.int .u64 (val (seg l k n) : Nat), .bool true])) := by
  refine Triple.enter Try.func59 rfl Try.ntmps59 rfl (fun W => ?_)
  dsimp only [argsF, Nat.reduceAdd]
  repeat' (first
   | refine WPl.nil ?_ | refine WPq.then ?_ | refine WPq.thenR ?_ | refine WPq.thenE ?_ | refine WPq.blockN ?_ | refine WPq.blockR ?_ | refine WPq.blockE ?_ | refine WPq.blockO rfl ?_ | refine WPc.seq ?_ | refine WPc.block ?_ | refine WPc.ret ?_ | refine WPc.exit ?_ | refine WPc.skip ?_ | refine WPc.region ?_
   | (refine isCond ?_; first | refine WPc.cT ?_ | refine WPc.cF ?_ | (refine WPc.cQ (fun hc => ?_) (fun hc => ?_) <;> try exact prA))
   | (refine isCl ?_; refine WPl.cV (cut_t _ _ _ _ h hl) ?_)
   | (refine isCl ?_; refine WPl.cV (numGood_t _) ?_)
   | (refine isOp ?_; first | refine WPl.rd ?_ | refine WPl.sk ?_ | refine WPl.rdB ?_)
   | (show WPl _ _ _ _ _ _ _ (⟨_, .indexAddr _ _ _, _, _, _, _⟩ :: _) _; refine WPl.rdX (ReadR.indexE rfl rfl hasA (by first | assumption | omega)) ?_)
   | (show WPl _ _ _ _ _ _ _ (⟨_, .fieldAddr _ _ _, _, _, _, _⟩ :: _) _; refine WPl.rdX (ReadR.fieldE rfl hasA (by first | assumption | omega)) ?_)
   | (show WPl _ _ _ _ _ _ _ (⟨_, .load _ _, _, _, _, _⟩ :: _) _; first | refine WPl.rdX (ReadR.loadE rfl hasA (by assumption)) ?_ | refine WPl.rdX (ReadR.loadES (by assumption) (by first | assumption | omega) rfl hasA) ?_)
   | (show WPl _ _ _ _ _ _ _ (⟨_, .slice _ _ _ _ _, _, _, _, _⟩ :: _) _; first | refine WPl.rdX (ReadR.sliceH rfl rfl hasA (by omega)) ?_ | refine WPl.rdX (ReadR.sliceL rfl rfl hasA (by omega)) ?_ | refine WPl.rdX (ReadR.sliceLH rfl rfl rfl hasA (by omega) (by omega)) ?_)
   | (refine WPl.spQ (fun hc => ?_) (fun hc => ?_) <;> try exact prA)
   | fail)
  have hn := seg_length h
  have hbd : ∀ i, i < n → val ((seg l k n).take i) < 72057594037927936 := fun i hi => by
    have := val_lt ((seg l k n).take i)
    have h2 : 256 ^ ((seg l k n).take i).length ≤ 256 ^ 7 := Nat.pow_le_pow_right (by decide) (by rw [List.length_take]; omega)
    have : (256 : Nat) ^ 7 = 72057594037927936 := by decide
    omega
  first | refine WPc.loop (σ := Nat) (fun i => i ≤ n) (fun i => [rb v l]) (fun i => [(27, subv 1 v k n), (28, .int .i64 (seg l k n).length), (29, .int .i64 i), (10, .int .u64 (val ((seg l k n).take i) : Nat))]) (fun i => n - i) (0) ?_ takesA frsA (fun st km hx hk => ?_)
  · omega
  obtain ⟨x, rfl⟩ : ∃ x, x = st := ⟨_, rfl⟩
  have hb := hbd x
  repeat' (first
   | refine WPl.nil ?_ | refine WPq.then ?_ | refine WPq.thenR ?_ | refine WPq.thenE ?_ | refine WPq.blockN ?_ | refine WPq.blockR ?_ | refine WPq.blockE ?_ | refine WPq.blockO rfl ?_ | refine WPc.seq ?_ | refine WPc.block ?_ | refine WPc.ret ?_ | refine WPc.exit ?_ | refine WPc.skip ?_ | refine WPc.region ?_
   | (refine isCond ?_; first | refine WPc.cT ?_ | refine WPc.cF ?_ | (refine WPc.cQ (fun hc => ?_) (fun hc => ?_) <;> try exact prA))
   | (show WPl _ _ _ _ _ _ _ (⟨_, .binOp .shl _ _ _ _, _, _, _, _⟩ :: _) _; refine WPl.rdX (ReadR.bin rfl rfl (BinR.shl8 (hb (by omega)))) ?_)
   | (show WPl _ _ _ _ _ _ _ (⟨_, .binOp .or _ _ _ _, _, _, _, _⟩ :: _) _; refine WPl.rdX (ReadR.bin rfl rfl (BinR.or8 (hb (by omega)) (UInt8.toNat_lt _))) ?_)
   | (show WPl _ _ _ _ _ _ _ (⟨_, .convert _ _ _, _, _, _, _⟩ :: _) _; refine WPl.rdX (ReadR.conv rfl conv_u8) ?_)
   | (refine isOp ?_; first | refine WPl.rd ?_ | refine WPl.sk ?_ | refine WPl.rdB ?_)
   | (show WPl _ _ _ _ _ _ _ (⟨_, .indexAddr _ _ _, _, _, _, _⟩ :: _) _; refine WPl.rdX (ReadR.indexE rfl rfl hasA (by first | assumption | omega)) ?_)
   | (show WPl _ _ _ _ _ _ _ (⟨_, .fieldAddr _ _ _, _, _, _, _⟩ :: _) _; refine WPl.rdX (ReadR.fieldE rfl hasA (by first | assumption | omega)) ?_)
   | (show WPl _ _ _ _ _ _ _ (⟨_, .load _ _, _, _, _, _⟩ :: _) _; first | refine WPl.rdX (ReadR.loadE rfl hasA (by assumption)) ?_ | refine WPl.rdX (ReadR.loadES (by assumption) (by first | assumption | omega) rfl hasA) ?_)
   | (show WPl _ _ _ _ _ _ _ (⟨_, .slice _ _ _ _ _, _, _, _, _⟩ :: _) _; first | refine WPl.rdX (ReadR.sliceH rfl rfl hasA (by omega)) ?_ | refine WPl.rdX (ReadR.sliceL rfl rfl hasA (by omega)) ?_ | refine WPl.rdX (ReadR.sliceLH rfl rfl rfl hasA (by omega) (by omega)) ?_)
   | (refine WPl.spQ (fun hc => ?_) (fun hc => ?_) <;> try exact prA)
   | fail)
  · refine WPq.rnd (x + 1) (by omega) (by omega) takesA ?_
    rw [val_take _ (by omega)]
    exact frsA
  · exact WPq.dV (hc := by rw [show x = n by omega, List.take_of_length_le (by omega)]; rfl)

theorem put_t (v : Value) (l : List UInt8) (x n : Nat) (hl : l.length ≤ 1000000) (hx : x < 18446744073709551616) (h1 : 1 ≤ n) (h8 : n ≤ 8) :
    Triple Try.prog 49 #[v, .int .u64 x, .int .i64 n] [rb v l] (ROb (l ++ be x n)) := by
  refine Triple.enter Try.func49 rfl Try.ntmps49 rfl (fun W => ?_)
  dsimp only [argsF, Nat.reduceAdd]
  repeat' (first
   | refine WPl.nil ?_ | refine WPq.then ?_ | refine WPq.thenR ?_ | refine WPq.thenE ?_ | refine WPq.blockN ?_ | refine WPq.blockR ?_ | refine WPq.blockE ?_ | refine WPq.blockO rfl ?_ | refine WPc.seq ?_ | refine WPc.block ?_ | refine WPc.ret ?_ | refine WPc.exit ?_ | refine WPc.skip ?_ | refine WPc.region ?_
   | (refine isCond ?_; first | refine WPc.cT ?_ | refine WPc.cF ?_ | (refine WPc.cQ (fun hc => ?_) (fun hc => ?_) <;> try exact prA))
   | (refine isCl ?_; refine WPl.cR (clone_t _ _ ?_) fun v hv => ?_; (first | omega | assumption | fail))
   | (refine isCl ?_; refine WPl.cV (numGood_t _) ?_)
   | (refine isOp ?_; first | refine WPl.rd ?_ | refine WPl.sk ?_ | refine WPl.rdB ?_)
   | (show WPl _ _ _ _ _ _ _ (⟨_, .indexAddr _ _ _, _, _, _, _⟩ :: _) _; refine WPl.rdX (ReadR.indexE rfl rfl hasA (by first | assumption | omega)) ?_)
   | (show WPl _ _ _ _ _ _ _ (⟨_, .fieldAddr _ _ _, _, _, _, _⟩ :: _) _; refine WPl.rdX (ReadR.fieldE rfl hasA (by first | assumption | omega)) ?_)
   | (show WPl _ _ _ _ _ _ _ (⟨_, .load _ _, _, _, _, _⟩ :: _) _; first | refine WPl.rdX (ReadR.loadE rfl hasA (by assumption)) ?_ | refine WPl.rdX (ReadR.loadES (by assumption) (by first | assumption | omega) rfl hasA) ?_)
   | (show WPl _ _ _ _ _ _ _ (⟨_, .slice _ _ _ _ _, _, _, _, _⟩ :: _) _; first | refine WPl.rdX (ReadR.sliceH rfl rfl hasA (by omega)) ?_ | refine WPl.rdX (ReadR.sliceL rfl rfl hasA (by omega)) ?_ | refine WPl.rdX (ReadR.sliceLH rfl rfl rfl hasA (by omega) (by omega)) ?_)
   | (refine WPl.spQ (fun hc => ?_) (fun hc => ?_) <;> try exact prA)
   | fail)
  have hbl := be_length x n
  first | refine WPc.loop (σ := Value × Nat × List UInt8) (fun p => p.2.1 ≤ n ∧ p.1.oneCell' = true ∧ p.2.2 = l ++ (be x n).take (n - p.2.1)) (fun p => [ob p.1 p.2.2]) (fun p => [(7, p.1), (8, .int .i64 ((p.2.1 : Int) - 1)), (1, .int .u64 x)]) (fun p => p.2.1) ((v, n, l)) ?_ takesA frsA (fun st km hx hk => ?_)
  · simp; assumption
  obtain ⟨s, m, c⟩ := st
  dsimp only at hx hk ⊢
  obtain ⟨hm, hs, hcc⟩ := hx
  have hcl : c.length = l.length + (n - m) := by rw [hcc, List.length_append, List.length_take]; omega
  repeat' (first
   | refine WPl.nil ?_ | refine WPq.then ?_ | refine WPq.thenR ?_ | refine WPq.thenE ?_ | refine WPq.blockN ?_ | refine WPq.blockR ?_ | refine WPq.blockE ?_ | refine WPq.blockO rfl ?_ | refine WPc.seq ?_ | refine WPc.block ?_ | refine WPc.ret ?_ | refine WPc.exit ?_ | refine WPc.skip ?_ | refine WPc.region ?_
   | (refine isCond ?_; first | refine WPc.cT ?_ | refine WPc.cF ?_ | (refine WPc.cQ (fun hc => ?_) (fun hc => ?_) <;> try exact prA))
   | (show WPl _ _ _ _ _ _ _ (⟨_, .binOp .shr _ _ _ _, _, _, _, _⟩ :: _) _; refine WPl.rdX (ReadR.bin rfl rfl (BinR.shrI (by omega) (by show _ ≤ (64 : Int); omega))) ?_)
   | (refine isLit ?_; refine WPl.lit fun v hv => ?_)
   | (refine isApp ?_; refine WPl.app fun v hv => ?_)
   | (refine isOp ?_; first | refine WPl.rd ?_ | refine WPl.sk ?_ | refine WPl.rdB ?_)
   | (show WPl _ _ _ _ _ _ _ (⟨_, .indexAddr _ _ _, _, _, _, _⟩ :: _) _; refine WPl.rdX (ReadR.indexE rfl rfl hasA (by first | assumption | omega)) ?_)
   | (show WPl _ _ _ _ _ _ _ (⟨_, .fieldAddr _ _ _, _, _, _, _⟩ :: _) _; refine WPl.rdX (ReadR.fieldE rfl hasA (by first | assumption | omega)) ?_)
   | (show WPl _ _ _ _ _ _ _ (⟨_, .load _ _, _, _, _, _⟩ :: _) _; first | refine WPl.rdX (ReadR.loadE rfl hasA (by assumption)) ?_ | refine WPl.rdX (ReadR.loadES (by assumption) (by first | assumption | omega) rfl hasA) ?_)
   | (show WPl _ _ _ _ _ _ _ (⟨_, .slice _ _ _ _ _, _, _, _, _⟩ :: _) _; first | refine WPl.rdX (ReadR.sliceH rfl rfl hasA (by omega)) ?_ | refine WPl.rdX (ReadR.sliceL rfl rfl hasA (by omega)) ?_ | refine WPl.rdX (ReadR.sliceLH rfl rfl rfl hasA (by omega) (by omega)) ?_)
   | (refine WPl.spQ (fun hc => ?_) (fun hc => ?_) <;> try exact prA)
   | fail)
  · refine WPq.rnd (v, m - 1, _) ⟨by show m - 1 ≤ n; omega, hv, ?_⟩ (by show m - 1 < km; omega) takesA ?_
    · show c ++ nbs [_] = _
      rw [nbs_u8, nbs_nil, hcc, show n - (m - 1) = n - m + 1 by omega, take_snoc _ (by omega), be_get x (by omega), show n - 1 - (n - m) = m - 1 by omega,
        show (8 * ((m : Int) - 1)).toNat = 8 * (m - 1) by omega, Nat.pow_mul, List.append_assoc]
    · dsimp only
      rw [show (((m - 1 : Nat) : Int) - 1) = (m : Int) - 1 - 1 by omega]
      exact frsA
  · obtain rfl : m = 0 := by omega
    rw [hcc, Nat.sub_zero, List.take_of_length_le (by omega)]
    all_goals try (first | exact WPq.dTp | exact WPq.dTs | exact WPq.dV | exact WPq.dR | exact WPq.dR2 | exact WPq.dH | exact WPq.dBH | exact WPq.dT)
theorem bytes_t (v : Value) (vs : List Value) (ls : List (List UInt8)) (h : vs.length = ls.length) (hl : ls.flatten.length ≤ 1000000) (h0 : vs.length ≤ 1000000) :
    Triple Try.prog 47 #[v] (rdN v vs.length vs :: rbz vs ls) (ROb ls.flatten) := by
  refine Triple.enter Try.func47 rfl Try.ntmps47 rfl (fun W => ?_)
  dsimp only [argsF, Nat.reduceAdd]
  refine WPc.nilRow 5 ?_
  repeat' (first
   | refine WPl.nil ?_ | refine WPq.then ?_ | refine WPq.thenR ?_ | refine WPq.thenE ?_ | refine WPq.blockN ?_ | refine WPq.blockR ?_ | refine WPq.blockE ?_ | refine WPq.blockO rfl ?_ | refine WPc.seq ?_ | refine WPc.block ?_ | refine WPc.ret ?_ | refine WPc.exit ?_ | refine WPc.skip ?_ | refine WPc.region ?_
   | (refine isCond ?_; first | refine WPc.cT ?_ | refine WPc.cF ?_)
   | (refine isOp ?_; first | refine WPl.rd ?_ | refine WPl.sk ?_ | refine WPl.rdB ?_)
   | (show WPl _ _ _ _ _ _ _ (⟨_, .indexAddr _ _ _, _, _, _, _⟩ :: _) _; refine WPl.rdX (ReadR.indexE rfl rfl hasA (by first | assumption | omega)) ?_)
   | (show WPl _ _ _ _ _ _ _ (⟨_, .fieldAddr _ _ _, _, _, _, _⟩ :: _) _; refine WPl.rdX (ReadR.fieldE rfl hasA (by first | assumption | omega)) ?_)
   | (show WPl _ _ _ _ _ _ _ (⟨_, .load _ _, _, _, _, _⟩ :: _) _; first | refine WPl.rdX (ReadR.loadE rfl hasA (by assumption)) ?_ | refine WPl.rdX (ReadR.loadES (by assumption) (by first | assumption | omega) rfl hasA) ?_)
   | (show WPl _ _ _ _ _ _ _ (⟨_, .slice _ _ _ _ _, _, _, _, _⟩ :: _) _; first | refine WPl.rdX (ReadR.sliceH rfl rfl hasA (by omega)) ?_ | refine WPl.rdX (ReadR.sliceL rfl rfl hasA (by omega)) ?_ | refine WPl.rdX (ReadR.sliceLH rfl rfl rfl hasA (by omega) (by omega)) ?_)
   | fail)
  first | refine WPc.loop (σ := Value × Nat × List UInt8) (fun p => p.2.1 ≤ ls.length ∧ p.1.oneCell' = true ∧ p.2.2 = (ls.take p.2.1).flatten) (fun p => ob p.1 p.2.2 :: rdN v vs.length vs :: rbz vs ls) (fun p => [(3, p.1), (6, v), (7, .int .i64 vs.length), (8, .int .i64 p.2.1)]) (fun p => ls.length - p.2.1) ((.slice none 0 0, 0, [])) ?_ takesA frsA (fun st km hx hk => ?_)
  · exact ⟨Nat.zero_le _, rfl, rfl⟩
  obtain ⟨s, i, c⟩ := st
  dsimp only at hx hk ⊢
  obtain ⟨hi, hs, hcc⟩ := hx
  by_cases hlt : i < ls.length
  · obtain ⟨u, hu⟩ : ∃ u, vs[i]? = some u := ⟨_, List.getElem?_eq_getElem (by omega)⟩
    obtain ⟨l, hl'⟩ : ∃ l, ls[i]? = some l := ⟨_, List.getElem?_eq_getElem hlt⟩
    refine WPc.dup (A := rb u l) (List.Mem.tail _ (List.Mem.tail _ (mem_rbz hu hl'))) rdN_own ?_
    have e : (ls.take (i + 1)).flatten = c ++ l := by rw [hcc, List.take_add_one, hl']; simp
    have hle : (c ++ l).length ≤ ls.flatten.length := by
      rw [← e, ← List.take_append_drop (i + 1) ls, List.flatten_append]; simp
    rw [List.length_append] at hle
    repeat' (first
     | refine WPl.nil ?_ | refine WPq.then ?_ | refine WPq.thenR ?_ | refine WPq.thenE ?_ | refine WPq.blockN ?_ | refine WPq.blockR ?_ | refine WPq.blockE ?_ | refine WPq.blockO rfl ?_ | refine WPc.seq ?_ | refine WPc.block ?_ | refine WPc.ret ?_ | refine WPc.exit ?_ | refine WPc.skip ?_ | refine WPc.region ?_
     | (refine isCond ?_; first | refine WPc.cT ?_ | refine WPc.cF ?_ | (refine WPc.cQ (fun hc => ?_) (fun hc => ?_) <;> try exact prA))
     | (show WPl _ _ _ _ _ _ _ (⟨_, .load _ _, _, _, _, _⟩ :: _) _; refine WPl.rdX ((by apply ReadR.loadE; exact rfl; exact hasA; exact hu)) ?_)
     | (refine isApp ?_; refine WPl.app fun v hv => ?_)
     | (refine isOp ?_; first | refine WPl.rd ?_ | refine WPl.sk ?_ | refine WPl.rdB ?_)
     | (show WPl _ _ _ _ _ _ _ (⟨_, .indexAddr _ _ _, _, _, _, _⟩ :: _) _; refine WPl.rdX (ReadR.indexE rfl rfl hasA (by first | assumption | omega)) ?_)
     | (show WPl _ _ _ _ _ _ _ (⟨_, .fieldAddr _ _ _, _, _, _, _⟩ :: _) _; refine WPl.rdX (ReadR.fieldE rfl hasA (by first | assumption | omega)) ?_)
     | (show WPl _ _ _ _ _ _ _ (⟨_, .load _ _, _, _, _, _⟩ :: _) _; first | refine WPl.rdX (ReadR.loadE rfl hasA (by assumption)) ?_ | refine WPl.rdX (ReadR.loadES (by assumption) (by first | assumption | omega) rfl hasA) ?_)
     | (show WPl _ _ _ _ _ _ _ (⟨_, .slice _ _ _ _ _, _, _, _, _⟩ :: _) _; first | refine WPl.rdX (ReadR.sliceH rfl rfl hasA (by omega)) ?_ | refine WPl.rdX (ReadR.sliceL rfl rfl hasA (by omega)) ?_ | refine WPl.rdX (ReadR.sliceLH rfl rfl rfl hasA (by omega) (by omega)) ?_)
     | (refine WPl.spQ (fun hc => ?_) (fun hc => ?_) <;> try exact prA)
     | fail)
    exact WPq.rnd (v, i + 1, c ++ l) ⟨by show i + 1 ≤ _; omega, hv, e.symm⟩ (by show _ - (i + 1) < km; omega)
  · obtain rfl : i = ls.length := by omega
    repeat' (first
     | refine WPl.nil ?_ | refine WPq.then ?_ | refine WPq.thenR ?_ | refine WPq.thenE ?_ | refine WPq.blockN ?_ | refine WPq.blockR ?_ | refine WPq.blockE ?_ | refine WPq.blockO rfl ?_ | refine WPc.seq ?_ | refine WPc.block ?_ | refine WPc.ret ?_ | refine WPc.exit ?_ | refine WPc.skip ?_ | refine WPc.region ?_
     | (refine isCond ?_; first | refine WPc.cT ?_ | refine WPc.cF ?_ | (refine WPc.cQ (fun hc => ?_) (fun hc => ?_) <;> try exact prA))
     | (refine isOp ?_; first | refine WPl.rd ?_ | refine WPl.sk ?_ | refine WPl.rdB ?_)
     | (show WPl _ _ _ _ _ _ _ (⟨_, .indexAddr _ _ _, _, _, _, _⟩ :: _) _; refine WPl.rdX (ReadR.indexE rfl rfl hasA (by first | assumption | omega)) ?_)
     | (show WPl _ _ _ _ _ _ _ (⟨_, .fieldAddr _ _ _, _, _, _, _⟩ :: _) _; refine WPl.rdX (ReadR.fieldE rfl hasA (by first | assumption | omega)) ?_)
     | (show WPl _ _ _ _ _ _ _ (⟨_, .load _ _, _, _, _, _⟩ :: _) _; first | refine WPl.rdX (ReadR.loadE rfl hasA (by assumption)) ?_ | refine WPl.rdX (ReadR.loadES (by assumption) (by first | assumption | omega) rfl hasA) ?_)
     | (show WPl _ _ _ _ _ _ _ (⟨_, .slice _ _ _ _ _, _, _, _, _⟩ :: _) _; first | refine WPl.rdX (ReadR.sliceH rfl rfl hasA (by omega)) ?_ | refine WPl.rdX (ReadR.sliceL rfl rfl hasA (by omega)) ?_ | refine WPl.rdX (ReadR.sliceLH rfl rfl rfl hasA (by omega) (by omega)) ?_)
     | (refine WPl.spQ (fun hc => ?_) (fun hc => ?_) <;> try exact prA)
     | fail)
    rw [hcc, List.take_length]
    all_goals try (first | exact WPq.dTp | exact WPq.dTs | exact WPq.dV | exact WPq.dR | exact WPq.dR2 | exact WPq.dH | exact WPq.dBH | exact WPq.dT)
end Go.Proofs.Ytjfhiifpnpokpaa
/- Layer 11 (inet): contracts. -/
namespace Go.Proofs.Ytjfhiifpnpokpaa
open Go.RowKit
set_option linter.unusedSimpArgs false
set_option linter.unusedVariables false
set_option maxRecDepth 20000
set_option maxHeartbeats 4000000
attribute [local irreducible] WPc WPl WPq ReadR OpT BinR HasS bx rdN rowN Take Takes Prov Triple ResF BuildP Done ag Int.decLt Int.decLe Int.instDecidableEq

theorem par_snoc (b : Bool) (l : List UInt8) (c : UInt8) : par b (l ++ [c]) = !(par b l) := by rw [par_append]; rfl
theorem wsum_snoc (b : Bool) (l : List UInt8) (c : UInt8) : wsum b (l ++ [c]) = wsum b l + (if par b l then 256 * c.toNat else c.toNat) := by
  rw [wsum_append]; cases par b l <;> simp [wsum]
abbrev adr (g : Nat) (m : Nat) (odd : Bool) : Asn := bx g 102 [(1, [.int .u64 (m : Int)]), (1, [.bool odd])]

theorem add_t (g : Nat) (m : Nat) (odd : Bool) (v : Value) (l : List UInt8) (m' : Nat) (odd' : Bool) (h1 : m' = m + wsum (!odd) l) (h2 : odd' = !(par (!odd) l)) (hl : l.length ≤ 1000000000) (hm : m ≤ 1000000000000000) :
    Triple Try.prog 75 #[.pointer (some ⟨g, 0, none⟩), v] ([rb v l] ++ [adr g m odd])
      (RTurn (.tuple #[]) (adr g m' odd')) := by
  refine Triple.enter Try.func75 rfl Try.ntmps75 rfl (fun W => ?_)
  dsimp only [argsF, Nat.reduceAdd]
  repeat' (first
   | refine WPl.nil ?_ | refine WPq.then ?_ | refine WPq.thenR ?_ | refine WPq.thenE ?_ | refine WPq.blockN ?_ | refine WPq.blockR ?_ | refine WPq.blockE ?_ | refine WPq.blockO rfl ?_ | refine WPc.seq ?_ | refine WPc.block ?_ | refine WPc.ret ?_ | refine WPc.exit ?_ | refine WPc.skip ?_ | refine WPc.region ?_
   | (refine isCond ?_; first | refine WPc.cT ?_ | refine WPc.cF ?_)
   | (refine isOp ?_; first | refine WPl.rd ?_ | refine WPl.sk ?_ | refine WPl.rdB ?_)
   | (refine isSt ?_; first | refine WPl.st1 ?_ | refine WPl.stA ?_ | refine WPl.stEB ?_ | refine WPl.stRB ?_)
   | (show WPl _ _ _ _ _ _ _ (⟨_, .indexAddr _ _ _, _, _, _, _⟩ :: _) _; refine WPl.rdX (ReadR.indexE rfl rfl hasA (by first | assumption | omega)) ?_)
   | (show WPl _ _ _ _ _ _ _ (⟨_, .fieldAddr _ _ _, _, _, _, _⟩ :: _) _; refine WPl.rdX (ReadR.fieldE rfl hasA (by first | assumption | omega)) ?_)
   | (show WPl _ _ _ _ _ _ _ (⟨_, .load _ _, _, _, _, _⟩ :: _) _; first | refine WPl.rdX (ReadR.loadE rfl hasA (by assumption)) ?_ | refine WPl.rdX (ReadR.loadES (by assumption) (by first | assumption | omega) rfl hasA) ?_)
   | (show WPl _ _ _ _ _ _ _ (⟨_, .slice _ _ _ _ _, _, _, _, _⟩ :: _) _; first | refine WPl.rdX (ReadR.sliceH rfl rfl hasA (by omega)) ?_ | refine WPl.rdX (ReadR.sliceL rfl rfl hasA (by omega)) ?_ | refine WPl.rdX (ReadR.sliceLH rfl rfl rfl hasA (by omega) (by omega)) ?_)
   | fail)
  first | refine WPc.loop (σ := Nat × Nat × Bool) (fun p => p.1 ≤ l.length ∧ p.2.1 = m + wsum (!odd) (l.take p.1) ∧ p.2.2 = !(par (!odd) (l.take p.1))) (fun p => [rb v l, adr g p.2.1 p.2.2]) (fun p => [(0, .pointer (some ⟨g, 0, none⟩)), (7, v), (8, .int .i64 l.length), (9, .int .i64 p.1)]) (fun p => l.length - p.1) ((0, m, odd)) ?_ takesA frsA (fun st km hx hk => ?_)
  · simp [wsum, par]
  obtain ⟨i, c, o⟩ := st
  dsimp only at hx hk ⊢
  obtain ⟨hi, hc1, hc2⟩ := hx
  by_cases hlt : i < l.length
  · have hb := (l.getD i 0).toNat_lt
    have hw := wsum_le (!odd) (l.take i)
    have hL : (l.take i).length ≤ 1000000000 := by rw [List.length_take]; omega
    have e1 := wsum_snoc (!odd) (l.take i) (l.getD i 0)
    have e2 := par_snoc (!odd) (l.take i) (l.getD i 0)
    rw [← take_snoc l hlt] at e1 e2
    have hbd : c ≤ 100000000000000000 := by omega
    clear hw
    repeat' (first
     | refine WPl.nil ?_ | refine WPq.then ?_ | refine WPq.thenR ?_ | refine WPq.thenE ?_ | refine WPq.blockN ?_ | refine WPq.blockR ?_ | refine WPq.blockE ?_ | refine WPq.blockO rfl ?_ | refine WPc.seq ?_ | refine WPc.block ?_ | refine WPc.ret ?_ | refine WPc.exit ?_ | refine WPc.skip ?_ | refine WPc.region ?_
     | (refine isCond ?_; first | refine WPc.cT ?_ | refine WPc.cF ?_ | (refine WPc.cQ (fun hc => ?_) (fun hc => ?_) <;> try exact prA))
     | (show WPl _ _ _ _ _ _ _ (⟨_, .convert _ _ _, _, _, _, _⟩ :: _) _; refine WPl.rdX (ReadR.conv rfl conv_u8) ?_)
     | (refine isOp ?_; first | refine WPl.rd ?_ | refine WPl.sk ?_ | refine WPl.rdB ?_)
     | (refine isSt ?_; first | refine WPl.st1 ?_ | refine WPl.stA ?_ | refine WPl.stEB ?_ | refine WPl.stRB ?_)
     | (show WPl _ _ _ _ _ _ _ (⟨_, .indexAddr _ _ _, _, _, _, _⟩ :: _) _; refine WPl.rdX (ReadR.indexE rfl rfl hasA (by first | assumption | omega)) ?_)
     | (show WPl _ _ _ _ _ _ _ (⟨_, .fieldAddr _ _ _, _, _, _, _⟩ :: _) _; refine WPl.rdX (ReadR.fieldE rfl hasA (by first | assumption | omega)) ?_)
     | (show WPl _ _ _ _ _ _ _ (⟨_, .load _ _, _, _, _, _⟩ :: _) _; first | refine WPl.rdX (ReadR.loadE rfl hasA (by assumption)) ?_ | refine WPl.rdX (ReadR.loadES (by assumption) (by first | assumption | omega) rfl hasA) ?_)
     | (show WPl _ _ _ _ _ _ _ (⟨_, .slice _ _ _ _ _, _, _, _, _⟩ :: _) _; first | refine WPl.rdX (ReadR.sliceH rfl rfl hasA (by omega)) ?_ | refine WPl.rdX (ReadR.sliceL rfl rfl hasA (by omega)) ?_ | refine WPl.rdX (ReadR.sliceLH rfl rfl rfl hasA (by omega) (by omega)) ?_)
     | (refine WPl.spQ (fun hc => ?_) (fun hc => ?_) <;> try exact prA)
     | fail)
    · have : o = false := by simpa using hc
      subst this
      have hp : par (!odd) (l.take i) = true := by simpa using hc2.symm
      rw [hp] at e1 e2
      rw [show ((c : Int) + ((l.getD i 0).toNat : Int) * 2 ^ 8) = ((c + 256 * (l.getD i 0).toNat : Nat) : Int) by omega]
      exact WPq.rnd (i + 1, c + 256 * (l.getD i 0).toNat, true) ⟨by show i + 1 ≤ _; omega, by show _ = m + wsum _ _; rw [e1]; simp; omega, by show true = _; rw [e2]; rfl⟩ (by show _ - (i + 1) < km; omega)
    · have : o = true := by simpa using hc
      subst this
      have hp : par (!odd) (l.take i) = false := by simpa using hc2.symm
      rw [hp] at e1 e2
      rw [show ((c : Int) + ((l.getD i 0).toNat : Int)) = ((c + (l.getD i 0).toNat : Nat) : Int) by omega]
      exact WPq.rnd (i + 1, c + (l.getD i 0).toNat, false) ⟨by show i + 1 ≤ _; omega, by show _ = m + wsum _ _; rw [e1]; simp; omega, by show false = _; rw [e2]; rfl⟩ (by show _ - (i + 1) < km; omega)
  · obtain rfl : i = l.length := by omega
    rw [List.take_length] at hc1 hc2
    obtain rfl : m' = c := by omega
    obtain rfl : odd' = o := by rw [h2, hc2]
    repeat' (first
     | refine WPl.nil ?_ | refine WPq.then ?_ | refine WPq.thenR ?_ | refine WPq.thenE ?_ | refine WPq.blockN ?_ | refine WPq.blockR ?_ | refine WPq.blockE ?_ | refine WPq.blockO rfl ?_ | refine WPc.seq ?_ | refine WPc.block ?_ | refine WPc.ret ?_ | refine WPc.exit ?_ | refine WPc.skip ?_ | refine WPc.region ?_
     | (refine isCond ?_; first | refine WPc.cT ?_ | refine WPc.cF ?_ | (refine WPc.cQ (fun hc => ?_) (fun hc => ?_) <;> try exact prA))
     | (refine isOp ?_; first | refine WPl.rd ?_ | refine WPl.sk ?_ | refine WPl.rdB ?_)
     | (refine isSt ?_; first | refine WPl.st1 ?_ | refine WPl.stA ?_ | refine WPl.stEB ?_ | refine WPl.stRB ?_)
     | (show WPl _ _ _ _ _ _ _ (⟨_, .indexAddr _ _ _, _, _, _, _⟩ :: _) _; refine WPl.rdX (ReadR.indexE rfl rfl hasA (by first | assumption | omega)) ?_)
     | (show WPl _ _ _ _ _ _ _ (⟨_, .fieldAddr _ _ _, _, _, _, _⟩ :: _) _; refine WPl.rdX (ReadR.fieldE rfl hasA (by first | assumption | omega)) ?_)
     | (show WPl _ _ _ _ _ _ _ (⟨_, .load _ _, _, _, _, _⟩ :: _) _; first | refine WPl.rdX (ReadR.loadE rfl hasA (by assumption)) ?_ | refine WPl.rdX (ReadR.loadES (by assumption) (by first | assumption | omega) rfl hasA) ?_)
     | (show WPl _ _ _ _ _ _ _ (⟨_, .slice _ _ _ _ _, _, _, _, _⟩ :: _) _; first | refine WPl.rdX (ReadR.sliceH rfl rfl hasA (by omega)) ?_ | refine WPl.rdX (ReadR.sliceL rfl rfl hasA (by omega)) ?_ | refine WPl.rdX (ReadR.sliceLH rfl rfl rfl hasA (by omega) (by omega)) ?_)
     | (refine WPl.spQ (fun hc => ?_) (fun hc => ?_) <;> try exact prA)
     | fail)
    all_goals try (first | exact WPq.dTp | exact WPq.dTs | exact WPq.dV | exact WPq.dR | exact WPq.dR2 | exact WPq.dH | exact WPq.dBH | exact WPq.dT)

theorem folded_t (m : Nat) (hm : m ≤ 18446744073709551615) : Triple Try.prog 58 #[.int .u64 m] [] (RVal (.int .u16 (fold m))) := by
  refine Triple.enter Try.func58 rfl Try.ntmps58 rfl (fun W => ?_)
  dsimp only [argsF, Nat.reduceAdd]
  repeat' (first
   | refine WPl.nil ?_ | refine WPq.then ?_ | refine WPq.thenR ?_ | refine WPq.thenE ?_ | refine WPq.blockN ?_ | refine WPq.blockR ?_ | refine WPq.blockE ?_ | refine WPq.blockO rfl ?_ | refine WPc.seq ?_ | refine WPc.block ?_ | refine WPc.ret ?_ | refine WPc.exit ?_ | refine WPc.skip ?_ | refine WPc.region ?_
   | (refine isCond ?_; first | refine WPc.cT ?_ | refine WPc.cF ?_)
   | (refine isOp ?_; first | refine WPl.rd ?_ | refine WPl.sk ?_ | refine WPl.rdB ?_)
   | (show WPl _ _ _ _ _ _ _ (⟨_, .indexAddr _ _ _, _, _, _, _⟩ :: _) _; refine WPl.rdX (ReadR.indexE rfl rfl hasA (by first | assumption | omega)) ?_)
   | (show WPl _ _ _ _ _ _ _ (⟨_, .fieldAddr _ _ _, _, _, _, _⟩ :: _) _; refine WPl.rdX (ReadR.fieldE rfl hasA (by first | assumption | omega)) ?_)
   | (show WPl _ _ _ _ _ _ _ (⟨_, .load _ _, _, _, _, _⟩ :: _) _; first | refine WPl.rdX (ReadR.loadE rfl hasA (by assumption)) ?_ | refine WPl.rdX (ReadR.loadES (by assumption) (by first | assumption | omega) rfl hasA) ?_)
   | (show WPl _ _ _ _ _ _ _ (⟨_, .slice _ _ _ _ _, _, _, _, _⟩ :: _) _; first | refine WPl.rdX (ReadR.sliceH rfl rfl hasA (by omega)) ?_ | refine WPl.rdX (ReadR.sliceL rfl rfl hasA (by omega)) ?_ | refine WPl.rdX (ReadR.sliceLH rfl rfl rfl hasA (by omega) (by omega)) ?_)
   | fail)
  first | refine WPc.loop (σ := Nat) (fun n => n ≤ 18446744073709551615 ∧ fold n = fold m) (fun n => []) (fun n => [(0, .int .u64 n)]) (fun n => n) (m) ?_ takesA frsA (fun st km hx hk => ?_)
  · exact ⟨hm, rfl⟩
  obtain ⟨c, rfl⟩ : ∃ c, c = st := ⟨_, rfl⟩
  obtain ⟨h1, h2⟩ := hx
  by_cases hlt : 65535 < c
  · skip
    repeat' (first
     | refine WPl.nil ?_ | refine WPq.then ?_ | refine WPq.thenR ?_ | refine WPq.thenE ?_ | refine WPq.blockN ?_ | refine WPq.blockR ?_ | refine WPq.blockE ?_ | refine WPq.blockO rfl ?_ | refine WPc.seq ?_ | refine WPc.block ?_ | refine WPc.ret ?_ | refine WPc.exit ?_ | refine WPc.skip ?_ | refine WPc.region ?_
     | (refine isCond ?_; first | refine WPc.cT ?_ | refine WPc.cF ?_ | (refine WPc.cQ (fun hc => ?_) (fun hc => ?_) <;> try exact prA))
     | (refine isOp ?_; first | refine WPl.rd ?_ | refine WPl.sk ?_ | refine WPl.rdB ?_)
     | (show WPl _ _ _ _ _ _ _ (⟨_, .indexAddr _ _ _, _, _, _, _⟩ :: _) _; refine WPl.rdX (ReadR.indexE rfl rfl hasA (by first | assumption | omega)) ?_)
     | (show WPl _ _ _ _ _ _ _ (⟨_, .fieldAddr _ _ _, _, _, _, _⟩ :: _) _; refine WPl.rdX (ReadR.fieldE rfl hasA (by first | assumption | omega)) ?_)
     | (show WPl _ _ _ _ _ _ _ (⟨_, .load _ _, _, _, _, _⟩ :: _) _; first | refine WPl.rdX (ReadR.loadE rfl hasA (by assumption)) ?_ | refine WPl.rdX (ReadR.loadES (by assumption) (by first | assumption | omega) rfl hasA) ?_)
     | (show WPl _ _ _ _ _ _ _ (⟨_, .slice _ _ _ _ _, _, _, _, _⟩ :: _) _; first | refine WPl.rdX (ReadR.sliceH rfl rfl hasA (by omega)) ?_ | refine WPl.rdX (ReadR.sliceL rfl rfl hasA (by omega)) ?_ | refine WPl.rdX (ReadR.sliceLH rfl rfl rfl hasA (by omega) (by omega)) ?_)
     | (refine WPl.spQ (fun hc => ?_) (fun hc => ?_) <;> try exact prA)
     | fail)
    refine WPq.rnd (c % 65536 + c / 65536) ⟨by omega, by rw [fold_step, h2]⟩ (by omega) takesA ?_
    rw [show (((c % 65536 + c / 65536 : Nat) : Int)) = (c : Int) % (65535 + 1) + (c : Int) / 2 ^ 16 by omega]
    exact frsA
  · have e : fold c = c := fold_low (by omega)
    repeat' (first
     | refine WPl.nil ?_ | refine WPq.then ?_ | refine WPq.thenR ?_ | refine WPq.thenE ?_ | refine WPq.blockN ?_ | refine WPq.blockR ?_ | refine WPq.blockE ?_ | refine WPq.blockO rfl ?_ | refine WPc.seq ?_ | refine WPc.block ?_ | refine WPc.ret ?_ | refine WPc.exit ?_ | refine WPc.skip ?_ | refine WPc.region ?_
     | (refine isCond ?_; first | refine WPc.cT ?_ | refine WPc.cF ?_ | (refine WPc.cQ (fun hc => ?_) (fun hc => ?_) <;> try exact prA))
     | (refine isOp ?_; first | refine WPl.rd ?_ | refine WPl.sk ?_ | refine WPl.rdB ?_)
     | (show WPl _ _ _ _ _ _ _ (⟨_, .indexAddr _ _ _, _, _, _, _⟩ :: _) _; refine WPl.rdX (ReadR.indexE rfl rfl hasA (by first | assumption | omega)) ?_)
     | (show WPl _ _ _ _ _ _ _ (⟨_, .fieldAddr _ _ _, _, _, _, _⟩ :: _) _; refine WPl.rdX (ReadR.fieldE rfl hasA (by first | assumption | omega)) ?_)
     | (show WPl _ _ _ _ _ _ _ (⟨_, .load _ _, _, _, _, _⟩ :: _) _; first | refine WPl.rdX (ReadR.loadE rfl hasA (by assumption)) ?_ | refine WPl.rdX (ReadR.loadES (by assumption) (by first | assumption | omega) rfl hasA) ?_)
     | (show WPl _ _ _ _ _ _ _ (⟨_, .slice _ _ _ _ _, _, _, _, _⟩ :: _) _; first | refine WPl.rdX (ReadR.sliceH rfl rfl hasA (by omega)) ?_ | refine WPl.rdX (ReadR.sliceL rfl rfl hasA (by omega)) ?_ | refine WPl.rdX (ReadR.sliceLH rfl rfl rfl hasA (by omega) (by omega)) ?_)
     | (refine WPl.spQ (fun hc => ?_) (fun hc => ?_) <;> try exact prA)
     | fail)
    exact WPq.dV (hc := by rw [← h2, e]; rfl)

theorem isum_t (v : Value) (vs : List Value) (ls : List (List UInt8)) (n : Nat) (hn : n = 65535 - fold (wsum true ls.flatten)) (h : vs.length = ls.length) (hl : ls.flatten.length ≤ 1000000) (h0 : vs.length ≤ 1000000) :
    Triple Try.prog 73 #[v] (rdN v vs.length vs :: rbz vs ls) (RVal (.int .u16 n)) := by
  refine Triple.enter Try.func73 rfl Try.ntmps73 rfl (fun W => ?_)
  dsimp only [argsF, Nat.reduceAdd]
  repeat' (first
   | refine WPl.nil ?_ | refine WPq.then ?_ | refine WPq.thenR ?_ | refine WPq.thenE ?_ | refine WPq.blockN ?_ | refine WPq.blockR ?_ | refine WPq.blockE ?_ | refine WPq.blockO rfl ?_ | refine WPc.seq ?_ | refine WPc.block ?_ | refine WPc.ret ?_ | refine WPc.exit ?_ | refine WPc.skip ?_ | refine WPc.region ?_
   | (refine isCond ?_; first | refine WPc.cT ?_ | refine WPc.cF ?_)
   | (refine isOp ?_; first | refine WPl.rd ?_ | refine WPl.sk ?_ | refine WPl.rdB ?_)
   | (refine isBx ?_; refine WPl.nw fun g => ?_)
   | (show WPl _ _ _ _ _ _ _ (⟨_, .indexAddr _ _ _, _, _, _, _⟩ :: _) _; refine WPl.rdX (ReadR.indexE rfl rfl hasA (by first | assumption | omega)) ?_)
   | (show WPl _ _ _ _ _ _ _ (⟨_, .fieldAddr _ _ _, _, _, _, _⟩ :: _) _; refine WPl.rdX (ReadR.fieldE rfl hasA (by first | assumption | omega)) ?_)
   | (show WPl _ _ _ _ _ _ _ (⟨_, .load _ _, _, _, _, _⟩ :: _) _; first | refine WPl.rdX (ReadR.loadE rfl hasA (by assumption)) ?_ | refine WPl.rdX (ReadR.loadES (by assumption) (by first | assumption | omega) rfl hasA) ?_)
   | (show WPl _ _ _ _ _ _ _ (⟨_, .slice _ _ _ _ _, _, _, _, _⟩ :: _) _; first | refine WPl.rdX (ReadR.sliceH rfl rfl hasA (by omega)) ?_ | refine WPl.rdX (ReadR.sliceL rfl rfl hasA (by omega)) ?_ | refine WPl.rdX (ReadR.sliceLH rfl rfl rfl hasA (by omega) (by omega)) ?_)
   | fail)
  first | refine WPc.loop (σ := Nat × Nat × Bool) (fun p => p.1 ≤ ls.length ∧ p.2.1 = wsum true (ls.take p.1).flatten ∧ p.2.2 = !(par true (ls.take p.1).flatten)) (fun p => adr g p.2.1 p.2.2 :: rdN v vs.length vs :: rbz vs ls) (fun p => [(3, .pointer (some ⟨g, 0, none⟩)), (8, v), (9, .int .i64 vs.length), (10, .int .i64 p.1)]) (fun p => ls.length - p.1) ((0, 0, false)) ?_ takesA frsA (fun st km hx hk => ?_)
  · simp [wsum, par]
  obtain ⟨i, c, o⟩ := st
  dsimp only at hx hk ⊢
  obtain ⟨hi, hc1, hc2⟩ := hx
  by_cases hlt : i < ls.length
  · obtain ⟨u, hu⟩ : ∃ u, vs[i]? = some u := ⟨_, List.getElem?_eq_getElem (by omega)⟩
    obtain ⟨l, hl'⟩ : ∃ l, ls[i]? = some l := ⟨_, List.getElem?_eq_getElem hlt⟩
    refine WPc.dup (A := rb u l) (List.Mem.tail _ (List.Mem.tail _ (mem_rbz hu hl'))) rdN_own ?_
    have e : (ls.take (i + 1)).flatten = (ls.take i).flatten ++ l := by rw [List.take_add_one, hl']; simp
    have hle : ((ls.take i).flatten ++ l).length ≤ ls.flatten.length := by
      rw [← e, ← List.take_append_drop (i + 1) ls, List.flatten_append]; simp
    rw [List.length_append] at hle
    have hw := wsum_le true (ls.take i).flatten
    have hbd : c ≤ 100000000000000 := by omega
    have e1 := wsum_append true (ls.take i).flatten l
    have e2 := par_append true (ls.take i).flatten l
    have e3 : par true (ls.take i).flatten = !o := by rw [hc2]; simp
    rw [e3] at e1 e2
    repeat' (first
     | refine WPl.nil ?_ | refine WPq.then ?_ | refine WPq.thenR ?_ | refine WPq.thenE ?_ | refine WPq.blockN ?_ | refine WPq.blockR ?_ | refine WPq.blockE ?_ | refine WPq.blockO rfl ?_ | refine WPc.seq ?_ | refine WPc.block ?_ | refine WPc.ret ?_ | refine WPc.exit ?_ | refine WPc.skip ?_ | refine WPc.region ?_
     | (refine isCond ?_; first | refine WPc.cT ?_ | refine WPc.cF ?_ | (refine WPc.cQ (fun hc => ?_) (fun hc => ?_) <;> try exact prA))
     | (show WPl _ _ _ _ _ _ _ (⟨_, .load _ _, _, _, _, _⟩ :: _) _; refine WPl.rdX ((by apply ReadR.loadE; exact rfl; exact hasA; exact hu)) ?_)
     | (refine isCl ?_; refine WPl.cT (add_t g c o u l _ _ rfl rfl (by omega) (by omega)) ?_)
     | (refine isOp ?_; first | refine WPl.rd ?_ | refine WPl.sk ?_ | refine WPl.rdB ?_)
     | (refine isBx ?_; refine WPl.nw fun g => ?_)
     | (show WPl _ _ _ _ _ _ _ (⟨_, .indexAddr _ _ _, _, _, _, _⟩ :: _) _; refine WPl.rdX (ReadR.indexE rfl rfl hasA (by first | assumption | omega)) ?_)
     | (show WPl _ _ _ _ _ _ _ (⟨_, .fieldAddr _ _ _, _, _, _, _⟩ :: _) _; refine WPl.rdX (ReadR.fieldE rfl hasA (by first | assumption | omega)) ?_)
     | (show WPl _ _ _ _ _ _ _ (⟨_, .load _ _, _, _, _, _⟩ :: _) _; first | refine WPl.rdX (ReadR.loadE rfl hasA (by assumption)) ?_ | refine WPl.rdX (ReadR.loadES (by assumption) (by first | assumption | omega) rfl hasA) ?_)
     | (show WPl _ _ _ _ _ _ _ (⟨_, .slice _ _ _ _ _, _, _, _, _⟩ :: _) _; first | refine WPl.rdX (ReadR.sliceH rfl rfl hasA (by omega)) ?_ | refine WPl.rdX (ReadR.sliceL rfl rfl hasA (by omega)) ?_ | refine WPl.rdX (ReadR.sliceLH rfl rfl rfl hasA (by omega) (by omega)) ?_)
     | (refine WPl.spQ (fun hc => ?_) (fun hc => ?_) <;> try exact prA)
     | fail)
    exact WPq.rnd (i + 1, c + wsum (!o) l, !(par (!o) l)) ⟨by show i + 1 ≤ _; omega, by show _ = wsum true _; rw [e, e1, hc1], by show _ = !(par true _); rw [e, e2]⟩ (by show _ - (i + 1) < km; omega)
  · obtain rfl : i = ls.length := by omega
    rw [List.take_length] at hc1 hc2
    have hw := wsum_le true ls.flatten
    have hf := fold_le c
    repeat' (first
     | refine WPl.nil ?_ | refine WPq.then ?_ | refine WPq.thenR ?_ | refine WPq.thenE ?_ | refine WPq.blockN ?_ | refine WPq.blockR ?_ | refine WPq.blockE ?_ | refine WPq.blockO rfl ?_ | refine WPc.seq ?_ | refine WPc.block ?_ | refine WPc.ret ?_ | refine WPc.exit ?_ | refine WPc.skip ?_ | refine WPc.region ?_
     | (refine isCond ?_; first | refine WPc.cT ?_ | refine WPc.cF ?_ | (refine WPc.cQ (fun hc => ?_) (fun hc => ?_) <;> try exact prA))
     | (refine isCl ?_; refine WPl.cV (folded_t c (by omega)) ?_)
     | (refine isOp ?_; first | refine WPl.rd ?_ | refine WPl.sk ?_ | refine WPl.rdB ?_)
     | (refine isBx ?_; refine WPl.nw fun g => ?_)
     | (show WPl _ _ _ _ _ _ _ (⟨_, .indexAddr _ _ _, _, _, _, _⟩ :: _) _; refine WPl.rdX (ReadR.indexE rfl rfl hasA (by first | assumption | omega)) ?_)
     | (show WPl _ _ _ _ _ _ _ (⟨_, .fieldAddr _ _ _, _, _, _, _⟩ :: _) _; refine WPl.rdX (ReadR.fieldE rfl hasA (by first | assumption | omega)) ?_)
     | (show WPl _ _ _ _ _ _ _ (⟨_, .load _ _, _, _, _, _⟩ :: _) _; first | refine WPl.rdX (ReadR.loadE rfl hasA (by assumption)) ?_ | refine WPl.rdX (ReadR.loadES (by assumption) (by first | assumption | omega) rfl hasA) ?_)
     | (show WPl _ _ _ _ _ _ _ (⟨_, .slice _ _ _ _ _, _, _, _, _⟩ :: _) _; first | refine WPl.rdX (ReadR.sliceH rfl rfl hasA (by omega)) ?_ | refine WPl.rdX (ReadR.sliceL rfl rfl hasA (by omega)) ?_ | refine WPl.rdX (ReadR.sliceLH rfl rfl rfl hasA (by omega) (by omega)) ?_)
     | (refine WPl.spQ (fun hc => ?_) (fun hc => ?_) <;> try exact prA)
     | fail)
    exact WPq.dV (hc := by
      show Value.int .u16 _ = Value.int .u16 _
      congr 1
      simp only [kmax]
      rw [hn, ← hc1]; omega)
theorem igood_t (v : Value) (vs : List Value) (ls : List (List UInt8)) (b : Bool) (hb : b = decide (csum ls.flatten = 0)) (h : vs.length = ls.length) (hl : ls.flatten.length ≤ 1000000) (h0 : vs.length ≤ 1000000) :
    Triple Try.prog 68 #[v] (rdN v vs.length vs :: rbz vs ls) (RVal (.bool b)) := by
  refine Triple.enter Try.func68 rfl Try.ntmps68 rfl (fun W => ?_)
  dsimp only [argsF, Nat.reduceAdd]
  repeat' (first
   | refine WPl.nil ?_ | refine WPq.then ?_ | refine WPq.thenR ?_ | refine WPq.thenE ?_ | refine WPq.blockN ?_ | refine WPq.blockR ?_ | refine WPq.blockE ?_ | refine WPq.blockO rfl ?_ | refine WPc.seq ?_ | refine WPc.block ?_ | refine WPc.ret ?_ | refine WPc.exit ?_ | refine WPc.skip ?_ | refine WPc.region ?_
   | (refine isCond ?_; first | refine WPc.cT ?_ | refine WPc.cF ?_ | (refine WPc.cQ (fun hc => ?_) (fun hc => ?_) <;> try exact prA))
   | (refine isCl ?_; refine WPl.cV (isum_t v vs ls _ rfl h hl h0) ?_)
   | (refine isOp ?_; first | refine WPl.rd ?_ | refine WPl.sk ?_ | refine WPl.rdB ?_)
   | (show WPl _ _ _ _ _ _ _ (⟨_, .indexAddr _ _ _, _, _, _, _⟩ :: _) _; refine WPl.rdX (ReadR.indexE rfl rfl hasA (by first | assumption | omega)) ?_)
   | (show WPl _ _ _ _ _ _ _ (⟨_, .fieldAddr _ _ _, _, _, _, _⟩ :: _) _; refine WPl.rdX (ReadR.fieldE rfl hasA (by first | assumption | omega)) ?_)
   | (show WPl _ _ _ _ _ _ _ (⟨_, .load _ _, _, _, _, _⟩ :: _) _; first | refine WPl.rdX (ReadR.loadE rfl hasA (by assumption)) ?_ | refine WPl.rdX (ReadR.loadES (by assumption) (by first | assumption | omega) rfl hasA) ?_)
   | (show WPl _ _ _ _ _ _ _ (⟨_, .slice _ _ _ _ _, _, _, _, _⟩ :: _) _; first | refine WPl.rdX (ReadR.sliceH rfl rfl hasA (by omega)) ?_ | refine WPl.rdX (ReadR.sliceL rfl rfl hasA (by omega)) ?_ | refine WPl.rdX (ReadR.sliceLH rfl rfl rfl hasA (by omega) (by omega)) ?_)
   | (refine WPl.spQ (fun hc => ?_) (fun hc => ?_) <;> try exact prA)
   | fail)
  exact WPq.dV (hc := by rw [hb]; exact boolV (by unfold csum; omega))

end Go.Proofs.Ytjfhiifpnpokpaa
