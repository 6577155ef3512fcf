/- What the row of partsFew_holds needs: part 8. -/
import Derived.Test.YtmdihpanaljkfaaPFw7
/- Layer 35 (parts): a piece of a packet: contracts. -/
namespace Go.Proofs.Ytmdihpanaljkfaa
open Go.RowKit
set_option linter.unusedVariables false
set_option linter.unusedSimpArgs false
/-- A slice's first n cells, and no room behind them. -/
def cut3 (v : Value) (n : Nat) : Value := match v with | .slice a _ _ => .slice a n n | u => u
theorem HasS.cut3 {Γ : List Asn} {v : Value} {l : List UInt8} {n : Nat} (h : HasS Γ v l.length (u8s l)) (hn : n ≤ l.length) : HasS Γ (Go.Proofs.Ytmdihpanaljkfaa.cut3 v n) (seg l 0 n).length (u8s (seg l 0 n)) := fun w hw => by
  have hl : (seg l 0 n).length = n := seg_length (by omega)
  rw [hl]
  rcases h w hw with ⟨rfl, h1, h2⟩ | ⟨ad, cap, rfl, h1, h2, h3⟩
  · have h0 : n = 0 := by omega
    subst h0
    exact .inl ⟨rfl, rfl, by simp [seg, u8s]⟩
  · refine .inr ⟨ad, n, rfl, Nat.le_refl _, by omega, fun i u hu => h3 i u ?_⟩
    unfold seg at hu
    rw [List.drop_zero, ← u8s_take, List.getElem?_take] at hu
    split at hu
    · exact hu
    · cases hu
theorem cut3_block {v : Value} {n : Nat} : ∀ g, (Go.Proofs.Ytmdihpanaljkfaa.cut3 v n).ownBlock = some g → v.ownBlock = some g := by
  intro g h
  unfold Go.Proofs.Ytmdihpanaljkfaa.cut3 at h
  split at h
  · rename_i a l c
    cases a with
    | none => simp [Value.ownBlock] at h
    | some a => simpa [Value.ownBlock] using h
  · exact h
theorem WPc.cutRd {P : Program} {m : Nat} {W : World} {S : Nat → Prop} {Γ : List Asn} {F : List (Nat × Value)} {Q : Exit → Act → World → Prop} {c : Code} {v : Value} {l : List UInt8} (n : Nat) (hm : rb v l ∈ Γ) (hn : n ≤ l.length) (h : WPc P m W S (rb (Go.Proofs.Ytmdihpanaljkfaa.cut3 v n) (seg l 0 n) :: Γ) F c Q) : WPc P m W S Γ F c Q := fun a w hf hg =>
  h a w hf (hg.more hm rfl rfl (fun g hg => ⟨fun e => hg.1 (by
    have : l = [] := by cases l with | nil => rfl | cons x l => cases e
    rw [this]; simp [seg, u8s]), cut3_block g hg.2⟩) fun w hw => (HasS.cut3 (Γ := [rb v l]) (HasS.rd (List.mem_singleton.2 rfl)) hn) w fun A hA => by rw [List.mem_singleton.1 hA]; exact hw)
theorem ReadR.slice3B {P : Program} {m : Nat} {Γ : List Asn} {F : List (Nat × Value)} {d : Option Tmp} {ty : TypeId} {pos : String} {af : Array Edge} {gd : Option (Nat × Bool)} {T e : TypeId} {ag : Bool} [hT : SliI P T e] [he : TyI P e ag 1] {x hi mx : Operand} {v : Value} {l : List UInt8} {n : Nat} {k2 k3 : IntKind} (hx : evF F x = some v) (hh : evF F hi = some (.int k2 (Int.ofNat n))) (hm : evF F mx = some (.int k3 (Int.ofNat n))) (h : HasS Γ v l.length (u8s l)) (hn : n ≤ l.length) (h0 : 0 < n) :
    ReadR P m Γ F ⟨d, .slice T x none (some hi) (some mx), ty, pos, af, gd⟩ (Go.Proofs.Ytmdihpanaljkfaa.cut3 v n) := fun ρ w hf hw => by
  rcases h w hw with ⟨rfl, h1, h2⟩ | ⟨ad, cap, rfl, h1, h2, h3⟩
  · omega
  · have b0 : ∀ c, (Instr.sliceBound (.int k3 (Int.ofNat n)) cap c).run P w = .ok n w := fun c => run_bound (by omega)
    have b1 : ∀ c, (Instr.sliceBound (.int k2 (Int.ofNat n)) n c).run P w = .ok n w := fun c => run_bound (Nat.le_refl _)
    have ha : ad.add 0 = ad := by
      unfold Addr.add
      split <;> simp_all
    simp only [execOp, hf.eval hx, hf.eval hh, hf.eval hm, Option.map_some, Option.map_none, Instr.sliceAt, Instr.slice, run_underlying hT.und, Sem.run_bind, Result.andThen_ok, Instr.sliceBounds, Sem.run_pure, if_true, b0, b1, he.run_sizeOf, Option.isSome_some, Option.isSome_none, Bool.false_eq_true, if_false, Nat.sub_zero, Nat.zero_mul, ha, ite_self]
    simp [Go.Proofs.Ytmdihpanaljkfaa.cut3]
open Go.RowKit
set_option linter.unusedSimpArgs false
set_option linter.unusedVariables false
set_option maxRecDepth 20000
set_option maxHeartbeats 4000000
attribute [local irreducible] WPc WPl WPq ReadR OpT BinR HasS bx rdN rowN Take Takes Prov Triple ResF BuildP Done ag Int.decLt Int.decLe Int.instDecidableEq
attribute [local irreducible] be csum over seg
/-- A piece: the head of a packet with another size, number, place; its sum anew. -/
def pcH (b d : List UInt8) : List UInt8 := [seg b 0 20, d].flatten
def pcW (pos : Nat) (more : Bool) : Nat := pos / 8 + (if more then 8192 else 0)
def pcX (b d : List UInt8) (id pos : Nat) (more : Bool) : List UInt8 := over (over (over (over (pcH b d) 2 (be (pcH b d).length 2)) 4 (be id 2)) 6 (be (pcW pos more) 2)) 10 [0, 0]
def pcL (b d : List UInt8) (id pos : Nat) (more : Bool) : List UInt8 := over (pcX b d id pos more) 10 (be (csum (seg (pcX b d id pos more) 0 20)) 2)
theorem pcH_len {b d : List UInt8} (hb : 20 ≤ b.length) : (pcH b d).length = 20 + d.length := by
  unfold pcH
  rw [List.flatten_cons, List.flatten_cons, List.flatten_nil, List.append_nil, List.length_append, seg_length (by omega)]
theorem BinR.or8192 {P : Program} {T : TypeId} {a : Nat} (ha : a < 8192) : BinR P .or T (.int .u64 (a : Int)) (.int .u64 8192) (.int .u64 ((a + 8192 : Nat) : Int)) := by
  have := BinR.orN (P := P) (T := T) (k := .u64) (a := a) (b := 8192) rfl (by show _ < 2 ^ 64; omega) (by show _ < 2 ^ 64; omega)
  rwa [show a ||| 8192 = a + 8192 from by rw [Nat.or_comm, show (8192 : Nat) = 2 ^ 13 * 1 by decide, ← Nat.two_pow_add_eq_or_of_lt (show a < 2 ^ 13 from ha)]; omega] at this
attribute [local irreducible] pcH
theorem ppiece_t (vb : Value) (b : List UInt8) (vd : Value) (d : List UInt8) (id pos : Nat) (more : Bool) (hb : 20 ≤ b.length) (hbl : b.length ≤ 100000) (hd : d.length ≤ 100000) (hid : id < 65536) (hpos : pos < 65536) : Triple Try.prog 16 #[vb, vd, .int .u16 (id : Int), .int .i64 (pos : Int), .bool more] [rb vb b, rb vd d] (ROb (pcL b d id pos more)) := by
  have hH := pcH_len (b := b) (d := d) hb
  have h20 : (seg b 0 20).length = 20 := seg_length (by omega)
  have hw : pcW pos more < 65536 := by unfold pcW; split <;> omega
  obtain ⟨X0, hX0⟩ : ∃ X0, X0 = pcH b d := ⟨_, rfl⟩
  have hfl : [seg b 0 20, d].flatten = X0 := by rw [hX0]; with_unfolding_all rfl
  rw [← hX0] at hH
  have b1 := be_length X0.length 2
  have b2 := be_length id 2
  have b3 := be_length (pcW pos more) 2
  obtain ⟨X1, hX1⟩ : ∃ X1, X1 = over X0 2 (be X0.length 2) := ⟨_, rfl⟩
  have n1 : X1.length = X0.length := by rw [hX1, over_length (by omega)]
  obtain ⟨X2, hX2⟩ : ∃ X2, X2 = over X1 4 (be id 2) := ⟨_, rfl⟩
  have n2 : X2.length = X0.length := by rw [hX2, over_length (by omega), n1]
  obtain ⟨X3, hX3⟩ : ∃ X3, X3 = over X2 6 (be (pcW pos more) 2) := ⟨_, rfl⟩
  have n3 : X3.length = X0.length := by rw [hX3, over_length (by omega), n2]
  obtain ⟨X4, hX4⟩ : ∃ X4, X4 = over X3 10 (nbs [0, 0]) := ⟨_, rfl⟩
  have n4 : X4.length = X0.length := by rw [hX4, over_length (by rw [show (nbs [0, 0]).length = 2 from rfl]; omega), n3]
  have hs := csum_le (seg X4 0 20)
  have b4 := be_length (csum (seg X4 0 20)) 2
  have hr : pcL b d id pos more = over X4 10 (be (csum (seg X4 0 20)) 2) := by
    have : pcX b d id pos more = X4 := by
      unfold pcX
      rw [← hX0, ← hX1, ← hX2, ← hX3, hX4]
      congr 1
    unfold pcL
    rw [this]
  rw [hr]
  have hw14 : ((pos : Int) / 8) = ((pos / 8 : Nat) : Int) := by omega
  have ht4 : (nbs [0, 0]).take (X3.length - 10) = nbs [0, 0] := List.take_of_length_le (by rw [show (nbs [0, 0]).length = 2 from rfl]; omega)
  have h420 : (seg X4 0 20).length = 20 := seg_length (by omega)
  cases more with
  | false =>
    have hwe : pcW pos false = pos / 8 := by unfold pcW; simp
    rw [hwe] at hX3 b3
    refine Triple.enter Try.func16 rfl Try.ntmps16 rfl (fun W => ?_)
    dsimp only [argsF, Nat.reduceAdd]
    refine WPc.cutRd (v := vb) (l := b) 20 memA hb ?_
    repeat' (first
     | (refine isSeq1 5 ?_; refine Held.it ?_)
     | refine WPl.nil ?_ | refine WPq.then ?_ | refine WPq.thenR ?_ | refine WPq.thenE ?_ | refine WPq.blockN ?_ | refine WPq.blockR ?_ | refine WPq.blockE ?_ | refine WPq.blockO rfl ?_ | refine WPc.seq ?_ | refine WPc.block ?_ | refine WPc.ret ?_ | refine WPc.exit ?_ | refine WPc.skip ?_ | refine WPc.region ?_
     | (refine isCond ?_; first | refine WPc.cT ?_ | refine WPc.cF ?_ | (refine WPc.cQ (fun hc => ?_) (fun hc => ?_) <;> try exact prA))
     | (refine isD 14 ?_; refine WPl.rdX (ReadR.binE rfl rfl (BinR.quoK (by omega) (by omega) (by simp only [kmax]; omega)) (congrArg (Value.int IntKind.i64) hw14)) ?_)
     | (refine isD 20 ?_; refine WPl.rdX (ReadR.slice3B (n := 20) rfl rfl rfl hasA hb (by decide)) ?_)
     | (refine isC 23 ?_; refine WPl.cR ((bytesE_t _ [_, _] [seg b 0 20, d] X0 hfl rfl (by rw [hfl]; omega) (by simp))) fun v23 hv23 => ?_)
     | (refine isLit ?_; refine WPl.lits fun v hv => ?_)
     | (refine isCp ?_; first | refine WPl.cpA fun v => ?_ | refine WPl.cpE fun v => ?_)
     | (refine isOp ?_; first | refine WPl.rd ?_ | refine WPl.sk ?_ | refine WPl.rdB ?_)
     | (show WPl _ _ _ _ _ _ _ (⟨_, .indexAddr _ _ _, _, _, _, _⟩ :: _) _; refine WPl.rdX (ReadR.indexE rfl rfl hasA (by first | assumption | omega)) ?_)
     | (show WPl _ _ _ _ _ _ _ (⟨_, .fieldAddr _ _ _, _, _, _, _⟩ :: _) _; refine WPl.rdX (ReadR.fieldE rfl hasA (by first | assumption | omega)) ?_)
     | (show WPl _ _ _ _ _ _ _ (⟨_, .load _ _, _, _, _, _⟩ :: _) _; first | refine WPl.rdX (ReadR.loadE rfl hasA (by assumption)) ?_ | refine WPl.rdX (ReadR.loadES (by assumption) (by first | assumption | omega) rfl hasA) ?_)
     | (show WPl _ _ _ _ _ _ _ (⟨_, .slice _ _ _ _ _, _, _, _, _⟩ :: _) _; first | refine WPl.rdX (ReadR.sliceH rfl rfl hasA (by omega)) ?_ | refine WPl.rdX (ReadR.sliceL rfl rfl hasA (by omega)) ?_ | refine WPl.rdX (ReadR.sliceLH rfl rfl rfl hasA (by omega) (by omega)) ?_)
     | (refine WPl.spQ (fun hc => ?_) (fun hc => ?_) <;> try exact prA)
     | fail)
    refine ⟨?_⟩
    repeat' (first
     | refine WPl.nil ?_ | refine WPq.then ?_ | refine WPq.thenR ?_ | refine WPq.thenE ?_ | refine WPq.blockN ?_ | refine WPq.blockR ?_ | refine WPq.blockE ?_ | refine WPq.blockO rfl ?_ | refine WPc.seq ?_ | refine WPc.block ?_ | refine WPc.ret ?_ | refine WPc.exit ?_ | refine WPc.skip ?_ | refine WPc.region ?_
     | (refine isReg 5 ?_; refine WPc.drA [([7], [26, 27, 28, 29]), ([0, 7], [24, 26, 27, 28, 29]), ([7], [24, 25]), ([2, 7], [24, 25, 26]), ([2, 3, 7], [24, 25, 26, 27]), ([2, 3, 4, 7], [24, 25, 26, 27, 28]), ([0, 1, 2, 3, 4, 5, 7], [24, 25, 26, 27, 28, 29])] [(7, 6), (7, 0), (7, 1), (7, 2), (7, 3), (7, 4), (7, 5)] (Γx := [ob v23 X0]) ?_; dsimp only [prev0, List.length_nil, List.length_cons])
     | (refine gAny ?_; first | (refine gC 29 ?_; refine RGl.row (Γ1 := fun _ => []) (fun e hk => OpT.callN ((put_t (.slice none 0 0) [] X0.length 2 (by simp) (by omega) (by omega) (by omega)))) ?_) | (refine gOp ?_; first | refine RGl.rdA ?_ | refine RGl.rdX (fun e hk => by (try dsimp only [bndR, ensR, oksR, fcutR, List.append_nil, List.nil_append, List.cons_append, List.append_assoc] at hk ⊢); exact readB) ?_) | (refine gCp ?_; refine RGl.cpA ?_) | (refine RGl.fin (fun e hk => ?_); (try dsimp only [bndA, ensAR, oksA, List.append_nil, List.nil_append, List.cons_append, List.append_assoc] at hk ⊢); (repeat (obtain ⟨hk1, hk⟩ := hk))) | fail)
     | (refine isCond ?_; first | refine WPc.cT ?_ | refine WPc.cF ?_ | (refine WPc.cQ (fun hc => ?_) (fun hc => ?_) <;> try exact prA))
     | (refine isC 29 ?_; refine WPl.cR ((put_t (.slice none 0 0) [] X0.length 2 (by simp) (by omega) (by omega) (by omega))) fun v hv => ?_)
     | (refine isCp ?_; first | refine WPl.cpA fun v => ?_ | refine WPl.cpE fun v => ?_)
     | (refine isOp ?_; first | refine WPl.rd ?_ | refine WPl.sk ?_ | refine WPl.rdB ?_)
     | (show WPl _ _ _ _ _ _ _ (⟨_, .indexAddr _ _ _, _, _, _, _⟩ :: _) _; refine WPl.rdX (ReadR.indexE rfl rfl hasA (by first | assumption | omega)) ?_)
     | (show WPl _ _ _ _ _ _ _ (⟨_, .fieldAddr _ _ _, _, _, _, _⟩ :: _) _; refine WPl.rdX (ReadR.fieldE rfl hasA (by first | assumption | omega)) ?_)
     | (show WPl _ _ _ _ _ _ _ (⟨_, .load _ _, _, _, _, _⟩ :: _) _; first | refine WPl.rdX (ReadR.loadE rfl hasA (by assumption)) ?_ | refine WPl.rdX (ReadR.loadES (by assumption) (by first | assumption | omega) rfl hasA) ?_)
     | (show WPl _ _ _ _ _ _ _ (⟨_, .slice _ _ _ _ _, _, _, _, _⟩ :: _) _; first | refine WPl.rdX (ReadR.sliceH rfl rfl hasA (by omega)) ?_ | refine WPl.rdX (ReadR.sliceL rfl rfl hasA (by omega)) ?_ | refine WPl.rdX (ReadR.sliceLH rfl rfl rfl hasA (by omega) (by omega)) ?_)
     | (refine WPl.spQ (fun hc => ?_) (fun hc => ?_) <;> try exact prA)
     | fail)
    rw [← hX1]
    repeat' (first
     | refine WPl.nil ?_ | refine WPq.then ?_ | refine WPq.thenR ?_ | refine WPq.thenE ?_ | refine WPq.blockN ?_ | refine WPq.blockR ?_ | refine WPq.blockE ?_ | refine WPq.blockO rfl ?_ | refine WPc.seq ?_ | refine WPc.block ?_ | refine WPc.ret ?_ | refine WPc.exit ?_ | refine WPc.skip ?_ | refine WPc.region ?_
     | (refine isReg 6 ?_; refine WPc.drA [([6], [33, 34, 35]), ([0, 6], [31, 33, 34, 35]), ([6], [31, 32]), ([2, 6], [31, 32, 33]), ([2, 3, 6], [31, 32, 33, 34]), ([0, 1, 2, 3, 4, 6], [31, 32, 33, 34, 35])] [(6, 5), (6, 0), (6, 1), (6, 2), (6, 3), (6, 4)] (Γx := [ob v23 X1]) ?_; dsimp only [prev0, List.length_nil, List.length_cons])
     | (refine gAny ?_; first | (refine gC 35 ?_; refine RGl.row (Γ1 := fun _ => []) (fun e hk => OpT.callN ((put_t (.slice none 0 0) [] id 2 (by simp) (by omega) (by omega) (by omega)))) ?_) | (refine gOp ?_; first | refine RGl.rdA ?_ | refine RGl.rdX (fun e hk => by (try dsimp only [bndR, ensR, oksR, fcutR, List.append_nil, List.nil_append, List.cons_append, List.append_assoc] at hk ⊢); exact readB) ?_) | (refine gCp ?_; refine RGl.cpA ?_) | (refine RGl.fin (fun e hk => ?_); (try dsimp only [bndA, ensAR, oksA, List.append_nil, List.nil_append, List.cons_append, List.append_assoc] at hk ⊢); (repeat (obtain ⟨hk1, hk⟩ := hk))) | fail)
     | (refine isCond ?_; first | refine WPc.cT ?_ | refine WPc.cF ?_ | (refine WPc.cQ (fun hc => ?_) (fun hc => ?_) <;> try exact prA))
     | (refine isC 35 ?_; refine WPl.cR ((put_t (.slice none 0 0) [] id 2 (by simp) (by omega) (by omega) (by omega))) fun v hv => ?_)
     | (refine isCp ?_; first | refine WPl.cpA fun v => ?_ | refine WPl.cpE fun v => ?_)
     | (refine isOp ?_; first | refine WPl.rd ?_ | refine WPl.sk ?_ | refine WPl.rdB ?_)
     | (show WPl _ _ _ _ _ _ _ (⟨_, .indexAddr _ _ _, _, _, _, _⟩ :: _) _; refine WPl.rdX (ReadR.indexE rfl rfl hasA (by first | assumption | omega)) ?_)
     | (show WPl _ _ _ _ _ _ _ (⟨_, .fieldAddr _ _ _, _, _, _, _⟩ :: _) _; refine WPl.rdX (ReadR.fieldE rfl hasA (by first | assumption | omega)) ?_)
     | (show WPl _ _ _ _ _ _ _ (⟨_, .load _ _, _, _, _, _⟩ :: _) _; first | refine WPl.rdX (ReadR.loadE rfl hasA (by assumption)) ?_ | refine WPl.rdX (ReadR.loadES (by assumption) (by first | assumption | omega) rfl hasA) ?_)
     | (show WPl _ _ _ _ _ _ _ (⟨_, .slice _ _ _ _ _, _, _, _, _⟩ :: _) _; first | refine WPl.rdX (ReadR.sliceH rfl rfl hasA (by omega)) ?_ | refine WPl.rdX (ReadR.sliceL rfl rfl hasA (by omega)) ?_ | refine WPl.rdX (ReadR.sliceLH rfl rfl rfl hasA (by omega) (by omega)) ?_)
     | (refine WPl.spQ (fun hc => ?_) (fun hc => ?_) <;> try exact prA)
     | fail)
    rw [← hX2]
    repeat' (first
     | (refine isSeq1 8 ?_; refine Held.it ?_)
     | refine WPl.nil ?_ | refine WPq.then ?_ | refine WPq.thenR ?_ | refine WPq.thenE ?_ | refine WPq.blockN ?_ | refine WPq.blockR ?_ | refine WPq.blockE ?_ | refine WPq.blockO rfl ?_ | refine WPc.seq ?_ | refine WPc.block ?_ | refine WPc.ret ?_ | refine WPc.exit ?_ | refine WPc.skip ?_ | refine WPc.region ?_
     | (refine isReg 7 ?_; refine WPc.drA [([5], [39, 40]), ([0, 5], [37, 39, 40]), ([5], [37, 38]), ([2, 5], [37, 38, 39]), ([0, 1, 2, 3, 5], [37, 38, 39, 40])] [(5, 4), (5, 0), (5, 1), (5, 2), (5, 3)] (Γx := [ob v23 X2]) ?_; dsimp only [prev0, List.length_nil, List.length_cons])
     | (refine gAny ?_; first | (refine gC 40 ?_; refine RGl.row (Γ1 := fun _ => []) (fun e hk => OpT.callN ((put_t (.slice none 0 0) [] (pos / 8) 2 (by simp) (by omega) (by omega) (by omega)))) ?_) | (refine gOp ?_; first | refine RGl.rdA ?_ | refine RGl.rdX (fun e hk => by (try dsimp only [bndR, ensR, oksR, fcutR, List.append_nil, List.nil_append, List.cons_append, List.append_assoc] at hk ⊢); exact readB) ?_) | (refine gCp ?_; refine RGl.cpA ?_) | (refine RGl.fin (fun e hk => ?_); (try dsimp only [bndA, ensAR, oksA, List.append_nil, List.nil_append, List.cons_append, List.append_assoc] at hk ⊢); (repeat (obtain ⟨hk1, hk⟩ := hk))) | fail)
     | (refine isCond ?_; first | refine WPc.cT ?_ | refine WPc.cF ?_ | (refine WPc.cQ (fun hc => ?_) (fun hc => ?_) <;> try exact prA))
     | (refine isC 40 ?_; refine WPl.cR ((put_t (.slice none 0 0) [] (pos / 8) 2 (by simp) (by omega) (by omega) (by omega))) fun v hv => ?_)
     | (refine isCp ?_; first | refine WPl.cpA fun v => ?_ | refine WPl.cpE fun v => ?_)
     | (refine isOp ?_; first | refine WPl.rd ?_ | refine WPl.sk ?_ | refine WPl.rdB ?_)
     | (show WPl _ _ _ _ _ _ _ (⟨_, .indexAddr _ _ _, _, _, _, _⟩ :: _) _; refine WPl.rdX (ReadR.indexE rfl rfl hasA (by first | assumption | omega)) ?_)
     | (show WPl _ _ _ _ _ _ _ (⟨_, .fieldAddr _ _ _, _, _, _, _⟩ :: _) _; refine WPl.rdX (ReadR.fieldE rfl hasA (by first | assumption | omega)) ?_)
     | (show WPl _ _ _ _ _ _ _ (⟨_, .load _ _, _, _, _, _⟩ :: _) _; first | refine WPl.rdX (ReadR.loadE rfl hasA (by assumption)) ?_ | refine WPl.rdX (ReadR.loadES (by assumption) (by first | assumption | omega) rfl hasA) ?_)
     | (show WPl _ _ _ _ _ _ _ (⟨_, .slice _ _ _ _ _, _, _, _, _⟩ :: _) _; first | refine WPl.rdX (ReadR.sliceH rfl rfl hasA (by omega)) ?_ | refine WPl.rdX (ReadR.sliceL rfl rfl hasA (by omega)) ?_ | refine WPl.rdX (ReadR.sliceLH rfl rfl rfl hasA (by omega) (by omega)) ?_)
     | (refine WPl.spQ (fun hc => ?_) (fun hc => ?_) <;> try exact prA)
     | fail)
    refine ⟨?_⟩
    rw [← hX3]
    repeat' (first
     | (refine isSeq1 9 ?_; refine Held.it ?_)
     | refine WPl.nil ?_ | refine WPq.then ?_ | refine WPq.thenR ?_ | refine WPq.thenE ?_ | refine WPq.blockN ?_ | refine WPq.blockR ?_ | refine WPq.blockE ?_ | refine WPq.blockO rfl ?_ | refine WPc.seq ?_ | refine WPc.block ?_ | refine WPc.ret ?_ | refine WPc.exit ?_ | refine WPc.skip ?_ | refine WPc.region ?_
     | (refine isCond ?_; first | refine WPc.cT ?_ | refine WPc.cF ?_ | (refine WPc.cQ (fun hc => ?_) (fun hc => ?_) <;> try exact prA))
     | (refine isLit ?_; refine WPl.lit fun v hv => ?_)
     | (refine isCp ?_; first | refine WPl.cpA fun v => ?_ | refine WPl.cpE fun v => ?_)
     | (refine isOp ?_; first | refine WPl.rd ?_ | refine WPl.sk ?_ | refine WPl.rdB ?_)
     | (show WPl _ _ _ _ _ _ _ (⟨_, .indexAddr _ _ _, _, _, _, _⟩ :: _) _; refine WPl.rdX (ReadR.indexE rfl rfl hasA (by first | assumption | omega)) ?_)
     | (show WPl _ _ _ _ _ _ _ (⟨_, .fieldAddr _ _ _, _, _, _, _⟩ :: _) _; refine WPl.rdX (ReadR.fieldE rfl hasA (by first | assumption | omega)) ?_)
     | (show WPl _ _ _ _ _ _ _ (⟨_, .load _ _, _, _, _, _⟩ :: _) _; first | refine WPl.rdX (ReadR.loadE rfl hasA (by assumption)) ?_ | refine WPl.rdX (ReadR.loadES (by assumption) (by first | assumption | omega) rfl hasA) ?_)
     | (show WPl _ _ _ _ _ _ _ (⟨_, .slice _ _ _ _ _, _, _, _, _⟩ :: _) _; first | refine WPl.rdX (ReadR.sliceH rfl rfl hasA (by omega)) ?_ | refine WPl.rdX (ReadR.sliceL rfl rfl hasA (by omega)) ?_ | refine WPl.rdX (ReadR.sliceLH rfl rfl rfl hasA (by omega) (by omega)) ?_)
     | (refine WPl.spQ (fun hc => ?_) (fun hc => ?_) <;> try exact prA)
     | fail)
    refine ⟨?_⟩
    rw [ht4, ← hX4]
    repeat' (first
     | refine WPl.nil ?_ | refine WPq.then ?_ | refine WPq.thenR ?_ | refine WPq.thenE ?_ | refine WPq.blockN ?_ | refine WPq.blockR ?_ | refine WPq.blockE ?_ | refine WPq.blockO rfl ?_ | refine WPc.seq ?_ | refine WPc.block ?_ | refine WPc.ret ?_ | refine WPc.exit ?_ | refine WPc.skip ?_ | refine WPc.region ?_
     | (refine isReg 9 ?_; refine WPc.drA [([9], [48, 49, 50, 51, 52, 53]), ([0, 9], [46, 48, 49, 50, 51, 52, 53]), ([9], [46, 47]), ([2, 9], [46, 47, 48]), ([2, 3, 9], [46, 47, 48, 49]), ([2, 3, 4, 9], [46, 47, 48, 49, 50]), ([2, 3, 4, 5, 9], [46, 47, 48, 49, 50, 51]), ([2, 3, 4, 5, 6, 9], [46, 47, 48, 49, 50, 51, 52]), ([0, 1, 2, 3, 4, 5, 6, 7, 9], [46, 47, 48, 49, 50, 51, 52, 53])] [(9, 8), (9, 0), (9, 1), (9, 2), (9, 3), (9, 4), (9, 5), (9, 6), (9, 7)] (Γx := [ob v23 X4]) ?_; dsimp only [prev0, List.length_nil, List.length_cons])
     | (refine gAny ?_; first | (refine gC 51 ?_; refine RGl.vl (fun e hk => OpT.callN ((isum_t (e 4).1 [subv 1 v23 0 20] [seg X4 0 20] (csum (seg X4 0 20)) (by simp [csum]) rfl (by simp [h420]) (by simp)))) ?_) | (refine gC 53 ?_; refine RGl.row (Γ1 := fun _ => []) (fun e hk => OpT.callN ((put_t (.slice none 0 0) [] (csum (seg X4 0 20)) 2 (by simp) (by omega) (by omega) (by omega)))) ?_) | (refine gOp ?_; first | refine RGl.rdA ?_ | refine RGl.rdX (fun e hk => by (try dsimp only [bndR, ensR, oksR, fcutR, List.append_nil, List.nil_append, List.cons_append, List.append_assoc] at hk ⊢); exact readB) ?_) | (refine gLit ?_; refine RGl.litA ?_) | (refine gCp ?_; refine RGl.cpA ?_) | (refine RGl.fin (fun e hk => ?_); (try dsimp only [bndA, ensAR, oksA, List.append_nil, List.nil_append, List.cons_append, List.append_assoc] at hk ⊢); (repeat (obtain ⟨hk1, hk⟩ := hk))) | fail)
     | (refine isCond ?_; first | refine WPc.cT ?_ | refine WPc.cF ?_ | (refine WPc.cQ (fun hc => ?_) (fun hc => ?_) <;> try exact prA))
     | (refine isC 51 ?_; refine WPl.cV ((isum_t (e 4).1 [subv 1 v23 0 20] [seg X4 0 20] (csum (seg X4 0 20)) (by simp [csum]) rfl (by simp [h420]) (by simp))) ?_)
     | (refine isC 53 ?_; refine WPl.cR ((put_t (.slice none 0 0) [] (csum (seg X4 0 20)) 2 (by simp) (by omega) (by omega) (by omega))) fun v hv => ?_)
     | (refine isCp ?_; first | refine WPl.cpA fun v => ?_ | refine WPl.cpE fun v => ?_)
     | (refine isOp ?_; first | refine WPl.rd ?_ | refine WPl.sk ?_ | refine WPl.rdB ?_)
     | (show WPl _ _ _ _ _ _ _ (⟨_, .indexAddr _ _ _, _, _, _, _⟩ :: _) _; refine WPl.rdX (ReadR.indexE rfl rfl hasA (by first | assumption | omega)) ?_)
     | (show WPl _ _ _ _ _ _ _ (⟨_, .fieldAddr _ _ _, _, _, _, _⟩ :: _) _; refine WPl.rdX (ReadR.fieldE rfl hasA (by first | assumption | omega)) ?_)
     | (show WPl _ _ _ _ _ _ _ (⟨_, .load _ _, _, _, _, _⟩ :: _) _; first | refine WPl.rdX (ReadR.loadE rfl hasA (by assumption)) ?_ | refine WPl.rdX (ReadR.loadES (by assumption) (by first | assumption | omega) rfl hasA) ?_)
     | (show WPl _ _ _ _ _ _ _ (⟨_, .slice _ _ _ _ _, _, _, _, _⟩ :: _) _; first | refine WPl.rdX (ReadR.sliceH rfl rfl hasA (by omega)) ?_ | refine WPl.rdX (ReadR.sliceL rfl rfl hasA (by omega)) ?_ | refine WPl.rdX (ReadR.sliceLH rfl rfl rfl hasA (by omega) (by omega)) ?_)
     | (refine WPl.spQ (fun hc => ?_) (fun hc => ?_) <;> try exact prA)
     | fail)
    exact WPq.dR
  | true =>
    have hwe : pcW pos true = pos / 8 + 8192 := by unfold pcW; simp
    rw [hwe] at hX3 b3
    refine Triple.enter Try.func16 rfl Try.ntmps16 rfl (fun W => ?_)
    dsimp only [argsF, Nat.reduceAdd]
    refine WPc.cutRd (v := vb) (l := b) 20 memA hb ?_
    repeat' (first
     | (refine isSeq1 5 ?_; refine Held.it ?_)
     | refine WPl.nil ?_ | refine WPq.then ?_ | refine WPq.thenR ?_ | refine WPq.thenE ?_ | refine WPq.blockN ?_ | refine WPq.blockR ?_ | refine WPq.blockE ?_ | refine WPq.blockO rfl ?_ | refine WPc.seq ?_ | refine WPc.block ?_ | refine WPc.ret ?_ | refine WPc.exit ?_ | refine WPc.skip ?_ | refine WPc.region ?_
     | (refine isCond ?_; first | refine WPc.cT ?_ | refine WPc.cF ?_ | (refine WPc.cQ (fun hc => ?_) (fun hc => ?_) <;> try exact prA))
     | (refine isD 14 ?_; refine WPl.rdX (ReadR.binE rfl rfl (BinR.quoK (by omega) (by omega) (by simp only [kmax]; omega)) (congrArg (Value.int IntKind.i64) hw14)) ?_)
     | (refine isD 18 ?_; refine WPl.rdX (ReadR.bin rfl rfl (BinR.or8192 (by omega))) ?_)
     | (refine isD 20 ?_; refine WPl.rdX (ReadR.slice3B (n := 20) rfl rfl rfl hasA hb (by decide)) ?_)
     | (refine isC 23 ?_; refine WPl.cR ((bytesE_t _ [_, _] [seg b 0 20, d] X0 hfl rfl (by rw [hfl]; omega) (by simp))) fun v23 hv23 => ?_)
     | (refine isLit ?_; refine WPl.lits fun v hv => ?_)
     | (refine isCp ?_; first | refine WPl.cpA fun v => ?_ | refine WPl.cpE fun v => ?_)
     | (refine isOp ?_; first | refine WPl.rd ?_ | refine WPl.sk ?_ | refine WPl.rdB ?_)
     | (show WPl _ _ _ _ _ _ _ (⟨_, .indexAddr _ _ _, _, _, _, _⟩ :: _) _; refine WPl.rdX (ReadR.indexE rfl rfl hasA (by first | assumption | omega)) ?_)
     | (show WPl _ _ _ _ _ _ _ (⟨_, .fieldAddr _ _ _, _, _, _, _⟩ :: _) _; refine WPl.rdX (ReadR.fieldE rfl hasA (by first | assumption | omega)) ?_)
     | (show WPl _ _ _ _ _ _ _ (⟨_, .load _ _, _, _, _, _⟩ :: _) _; first | refine WPl.rdX (ReadR.loadE rfl hasA (by assumption)) ?_ | refine WPl.rdX (ReadR.loadES (by assumption) (by first | assumption | omega) rfl hasA) ?_)
     | (show WPl _ _ _ _ _ _ _ (⟨_, .slice _ _ _ _ _, _, _, _, _⟩ :: _) _; first | refine WPl.rdX (ReadR.sliceH rfl rfl hasA (by omega)) ?_ | refine WPl.rdX (ReadR.sliceL rfl rfl hasA (by omega)) ?_ | refine WPl.rdX (ReadR.sliceLH rfl rfl rfl hasA (by omega) (by omega)) ?_)
     | (refine WPl.spQ (fun hc => ?_) (fun hc => ?_) <;> try exact prA)
     | fail)
    refine ⟨?_⟩
    repeat' (first
     | refine WPl.nil ?_ | refine WPq.then ?_ | refine WPq.thenR ?_ | refine WPq.thenE ?_ | refine WPq.blockN ?_ | refine WPq.blockR ?_ | refine WPq.blockE ?_ | refine WPq.blockO rfl ?_ | refine WPc.seq ?_ | refine WPc.block ?_ | refine WPc.ret ?_ | refine WPc.exit ?_ | refine WPc.skip ?_ | refine WPc.region ?_
     | (refine isReg 5 ?_; refine WPc.drA [([7], [26, 27, 28, 29]), ([0, 7], [24, 26, 27, 28, 29]), ([7], [24, 25]), ([2, 7], [24, 25, 26]), ([2, 3, 7], [24, 25, 26, 27]), ([2, 3, 4, 7], [24, 25, 26, 27, 28]), ([0, 1, 2, 3, 4, 5, 7], [24, 25, 26, 27, 28, 29])] [(7, 6), (7, 0), (7, 1), (7, 2), (7, 3), (7, 4), (7, 5)] (Γx := [ob v23 X0]) ?_; dsimp only [prev0, List.length_nil, List.length_cons])
     | (refine gAny ?_; first | (refine gC 29 ?_; refine RGl.row (Γ1 := fun _ => []) (fun e hk => OpT.callN ((put_t (.slice none 0 0) [] X0.length 2 (by simp) (by omega) (by omega) (by omega)))) ?_) | (refine gOp ?_; first | refine RGl.rdA ?_ | refine RGl.rdX (fun e hk => by (try dsimp only [bndR, ensR, oksR, fcutR, List.append_nil, List.nil_append, List.cons_append, List.append_assoc] at hk ⊢); exact readB) ?_) | (refine gCp ?_; refine RGl.cpA ?_) | (refine RGl.fin (fun e hk => ?_); (try dsimp only [bndA, ensAR, oksA, List.append_nil, List.nil_append, List.cons_append, List.append_assoc] at hk ⊢); (repeat (obtain ⟨hk1, hk⟩ := hk))) | fail)
     | (refine isCond ?_; first | refine WPc.cT ?_ | refine WPc.cF ?_ | (refine WPc.cQ (fun hc => ?_) (fun hc => ?_) <;> try exact prA))
     | (refine isC 29 ?_; refine WPl.cR ((put_t (.slice none 0 0) [] X0.length 2 (by simp) (by omega) (by omega) (by omega))) fun v hv => ?_)
     | (refine isCp ?_; first | refine WPl.cpA fun v => ?_ | refine WPl.cpE fun v => ?_)
     | (refine isOp ?_; first | refine WPl.rd ?_ | refine WPl.sk ?_ | refine WPl.rdB ?_)
     | (show WPl _ _ _ _ _ _ _ (⟨_, .indexAddr _ _ _, _, _, _, _⟩ :: _) _; refine WPl.rdX (ReadR.indexE rfl rfl hasA (by first | assumption | omega)) ?_)
     | (show WPl _ _ _ _ _ _ _ (⟨_, .fieldAddr _ _ _, _, _, _, _⟩ :: _) _; refine WPl.rdX (ReadR.fieldE rfl hasA (by first | assumption | omega)) ?_)
     | (show WPl _ _ _ _ _ _ _ (⟨_, .load _ _, _, _, _, _⟩ :: _) _; first | refine WPl.rdX (ReadR.loadE rfl hasA (by assumption)) ?_ | refine WPl.rdX (ReadR.loadES (by assumption) (by first | assumption | omega) rfl hasA) ?_)
     | (show WPl _ _ _ _ _ _ _ (⟨_, .slice _ _ _ _ _, _, _, _, _⟩ :: _) _; first | refine WPl.rdX (ReadR.sliceH rfl rfl hasA (by omega)) ?_ | refine WPl.rdX (ReadR.sliceL rfl rfl hasA (by omega)) ?_ | refine WPl.rdX (ReadR.sliceLH rfl rfl rfl hasA (by omega) (by omega)) ?_)
     | (refine WPl.spQ (fun hc => ?_) (fun hc => ?_) <;> try exact prA)
     | fail)
    rw [← hX1]
    repeat' (first
     | refine WPl.nil ?_ | refine WPq.then ?_ | refine WPq.thenR ?_ | refine WPq.thenE ?_ | refine WPq.blockN ?_ | refine WPq.blockR ?_ | refine WPq.blockE ?_ | refine WPq.blockO rfl ?_ | refine WPc.seq ?_ | refine WPc.block ?_ | refine WPc.ret ?_ | refine WPc.exit ?_ | refine WPc.skip ?_ | refine WPc.region ?_
     | (refine isReg 6 ?_; refine WPc.drA [([6], [33, 34, 35]), ([0, 6], [31, 33, 34, 35]), ([6], [31, 32]), ([2, 6], [31, 32, 33]), ([2, 3, 6], [31, 32, 33, 34]), ([0, 1, 2, 3, 4, 6], [31, 32, 33, 34, 35])] [(6, 5), (6, 0), (6, 1), (6, 2), (6, 3), (6, 4)] (Γx := [ob v23 X1]) ?_; dsimp only [prev0, List.length_nil, List.length_cons])
     | (refine gAny ?_; first | (refine gC 35 ?_; refine RGl.row (Γ1 := fun _ => []) (fun e hk => OpT.callN ((put_t (.slice none 0 0) [] id 2 (by simp) (by omega) (by omega) (by omega)))) ?_) | (refine gOp ?_; first | refine RGl.rdA ?_ | refine RGl.rdX (fun e hk => by (try dsimp only [bndR, ensR, oksR, fcutR, List.append_nil, List.nil_append, List.cons_append, List.append_assoc] at hk ⊢); exact readB) ?_) | (refine gCp ?_; refine RGl.cpA ?_) | (refine RGl.fin (fun e hk => ?_); (try dsimp only [bndA, ensAR, oksA, List.append_nil, List.nil_append, List.cons_append, List.append_assoc] at hk ⊢); (repeat (obtain ⟨hk1, hk⟩ := hk))) | fail)
     | (refine isCond ?_; first | refine WPc.cT ?_ | refine WPc.cF ?_ | (refine WPc.cQ (fun hc => ?_) (fun hc => ?_) <;> try exact prA))
     | (refine isC 35 ?_; refine WPl.cR ((put_t (.slice none 0 0) [] id 2 (by simp) (by omega) (by omega) (by omega))) fun v hv => ?_)
     | (refine isCp ?_; first | refine WPl.cpA fun v => ?_ | refine WPl.cpE fun v => ?_)
     | (refine isOp ?_; first | refine WPl.rd ?_ | refine WPl.sk ?_ | refine WPl.rdB ?_)
     | (show WPl _ _ _ _ _ _ _ (⟨_, .indexAddr _ _ _, _, _, _, _⟩ :: _) _; refine WPl.rdX (ReadR.indexE rfl rfl hasA (by first | assumption | omega)) ?_)
     | (show WPl _ _ _ _ _ _ _ (⟨_, .fieldAddr _ _ _, _, _, _, _⟩ :: _) _; refine WPl.rdX (ReadR.fieldE rfl hasA (by first | assumption | omega)) ?_)
     | (show WPl _ _ _ _ _ _ _ (⟨_, .load _ _, _, _, _, _⟩ :: _) _; first | refine WPl.rdX (ReadR.loadE rfl hasA (by assumption)) ?_ | refine WPl.rdX (ReadR.loadES (by assumption) (by first | assumption | omega) rfl hasA) ?_)
     | (show WPl _ _ _ _ _ _ _ (⟨_, .slice _ _ _ _ _, _, _, _, _⟩ :: _) _; first | refine WPl.rdX (ReadR.sliceH rfl rfl hasA (by omega)) ?_ | refine WPl.rdX (ReadR.sliceL rfl rfl hasA (by omega)) ?_ | refine WPl.rdX (ReadR.sliceLH rfl rfl rfl hasA (by omega) (by omega)) ?_)
     | (refine WPl.spQ (fun hc => ?_) (fun hc => ?_) <;> try exact prA)
     | fail)
    rw [← hX2]
    repeat' (first
     | (refine isSeq1 8 ?_; refine Held.it ?_)
     | refine WPl.nil ?_ | refine WPq.then ?_ | refine WPq.thenR ?_ | refine WPq.thenE ?_ | refine WPq.blockN ?_ | refine WPq.blockR ?_ | refine WPq.blockE ?_ | refine WPq.blockO rfl ?_ | refine WPc.seq ?_ | refine WPc.block ?_ | refine WPc.ret ?_ | refine WPc.exit ?_ | refine WPc.skip ?_ | refine WPc.region ?_
     | (refine isReg 7 ?_; refine WPc.drA [([5], [39, 40]), ([0, 5], [37, 39, 40]), ([5], [37, 38]), ([2, 5], [37, 38, 39]), ([0, 1, 2, 3, 5], [37, 38, 39, 40])] [(5, 4), (5, 0), (5, 1), (5, 2), (5, 3)] (Γx := [ob v23 X2]) ?_; dsimp only [prev0, List.length_nil, List.length_cons])
     | (refine gAny ?_; first | (refine gC 40 ?_; refine RGl.row (Γ1 := fun _ => []) (fun e hk => OpT.callN ((put_t (.slice none 0 0) [] (pos / 8 + 8192) 2 (by simp) (by omega) (by omega) (by omega)))) ?_) | (refine gOp ?_; first | refine RGl.rdA ?_ | refine RGl.rdX (fun e hk => by (try dsimp only [bndR, ensR, oksR, fcutR, List.append_nil, List.nil_append, List.cons_append, List.append_assoc] at hk ⊢); exact readB) ?_) | (refine gCp ?_; refine RGl.cpA ?_) | (refine RGl.fin (fun e hk => ?_); (try dsimp only [bndA, ensAR, oksA, List.append_nil, List.nil_append, List.cons_append, List.append_assoc] at hk ⊢); (repeat (obtain ⟨hk1, hk⟩ := hk))) | fail)
     | (refine isCond ?_; first | refine WPc.cT ?_ | refine WPc.cF ?_ | (refine WPc.cQ (fun hc => ?_) (fun hc => ?_) <;> try exact prA))
     | (refine isC 40 ?_; refine WPl.cR ((put_t (.slice none 0 0) [] (pos / 8 + 8192) 2 (by simp) (by omega) (by omega) (by omega))) fun v hv => ?_)
     | (refine isCp ?_; first | refine WPl.cpA fun v => ?_ | refine WPl.cpE fun v => ?_)
     | (refine isOp ?_; first | refine WPl.rd ?_ | refine WPl.sk ?_ | refine WPl.rdB ?_)
     | (show WPl _ _ _ _ _ _ _ (⟨_, .indexAddr _ _ _, _, _, _, _⟩ :: _) _; refine WPl.rdX (ReadR.indexE rfl rfl hasA (by first | assumption | omega)) ?_)
     | (show WPl _ _ _ _ _ _ _ (⟨_, .fieldAddr _ _ _, _, _, _, _⟩ :: _) _; refine WPl.rdX (ReadR.fieldE rfl hasA (by first | assumption | omega)) ?_)
     | (show WPl _ _ _ _ _ _ _ (⟨_, .load _ _, _, _, _, _⟩ :: _) _; first | refine WPl.rdX (ReadR.loadE rfl hasA (by assumption)) ?_ | refine WPl.rdX (ReadR.loadES (by assumption) (by first | assumption | omega) rfl hasA) ?_)
     | (show WPl _ _ _ _ _ _ _ (⟨_, .slice _ _ _ _ _, _, _, _, _⟩ :: _) _; first | refine WPl.rdX (ReadR.sliceH rfl rfl hasA (by omega)) ?_ | refine WPl.rdX (ReadR.sliceL rfl rfl hasA (by omega)) ?_ | refine WPl.rdX (ReadR.sliceLH rfl rfl rfl hasA (by omega) (by omega)) ?_)
     | (refine WPl.spQ (fun hc => ?_) (fun hc => ?_) <;> try exact prA)
     | fail)
    refine ⟨?_⟩
    rw [← hX3]
    repeat' (first
     | (refine isSeq1 9 ?_; refine Held.it ?_)
     | refine WPl.nil ?_ | refine WPq.then ?_ | refine WPq.thenR ?_ | refine WPq.thenE ?_ | refine WPq.blockN ?_ | refine WPq.blockR ?_ | refine WPq.blockE ?_ | refine WPq.blockO rfl ?_ | refine WPc.seq ?_ | refine WPc.block ?_ | refine WPc.ret ?_ | refine WPc.exit ?_ | refine WPc.skip ?_ | refine WPc.region ?_
     | (refine isCond ?_; first | refine WPc.cT ?_ | refine WPc.cF ?_ | (refine WPc.cQ (fun hc => ?_) (fun hc => ?_) <;> try exact prA))
     | (refine isLit ?_; refine WPl.lit fun v hv => ?_)
     | (refine isCp ?_; first | refine WPl.cpA fun v => ?_ | refine WPl.cpE fun v => ?_)
     | (refine isOp ?_; first | refine WPl.rd ?_ | refine WPl.sk ?_ | refine WPl.rdB ?_)
     | (show WPl _ _ _ _ _ _ _ (⟨_, .indexAddr _ _ _, _, _, _, _⟩ :: _) _; refine WPl.rdX (ReadR.indexE rfl rfl hasA (by first | assumption | omega)) ?_)
     | (show WPl _ _ _ _ _ _ _ (⟨_, .fieldAddr _ _ _, _, _, _, _⟩ :: _) _; refine WPl.rdX (ReadR.fieldE rfl hasA (by first | assumption | omega)) ?_)
     | (show WPl _ _ _ _ _ _ _ (⟨_, .load _ _, _, _, _, _⟩ :: _) _; first | refine WPl.rdX (ReadR.loadE rfl hasA (by assumption)) ?_ | refine WPl.rdX (ReadR.loadES (by assumption) (by first | assumption | omega) rfl hasA) ?_)
     | (show WPl _ _ _ _ _ _ _ (⟨_, .slice _ _ _ _ _, _, _, _, _⟩ :: _) _; first | refine WPl.rdX (ReadR.sliceH rfl rfl hasA (by omega)) ?_ | refine WPl.rdX (ReadR.sliceL rfl rfl hasA (by omega)) ?_ | refine WPl.rdX (ReadR.sliceLH rfl rfl rfl hasA (by omega) (by omega)) ?_)
     | (refine WPl.spQ (fun hc => ?_) (fun hc => ?_) <;> try exact prA)
     | fail)
    refine ⟨?_⟩
    rw [ht4, ← hX4]
    repeat' (first
     | refine WPl.nil ?_ | refine WPq.then ?_ | refine WPq.thenR ?_ | refine WPq.thenE ?_ | refine WPq.blockN ?_ | refine WPq.blockR ?_ | refine WPq.blockE ?_ | refine WPq.blockO rfl ?_ | refine WPc.seq ?_ | refine WPc.block ?_ | refine WPc.ret ?_ | refine WPc.exit ?_ | refine WPc.skip ?_ | refine WPc.region ?_
     | (refine isReg 9 ?_; refine WPc.drA [([9], [48, 49, 50, 51, 52, 53]), ([0, 9], [46, 48, 49, 50, 51, 52, 53]), ([9], [46, 47]), ([2, 9], [46, 47, 48]), ([2, 3, 9], [46, 47, 48, 49]), ([2, 3, 4, 9], [46, 47, 48, 49, 50]), ([2, 3, 4, 5, 9], [46, 47, 48, 49, 50, 51]), ([2, 3, 4, 5, 6, 9], [46, 47, 48, 49, 50, 51, 52]), ([0, 1, 2, 3, 4, 5, 6, 7, 9], [46, 47, 48, 49, 50, 51, 52, 53])] [(9, 8), (9, 0), (9, 1), (9, 2), (9, 3), (9, 4), (9, 5), (9, 6), (9, 7)] (Γx := [ob v23 X4]) ?_; dsimp only [prev0, List.length_nil, List.length_cons])
     | (refine gAny ?_; first | (refine gC 51 ?_; refine RGl.vl (fun e hk => OpT.callN ((isum_t (e 4).1 [subv 1 v23 0 20] [seg X4 0 20] (csum (seg X4 0 20)) (by simp [csum]) rfl (by simp [h420]) (by simp)))) ?_) | (refine gC 53 ?_; refine RGl.row (Γ1 := fun _ => []) (fun e hk => OpT.callN ((put_t (.slice none 0 0) [] (csum (seg X4 0 20)) 2 (by simp) (by omega) (by omega) (by omega)))) ?_) | (refine gOp ?_; first | refine RGl.rdA ?_ | refine RGl.rdX (fun e hk => by (try dsimp only [bndR, ensR, oksR, fcutR, List.append_nil, List.nil_append, List.cons_append, List.append_assoc] at hk ⊢); exact readB) ?_) | (refine gLit ?_; refine RGl.litA ?_) | (refine gCp ?_; refine RGl.cpA ?_) | (refine RGl.fin (fun e hk => ?_); (try dsimp only [bndA, ensAR, oksA, List.append_nil, List.nil_append, List.cons_append, List.append_assoc] at hk ⊢); (repeat (obtain ⟨hk1, hk⟩ := hk))) | fail)
     | (refine isCond ?_; first | refine WPc.cT ?_ | refine WPc.cF ?_ | (refine WPc.cQ (fun hc => ?_) (fun hc => ?_) <;> try exact prA))
     | (refine isC 51 ?_; refine WPl.cV ((isum_t (e 4).1 [subv 1 v23 0 20] [seg X4 0 20] (csum (seg X4 0 20)) (by simp [csum]) rfl (by simp [h420]) (by simp))) ?_)
     | (refine isC 53 ?_; refine WPl.cR ((put_t (.slice none 0 0) [] (csum (seg X4 0 20)) 2 (by simp) (by omega) (by omega) (by omega))) fun v hv => ?_)
     | (refine isCp ?_; first | refine WPl.cpA fun v => ?_ | refine WPl.cpE fun v => ?_)
     | (refine isOp ?_; first | refine WPl.rd ?_ | refine WPl.sk ?_ | refine WPl.rdB ?_)
     | (show WPl _ _ _ _ _ _ _ (⟨_, .indexAddr _ _ _, _, _, _, _⟩ :: _) _; refine WPl.rdX (ReadR.indexE rfl rfl hasA (by first | assumption | omega)) ?_)
     | (show WPl _ _ _ _ _ _ _ (⟨_, .fieldAddr _ _ _, _, _, _, _⟩ :: _) _; refine WPl.rdX (ReadR.fieldE rfl hasA (by first | assumption | omega)) ?_)
     | (show WPl _ _ _ _ _ _ _ (⟨_, .load _ _, _, _, _, _⟩ :: _) _; first | refine WPl.rdX (ReadR.loadE rfl hasA (by assumption)) ?_ | refine WPl.rdX (ReadR.loadES (by assumption) (by first | assumption | omega) rfl hasA) ?_)
     | (show WPl _ _ _ _ _ _ _ (⟨_, .slice _ _ _ _ _, _, _, _, _⟩ :: _) _; first | refine WPl.rdX (ReadR.sliceH rfl rfl hasA (by omega)) ?_ | refine WPl.rdX (ReadR.sliceL rfl rfl hasA (by omega)) ?_ | refine WPl.rdX (ReadR.sliceLH rfl rfl rfl hasA (by omega) (by omega)) ?_)
     | (refine WPl.spQ (fun hc => ?_) (fun hc => ?_) <;> try exact prA)
     | fail)
    exact WPq.dR
end Go.Proofs.Ytmdihpanaljkfaa
/- Layer 35 (parts): the parts of a packet: contracts. -/
namespace Go.Proofs.Ytmdihpanaljkfaa
open Go.RowKit
set_option linter.unusedVariables false
set_option linter.unusedSimpArgs false
theorem WPc.segRd {P : Program} {m : Nat} {W : World} {S : Nat → Prop} {Γ : List Asn} {F : List (Nat × Value)} {Q : Exit → Act → World → Prop} {c : Code} {v : Value} {l : List UInt8} (k n : Nat) (hm : rb v l ∈ Γ) (hn : k + n ≤ l.length) (h : WPc P m W S (rb (subv 1 v k n) (seg l k n) :: Γ) F c Q) : WPc P m W S Γ F c Q := fun a w hf hg =>
  h a w hf (hg.more hm rfl rfl (fun g hg => ⟨fun e => hg.1 (by
    have : l = [] := by cases l with | nil => rfl | cons x l => cases e
    rw [this]; simp [seg, u8s]), subv_block g hg.2⟩) fun w hw => (HasS.subB (Γ := [rb v l]) (HasS.rd (List.mem_singleton.2 rfl)) hn) w fun A hA => by rw [List.mem_singleton.1 hA]; exact hw)
/-- Where the piece ends; the piece; how many there are. -/
def pcEnd (n z i : Nat) : Nat := min (i * z + z) n
def pcAt (b : List UInt8) (id z i : Nat) : List UInt8 := pcL b (seg (seg b 20 (b.length - 20)) (i * z) (pcEnd (b.length - 20) z i - i * z)) id (i * z) (decide ((pcEnd (b.length - 20) z i : Int) < ((b.length - 20 : Nat) : Int)))
def pcNum (n z : Nat) : Nat := if n ≤ z then 1 else (n + z - 1) / z
open Go.RowKit
set_option linter.unusedSimpArgs false
set_option linter.unusedVariables false
set_option maxRecDepth 20000
set_option maxHeartbeats 4000000
attribute [local irreducible] WPc WPl WPq ReadR OpT BinR HasS bx rdN rowN Take Takes Prov Triple ResF BuildP Done ag Int.decLt Int.decLe Int.instDecidableEq
instance bysEltN : EltN Try.prog 24 1 := ⟨by kernel_rfl⟩
def vrowS (p : Value × List UInt8) : List Asn := [ob p.1 p.2]
theorem vrowS_own (p : Value × List UInt8) (A : Asn) (h : A ∈ vrowS p) : A.own = true := by
  rw [List.mem_singleton.1 h]; exact rowN_own
def RSplit (b : List UInt8) (id z : Nat) : Value → List Asn → Prop := fun v Γ => ∃ (vo : Value) (es : List (Value × List UInt8)) (k : Nat), vo.oneCell' = true ∧ v = .tuple #[vo, .int .i64 0] ∧ es.map (·.2) = (List.range k).map (pcAt b id z) ∧ 1 ≤ k ∧ (b.length - 20 ≤ k * z) ∧ (1 < k → (k - 1) * z < b.length - 20) ∧ Γ = [rowN 24 1 vo es.length (es.map (·.1)), gbag vrowS es]
attribute [local irreducible] mp rmp rg rgo mput mget mfind mdel gbag jes pts ferr fhead ihl pcL pcAt pcEnd seg
theorem psplit_t (v : Value) (b : List UInt8) (id z : Nat) (hid : id < 65536) (he : ferr b = 0) (hpart : (fhead b).part = false) (hih : ihl b = 20) (hz1 : 8 ≤ z) (hz2 : z ≤ 2024) (hz3 : z % 8 = 0) :
    Triple Try.prog 6 #[v, .int .u16 (id : Int), .int .i64 (z : Int)] [rb v b] (RSplit b id z) := by
  obtain ⟨z1, z2, z3, z4, z5, z6, z7, z8, z9⟩ := ferr_zero he
  have c16 := fread_t v b (by omega)
  have hfv : fVal b = .tuple #[ag (hdc (fhead b)), .int .i64 0] := by with_unfolding_all (unfold fVal fread; rw [if_pos he, he])
  rw [hfv] at c16
  have w1 := (fhead b).src.len
  have w2 := (fhead b).dst.len
  have hpos : (fhead b).pos = 20 := by
    have : (fhead b).pos = (ihl b : Int) := by with_unfolding_all rfl
    rw [this, hih]; rfl
  have eh : hdc (fhead b) = [(1, [.bool (fhead b).six]), (1, [.int .u8 (((fhead b).proto.toNat : Nat) : Int)]), (1, [.int .i64 20]), (1, [.bool (fhead b).src.six]), (16, u8s (fhead b).src.b), (1, [.bool (fhead b).dst.six]), (16, u8s (fhead b).dst.b), (1, [.bool false]), (1, [.int .u8 (((fhead b).hops.toNat : Nat) : Int)])] := by
    show [_, _, (1, [Value.int .i64 (fhead b).pos]), _, _, _, _, (1, [Value.bool (fhead b).part]), _] = _
    rw [hpart, hpos]
  have hok := hdc_ok (fhead b)
  rw [eh] at c16 hok
  obtain ⟨n, hn⟩ : ∃ n, n = b.length - 20 := ⟨_, rfl⟩
  have hDl : (seg b 20 n).length = n := seg_length (by omega)
  have h8 : (z : Int) % 8 = 0 := by omega
  have q1 : ¬ (z : Int) < 8 := by omega
  have q2 : ¬ (z : Int) > 2024 := by omega
  refine Triple.enter Try.func6 rfl Try.ntmps6 rfl (fun W => ?_)
  dsimp only [argsF, Nat.reduceAdd]
  refine WPc.nilRowN 24 1 ?_
  refine WPc.gbag0 vrowS ?_
  refine WPc.segRd (v := v) (l := b) 20 n memA (by omega) ?_
  obtain ⟨D, hD⟩ : ∃ D, D = seg b 20 n := ⟨_, rfl⟩
  obtain ⟨vD, hvD⟩ : ∃ vD, vD = subv 1 v 20 (b.length - 20) := ⟨_, rfl⟩
  have hvD2 : subv 1 v 20 n = vD := by rw [hvD, hn]
  rw [hvD2, ← hD]
  rw [← hD] at hDl
  repeat' (first
   | refine WPl.nil ?_ | refine WPq.then ?_ | refine WPq.thenR ?_ | refine WPq.thenE ?_ | refine WPq.blockN ?_ | refine WPq.blockR ?_ | refine WPq.blockE ?_ | refine WPq.blockO rfl ?_ | refine WPc.seq ?_ | refine WPc.block ?_ | refine WPc.ret ?_ | refine WPc.exit ?_ | refine WPc.skip ?_ | refine WPc.region ?_
   | (refine isCond ?_; first | refine WPc.cT ?_ | refine WPc.cF ?_ | (refine WPc.cQ (fun hc => ?_) (fun hc => ?_) <;> try exact prA))
   | (refine isC 16 ?_; refine WPl.cV (c16) ?_)
   | (refine isD 8 ?_; first | (refine isAl ?_; refine WPl.nw fun g8 => ?_) | (refine isBx ?_; refine WPl.nw fun g8 => ?_))
   | (show WPl _ _ _ _ _ _ _ (⟨_, .store _ (.tmp 8) _, _, _, _, _⟩ :: _) _; refine WPl.stA ?_ (hn := hok))
   | (refine isD 21 ?_; refine WPl.rdX (ReadR.binE rfl rfl BinR.neq (congrArg (fun q => Value.bool (!q)) (decide_eq_true (rfl : (0 : Int) = 0)))) ?_)
   | (refine isD 29 ?_; refine WPl.rdX (ReadR.binE rfl rfl BinR.neq (congrArg (fun q => Value.bool (!q)) (decide_eq_true (rfl : (20 : Int) = 20)))) ?_)
   | (refine isD 33 ?_; refine WPl.rdX (ReadR.binE rfl rfl BinR.lss (congrArg Value.bool (decide_eq_false q1))) ?_)
   | (refine isD 36 ?_; refine WPl.rdX (ReadR.binE rfl rfl BinR.gtr (congrArg Value.bool (decide_eq_false q2))) ?_)
   | (refine isD 41 ?_; refine WPl.rdX (ReadR.binE rfl rfl BinR.neq (congrArg (fun q => Value.bool (!q)) (decide_eq_true h8))) ?_)
   | (refine isD 44 ?_; refine WPl.rdX (ReadR.sliceL (i := 20) rfl rfl (HasS.rd (l := b) memA) z2) ?_)
   | (refine isOp ?_; first | refine WPl.rd ?_ | refine WPl.sk ?_ | refine WPl.rdB ?_)
   | (refine isAl ?_; refine WPl.nw fun g => ?_)
   | (refine isSt ?_; first | refine WPl.st1 ?_ | refine WPl.stA ?_ | refine WPl.stEB ?_ | refine WPl.stRB ?_)
   | (show WPl _ _ _ _ _ _ _ (⟨_, .indexAddr _ _ _, _, _, _, _⟩ :: _) _; refine WPl.rdX (ReadR.indexE rfl rfl hasA (by first | assumption | omega)) ?_)
   | (show WPl _ _ _ _ _ _ _ (⟨_, .fieldAddr _ _ _, _, _, _, _⟩ :: _) _; refine WPl.rdX (ReadR.fieldE rfl hasA (by first | assumption | omega)) ?_)
   | (show WPl _ _ _ _ _ _ _ (⟨_, .load _ _, _, _, _, _⟩ :: _) _; first | refine WPl.rdX (ReadR.loadE rfl hasA (by assumption)) ?_ | refine WPl.rdX (ReadR.loadES (by assumption) (by first | assumption | omega) rfl hasA) ?_)
   | (show WPl _ _ _ _ _ _ _ (⟨_, .slice _ _ _ _ _, _, _, _, _⟩ :: _) _; first | refine WPl.rdX (ReadR.sliceH rfl rfl hasA (by omega)) ?_ | refine WPl.rdX (ReadR.sliceL rfl rfl hasA (by omega)) ?_ | refine WPl.rdX (ReadR.sliceLH rfl rfl rfl hasA (by omega) (by omega)) ?_)
   | (refine WPl.spQ (fun hc => ?_) (fun hc => ?_) <;> try exact prA)
   | fail)
  rw [← hvD]
  have hD2 : D = seg b 20 (b.length - 20) := by rw [hD, hn]
  clear hD
  subst hDl
  have hbn : D.length ≤ 2028 := by omega
  have ezr : rowN 24 1 (.slice none 0 0) 0 [] = rowN 24 1 (.slice none 0 0) ([] : List (Value × List UInt8)).length (([] : List (Value × List UInt8)).map (·.1)) := rfl
  rw [ezr]
  first | refine WPc.loop (σ := Nat × Value × List (Value × List UInt8)) (fun st => st.1 * z ≤ D.length + z ∧ st.2.1.oneCell' = true ∧ st.2.2.map (·.2) = (List.range st.1).map (pcAt b id z) ∧ (1 < st.1 → (st.1 - 1) * z < D.length)) (fun st => [rb vD D, rb v b, gbag vrowS st.2.2, rowN 24 1 st.2.1 st.2.2.length (st.2.2.map (·.1))]) (fun st => [(0, v), (1, .int .u16 (id : Int)), (2, .int .i64 (z : Int)), (11, vD), (12, .int .i64 ((z * st.1 : Nat) : Int)), (10, st.2.1)]) (fun st => 5000 - st.1 * z) ((0, .slice none 0 0, [])) ?_ takesA frsA (fun st km hx hk => ?_)
  · exact ⟨by omega, rfl, rfl, fun h => absurd h (by omega)⟩
  obtain ⟨i, vo, es⟩ := st
  obtain ⟨hiz, hvo, hes, hi1⟩ := hx
  dsimp only at hiz hvo hes hi1 hk ⊢
  have hkm : km = 5000 - i * z := hk
  clear hk
  have hel : es.length = i := by have := congrArg List.length hes; rwa [List.length_map, List.length_map, List.length_range] at this
  obtain ⟨q, hq⟩ : ∃ q, q = i * z := ⟨_, rfl⟩
  have hil : i ≤ q := by rw [hq]; exact Nat.le_mul_of_pos_right i (by omega)
  have hq1 : (i + 1) * z = q + z := by rw [Nat.succ_mul, hq]
  by_cases hgo : i = 0 ∨ q < D.length
  · obtain ⟨en, hen⟩ : ∃ en, en = pcEnd D.length z i := ⟨_, rfl⟩
    have hen2 : en = min (q + z) D.length := by rw [hen, hq]; with_unfolding_all rfl
    have hq0 : i = 0 → q = 0 := fun h => by rw [hq, h, Nat.zero_mul]
    have hqe : q ≤ en := by omega
    have hed : en ≤ D.length := by omega
    have e58 : Value.int .i64 ((q : Int) + (z : Int)) = .int .i64 ((q + z : Nat) : Int) := congrArg _ (by omega)
    have e61 : (if (D.length : Int) < ((q + z : Nat) : Int) then (D.length : Int) else ((q + z : Nat) : Int)) = (en : Int) := by split <;> omega
    have hsl : (seg D q (en - q)).length = en - q := seg_length (by omega)
    have c74 := ppiece_t v b (subv 1 vD q (en - q)) (seg D q (en - q)) id q (decide ((en : Int) < (D.length : Int))) z2 (by omega) (by omega) hid (by omega)
    obtain ⟨pc, hpc⟩ : ∃ pc, pc = pcL b (seg D q (en - q)) id q (decide ((en : Int) < (D.length : Int))) := ⟨_, rfl⟩
    have hpcA : pcAt b id z i = pc := by
      rw [hpc, hq, hen, hn, hD2]
      with_unfolding_all rfl
    rw [← hpc] at c74
    have hnx : (i + 1) * z ≤ D.length + z := by rw [hq1]; omega
    have hes2 : ∀ u : Value, (es ++ [(u, pc)]).map (·.2) = (List.range (i + 1)).map (pcAt b id z) := fun u => by
      rw [List.map_append, hes, List.range_succ, List.map_append, List.map_singleton, List.map_singleton, hpcA]
    have hst1 : 1 < i + 1 → (i + 1 - 1) * z < D.length := fun h => by
      rw [Nat.add_sub_cancel, ← hq]
      omega
    rw [Nat.mul_comm z i, ← hq]
    by_cases hi0 : i = 0
    · have hq0' : (q : Int) = 0 := by rw [hq0 hi0]; rfl
      repeat' (first
       | refine WPl.nil ?_ | refine WPq.then ?_ | refine WPq.thenR ?_ | refine WPq.thenE ?_ | refine WPq.blockN ?_ | refine WPq.blockR ?_ | refine WPq.blockE ?_ | refine WPq.blockO rfl ?_ | refine WPc.seq ?_ | refine WPc.block ?_ | refine WPc.ret ?_ | refine WPc.exit ?_ | refine WPc.skip ?_ | refine WPc.region ?_
       | (refine isCond ?_; first | refine WPc.cT ?_ | refine WPc.cF ?_ | (refine WPc.cQ (fun hc => ?_) (fun hc => ?_) <;> try first | exact prA | (exfalso; first | omega)))
       | (refine isD 55 ?_; refine WPl.rdX (ReadR.binE rfl rfl (BinR.addI (by omega) (by omega)) e58) ?_)
       | (refine isD 58 ?_; refine WPl.rdX (ReadR.binE rfl rfl (BinR.addI (by omega) (by omega)) e58) ?_)
       | (refine isD 61 ?_; refine WPl.rdX (ReadR.minT e61 rfl rfl) ?_)
       | (refine isD 67 ?_; refine WPl.rdX (ReadR.sliceLH (i := q) (j := en) rfl rfl rfl hasA hqe hed) ?_)
       | (refine isD 73 ?_; refine WPl.rdX (ReadR.binE rfl rfl BinR.lss rfl) ?_)
       | (refine isC 74 ?_; refine WPl.cR (c74) fun v74 hv74 => ?_)
       | (refine isLit ?_; refine WPl.lits fun v hv => ?_)
       | (refine isD 76 ?_; refine WPl.appN (m := es.length) (m2 := 1) (xs := es.map (·.1)) (ys := [v74]) rfl (fun u hu => by rw [List.mem_singleton.1 hu]; exact hv74) (by omega) fun v76 hv76 => ?_)
       | (refine isD 46 ?_; refine WPl.rdX (ReadR.binE rfl rfl BinR.eql (congrArg Value.bool (decide_eq_true hq0'))) ?_)
       | (refine isOp ?_; first | refine WPl.rd ?_ | refine WPl.sk ?_ | refine WPl.rdB ?_)
       | (refine isAl ?_; refine WPl.nw fun g => ?_)
       | (refine isSt ?_; first | refine WPl.st1 ?_ | refine WPl.stA ?_ | refine WPl.stEB ?_ | refine WPl.stRB ?_)
       | (show WPl _ _ _ _ _ _ _ (⟨_, .indexAddr _ _ _, _, _, _, _⟩ :: _) _; refine WPl.rdX (ReadR.indexE rfl rfl hasA (by first | assumption | omega)) ?_)
       | (show WPl _ _ _ _ _ _ _ (⟨_, .fieldAddr _ _ _, _, _, _, _⟩ :: _) _; refine WPl.rdX (ReadR.fieldE rfl hasA (by first | assumption | omega)) ?_)
       | (show WPl _ _ _ _ _ _ _ (⟨_, .load _ _, _, _, _, _⟩ :: _) _; first | refine WPl.rdX (ReadR.loadE rfl hasA (by assumption)) ?_ | refine WPl.rdX (ReadR.loadES (by assumption) (by first | assumption | omega) rfl hasA) ?_)
       | (show WPl _ _ _ _ _ _ _ (⟨_, .slice _ _ _ _ _, _, _, _, _⟩ :: _) _; first | refine WPl.rdX (ReadR.sliceH rfl rfl hasA (by omega)) ?_ | refine WPl.rdX (ReadR.sliceL rfl rfl hasA (by omega)) ?_ | refine WPl.rdX (ReadR.sliceLH rfl rfl rfl hasA (by omega) (by omega)) ?_)
       | (refine WPl.spQ (fun hc => ?_) (fun hc => ?_) <;> try first | exact prA | (exfalso; first | omega))
       | fail)
      refine WPq.gbagI (row := vrowS) (es := es ++ [(v74, pc)]) (es' := es) (x := (v74, pc)) vrowS_own List.perm_append_comm (show Takes _ [gbag vrowS es, ob v74 pc] _ from takesA) ?_
      rw [show rowN 24 1 v76 (es.length + 1) (es.map (·.1) ++ [v74]) = rowN 24 1 v76 (es ++ [(v74, pc)]).length ((es ++ [(v74, pc)]).map (·.1)) from by rw [List.length_append, List.map_append]; rfl]
      exact WPq.rnd (i + 1, v76, es ++ [(v74, pc)]) ⟨hnx, hv76, hes2 v74, hst1⟩ (by dsimp only; rw [hq1]; omega) (hF := by rw [Nat.mul_comm z (i + 1), hq1]; exact frsA)
    · have hq0' : ¬ (q : Int) = 0 := by
        intro h
        have : 1 * z ≤ i * z := Nat.mul_le_mul_right z (by omega)
        omega
      have hlt' : (q : Int) < (D.length : Int) := by omega
      repeat' (first
       | refine WPl.nil ?_ | refine WPq.then ?_ | refine WPq.thenR ?_ | refine WPq.thenE ?_ | refine WPq.blockN ?_ | refine WPq.blockR ?_ | refine WPq.blockE ?_ | refine WPq.blockO rfl ?_ | refine WPc.seq ?_ | refine WPc.block ?_ | refine WPc.ret ?_ | refine WPc.exit ?_ | refine WPc.skip ?_ | refine WPc.region ?_
       | (refine isCond ?_; first | refine WPc.cT ?_ | refine WPc.cF ?_ | (refine WPc.cQ (fun hc => ?_) (fun hc => ?_) <;> try first | exact prA | (exfalso; first | omega)))
       | (refine isD 55 ?_; refine WPl.rdX (ReadR.binE rfl rfl (BinR.addI (by omega) (by omega)) e58) ?_)
       | (refine isD 58 ?_; refine WPl.rdX (ReadR.binE rfl rfl (BinR.addI (by omega) (by omega)) e58) ?_)
       | (refine isD 61 ?_; refine WPl.rdX (ReadR.minT e61 rfl rfl) ?_)
       | (refine isD 67 ?_; refine WPl.rdX (ReadR.sliceLH (i := q) (j := en) rfl rfl rfl hasA hqe hed) ?_)
       | (refine isD 73 ?_; refine WPl.rdX (ReadR.binE rfl rfl BinR.lss rfl) ?_)
       | (refine isC 74 ?_; refine WPl.cR (c74) fun v74 hv74 => ?_)
       | (refine isLit ?_; refine WPl.lits fun v hv => ?_)
       | (refine isD 76 ?_; refine WPl.appN (m := es.length) (m2 := 1) (xs := es.map (·.1)) (ys := [v74]) rfl (fun u hu => by rw [List.mem_singleton.1 hu]; exact hv74) (by omega) fun v76 hv76 => ?_)
       | (refine isD 46 ?_; refine WPl.rdX (ReadR.binE rfl rfl BinR.eql (congrArg Value.bool (decide_eq_false hq0'))) ?_)
       | (refine isD 51 ?_; refine WPl.rdX (ReadR.binE rfl rfl BinR.lss (congrArg Value.bool (decide_eq_true hlt'))) ?_)
       | (refine isOp ?_; first | refine WPl.rd ?_ | refine WPl.sk ?_ | refine WPl.rdB ?_)
       | (refine isAl ?_; refine WPl.nw fun g => ?_)
       | (refine isSt ?_; first | refine WPl.st1 ?_ | refine WPl.stA ?_ | refine WPl.stEB ?_ | refine WPl.stRB ?_)
       | (show WPl _ _ _ _ _ _ _ (⟨_, .indexAddr _ _ _, _, _, _, _⟩ :: _) _; refine WPl.rdX (ReadR.indexE rfl rfl hasA (by first | assumption | omega)) ?_)
       | (show WPl _ _ _ _ _ _ _ (⟨_, .fieldAddr _ _ _, _, _, _, _⟩ :: _) _; refine WPl.rdX (ReadR.fieldE rfl hasA (by first | assumption | omega)) ?_)
       | (show WPl _ _ _ _ _ _ _ (⟨_, .load _ _, _, _, _, _⟩ :: _) _; first | refine WPl.rdX (ReadR.loadE rfl hasA (by assumption)) ?_ | refine WPl.rdX (ReadR.loadES (by assumption) (by first | assumption | omega) rfl hasA) ?_)
       | (show WPl _ _ _ _ _ _ _ (⟨_, .slice _ _ _ _ _, _, _, _, _⟩ :: _) _; first | refine WPl.rdX (ReadR.sliceH rfl rfl hasA (by omega)) ?_ | refine WPl.rdX (ReadR.sliceL rfl rfl hasA (by omega)) ?_ | refine WPl.rdX (ReadR.sliceLH rfl rfl rfl hasA (by omega) (by omega)) ?_)
       | (refine WPl.spQ (fun hc => ?_) (fun hc => ?_) <;> try first | exact prA | (exfalso; first | omega))
       | fail)
      refine WPq.gbagI (row := vrowS) (es := es ++ [(v74, pc)]) (es' := es) (x := (v74, pc)) vrowS_own List.perm_append_comm (show Takes _ [gbag vrowS es, ob v74 pc] _ from takesA) ?_
      rw [show rowN 24 1 v76 (es.length + 1) (es.map (·.1) ++ [v74]) = rowN 24 1 v76 (es ++ [(v74, pc)]).length ((es ++ [(v74, pc)]).map (·.1)) from by rw [List.length_append, List.map_append]; rfl]
      exact WPq.rnd (i + 1, v76, es ++ [(v74, pc)]) ⟨hnx, hv76, hes2 v74, hst1⟩ (by dsimp only; rw [hq1]; omega) (hF := by rw [Nat.mul_comm z (i + 1), hq1]; exact frsA)
  · have hi0 : ¬ i = 0 := fun h => hgo (.inl h)
    have hq0' : ¬ (q : Int) = 0 := by
      intro h
      have : 1 * z ≤ i * z := Nat.mul_le_mul_right z (by omega)
      omega
    have hlt' : ¬ (q : Int) < (D.length : Int) := by omega
    rw [Nat.mul_comm z i, ← hq]
    repeat' (first
     | refine WPl.nil ?_ | refine WPq.then ?_ | refine WPq.thenR ?_ | refine WPq.thenE ?_ | refine WPq.blockN ?_ | refine WPq.blockR ?_ | refine WPq.blockE ?_ | refine WPq.blockO rfl ?_ | refine WPc.seq ?_ | refine WPc.block ?_ | refine WPc.ret ?_ | refine WPc.exit ?_ | refine WPc.skip ?_ | refine WPc.region ?_
     | (refine isCond ?_; first | refine WPc.cT ?_ | refine WPc.cF ?_ | (refine WPc.cQ (fun hc => ?_) (fun hc => ?_) <;> try first | exact prA | (exfalso; first | omega)))
     | (refine isD 46 ?_; refine WPl.rdX (ReadR.binE rfl rfl BinR.eql (congrArg Value.bool (decide_eq_false hq0'))) ?_)
     | (refine isD 51 ?_; refine WPl.rdX (ReadR.binE rfl rfl BinR.lss (congrArg Value.bool (decide_eq_false hlt'))) ?_)
     | (refine isOp ?_; first | refine WPl.rd ?_ | refine WPl.sk ?_ | refine WPl.rdB ?_)
     | (refine isAl ?_; refine WPl.nw fun g => ?_)
     | (refine isSt ?_; first | refine WPl.st1 ?_ | refine WPl.stA ?_ | refine WPl.stEB ?_ | refine WPl.stRB ?_)
     | (show WPl _ _ _ _ _ _ _ (⟨_, .indexAddr _ _ _, _, _, _, _⟩ :: _) _; refine WPl.rdX (ReadR.indexE rfl rfl hasA (by first | assumption | omega)) ?_)
     | (show WPl _ _ _ _ _ _ _ (⟨_, .fieldAddr _ _ _, _, _, _, _⟩ :: _) _; refine WPl.rdX (ReadR.fieldE rfl hasA (by first | assumption | omega)) ?_)
     | (show WPl _ _ _ _ _ _ _ (⟨_, .load _ _, _, _, _, _⟩ :: _) _; first | refine WPl.rdX (ReadR.loadE rfl hasA (by assumption)) ?_ | refine WPl.rdX (ReadR.loadES (by assumption) (by first | assumption | omega) rfl hasA) ?_)
     | (show WPl _ _ _ _ _ _ _ (⟨_, .slice _ _ _ _ _, _, _, _, _⟩ :: _) _; first | refine WPl.rdX (ReadR.sliceH rfl rfl hasA (by omega)) ?_ | refine WPl.rdX (ReadR.sliceL rfl rfl hasA (by omega)) ?_ | refine WPl.rdX (ReadR.sliceLH rfl rfl rfl hasA (by omega) (by omega)) ?_)
     | (refine WPl.spQ (fun hc => ?_) (fun hc => ?_) <;> try first | exact prA | (exfalso; first | omega))
     | fail)
    exact WPq.dX (vs := [vo, .int .i64 0]) [rowN 24 1 vo es.length (es.map (·.1)), gbag vrowS es] ⟨vo, es, i, hvo, rfl, hes, by omega, by rw [← hq]; omega, fun h => by have := hi1 h; omega, rfl⟩ (ho := ownsJ)
end Go.Proofs.Ytmdihpanaljkfaa
/- Law PartsFew: what is kept, plain. -/
namespace Go.Proofs.Ytmdihpanaljkfaa
set_option linter.unusedVariables false
set_option linter.unusedSimpArgs false
def hd0 : Hd := ⟨false, 17, 0, Adr.zero, Adr.zero, false, 9⟩
def b0 : List UInt8 := fpkt hd0 (List.replicate 20 0)
abbrev pB (i k : Nat) : List UInt8 := pcAt b0 i 8 k
abbrev kF (i : Nat) : Ky := ⟨Adr.zero, Adr.zero, 17, i⟩
/-- What is known of a part's bytes. -/
def PcF (b : List UInt8) (pos : Nat) (d : List UInt8) (last : Bool) (k : Ky) : Prop := ferr b = 0 ∧ (fhead b).part = true ∧ 8 * (val (seg b 6 2) % 8192) = pos ∧ seg b (ihl b) (b.length - ihl b) = d ∧ lastW (val (seg b 6 2)) = last ∧ keyB35 (fhead b) b = k ∧ b.length ≤ 2048
instance {b : List UInt8} {pos : Nat} {d : List UInt8} {last : Bool} {k : Ky} : Decidable (PcF b pos d last k) := by unfold PcF; infer_instance
set_option maxRecDepth 100000 in
theorem b0_ok : ferr b0 = 0 ∧ (fhead b0).part = false ∧ ihl b0 = 20 ∧ b0.length = 40 := by decide +kernel
set_option maxRecDepth 100000 in
theorem few_pc : ∀ i : Nat, i < 70 → PcF (pB i 1) 8 (List.replicate 8 0) false (kF i) := by decide +kernel
set_option maxRecDepth 100000 in
theorem lv_p0 : PcF (pB 7 0) 0 (List.replicate 8 0) false (kF 7) := by decide +kernel
set_option maxRecDepth 100000 in
theorem lv_p2 : PcF (pB 7 2) 16 (List.replicate 4 0) true (kF 7) := by decide +kernel
set_option maxRecDepth 100000 in
theorem lv_wr : fwL (noPart (fhead (pB 7 0))) (List.replicate 20 0) = b0 ∧ fwerr (noPart (fhead (pB 7 0))) 20 = 0 := by decide +kernel
/-- A part, by its bytes. -/
structure PtF (p : Pt) (pos : Nat) (d : List UInt8) (last : Bool) : Prop where
  pos : p.pos = pos
  d : p.d = d
  last : p.last = last
theorem PcF.pt {b : List UInt8} {pos : Nat} {d : List UInt8} {last : Bool} {k : Ky} (h : PcF b pos d last k) (a : Option Addr) (c : Nat) : PtF (ptOf (fhead b) (ihl b) b a c) pos d last :=
  ⟨h.2.2.1, h.2.2.2.1, h.2.2.2.2.1⟩
theorem PtF.fin {p : Pt} {pos : Nat} {d : List UInt8} {last : Bool} (h : PtF p pos d last) : p.fin = pos + d.length := by unfold Pt.fin; rw [h.pos, h.d]
theorem PtF.alone {p : Pt} {pos : Nat} {d : List UInt8} {last : Bool} (h : PtF p pos d last) (h1 : last = true ∨ (d.length ≠ 0 ∧ d.length % 8 = 0)) (h2 : pos + d.length ≤ 2028) : aloneP p = 0 := by
  unfold aloneP
  rw [h.fin, h.last, h.d, if_neg (by rcases h1 with h1 | ⟨h1, h3⟩; (rw [h1]; simp); (rintro ⟨_, h4 | h4⟩ <;> omega)), if_neg (by omega)]
theorem ptF_over {p o : Pt} {pos pos' : Nat} {d d' : List UInt8} {last last' : Bool} (h : PtF p pos d last) (k : PtF o pos' d' last') : overB p o = decide (max (pos : Int) (pos' : Int) < min ((pos + d.length : Nat) : Int) ((pos' + d'.length : Nat) : Int)) := by
  unfold overB; rw [h.pos, k.pos, h.fin, k.fin]
theorem ptF_bad {p o : Pt} {pos pos' : Nat} {d d' : List UInt8} {last last' : Bool} (h : PtF p pos d last) (k : PtF o pos' d' last') : badB p o = ((last && (last' || decide (((pos + d.length : Nat) : Int) < ((pos' + d'.length : Nat) : Int)))) || (last' && decide (((pos' + d'.length : Nat) : Int) < ((pos + d.length : Nat) : Int)))) := by
  unfold badB; rw [h.last, k.last, h.fin, k.fin]
theorem whole_one {p : Pt} {pos : Nat} {d : List UInt8} {last : Bool} (h : PtF p pos d last) (h0 : pos ≠ 0) : wholeB [p] = false := by
  refine whole_no (i := 0) (by simp) ?_
  unfold okAt
  show decide ((p.pos : Int) = 0) = false
  rw [h.pos]
  exact decide_eq_false (by omega)
/-- A part of a packet of which none is kept. -/
theorem add_new {gJ m : Nat} {L : List PJ} {b : List UInt8} {now pos : Nat} {d : List UInt8} {last : Bool} {k : Ky} {v : Value} {Γ : List Asn} (h : RAddA gJ m L b now v Γ) (hf : PcF b pos d last k) (h1 : last = true ∨ (d.length ≠ 0 ∧ d.length % 8 = 0)) (h2 : pos + d.length ≤ 2028) (h0 : pos ≠ 0) (hlive : liveJ L now = L) (hno : ∀ x ∈ L, x.key ≠ k) :
    (64 ≤ L.length ∧ v = .tuple #[.slice none 0 0, .int .i64 2] ∧ Γ = [bx gJ 45 (jbc m), mp kyM m (jes L), gbag jrow L]) ∨
    (L.length < 64 ∧ v = .tuple #[.slice none 0 0, .int .i64 0] ∧ ∃ (x : PJ) (p : Pt), x.key = k ∧ x.since = now ∧ x.ps = [p] ∧ PtF p pos d last ∧ Γ = [bx gJ 45 (jbc m), mp kyM m (jes (L ++ [x])), gbag jrow (L ++ [x])]) := by
  rcases h with ⟨he, _⟩ | ⟨_, hp, _⟩ | ⟨_, _, a, c, h⟩
  · exact absurd hf.1 he
  · rw [hf.2.1] at hp; cases hp
  · have hpt := hf.pt a c
    rw [hf.2.2.2.2.2.1, hlive] at h
    rcases h with ⟨hal, _⟩ | ⟨_, h⟩
    · exact absurd (hpt.alone h1 h2) hal
    rcases h with ⟨h64, _, rfl, rfl⟩ | ⟨x0, A, B, hxk, hor, h⟩
    · exact .inl ⟨h64, rfl, rfl⟩
    rcases hor with hL | ⟨rfl, rfl, _, hlt, hps, hsi⟩
    · exact absurd hxk (hno x0 (by rw [hL]; simp))
    have hag : againstP x0.ps (ptOf (fhead b) (ihl b) b a c) = 0 := by rw [hps]; rfl
    rcases h with ⟨hne, _⟩ | ⟨_, ps', hperm, _, h⟩
    · exact absurd hag hne
    rw [hps] at hperm
    have hps' : ps' = [ptOf (fhead b) (ihl b) b a c] := List.perm_singleton.1 hperm
    subst hps'
    rcases h with ⟨_, v', hv', rfl, rfl⟩ | ⟨hw, _⟩
    · exact .inr ⟨hlt, rfl, ⟨x0.g, v', [ptOf (fhead b) (ihl b) b a c], x0.since, x0.key⟩, ptOf (fhead b) (ihl b) b a c, hxk, hsi, rfl, hpt, rfl⟩
    · rw [whole_one hpt h0] at hw; cases hw
end Go.Proofs.Ytmdihpanaljkfaa
/- Law PartsFew: a packet in three parts, plain. -/
namespace Go.Proofs.Ytmdihpanaljkfaa
open Go.Lib (compareInt)
set_option linter.unusedVariables false
set_option linter.unusedSimpArgs false
theorem lt_pos {x y : Pt} (h : x.pos < y.pos) : ltOf ptCf x y = true ∧ ltOf ptCf y x = false := by
  have h1 : compareInt (x.pos : Int) (y.pos : Int) = -1 := by unfold compareInt; rw [if_pos (by omega)]
  have h2 : compareInt (y.pos : Int) (x.pos : Int) = 1 := by unfold compareInt; rw [if_neg (by omega), if_pos (by omega)]
  have e1 : ptCf x y = -1 := by
    show (if compareInt (x.pos : Int) (y.pos : Int) ≠ 0 then compareInt (x.pos : Int) (y.pos : Int) else compareInt x.wf y.wf) = -1
    rw [if_pos (by rw [h1]; decide), h1]
  have e2 : ptCf y x = 1 := by
    show (if compareInt (y.pos : Int) (x.pos : Int) ≠ 0 then compareInt (y.pos : Int) (x.pos : Int) else compareInt y.wf x.wf) = 1
    rw [if_pos (by rw [h2]; decide), h2]
  unfold ltOf
  rw [e1, e2]
  decide
theorem pos_one {l : List Pt} (hl : l.Pairwise fun a b => a.pos < b.pos) {x y : Pt} (hx : x ∈ l) (hy : y ∈ l) (e : x.pos = y.pos) : x = y := by
  obtain ⟨i, hi⟩ := List.getElem?_of_mem hx
  obtain ⟨j, hj⟩ := List.getElem?_of_mem hy
  obtain ⟨q1, e1⟩ := List.getElem?_eq_some_iff.1 hi
  obtain ⟨q2, e2⟩ := List.getElem?_eq_some_iff.1 hj
  rcases Nat.lt_trichotomy i j with h1 | h1 | h1
  · have := List.pairwise_iff_getElem.1 hl i j q1 q2 h1
    rw [e1, e2] at this; omega
  · subst h1; rw [hi] at hj; exact Option.some.inj hj
  · have := List.pairwise_iff_getElem.1 hl j i q2 q1 h1
    rw [e1, e2] at this; omega
theorem sort_unique {ps' l : List Pt} (hp : ps'.Perm l) (hs : ps'.Pairwise fun a b => ltOf ptCf b a = false) (hl : l.Pairwise fun a b => a.pos < b.pos) : ps' = l := by
  refine List.Perm.eq_of_pairwise (le := fun a b => ltOf ptCf b a = false) (fun a b ha hb h1 h2 => ?_) hs (hl.imp fun h => (lt_pos h).2) hp
  have ha := hp.mem_iff.1 ha
  rcases Nat.lt_trichotomy a.pos b.pos with h | h | h
  · rw [(lt_pos h).1] at h2; cases h2
  · exact pos_one hl ha hb h
  · rw [(lt_pos h).1] at h1; cases h1
theorem one_mid {x x0 : PJ} {A B : List PJ} (h : [x] = A ++ x0 :: B) : A = [] ∧ B = [] ∧ x0 = x := by
  cases A with
  | nil => simp at h; exact ⟨rfl, h.2, h.1.symm⟩
  | cons a A => simp at h
/-- What a call leaves where the key is kept. -/
theorem add_found {gJ m : Nat} {x : PJ} {b : List UInt8} {pos : Nat} {d : List UInt8} {last : Bool} {k : Ky} {v : Value} {Γ : List Asn} (h : RAddA gJ m [x] b 0 v Γ) (hf : PcF b pos d last k) (h1 : last = true ∨ (d.length ≠ 0 ∧ d.length % 8 = 0)) (h2 : pos + d.length ≤ 2028) (hlive : liveJ [x] 0 = [x]) (hk : x.key = k) (hag : ∀ p, PtF p pos d last → againstP x.ps p = 0) :
    ∃ (p : Pt) (ps' : List Pt), PtF p pos d last ∧ p.h = fhead b ∧ ps'.Perm (x.ps ++ [p]) ∧ ps'.Pairwise (fun a b => ltOf ptCf b a = false) ∧
      ((wholeB ps' = false ∧ ∃ v' : Value, v = .tuple #[.slice none 0 0, .int .i64 0] ∧ Γ = [bx gJ 45 (jbc m), mp kyM m (jes [⟨x.g, v', ps', x.since, x.key⟩]), gbag jrow [⟨x.g, v', ps', x.since, x.key⟩]]) ∨
       (wholeB ps' = true ∧ ∃ (p0 : Pt) (s : Value), ps'[0]? = some p0 ∧ s.oneCell' = true ∧ v = .tuple #[s, .int .i64 (fwerr (noPart p0.h) (dataP ps').length)] ∧ Γ = [bx gJ 45 (jbc m), mp kyM m (jes []), gbag jrow [], ob s (fwL (noPart p0.h) (dataP ps'))])) := by
  rcases h with ⟨he, _⟩ | ⟨_, hp, _⟩ | ⟨_, _, a, c, h⟩
  · exact absurd hf.1 he
  · rw [hf.2.1] at hp; cases hp
  · have hpt := hf.pt a c
    rw [hf.2.2.2.2.2.1, hlive] at h
    rcases h with ⟨hal, _⟩ | ⟨_, h⟩
    · exact absurd (hpt.alone h1 h2) hal
    rcases h with ⟨h64, _⟩ | ⟨x0, A, B, hxk, hor, h⟩
    · simp at h64
    rcases hor with hL | ⟨hA, _, hno, _⟩
    rotate_left
    · exact absurd hk (hno x (List.mem_cons_self ..))
    obtain ⟨rfl, rfl, rfl⟩ := one_mid hL
    rcases h with ⟨hne, _⟩ | ⟨_, ps', hperm, hsort, h⟩
    · exact absurd (hag _ hpt) hne
    refine ⟨_, ps', hpt, rfl, hperm, hsort, ?_⟩
    rcases h with ⟨hw, v', hv', rfl, rfl⟩ | ⟨hw, p0, s, hp0, hs, rfl, rfl⟩
    · exact .inl ⟨hw, v', rfl, rfl⟩
    · exact .inr ⟨hw, p0, s, hp0, hs, rfl, rfl⟩
theorem live_0 {x : PJ} (h : x.since = 0) : liveJ [x] 0 = [x] := by
  unfold liveJ
  have : deadB 0 x = false := by unfold deadB; rw [h]; decide
  simp [this]
theorem lives_2 {gJ m : Nat} {x : PJ} {p2 : Pt} {v : Value} {Γ : List Asn} (hx : x.key = kF 7) (hs : x.since = 0) (hps : x.ps = [p2]) (h2 : PtF p2 16 (List.replicate 4 0) true) (h : RAddA gJ m [x] (pB 7 0) 0 v Γ) :
    ∃ (x2 : PJ) (p0 : Pt), v = .tuple #[.slice none 0 0, .int .i64 0] ∧ x2.key = kF 7 ∧ x2.since = 0 ∧ x2.ps = [p0, p2] ∧ PtF p0 0 (List.replicate 8 0) false ∧ p0.h = fhead (pB 7 0) ∧ Γ = [bx gJ 45 (jbc m), mp kyM m (jes [x2]), gbag jrow [x2]] := by
  obtain ⟨p0, ps', h0, hh, hperm, hsort, h⟩ := add_found h lv_p0 (.inr (by simp)) (by simp) (live_0 hs) hx fun p hp => by
    unfold againstP
    rw [hps]
    simp only [List.any_cons, List.any_nil, ptF_over hp h2, ptF_bad hp h2]
    decide
  rw [hps] at hperm
  have hps' : ps' = [p0, p2] := sort_unique (hperm.trans (List.Perm.swap p0 p2 [])) hsort (by
    refine List.pairwise_cons.2 ⟨fun b hb => ?_, List.pairwise_singleton _ _⟩
    rw [List.mem_singleton.1 hb, h0.pos, h2.pos]; decide)
  subst hps'
  have hw : wholeB [p0, p2] = false := by
    refine whole_no (i := 1) (by simp) ?_
    show decide ((p2.pos : Int) = ((dataP [p0]).length : Int)) = false
    unfold dataP
    simp only [List.map_cons, List.map_nil, List.flatten_cons, List.flatten_nil, List.append_nil]
    rw [h2.pos, h0.d]
    decide
  rcases h with ⟨_, v', rfl, rfl⟩ | ⟨hw2, _⟩
  · exact ⟨⟨x.g, v', [p0, p2], x.since, x.key⟩, p0, rfl, hx, hs, rfl, h0, hh, rfl⟩
  · rw [hw] at hw2; cases hw2
set_option maxRecDepth 100000 in
theorem lv_p1 : PcF (pB 7 1) 8 (List.replicate 8 0) false (kF 7) := few_pc 7 (by decide)
theorem lives_3 {gJ m : Nat} {x : PJ} {p0 p2 : Pt} {v : Value} {Γ : List Asn} (hx : x.key = kF 7) (hs : x.since = 0) (hps : x.ps = [p0, p2]) (h0 : PtF p0 0 (List.replicate 8 0) false) (hh : p0.h = fhead (pB 7 0)) (h2 : PtF p2 16 (List.replicate 4 0) true) (h : RAddA gJ m [x] (pB 7 1) 0 v Γ) :
    ∃ s : Value, s.oneCell' = true ∧ v = .tuple #[s, .int .i64 0] ∧ Γ = [bx gJ 45 (jbc m), mp kyM m (jes []), gbag jrow [], ob s b0] := by
  obtain ⟨p1, ps', h1, _, hperm, hsort, h⟩ := add_found h lv_p1 (.inr (by simp)) (by simp) (live_0 hs) hx fun p hp => by
    unfold againstP
    rw [hps]
    simp only [List.any_cons, List.any_nil, ptF_over hp h2, ptF_bad hp h2, ptF_over hp h0, ptF_bad hp h0]
    decide
  rw [hps] at hperm
  have hps' : ps' = [p0, p1, p2] := sort_unique (hperm.trans (List.Perm.cons p0 (List.Perm.swap p1 p2 []))) hsort (by
    refine List.pairwise_cons.2 ⟨fun b hb => ?_, List.pairwise_cons.2 ⟨fun b hb => ?_, List.pairwise_singleton _ _⟩⟩
    · rcases List.mem_cons.1 hb with rfl | hb
      · rw [h0.pos, h1.pos]; decide
      · rw [List.mem_singleton.1 hb, h0.pos, h2.pos]; decide
    · rw [List.mem_singleton.1 hb, h1.pos, h2.pos]; decide)
  subst hps'
  have hd : dataP [p0, p1, p2] = List.replicate 20 0 := by
    unfold dataP
    simp only [List.map_cons, List.map_nil, List.flatten_cons, List.flatten_nil, List.append_nil]
    rw [h0.d, h1.d, h2.d]
    decide
  have hw : wholeB [p0, p1, p2] = true := by
    rw [whole_all]
    · simp [h0.last, h1.last, h2.last]
    · intro j hj
      have hj : j < 3 := hj
      rcases (show j = 0 ∨ j = 1 ∨ j = 2 by omega) with rfl | rfl | rfl
      · show decide ((p0.pos : Int) = ((dataP []).length : Int)) = true
        rw [h0.pos]; decide
      · show decide ((p1.pos : Int) = ((dataP [p0]).length : Int)) = true
        unfold dataP
        simp only [List.map_cons, List.map_nil, List.flatten_cons, List.flatten_nil, List.append_nil]
        rw [h1.pos, h0.d]; decide
      · show decide ((p2.pos : Int) = ((dataP [p0, p1]).length : Int)) = true
        unfold dataP
        simp only [List.map_cons, List.map_nil, List.flatten_cons, List.flatten_nil, List.append_nil]
        rw [h2.pos, h0.d, h1.d]; decide
  rcases h with ⟨hw2, _⟩ | ⟨_, q0, s, hq0, hs1, rfl, rfl⟩
  · rw [hw] at hw2; cases hw2
  · cases hq0
    rw [hd, hh, List.length_replicate, lv_wr.1, lv_wr.2]
    exact ⟨s, hs1, rfl, rfl⟩
end Go.Proofs.Ytmdihpanaljkfaa
/- Law PartsFew: a packet is parted, and put together: contracts. -/
namespace Go.Proofs.Ytmdihpanaljkfaa
set_option linter.unusedVariables false
set_option linter.unusedSimpArgs false
theorem es3 {es : List (Value × List UInt8)} {f : Nat → List UInt8} {k : Nat} (h : es.map (·.2) = (List.range k).map f) (hk : k = 3) : ∃ u0 u1 u2, es = [(u0, f 0), (u1, f 1), (u2, f 2)] := by
  subst hk
  have hl : es.length = 3 := by have := congrArg List.length h; simpa using this
  match es, hl with
  | [(a0, a1), (b0, b1), (c0, c1)], _ =>
    have h : [a1, b1, c1] = [f 0, f 1, f 2] := h
    simp only [List.cons.injEq, and_true] at h
    obtain ⟨rfl, rfl, rfl⟩ := h
    exact ⟨a0, b0, c0, rfl⟩
theorem k3 {k : Nat} (h2 : b0.length - 20 ≤ k * 8) (h3 : 1 < k → (k - 1) * 8 < b0.length - 20) : k = 3 := by
  rw [b0_ok.2.2.2] at h2 h3
  omega
theorem lives_1 {gJ m : Nat} {v : Value} {Γ : List Asn} (h : RAddA gJ m [] (pB 7 2) 0 v Γ) : ∃ (x : PJ) (p : Pt), v = .tuple #[.slice none 0 0, .int .i64 0] ∧ x.key = kF 7 ∧ x.since = 0 ∧ x.ps = [p] ∧ PtF p 16 (List.replicate 4 0) true ∧ Γ = [bx gJ 45 (jbc m), mp kyM m (jes [x]), gbag jrow [x]] := by
  rcases add_new h lv_p2 (.inl rfl) (by decide) (by decide) rfl (fun x hx => by cases hx) with ⟨h64, _⟩ | ⟨_, rfl, x, p, h1, h2, h3, h4, rfl⟩
  · exact absurd h64 (by decide)
  · exact ⟨x, p, rfl, h1, h2, h3, h4, rfl⟩
open Go.RowKit
set_option linter.unusedSimpArgs false
set_option linter.unusedVariables false
set_option maxRecDepth 20000
set_option maxHeartbeats 4000000
attribute [local irreducible] WPc WPl WPq ReadR OpT BinR HasS bx rdN rowN Take Takes Prov Triple ResF BuildP Done ag Int.decLt Int.decLe Int.instDecidableEq
attribute [local irreducible] mp rmp rg rgo mput mget mfind mdel gbag jes pts ferr fhead ihl pcL pcAt pcEnd seg b0 fpkt Pt.v Pt.fin deadB
theorem plives_t : Triple Try.prog 10 #[] [] (RVal (.bool true)) := by
  have hb : fwBad hd0 = false := by with_unfolding_all decide
  have c15 := fun v => rfwrite_t hd0 v (List.replicate 20 0) (by simp) hb
  have eb : fpkt hd0 (List.replicate 20 0) = b0 := by with_unfolding_all rfl
  rw [eb] at c15
  have c20 := fun v => psplit_t v b0 7 8 (by omega) b0_ok.1 b0_ok.2.1 b0_ok.2.2.1 (by omega) (by omega) (by omega)
  have hl0 : (pB 7 0).length ≤ 100000 := Nat.le_trans lv_p0.2.2.2.2.2.2 (by omega)
  have hl1 : (pB 7 1).length ≤ 100000 := Nat.le_trans lv_p1.2.2.2.2.2.2 (by omega)
  have hl2 : (pB 7 2).length ≤ 100000 := Nat.le_trans lv_p2.2.2.2.2.2.2 (by omega)
  refine Triple.enter Try.func10 rfl Try.ntmps10 rfl (fun W => ?_)
  dsimp only [argsF, Nat.reduceAdd]
  repeat' (first
   | (refine isSeq1 3 ?_; refine Held.it ?_)
   | refine WPl.nil ?_ | refine WPq.then ?_ | refine WPq.thenR ?_ | refine WPq.thenE ?_ | refine WPq.blockN ?_ | refine WPq.blockR ?_ | refine WPq.blockE ?_ | refine WPq.blockO rfl ?_ | refine WPc.seq ?_ | refine WPc.block ?_ | refine WPc.ret ?_ | refine WPc.exit ?_ | refine WPc.skip ?_ | refine WPc.region ?_
   | (refine isCond ?_; first | refine WPc.cT ?_ | refine WPc.cF ?_ | (refine WPc.cQ (fun hc => ?_) (fun hc => ?_) <;> try exact prA))
   | (refine isD 13 ?_; refine WPl.rdX (ReadR.build (cs' := hdc hd0) (by with_unfolding_all exact buildA)) ?_)
   | (refine isMk ?_; refine WPl.mk fun v14 hv14 => ?_)
   | (refine isC 15 ?_; refine WPl.cR2 ((c15 v14)) fun v15 hv15 => ?_)
   | (refine isC 20 ?_; refine WPl.cX (c20 v15) (fun v20 Γ1 hR => ?_); obtain ⟨vo, es, k, hvo, rfl, hes, hk1, hk2, hk3, rfl⟩ := hR; obtain ⟨u0, u1, u2, rfl⟩ := es3 hes (k3 hk2 hk3); (try dsimp only [putF, List.cons_append, List.nil_append, List.map_cons, List.map_nil, List.length_cons, List.length_nil]))
   | (refine isMk ?_; refine WPl.mk fun v hv => ?_)
   | (refine isOp ?_; first | refine WPl.rd ?_ | refine WPl.sk ?_ | refine WPl.rdB ?_)
   | (show WPl _ _ _ _ _ _ _ (⟨_, .indexAddr _ _ _, _, _, _, _⟩ :: _) _; refine WPl.rdX (ReadR.indexE rfl rfl hasA (by first | assumption | omega)) ?_)
   | (show WPl _ _ _ _ _ _ _ (⟨_, .fieldAddr _ _ _, _, _, _, _⟩ :: _) _; refine WPl.rdX (ReadR.fieldE rfl hasA (by first | assumption | omega)) ?_)
   | (show WPl _ _ _ _ _ _ _ (⟨_, .load _ _, _, _, _, _⟩ :: _) _; first | refine WPl.rdX (ReadR.loadE rfl hasA (by assumption)) ?_ | refine WPl.rdX (ReadR.loadES (by assumption) (by first | assumption | omega) rfl hasA) ?_)
   | (show WPl _ _ _ _ _ _ _ (⟨_, .slice _ _ _ _ _, _, _, _, _⟩ :: _) _; first | refine WPl.rdX (ReadR.sliceH rfl rfl hasA (by omega)) ?_ | refine WPl.rdX (ReadR.sliceL rfl rfl hasA (by omega)) ?_ | refine WPl.rdX (ReadR.sliceLH rfl rfl rfl hasA (by omega) (by omega)) ?_)
   | (refine WPl.spQ (fun hc => ?_) (fun hc => ?_) <;> try exact prA)
   | fail)
  refine ⟨?_⟩
  rw [show List.map (fun x : Value × List UInt8 => x.1) [(u0, pB 7 0), (u1, pB 7 1), (u2, pB 7 2)] = [u0, u1, u2] from rfl]
  refine WPc.gbagO (row := vrowS) (es := [(u0, pB 7 0), (u1, pB 7 1), (u2, pB 7 2)]) (es' := [(u1, pB 7 1), (u2, pB 7 2)]) (x := (u0, pB 7 0)) vrowS_own (List.Perm.refl _) ?_
  refine WPc.gbagO (row := vrowS) (es := [(u1, pB 7 1), (u2, pB 7 2)]) (es' := [(u2, pB 7 2)]) (x := (u1, pB 7 1)) vrowS_own (List.Perm.refl _) ?_
  refine WPc.gbagO (row := vrowS) (es := [(u2, pB 7 2)]) (es' := []) (x := (u2, pB 7 2)) vrowS_own (List.Perm.refl _) ?_
  dsimp only [vrowS, List.cons_append, List.nil_append, Nat.reduceAdd]
  have n3 : ((3 : Nat) : Int) = 3 := rfl
  repeat' (first
   | (refine isSeq1 6 ?_; refine Held.it ?_)
   | refine WPl.nil ?_ | refine WPq.then ?_ | refine WPq.thenR ?_ | refine WPq.thenE ?_ | refine WPq.blockN ?_ | refine WPq.blockR ?_ | refine WPq.blockE ?_ | refine WPq.blockO rfl ?_ | refine WPc.seq ?_ | refine WPc.block ?_ | refine WPc.ret ?_ | refine WPc.exit ?_ | refine WPc.skip ?_ | refine WPc.region ?_
   | (refine isCond ?_; first | refine WPc.cT ?_ | refine WPc.cF ?_ | (refine WPc.cQ (fun hc => ?_) (fun hc => ?_) <;> try exact prA))
   | (refine isD 25 ?_; refine WPl.rdX (ReadR.binE rfl rfl BinR.neq (congrArg (fun q => Value.bool (!q)) (decide_eq_true (rfl : ((3 : Nat) : Int) = 3)))) ?_)
   | (refine isD 28 ?_; refine WPl.rdX (ReadR.binE rfl rfl BinR.neq (congrArg (fun q => Value.bool (!q)) (decide_eq_true (rfl : (0 : Int) = 0)))) ?_)
   | (refine isC 30 ?_; refine WPl.cXs (pnew_t) fun v Γ1 hR => ?_; (obtain ⟨gJ, m, rfl, rfl⟩ := hR); (try dsimp only [putF, List.cons_append, List.nil_append]))
   | (refine isMk ?_; refine WPl.mk fun v hv => ?_)
   | (refine isOp ?_; first | refine WPl.rd ?_ | refine WPl.sk ?_ | refine WPl.rdB ?_)
   | (show WPl _ _ _ _ _ _ _ (⟨_, .indexAddr _ _ _, _, _, _, _⟩ :: _) _; refine WPl.rdX (ReadR.indexE rfl rfl hasA (by first | assumption | omega)) ?_)
   | (show WPl _ _ _ _ _ _ _ (⟨_, .fieldAddr _ _ _, _, _, _, _⟩ :: _) _; refine WPl.rdX (ReadR.fieldE rfl hasA (by first | assumption | omega)) ?_)
   | (show WPl _ _ _ _ _ _ _ (⟨_, .load _ _, _, _, _, _⟩ :: _) _; first | refine WPl.rdX (ReadR.loadE rfl hasA (by assumption)) ?_ | refine WPl.rdX (ReadR.loadES (by assumption) (by first | assumption | omega) rfl hasA) ?_)
   | (show WPl _ _ _ _ _ _ _ (⟨_, .slice _ _ _ _ _, _, _, _, _⟩ :: _) _; first | refine WPl.rdX (ReadR.sliceH rfl rfl hasA (by omega)) ?_ | refine WPl.rdX (ReadR.sliceL rfl rfl hasA (by omega)) ?_ | refine WPl.rdX (ReadR.sliceLH rfl rfl rfl hasA (by omega) (by omega)) ?_)
   | (refine WPl.spQ (fun hc => ?_) (fun hc => ?_) <;> try exact prA)
   | fail)
  refine ⟨?_⟩
  have c36 := pAdd_t gJ m [] 0 (by omega) (fun x hx => by cases hx) (fun x hx => by cases hx) (by simp) u2 (pB 7 2) hl2
  repeat' (first
   | (refine isSeq1 7 ?_; refine Held.it ?_)
   | refine WPl.nil ?_ | refine WPq.then ?_ | refine WPq.thenR ?_ | refine WPq.thenE ?_ | refine WPq.blockN ?_ | refine WPq.blockR ?_ | refine WPq.blockE ?_ | refine WPq.blockO rfl ?_ | refine WPc.seq ?_ | refine WPc.block ?_ | refine WPc.ret ?_ | refine WPc.exit ?_ | refine WPc.skip ?_ | refine WPc.region ?_
   | (refine isCond ?_; first | refine WPc.cT ?_ | refine WPc.cF ?_ | (refine WPc.cQ (fun hc => ?_) (fun hc => ?_) <;> try exact prA))
   | (refine isD 34 ?_; refine WPl.rdX (ReadR.indexE1 (i := 2) rfl rfl hasA (by omega)) ?_)
   | (refine isD 35 ?_; refine WPl.rdX (ReadR.loadE rfl hasA rfl) ?_)
   | (refine isC 36 ?_; refine WPl.cO (c36) (fun v Γ1 hR => ?_) ?_; rotate_left; exact fpA; (obtain ⟨x1, q2, rfl, hk1x, hs1, hps1, hq2, rfl⟩ := lives_1 hR); (try dsimp only [putF, List.cons_append, List.nil_append]))
   | (refine isMk ?_; refine WPl.mk fun v hv => ?_)
   | (refine isOp ?_; first | refine WPl.rd ?_ | refine WPl.sk ?_ | refine WPl.rdB ?_)
   | (show WPl _ _ _ _ _ _ _ (⟨_, .indexAddr _ _ _, _, _, _, _⟩ :: _) _; refine WPl.rdX (ReadR.indexE rfl rfl hasA (by first | assumption | omega)) ?_)
   | (show WPl _ _ _ _ _ _ _ (⟨_, .fieldAddr _ _ _, _, _, _, _⟩ :: _) _; refine WPl.rdX (ReadR.fieldE rfl hasA (by first | assumption | omega)) ?_)
   | (show WPl _ _ _ _ _ _ _ (⟨_, .load _ _, _, _, _, _⟩ :: _) _; first | refine WPl.rdX (ReadR.loadE rfl hasA (by assumption)) ?_ | refine WPl.rdX (ReadR.loadES (by assumption) (by first | assumption | omega) rfl hasA) ?_)
   | (show WPl _ _ _ _ _ _ _ (⟨_, .slice _ _ _ _ _, _, _, _, _⟩ :: _) _; first | refine WPl.rdX (ReadR.sliceH rfl rfl hasA (by omega)) ?_ | refine WPl.rdX (ReadR.sliceL rfl rfl hasA (by omega)) ?_ | refine WPl.rdX (ReadR.sliceLH rfl rfl rfl hasA (by omega) (by omega)) ?_)
   | (refine WPl.spQ (fun hc => ?_) (fun hc => ?_) <;> try exact prA)
   | fail)
  refine ⟨?_⟩
  have hps2 : ∀ x ∈ [x1], x.ps.length ≤ 9998 ∧ ∀ o ∈ x.ps, o.fin ≤ 100000 := fun x hx => by
    rw [List.mem_singleton.1 hx, hps1]
    exact ⟨by simp, fun o ho => by rw [List.mem_singleton.1 ho, hq2.fin]; decide⟩
  have c44 := pAdd_t gJ m [x1] 0 (by omega) (fun x hx => by rw [List.mem_singleton.1 hx, hs1]; omega) hps2 (by simp) u0 (pB 7 0) hl0
  repeat' (first
   | (refine isSeq1 8 ?_; refine Held.it ?_)
   | refine WPl.nil ?_ | refine WPq.then ?_ | refine WPq.thenR ?_ | refine WPq.thenE ?_ | refine WPq.blockN ?_ | refine WPq.blockR ?_ | refine WPq.blockE ?_ | refine WPq.blockO rfl ?_ | refine WPc.seq ?_ | refine WPc.block ?_ | refine WPc.ret ?_ | refine WPc.exit ?_ | refine WPc.skip ?_ | refine WPc.region ?_
   | (refine isCond ?_; first | refine WPc.cT ?_ | refine WPc.cF ?_ | (refine WPc.cQ (fun hc => ?_) (fun hc => ?_) <;> try exact prA))
   | (refine isD 42 ?_; refine WPl.rdX (ReadR.indexE1 (i := 0) rfl rfl hasA (by omega)) ?_)
   | (refine isD 43 ?_; refine WPl.rdX (ReadR.loadE rfl hasA rfl) ?_)
   | (refine isC 44 ?_; refine WPl.cO (c44) (fun v Γ1 hR => ?_) ?_; rotate_left; exact fpA; (obtain ⟨x2, q0, rfl, hk2x, hs2, hpsx, hq0, hh0, rfl⟩ := lives_2 hk1x hs1 hps1 hq2 hR); (try dsimp only [putF, List.cons_append, List.nil_append]))
   | (refine isMk ?_; refine WPl.mk fun v hv => ?_)
   | (refine isOp ?_; first | refine WPl.rd ?_ | refine WPl.sk ?_ | refine WPl.rdB ?_)
   | (show WPl _ _ _ _ _ _ _ (⟨_, .indexAddr _ _ _, _, _, _, _⟩ :: _) _; refine WPl.rdX (ReadR.indexE rfl rfl hasA (by first | assumption | omega)) ?_)
   | (show WPl _ _ _ _ _ _ _ (⟨_, .fieldAddr _ _ _, _, _, _, _⟩ :: _) _; refine WPl.rdX (ReadR.fieldE rfl hasA (by first | assumption | omega)) ?_)
   | (show WPl _ _ _ _ _ _ _ (⟨_, .load _ _, _, _, _, _⟩ :: _) _; first | refine WPl.rdX (ReadR.loadE rfl hasA (by assumption)) ?_ | refine WPl.rdX (ReadR.loadES (by assumption) (by first | assumption | omega) rfl hasA) ?_)
   | (show WPl _ _ _ _ _ _ _ (⟨_, .slice _ _ _ _ _, _, _, _, _⟩ :: _) _; first | refine WPl.rdX (ReadR.sliceH rfl rfl hasA (by omega)) ?_ | refine WPl.rdX (ReadR.sliceL rfl rfl hasA (by omega)) ?_ | refine WPl.rdX (ReadR.sliceLH rfl rfl rfl hasA (by omega) (by omega)) ?_)
   | (refine WPl.spQ (fun hc => ?_) (fun hc => ?_) <;> try exact prA)
   | fail)
  refine ⟨?_⟩
  have hps3 : ∀ x ∈ [x2], x.ps.length ≤ 9998 ∧ ∀ o ∈ x.ps, o.fin ≤ 100000 := fun x hx => by
    rw [List.mem_singleton.1 hx, hpsx]
    refine ⟨by simp, fun o ho => ?_⟩
    rcases List.mem_cons.1 ho with rfl | ho
    · rw [hq0.fin]; decide
    · rw [List.mem_singleton.1 ho, hq2.fin]; decide
  have c52 := pAdd_t gJ m [x2] 0 (by omega) (fun x hx => by rw [List.mem_singleton.1 hx, hs2]; omega) hps3 (by simp) u1 (pB 7 1) hl1
  repeat' (first
   | (refine isSeq1 9 ?_; refine Held.it ?_)
   | refine WPl.nil ?_ | refine WPq.then ?_ | refine WPq.thenR ?_ | refine WPq.thenE ?_ | refine WPq.blockN ?_ | refine WPq.blockR ?_ | refine WPq.blockE ?_ | refine WPq.blockO rfl ?_ | refine WPc.seq ?_ | refine WPc.block ?_ | refine WPc.ret ?_ | refine WPc.exit ?_ | refine WPc.skip ?_ | refine WPc.region ?_
   | (refine isCond ?_; first | refine WPc.cT ?_ | refine WPc.cF ?_ | (refine WPc.cQ (fun hc => ?_) (fun hc => ?_) <;> try exact prA))
   | (refine isD 50 ?_; refine WPl.rdX (ReadR.indexE1 (i := 1) rfl rfl hasA (by omega)) ?_)
   | (refine isD 51 ?_; refine WPl.rdX (ReadR.loadE rfl hasA rfl) ?_)
   | (refine isC 52 ?_; refine WPl.cO (c52) (fun v Γ1 hR => ?_) ?_; rotate_left; exact fpA; (obtain ⟨s, hs, rfl, rfl⟩ := lives_3 hk2x hs2 hpsx hq0 hh0 hq2 hR); (try dsimp only [putF, List.cons_append, List.nil_append]))
   | (refine isMk ?_; refine WPl.mk fun v hv => ?_)
   | (refine isOp ?_; first | refine WPl.rd ?_ | refine WPl.sk ?_ | refine WPl.rdB ?_)
   | (show WPl _ _ _ _ _ _ _ (⟨_, .indexAddr _ _ _, _, _, _, _⟩ :: _) _; refine WPl.rdX (ReadR.indexE rfl rfl hasA (by first | assumption | omega)) ?_)
   | (show WPl _ _ _ _ _ _ _ (⟨_, .fieldAddr _ _ _, _, _, _, _⟩ :: _) _; refine WPl.rdX (ReadR.fieldE rfl hasA (by first | assumption | omega)) ?_)
   | (show WPl _ _ _ _ _ _ _ (⟨_, .load _ _, _, _, _, _⟩ :: _) _; first | refine WPl.rdX (ReadR.loadE rfl hasA (by assumption)) ?_ | refine WPl.rdX (ReadR.loadES (by assumption) (by first | assumption | omega) rfl hasA) ?_)
   | (show WPl _ _ _ _ _ _ _ (⟨_, .slice _ _ _ _ _, _, _, _, _⟩ :: _) _; first | refine WPl.rdX (ReadR.sliceH rfl rfl hasA (by omega)) ?_ | refine WPl.rdX (ReadR.sliceL rfl rfl hasA (by omega)) ?_ | refine WPl.rdX (ReadR.sliceLH rfl rfl rfl hasA (by omega) (by omega)) ?_)
   | (refine WPl.spQ (fun hc => ?_) (fun hc => ?_) <;> try exact prA)
   | fail)
  refine ⟨?_⟩
  have z0 : Value.bool (decide ((0 : Int) = 0)) = .bool true := congrArg Value.bool (decide_eq_true rfl)
  repeat' (first
   | refine WPl.nil ?_ | refine WPq.then ?_ | refine WPq.thenR ?_ | refine WPq.thenE ?_ | refine WPq.blockN ?_ | refine WPq.blockR ?_ | refine WPq.blockE ?_ | refine WPq.blockO rfl ?_ | refine WPc.seq ?_ | refine WPc.block ?_ | refine WPc.ret ?_ | refine WPc.exit ?_ | refine WPc.skip ?_ | refine WPc.region ?_
   | (refine isCond ?_; first | refine WPc.cT ?_ | refine WPc.cF ?_ | (refine WPc.cQ (fun hc => ?_) (fun hc => ?_) <;> try exact prA))
   | (refine isD 57 ?_; refine WPl.rdX (ReadR.binE rfl rfl BinR.eql z0) ?_)
   | (refine isD 61 ?_; refine WPl.rdX (ReadR.binE rfl rfl BinR.eql z0) ?_)
   | (refine isD 65 ?_; refine WPl.rdX (ReadR.binE rfl rfl BinR.eql z0) ?_)
   | (refine isD 69 ?_; refine WPl.rdX (ReadR.binE rfl rfl BinR.eql z0) ?_)
   | (refine isD 73 ?_; refine WPl.rdX (ReadR.binE rfl rfl BinR.eql z0) ?_)
   | (refine isD 80 ?_; refine WPl.rdX (ReadR.binE rfl rfl BinR.strUE (congrArg Value.bool (decide_eq_true (rfl : b0 = b0)))) ?_)
   | (refine isMk ?_; refine WPl.mk fun v hv => ?_)
   | (refine isOp ?_; first | refine WPl.rd ?_ | refine WPl.sk ?_ | refine WPl.rdB ?_)
   | (show WPl _ _ _ _ _ _ _ (⟨_, .indexAddr _ _ _, _, _, _, _⟩ :: _) _; refine WPl.rdX (ReadR.indexE rfl rfl hasA (by first | assumption | omega)) ?_)
   | (show WPl _ _ _ _ _ _ _ (⟨_, .fieldAddr _ _ _, _, _, _, _⟩ :: _) _; refine WPl.rdX (ReadR.fieldE rfl hasA (by first | assumption | omega)) ?_)
   | (show WPl _ _ _ _ _ _ _ (⟨_, .load _ _, _, _, _, _⟩ :: _) _; first | refine WPl.rdX (ReadR.loadE rfl hasA (by assumption)) ?_ | refine WPl.rdX (ReadR.loadES (by assumption) (by first | assumption | omega) rfl hasA) ?_)
   | (show WPl _ _ _ _ _ _ _ (⟨_, .slice _ _ _ _ _, _, _, _, _⟩ :: _) _; first | refine WPl.rdX (ReadR.sliceH rfl rfl hasA (by omega)) ?_ | refine WPl.rdX (ReadR.sliceL rfl rfl hasA (by omega)) ?_ | refine WPl.rdX (ReadR.sliceLH rfl rfl rfl hasA (by omega) (by omega)) ?_)
   | (refine WPl.spQ (fun hc => ?_) (fun hc => ?_) <;> try exact prA)
   | fail)
  exact WPq.dV
end Go.Proofs.Ytmdihpanaljkfaa
/- Law PartsFew: the walk. -/
namespace Go.Proofs.Ytmdihpanaljkfaa
set_option linter.unusedVariables false
set_option linter.unusedSimpArgs false
def FewL (i : Nat) (L : List PJ) : Prop := L.length = min i 64 ∧ ∀ j x, L[j]? = some x → x.key = kF j ∧ x.since = j / 8 ∧ ∃ p, x.ps = [p] ∧ PtF p 8 (List.replicate 8 0) false
theorem FewL.mem {i : Nat} {L : List PJ} (h : FewL i L) {x : PJ} (hx : x ∈ L) : ∃ j, j < min i 64 ∧ x.key = kF j ∧ x.since = j / 8 ∧ ∃ p, x.ps = [p] ∧ PtF p 8 (List.replicate 8 0) false := by
  obtain ⟨j, hj⟩ := List.getElem?_of_mem hx
  have := (List.getElem?_eq_some_iff.1 hj).1
  rw [h.1] at this
  obtain ⟨h1, h2, h3⟩ := h.2 j x hj
  exact ⟨j, this, h1, h2, h3⟩
theorem FewL.live {i now : Nat} {L : List PJ} (h : FewL i L) (hn : now ≤ 29) : (L.filter fun x => !deadB now x) = L := by
  rw [List.filter_eq_self]
  intro x hx
  obtain ⟨j, hj, _, h2, _⟩ := h.mem hx
  have : deadB now x = false := by
    unfold deadB
    rw [h2, Bool.and_eq_false_iff]
    right
    exact decide_eq_false (by omega)
  rw [this]; rfl
theorem FewL.bound {i : Nat} {L : List PJ} (h : FewL i L) : ∀ x ∈ L, x.ps.length ≤ 9998 ∧ ∀ o ∈ x.ps, o.fin ≤ 100000 := fun x hx => by
  obtain ⟨j, _, _, _, p, hp, hf⟩ := h.mem hx
  rw [hp]
  exact ⟨by simp, fun o ho => by rw [List.mem_singleton.1 ho, hf.fin]; decide⟩
theorem FewL.since {i : Nat} {L : List PJ} (h : FewL i L) : ∀ x ∈ L, x.since ≤ 18446744073709551615 := fun x hx => by
  obtain ⟨j, hj, _, h2, _⟩ := h.mem hx
  omega
theorem few_step {gJ m i : Nat} {L : List PJ} {v : Value} {Γ : List Asn} (hL : FewL i L) (hi : i < 70) (h : RAddA gJ m L (pB i 1) (i / 8) v Γ) :
    (64 ≤ i ∧ v = .tuple #[.slice none 0 0, .int .i64 2] ∧ FewL (i + 1) L ∧ Γ = [bx gJ 45 (jbc m), mp kyM m (jes L), gbag jrow L]) ∨
    (i < 64 ∧ v = .tuple #[.slice none 0 0, .int .i64 0] ∧ ∃ L', FewL (i + 1) L' ∧ Γ = [bx gJ 45 (jbc m), mp kyM m (jes L'), gbag jrow L']) := by
  have hlen := hL.1
  rcases add_new h (few_pc i hi) (.inr (by simp)) (by simp) (by decide) (hL.live (by omega)) (fun x hx e => by
    obtain ⟨j, hj, h1, _⟩ := hL.mem hx
    have : kF j = kF i := h1.symm.trans e
    have : j = i := congrArg Ky.id this
    omega) with ⟨h64, rfl, rfl⟩ | ⟨hlt, rfl, x, p, h1, h2, h3, h4, rfl⟩
  · refine .inl ⟨by omega, rfl, ⟨by omega, hL.2⟩, rfl⟩
  · refine .inr ⟨by omega, rfl, L ++ [x], ⟨by rw [List.length_append, hlen]; simp; omega, fun j y hy => ?_⟩, rfl⟩
    rcases Nat.lt_or_ge j L.length with hj | hj
    · rw [List.getElem?_append_left hj] at hy
      exact hL.2 j y hy
    · rw [List.getElem?_append_right hj] at hy
      have hj0 : j - L.length = 0 := by
        have := (List.getElem?_eq_some_iff.1 hy).1
        simp at this
        omega
      rw [hj0] at hy
      cases hy
      have hji : j = i := by omega
      subst hji
      exact ⟨h1, h2, p, h3, h4⟩
theorem few_lt {gJ m i : Nat} {L : List PJ} {v : Value} {Γ : List Asn} (hL : FewL i L) (hi : i < 64) (h : RAddA gJ m L (pB i 1) (i / 8) v Γ) : v = .tuple #[.slice none 0 0, .int .i64 0] ∧ ∃ L', FewL (i + 1) L' ∧ Γ = [bx gJ 45 (jbc m), mp kyM m (jes L'), gbag jrow L'] := by
  rcases few_step hL (by omega) h with ⟨h1, _⟩ | ⟨_, h2, h3⟩
  · omega
  · exact ⟨h2, h3⟩
theorem few_ge {gJ m i : Nat} {L : List PJ} {v : Value} {Γ : List Asn} (hL : FewL i L) (hi : i < 70) (hi2 : 64 ≤ i) (h : RAddA gJ m L (pB i 1) (i / 8) v Γ) : v = .tuple #[.slice none 0 0, .int .i64 2] ∧ FewL (i + 1) L ∧ Γ = [bx gJ 45 (jbc m), mp kyM m (jes L), gbag jrow L] := by
  rcases few_step hL hi h with ⟨_, h2, h3⟩ | ⟨h1, _⟩
  · exact ⟨h2, h3⟩
  · omega
theorem filter_tail {α : Type} {q : α → Bool} : ∀ (l : List α) (k : Nat), (∀ j x, l[j]? = some x → (q x = true ↔ k ≤ j)) → l.filter q = l.drop k
  | [], k, _ => by simp
  | x :: l, 0, h => by
    rw [List.filter_cons_of_pos ((h 0 x rfl).2 (Nat.le_refl _)), List.drop_zero]
    congr 1
    have := filter_tail l 0 fun j y hy => ⟨fun _ => Nat.zero_le _, fun _ => (h (j + 1) y (by simpa using hy)).2 (Nat.zero_le _)⟩
    rwa [List.drop_zero] at this
  | x :: l, k + 1, h => by
    rw [List.filter_cons_of_neg (fun e => by have := (h 0 x rfl).1 e; omega), List.drop_succ_cons]
    exact filter_tail l k fun j y hy => by
      have := h (j + 1) y (by simpa using hy)
      rw [this]; omega
theorem FewL.eight {i : Nat} {L : List PJ} (h : FewL i L) : (L.filter fun x => !deadB 30 x) = L.drop 8 := by
  refine filter_tail L 8 fun j x hx => ?_
  obtain ⟨_, h2, _⟩ := h.2 j x hx
  have hj := (List.getElem?_eq_some_iff.1 hx).1
  rw [h.1] at hj
  unfold deadB
  rw [h2]
  by_cases h8 : 8 ≤ j
  · rw [decide_eq_false (show ¬ (30 : Int) ≤ ((30 : Nat) : Int) - ((j / 8 : Nat) : Int) by omega)]
    simp [h8]
  · rw [decide_eq_true (show (30 : Int) ≤ ((30 : Nat) : Int) - ((j / 8 : Nat) : Int) by omega), decide_eq_true (show ((j / 8 : Nat) : Int) ≤ ((30 : Nat) : Int) by omega)]
    simp; omega
theorem FewL.gone {i : Nat} {L : List PJ} (h : FewL i L) : ((L.drop 8).filter fun x => !deadB 100 x) = [] := by
  rw [List.filter_eq_nil_iff]
  intro x hx
  obtain ⟨j, hj, _, h2, _⟩ := h.mem (List.mem_of_mem_drop hx)
  unfold deadB
  rw [h2, decide_eq_true (show (30 : Int) ≤ ((100 : Nat) : Int) - ((j / 8 : Nat) : Int) by omega), decide_eq_true (show ((j / 8 : Nat) : Int) ≤ ((100 : Nat) : Int) by omega)]
  simp
theorem FewL.nil : FewL 0 [] := ⟨rfl, fun j x hx => by simp at hx⟩
open Go.RowKit
set_option linter.unusedSimpArgs false
set_option linter.unusedVariables false
set_option maxRecDepth 20000
set_option maxHeartbeats 3000000
attribute [local irreducible] WPc WPl WPq ReadR OpT BinR HasS bx rdN rowN Take Takes Prov Triple ResF BuildP Done ag Int.decLt Int.decLe Int.instDecidableEq
attribute [local irreducible] mp rmp rg rgo mput mget mfind mdel gbag jes pts ferr fhead ihl pcL pcAt pcEnd seg b0 fpkt Pt.v Pt.fin deadB
theorem partsFew_t (c : UInt8) : Triple Try.prog 3 #[.int .u8 ((c.toNat : Nat) : Int)] [] (RVal (.bool true)) := by
  have hb : fwBad hd0 = false := by with_unfolding_all decide
  have c24 := fun v => rfwrite_t hd0 v (List.replicate 20 0) (by simp) hb
  have eb : fpkt hd0 (List.replicate 20 0) = b0 := by with_unfolding_all rfl
  rw [eb] at c24
  have clv := plives_t
  have hc8 := c.toNat_lt
  obtain ⟨N, hN⟩ : ∃ N, N = 60 + c.toNat % 10 := ⟨_, rfl⟩
  have hN2 : N < 70 ∧ 60 ≤ N := by omega
  have e20 : (60 : Int) + ((c.toNat : Nat) : Int) % 10 = (N : Int) := by omega
  refine Triple.enter Try.func3 rfl Try.ntmps3 rfl (fun W => ?_)
  dsimp only [argsF, Nat.reduceAdd]
  repeat' (first
   | refine WPl.nil ?_ | refine WPq.then ?_ | refine WPq.thenR ?_ | refine WPq.thenE ?_ | refine WPq.blockN ?_ | refine WPq.blockR ?_ | refine WPq.blockE ?_ | refine WPq.blockO rfl ?_ | refine WPc.seq ?_ | refine WPc.block ?_ | refine WPc.ret ?_ | refine WPc.exit ?_ | refine WPc.skip ?_ | refine WPc.region ?_
   | (refine isCond ?_; first | refine WPc.cT ?_ | refine WPc.cF ?_ | (refine WPc.cQ (fun hc => ?_) (fun hc => ?_) <;> try exact prA))
   | (refine isC 16 ?_; refine WPl.cXs (pnew_t) fun v Γ1 hR => ?_; (obtain ⟨gJ, m, rfl, rfl⟩ := hR); (try dsimp only [putF, List.cons_append, List.nil_append]))
   | (refine isD 20 ?_; refine WPl.rdX (ReadR.binE rfl rfl (BinR.addI (by omega) (by omega)) (congrArg (Value.int IntKind.i64) e20)) ?_)
   | (refine isD 22 ?_; refine WPl.rdX (ReadR.build (cs' := hdc hd0) (by with_unfolding_all exact buildA)) ?_)
   | (refine isMk ?_; refine WPl.mk fun v23 hv23 => ?_)
   | (refine isC 24 ?_; refine WPl.cR2 ((c24 v23)) fun v24 hv24 => ?_)
   | (refine isMk ?_; refine WPl.mk fun v hv => ?_)
   | (refine isOp ?_; first | refine WPl.rd ?_ | refine WPl.sk ?_ | refine WPl.rdB ?_)
   | (show WPl _ _ _ _ _ _ _ (⟨_, .indexAddr _ _ _, _, _, _, _⟩ :: _) _; refine WPl.rdX (ReadR.indexE rfl rfl hasA (by first | assumption | omega)) ?_)
   | (show WPl _ _ _ _ _ _ _ (⟨_, .fieldAddr _ _ _, _, _, _, _⟩ :: _) _; refine WPl.rdX (ReadR.fieldE rfl hasA (by first | assumption | omega)) ?_)
   | (show WPl _ _ _ _ _ _ _ (⟨_, .load _ _, _, _, _, _⟩ :: _) _; first | refine WPl.rdX (ReadR.loadE rfl hasA (by assumption)) ?_ | refine WPl.rdX (ReadR.loadES (by assumption) (by first | assumption | omega) rfl hasA) ?_)
   | (show WPl _ _ _ _ _ _ _ (⟨_, .slice _ _ _ _ _, _, _, _, _⟩ :: _) _; first | refine WPl.rdX (ReadR.sliceH rfl rfl hasA (by omega)) ?_ | refine WPl.rdX (ReadR.sliceL rfl rfl hasA (by omega)) ?_ | refine WPl.rdX (ReadR.sliceLH rfl rfl rfl hasA (by omega) (by omega)) ?_)
   | (refine WPl.spQ (fun hc => ?_) (fun hc => ?_) <;> try exact prA)
   | fail)
  first | refine WPc.loop (σ := Nat × List PJ) (fun st => st.1 ≤ N ∧ FewL st.1 st.2) (fun st => [bx gJ 45 (jbc m), mp kyM m (jes st.2), gbag jrow st.2, rowN 5 1 v24 b0.length (u8s b0)]) (fun st => [(3, hJ gJ), (4, .int .i64 (N : Int)), (5, v24), (7, .int .i64 (st.1 : Int))]) (fun st => N - st.1) ((0, [])) ?_ takesA frsA (fun st km hx hk => ?_)
  · exact ⟨Nat.zero_le _, FewL.nil⟩
  obtain ⟨i, L⟩ := st
  obtain ⟨hi, hL⟩ := hx
  dsimp only at hi hL hk ⊢
  have hkm : km = N - i := hk
  clear hk
  have hi70 : i ≤ 70 := by omega
  by_cases hlt : i < N
  · have hlt' : (i : Int) < (N : Int) := by omega
    have hw35 : IntKind.u16.wrap (i : Int) = (i : Int) := by rw [IntKind.wrap_u16]; omega
    have c36 := psplit_t v24 b0 i 8 (by omega) b0_ok.1 b0_ok.2.1 b0_ok.2.2.1 (by omega) (by omega) (by omega)
    have hl1 : (pB i 1).length ≤ 100000 := Nat.le_trans (few_pc i (by omega)).2.2.2.2.2.2 (by omega)
    have hLl := hL.1
    have c54 := fun u1 => pAdd_t gJ m L (i / 8) (by omega) hL.since hL.bound (by omega) u1 (pB i 1) hl1
    have e52 : ((i : Int) / 8) = ((i / 8 : Nat) : Int) := by omega
    have z0 : Value.bool (decide ((0 : Int) = 0)) = .bool true := congrArg Value.bool (decide_eq_true rfl)
    repeat' (first
     | (refine isSeq1 8 ?_; refine Held.it ?_)
     | refine WPl.nil ?_ | refine WPq.then ?_ | refine WPq.thenR ?_ | refine WPq.thenE ?_ | refine WPq.blockN ?_ | refine WPq.blockR ?_ | refine WPq.blockE ?_ | refine WPq.blockO rfl ?_ | refine WPc.seq ?_ | refine WPc.block ?_ | refine WPc.ret ?_ | refine WPc.exit ?_ | refine WPc.skip ?_ | refine WPc.region ?_
     | (refine isCond ?_; first | refine WPc.cT ?_ | refine WPc.cF ?_ | (refine WPc.cQ (fun hc => ?_) (fun hc => ?_) <;> try first | exact prA | (exfalso; first | omega)))
     | (refine isD 29 ?_; refine WPl.rdX (ReadR.binE rfl rfl BinR.lss (congrArg Value.bool (decide_eq_true hlt'))) ?_)
     | (refine isD 35 ?_; refine WPl.rdX (ReadR.conv rfl hw35) ?_)
     | (refine isC 36 ?_; refine WPl.cX c36 (fun v36 Γ1 hR => ?_); obtain ⟨vo, es, k, hvo, rfl, hes, hk1, hk2, hk3, rfl⟩ := hR; obtain ⟨u0, u1, u2, rfl⟩ := es3 hes (k3 hk2 hk3); (try dsimp only [putF, List.cons_append, List.nil_append, List.length_cons, List.length_nil]))
     | (refine isMk ?_; refine WPl.mk fun v hv => ?_)
     | (refine isOp ?_; first | refine WPl.rd ?_ | refine WPl.sk ?_ | refine WPl.rdB ?_)
     | (show WPl _ _ _ _ _ _ _ (⟨_, .indexAddr _ _ _, _, _, _, _⟩ :: _) _; refine WPl.rdX (ReadR.indexE rfl rfl hasA (by first | assumption | omega)) ?_)
     | (show WPl _ _ _ _ _ _ _ (⟨_, .fieldAddr _ _ _, _, _, _, _⟩ :: _) _; refine WPl.rdX (ReadR.fieldE rfl hasA (by first | assumption | omega)) ?_)
     | (show WPl _ _ _ _ _ _ _ (⟨_, .load _ _, _, _, _, _⟩ :: _) _; first | refine WPl.rdX (ReadR.loadE rfl hasA (by assumption)) ?_ | refine WPl.rdX (ReadR.loadES (by assumption) (by first | assumption | omega) rfl hasA) ?_)
     | (show WPl _ _ _ _ _ _ _ (⟨_, .slice _ _ _ _ _, _, _, _, _⟩ :: _) _; first | refine WPl.rdX (ReadR.sliceH rfl rfl hasA (by omega)) ?_ | refine WPl.rdX (ReadR.sliceL rfl rfl hasA (by omega)) ?_ | refine WPl.rdX (ReadR.sliceLH rfl rfl rfl hasA (by omega) (by omega)) ?_)
     | (refine WPl.spQ (fun hc => ?_) (fun hc => ?_) <;> try first | exact prA | (exfalso; first | omega))
     | fail)
    refine ⟨?_⟩
    rw [show List.map (fun x : Value × List UInt8 => x.1) [(u0, pB i 0), (u1, pB i 1), (u2, pB i 2)] = [u0, u1, u2] from rfl]
    refine WPc.gbagO (row := vrowS) (es := [(u0, pB i 0), (u1, pB i 1), (u2, pB i 2)]) (es' := [(u0, pB i 0), (u2, pB i 2)]) (x := (u1, pB i 1)) vrowS_own (List.Perm.swap _ _ _) ?_
    dsimp only [vrowS, List.cons_append, List.nil_append, Nat.reduceAdd]
    by_cases h64 : i < 64
    · have h64' : (i : Int) < 64 := by omega
      repeat' (first
       | refine WPl.nil ?_ | refine WPq.then ?_ | refine WPq.thenR ?_ | refine WPq.thenE ?_ | refine WPq.blockN ?_ | refine WPq.blockR ?_ | refine WPq.blockE ?_ | refine WPq.blockO rfl ?_ | refine WPc.seq ?_ | refine WPc.block ?_ | refine WPc.ret ?_ | refine WPc.exit ?_ | refine WPc.skip ?_ | refine WPc.region ?_
       | (refine isCond ?_; first | refine WPc.cT ?_ | refine WPc.cF ?_ | (refine WPc.cQ (fun hc => ?_) (fun hc => ?_) <;> try first | exact prA | (exfalso; first | omega)))
       | (refine isD 40 ?_; refine WPl.rdX (ReadR.binE rfl rfl BinR.neq (congrArg (fun q => Value.bool (!q)) (decide_eq_true (rfl : (0 : Int) = 0)))) ?_)
       | (refine isD 44 ?_; refine WPl.rdX (ReadR.binE rfl rfl BinR.neq (congrArg (fun q => Value.bool (!q)) (decide_eq_true (rfl : ((3 : Nat) : Int) = 3)))) ?_)
       | (refine isD 49 ?_; refine WPl.rdX (ReadR.indexE1 (i := 1) rfl rfl hasA (by omega)) ?_)
       | (refine isD 50 ?_; refine WPl.rdX (ReadR.loadE rfl hasA rfl) ?_)
       | (refine isD 52 ?_; refine WPl.rdX (ReadR.binE rfl rfl (BinR.quoK (by omega) (by omega) (by simp only [kmax]; omega)) (congrArg (Value.int IntKind.i64) e52)) ?_)
       | (refine isC 54 ?_; refine WPl.cO (c54 u1) (fun v Γ1 hR => ?_) ?_; rotate_left; exact fpA; (obtain ⟨rfl, L2, hL2, rfl⟩ := few_lt hL h64 hR); (try dsimp only [putF, List.cons_append, List.nil_append]))
       | (refine isD 58 ?_; refine WPl.rdX (ReadR.binE rfl rfl BinR.eql z0) ?_)
       | (refine isD 60 ?_; refine WPl.rdX (ReadR.binE rfl rfl BinR.lss (congrArg Value.bool (decide_eq_true h64'))) ?_)
       | (refine isD 61 ?_; refine WPl.rdX (ReadR.binE rfl rfl (BinR.neqB rfl) rfl) ?_)
       | (refine isD 64 ?_; refine WPl.rdX (ReadR.binE rfl rfl BinR.geq (congrArg Value.bool (decide_eq_false (by omega)))) ?_)
       | (refine isMk ?_; refine WPl.mk fun v hv => ?_)
       | (refine isOp ?_; first | refine WPl.rd ?_ | refine WPl.sk ?_ | refine WPl.rdB ?_)
       | (show WPl _ _ _ _ _ _ _ (⟨_, .indexAddr _ _ _, _, _, _, _⟩ :: _) _; refine WPl.rdX (ReadR.indexE rfl rfl hasA (by first | assumption | omega)) ?_)
       | (show WPl _ _ _ _ _ _ _ (⟨_, .fieldAddr _ _ _, _, _, _, _⟩ :: _) _; refine WPl.rdX (ReadR.fieldE rfl hasA (by first | assumption | omega)) ?_)
       | (show WPl _ _ _ _ _ _ _ (⟨_, .load _ _, _, _, _, _⟩ :: _) _; first | refine WPl.rdX (ReadR.loadE rfl hasA (by assumption)) ?_ | refine WPl.rdX (ReadR.loadES (by assumption) (by first | assumption | omega) rfl hasA) ?_)
       | (show WPl _ _ _ _ _ _ _ (⟨_, .slice _ _ _ _ _, _, _, _, _⟩ :: _) _; first | refine WPl.rdX (ReadR.sliceH rfl rfl hasA (by omega)) ?_ | refine WPl.rdX (ReadR.sliceL rfl rfl hasA (by omega)) ?_ | refine WPl.rdX (ReadR.sliceLH rfl rfl rfl hasA (by omega) (by omega)) ?_)
       | (refine WPl.spQ (fun hc => ?_) (fun hc => ?_) <;> try first | exact prA | (exfalso; first | omega))
       | fail)
      exact WPq.rnd (i + 1, L2) ⟨hlt, hL2⟩ (by dsimp only; omega)
    · have h64' : ¬ (i : Int) < 64 := by omega
      have hge : (i : Int) ≥ 64 := by omega
      repeat' (first
       | refine WPl.nil ?_ | refine WPq.then ?_ | refine WPq.thenR ?_ | refine WPq.thenE ?_ | refine WPq.blockN ?_ | refine WPq.blockR ?_ | refine WPq.blockE ?_ | refine WPq.blockO rfl ?_ | refine WPc.seq ?_ | refine WPc.block ?_ | refine WPc.ret ?_ | refine WPc.exit ?_ | refine WPc.skip ?_ | refine WPc.region ?_
       | (refine isCond ?_; first | refine WPc.cT ?_ | refine WPc.cF ?_ | (refine WPc.cQ (fun hc => ?_) (fun hc => ?_) <;> try first | exact prA | (exfalso; first | omega)))
       | (refine isD 40 ?_; refine WPl.rdX (ReadR.binE rfl rfl BinR.neq (congrArg (fun q => Value.bool (!q)) (decide_eq_true (rfl : (0 : Int) = 0)))) ?_)
       | (refine isD 44 ?_; refine WPl.rdX (ReadR.binE rfl rfl BinR.neq (congrArg (fun q => Value.bool (!q)) (decide_eq_true (rfl : ((3 : Nat) : Int) = 3)))) ?_)
       | (refine isD 49 ?_; refine WPl.rdX (ReadR.indexE1 (i := 1) rfl rfl hasA (by omega)) ?_)
       | (refine isD 50 ?_; refine WPl.rdX (ReadR.loadE rfl hasA rfl) ?_)
       | (refine isD 52 ?_; refine WPl.rdX (ReadR.binE rfl rfl (BinR.quoK (by omega) (by omega) (by simp only [kmax]; omega)) (congrArg (Value.int IntKind.i64) e52)) ?_)
       | (refine isC 54 ?_; refine WPl.cO (c54 u1) (fun v Γ1 hR => ?_) ?_; rotate_left; exact fpA; (obtain ⟨rfl, hL2, rfl⟩ := few_ge hL (by omega) (by omega) hR); (try dsimp only [putF, List.cons_append, List.nil_append]))
       | (refine isD 58 ?_; refine WPl.rdX (ReadR.binE rfl rfl BinR.eql (congrArg Value.bool (decide_eq_false (show ¬ (2 : Int) = 0 by omega)))) ?_)
       | (refine isD 60 ?_; refine WPl.rdX (ReadR.binE rfl rfl BinR.lss (congrArg Value.bool (decide_eq_false h64'))) ?_)
       | (refine isD 61 ?_; refine WPl.rdX (ReadR.binE rfl rfl (BinR.neqB rfl) rfl) ?_)
       | (refine isD 64 ?_; refine WPl.rdX (ReadR.binE rfl rfl BinR.geq (congrArg Value.bool (decide_eq_true hge))) ?_)
       | (refine isD 67 ?_; refine WPl.rdX (ReadR.binE rfl rfl BinR.neq (congrArg (fun q => Value.bool (!q)) (decide_eq_true (rfl : (2 : Int) = 2)))) ?_)
       | (refine isMk ?_; refine WPl.mk fun v hv => ?_)
       | (refine isOp ?_; first | refine WPl.rd ?_ | refine WPl.sk ?_ | refine WPl.rdB ?_)
       | (show WPl _ _ _ _ _ _ _ (⟨_, .indexAddr _ _ _, _, _, _, _⟩ :: _) _; refine WPl.rdX (ReadR.indexE rfl rfl hasA (by first | assumption | omega)) ?_)
       | (show WPl _ _ _ _ _ _ _ (⟨_, .fieldAddr _ _ _, _, _, _, _⟩ :: _) _; refine WPl.rdX (ReadR.fieldE rfl hasA (by first | assumption | omega)) ?_)
       | (show WPl _ _ _ _ _ _ _ (⟨_, .load _ _, _, _, _, _⟩ :: _) _; first | refine WPl.rdX (ReadR.loadE rfl hasA (by assumption)) ?_ | refine WPl.rdX (ReadR.loadES (by assumption) (by first | assumption | omega) rfl hasA) ?_)
       | (show WPl _ _ _ _ _ _ _ (⟨_, .slice _ _ _ _ _, _, _, _, _⟩ :: _) _; first | refine WPl.rdX (ReadR.sliceH rfl rfl hasA (by omega)) ?_ | refine WPl.rdX (ReadR.sliceL rfl rfl hasA (by omega)) ?_ | refine WPl.rdX (ReadR.sliceLH rfl rfl rfl hasA (by omega) (by omega)) ?_)
       | (refine WPl.spQ (fun hc => ?_) (fun hc => ?_) <;> try first | exact prA | (exfalso; first | omega))
       | fail)
      exact WPq.rnd (i + 1, L) ⟨hlt, hL2⟩ (by dsimp only; omega)
  have hlt' : ¬ (i : Int) < (N : Int) := by omega
  have hiN : i = N := by omega
  subst hiN
  have hLl := hL.1
  have hLs := hL.since
  have c71 := pLen_t m L gJ
  have c75 := pAddN_t v24 (.int .u64 1)
  have c82 := pExpire_t m L 29 (by omega) hLs (by omega) gJ
  rw [hL.live (Nat.le_refl 29), Int.sub_self] at c82
  have c82 : Triple Try.prog 9 #[hJ gJ, .int .u64 29] [bx gJ 45 (jbc m), mp kyM m (jes L), gbag jrow L] (RTurns (.int .i64 0) [bx gJ 45 (jbc m), mp kyM m (jes L), gbag jrow L]) := c82
  have c87 := pExpire_t m L 30 (by omega) hLs (by omega) gJ
  rw [hL.eight, List.length_drop, show (L.length : Int) - ((L.length - 8 : Nat) : Int) = 8 by omega] at c87
  have c87 : Triple Try.prog 9 #[hJ gJ, .int .u64 30] [bx gJ 45 (jbc m), mp kyM m (jes L), gbag jrow L] (RTurns (.int .i64 8) [bx gJ 45 (jbc m), mp kyM m (jes (L.drop 8)), gbag jrow L]) := c87
  have c92 := pExpire_t m (L.drop 8) 100 (by omega) (fun x hx => hLs x (List.mem_of_mem_drop hx)) (by rw [List.length_drop]; omega) gJ
  rw [hL.gone, List.length_drop, show ((L.length - 8 : Nat) : Int) - (([] : List PJ).length : Int) = (L.length : Int) - 8 by simp; omega] at c92
  have c92 : Triple Try.prog 9 #[hJ gJ, .int .u64 100] [bx gJ 45 (jbc m), mp kyM m (jes (L.drop 8)), gbag jrow (L.drop 8)] (RTurns (.int .i64 ((L.length : Int) - 8)) [bx gJ 45 (jbc m), mp kyM m (jes []), gbag jrow (L.drop 8)]) := c92
  have c99 := pLen_t m [] gJ
  have c108 := pExpireN_t (.int .u64 5)
  have c113 := pLenN_t
  have z0 : Value.bool (decide ((0 : Int) = 0)) = .bool true := congrArg Value.bool (decide_eq_true rfl)
  have hle : (L.length : Int) ≤ 64 := by omega
  repeat' (first
   | refine WPl.nil ?_ | refine WPq.then ?_ | refine WPq.thenR ?_ | refine WPq.thenE ?_ | refine WPq.blockN ?_ | refine WPq.blockR ?_ | refine WPq.blockE ?_ | refine WPq.blockO rfl ?_ | refine WPc.seq ?_ | refine WPc.block ?_ | refine WPc.ret ?_ | refine WPc.exit ?_ | refine WPc.skip ?_ | refine WPc.region ?_
   | (refine isCond ?_; first | refine WPc.cT ?_ | refine WPc.cF ?_ | (refine WPc.cQ (fun hc => ?_) (fun hc => ?_) <;> try first | exact prA | (exfalso; first | omega)))
   | (refine isD 29 ?_; refine WPl.rdX (ReadR.binE rfl rfl BinR.lss (congrArg Value.bool (decide_eq_false hlt'))) ?_)
   | (refine isC 71 ?_; refine WPl.cV c71 ?_ (hΔ := provsM))
   | (refine isC 75 ?_; refine WPl.cV (c75) ?_)
   | (refine isD 79 ?_; refine WPl.rdX (ReadR.binE rfl rfl BinR.leq (congrArg Value.bool (decide_eq_true hle))) ?_)
   | (refine isC 82 ?_; refine WPl.cTs (c82) ?_; (try dsimp only [putF, List.cons_append, List.nil_append]))
   | (refine isD 83 ?_; refine WPl.rdX (ReadR.binE rfl rfl BinR.eql z0) ?_)
   | (refine isC 87 ?_; refine WPl.cTs c87 ?_; (try dsimp only [putF, List.cons_append, List.nil_append]); refine WPl.gbagSub (row := jrow) (es := L) (L.drop 8) jrow_own (List.drop_sublist 8 L) ?_)
   | (refine isD 88 ?_; refine WPl.rdX (ReadR.binE rfl rfl BinR.eql (congrArg Value.bool (decide_eq_true (rfl : (8 : Int) = 8)))) ?_)
   | (refine isC 92 ?_; refine WPl.cTs (c92) ?_; (try dsimp only [putF, List.cons_append, List.nil_append]))
   | (refine isD 94 ?_; refine WPl.rdX (ReadR.binE rfl rfl (BinR.subI (by omega) (by omega)) rfl) ?_)
   | (refine isD 95 ?_; refine WPl.rdX (ReadR.binE rfl rfl BinR.eql (congrArg Value.bool (decide_eq_true (rfl : (L.length : Int) - 8 = (L.length : Int) - 8)))) ?_)
   | (refine isC 99 ?_; refine WPl.cV c99 ?_ (hΔ := provsM))
   | (refine isD 100 ?_; refine WPl.rdX (ReadR.binE rfl rfl BinR.eql z0) ?_)
   | (refine isD 104 ?_; refine WPl.rdX (ReadR.binE rfl rfl BinR.eql (congrArg Value.bool (decide_eq_true (rfl : (1 : Int) = 1)))) ?_)
   | (refine isC 108 ?_; refine WPl.cV (c108) ?_)
   | (refine isD 109 ?_; refine WPl.rdX (ReadR.binE rfl rfl BinR.eql z0) ?_)
   | (refine isC 113 ?_; refine WPl.cV (c113) ?_)
   | (refine isD 114 ?_; refine WPl.rdX (ReadR.binE rfl rfl BinR.eql z0) ?_)
   | (refine isC 117 ?_; refine WPl.cV (clv) ?_)
   | (refine isMk ?_; refine WPl.mk fun v hv => ?_)
   | (refine isOp ?_; first | refine WPl.rd ?_ | refine WPl.sk ?_ | refine WPl.rdB ?_)
   | (show WPl _ _ _ _ _ _ _ (⟨_, .indexAddr _ _ _, _, _, _, _⟩ :: _) _; refine WPl.rdX (ReadR.indexE rfl rfl hasA (by first | assumption | omega)) ?_)
   | (show WPl _ _ _ _ _ _ _ (⟨_, .fieldAddr _ _ _, _, _, _, _⟩ :: _) _; refine WPl.rdX (ReadR.fieldE rfl hasA (by first | assumption | omega)) ?_)
   | (show WPl _ _ _ _ _ _ _ (⟨_, .load _ _, _, _, _, _⟩ :: _) _; first | refine WPl.rdX (ReadR.loadE rfl hasA (by assumption)) ?_ | refine WPl.rdX (ReadR.loadES (by assumption) (by first | assumption | omega) rfl hasA) ?_)
   | (show WPl _ _ _ _ _ _ _ (⟨_, .slice _ _ _ _ _, _, _, _, _⟩ :: _) _; first | refine WPl.rdX (ReadR.sliceH rfl rfl hasA (by omega)) ?_ | refine WPl.rdX (ReadR.sliceL rfl rfl hasA (by omega)) ?_ | refine WPl.rdX (ReadR.sliceLH rfl rfl rfl hasA (by omega) (by omega)) ?_)
   | (refine WPl.spQ (fun hc => ?_) (fun hc => ?_) <;> try first | exact prA | (exfalso; first | omega))
   | fail)
  exact WPq.dV
end Go.Proofs.Ytmdihpanaljkfaa
