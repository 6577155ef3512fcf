/- What the row of farmPlays_holds needs: part 10. -/
import Derived.Test.YtpjfkomicehinaaFPl9
import Derived.Test.YtpjfkomicehinaaFPl5
/- Law 20: Few. -/
namespace Go.Proofs.Ytpjfkomicehinaa
abbrev fewA (x : FA) (v2 : Value) : FA := { x with v := v2, l := x.l.take 2 }
open Go.RowKit
set_option linter.unusedSimpArgs false
set_option linter.unusedVariables false
set_option maxRecDepth 20000
set_option maxHeartbeats 4000000
attribute [local irreducible] WPc WPl WPq ReadR OpT BinR HasS bx rdN rowN Take Takes Prov Triple ResF BuildP Done ag Int.decLt Int.decLe Int.instDecidableEq
def RFew (x : FA) : Value → List Asn → Prop := fun v Γ => ∃ v2 : Value, v = ag (faC (fewA x v2)) ∧ v2.oneCell' = true ∧ Γ = [rowN 36 21 v2 (x.l.take 2).length (bks (x.l.take 2))]
attribute [local irreducible] mp rmp rg rgo mput mget mfind mdel gbag bks ies svs
theorem few_t (x : FA) (hv : x.v.oneCell' = true) : Triple Try.prog 32 #[ag (faC x)] [rdN x.v x.l.length (bks x.l)] (RFew x) := by
  have hfx := faC_ok hv
  have hal := x.s.ad.len
  have hbl := x.c.ad.len
  have hL := bks_len (l := x.l)
  have hlt := List.length_take (i := 2) (l := x.l)
  by_cases h2 : x.l.length > 2
  · have h2' : (x.l.length : Int) > 2 := by omega
    have hT := bksT (D := x.l) (i := 2) (by omega)
    have hm : (x.l.take 2).length = 2 := by rw [hlt]; omega
    refine Triple.enter Try.func32 rfl Try.ntmps32 rfl (fun W => ?_)
    dsimp only [argsF, Nat.reduceAdd]
    repeat' (first
     | refine WPl.nil ?_ | refine WPq.then ?_ | refine WPq.thenR ?_ | refine WPq.thenE ?_ | refine WPq.blockN ?_ | refine WPq.blockR ?_ | refine WPq.blockE ?_ | refine WPq.blockO rfl ?_ | refine WPc.seq ?_ | refine WPc.block ?_ | refine WPc.ret ?_ | refine WPc.exit ?_ | refine WPc.skip ?_ | refine WPc.region ?_
     | (refine isCond ?_; first | refine WPc.cT ?_ | refine WPc.cF ?_ | (refine WPc.cQ (fun hc => ?_) (fun hc => ?_) <;> try exact prA))
     | (refine isD 9 ?_; refine WPl.rdX (ReadR.binE rfl rfl BinR.gtr (congrArg Value.bool (decide_eq_true h2'))) ?_)
     | (refine isD 11 ?_; refine WPl.rdX (ReadR.sliceH (j := 2) rfl rfl hasA (by omega)) ?_)
     | (refine isD 12 ?_; refine WPl.litS0 fun v12 hv12 => ?_)
     | (refine isD 14 ?_; refine WPl.appN (m := 0) (m2 := 2) (xs := []) (ys := bks (x.l.take 2)) (by rw [bks_len, hm]) bks_ones (by omega) (fun v14 hv14 => ?_) (h2 := hT ▸ HasS.sub (k := 0) (n := 2) (sz := 21) hasA bks_len (by omega)); rw [List.nil_append (bks (x.l.take 2))])
     | (refine isOp ?_; first | refine WPl.rd ?_ | refine WPl.sk ?_ | refine WPl.rdB ?_)
     | (refine isAl ?_; refine WPl.nw fun g => ?_)
     | (refine isBx ?_; refine WPl.nw fun g => ?_)
     | (refine isSt ?_; first | refine WPl.st1 ?_ | refine WPl.stA ?_ | refine WPl.stEB ?_ | refine WPl.stRB ?_)
     | (show WPl _ _ _ _ _ _ _ (⟨_, .indexAddr _ _ _, _, _, _, _⟩ :: _) _; refine WPl.rdX (ReadR.indexE rfl rfl hasA (by first | assumption | omega)) ?_)
     | (show WPl _ _ _ _ _ _ _ (⟨_, .fieldAddr _ _ _, _, _, _, _⟩ :: _) _; refine WPl.rdX (ReadR.fieldE rfl hasA (by first | assumption | omega)) ?_)
     | (show WPl _ _ _ _ _ _ _ (⟨_, .load _ _, _, _, _, _⟩ :: _) _; first | refine WPl.rdX (ReadR.loadE rfl hasA (by assumption)) ?_ | refine WPl.rdX (ReadR.loadES (by assumption) (by first | assumption | omega) rfl hasA) ?_)
     | (show WPl _ _ _ _ _ _ _ (⟨_, .slice _ _ _ _ _, _, _, _, _⟩ :: _) _; first | refine WPl.rdX (ReadR.sliceH rfl rfl hasA (by omega)) ?_ | refine WPl.rdX (ReadR.sliceL rfl rfl hasA (by omega)) ?_ | refine WPl.rdX (ReadR.sliceLH rfl rfl rfl hasA (by omega) (by omega)) ?_)
     | (refine WPl.spQ (fun hc => ?_) (fun hc => ?_) <;> try exact prA)
     | fail)
    refine WPq.dX (vs := [ag (faC (fewA x v14))]) [rowN 36 21 v14 (0 + 2) (bks (x.l.take 2))] ⟨v14, rfl, hv14, by rw [hm]⟩
  · have h2' : ¬ (x.l.length : Int) > 2 := by omega
    have hm : x.l.take 2 = x.l := List.take_of_length_le (by omega)
    refine Triple.enter Try.func32 rfl Try.ntmps32 rfl (fun W => ?_)
    dsimp only [argsF, Nat.reduceAdd]
    repeat' (first
     | refine WPl.nil ?_ | refine WPq.then ?_ | refine WPq.thenR ?_ | refine WPq.thenE ?_ | refine WPq.blockN ?_ | refine WPq.blockR ?_ | refine WPq.blockE ?_ | refine WPq.blockO rfl ?_ | refine WPc.seq ?_ | refine WPc.block ?_ | refine WPc.ret ?_ | refine WPc.exit ?_ | refine WPc.skip ?_ | refine WPc.region ?_
     | (refine isCond ?_; first | refine WPc.cT ?_ | refine WPc.cF ?_ | (refine WPc.cQ (fun hc => ?_) (fun hc => ?_) <;> try exact prA))
     | (refine isD 9 ?_; refine WPl.rdX (ReadR.binE rfl rfl BinR.gtr (congrArg Value.bool (decide_eq_false h2'))) ?_)
     | (refine isD 12 ?_; refine WPl.litS0 fun v12 hv12 => ?_)
     | (refine isD 14 ?_; refine WPl.appN (m := 0) (m2 := x.l.length) (xs := []) (ys := bks x.l) bks_len bks_ones (by omega) (fun v14 hv14 => ?_); rw [List.nil_append (bks x.l), Nat.zero_add x.l.length])
     | (refine isOp ?_; first | refine WPl.rd ?_ | refine WPl.sk ?_ | refine WPl.rdB ?_)
     | (refine isAl ?_; refine WPl.nw fun g => ?_)
     | (refine isBx ?_; refine WPl.nw fun g => ?_)
     | (refine isSt ?_; first | refine WPl.st1 ?_ | refine WPl.stA ?_ | refine WPl.stEB ?_ | refine WPl.stRB ?_)
     | (show WPl _ _ _ _ _ _ _ (⟨_, .indexAddr _ _ _, _, _, _, _⟩ :: _) _; refine WPl.rdX (ReadR.indexE rfl rfl hasA (by first | assumption | omega)) ?_)
     | (show WPl _ _ _ _ _ _ _ (⟨_, .fieldAddr _ _ _, _, _, _, _⟩ :: _) _; refine WPl.rdX (ReadR.fieldE rfl hasA (by first | assumption | omega)) ?_)
     | (show WPl _ _ _ _ _ _ _ (⟨_, .load _ _, _, _, _, _⟩ :: _) _; first | refine WPl.rdX (ReadR.loadE rfl hasA (by assumption)) ?_ | refine WPl.rdX (ReadR.loadES (by assumption) (by first | assumption | omega) rfl hasA) ?_)
     | (show WPl _ _ _ _ _ _ _ (⟨_, .slice _ _ _ _ _, _, _, _, _⟩ :: _) _; first | refine WPl.rdX (ReadR.sliceH rfl rfl hasA (by omega)) ?_ | refine WPl.rdX (ReadR.sliceL rfl rfl hasA (by omega)) ?_ | refine WPl.rdX (ReadR.sliceLH rfl rfl rfl hasA (by omega) (by omega)) ?_)
     | (refine WPl.spQ (fun hc => ?_) (fun hc => ?_) <;> try exact prA)
     | fail)
    refine WPq.dX (vs := [ag (faC (fewA x v14))]) [rowN 36 21 v14 x.l.length (bks x.l)] ⟨v14, rfl, hv14, by rw [hm]⟩
end Go.Proofs.Ytpjfkomicehinaa
/- Law 20: Do, an act done to both (kind 1). -/
namespace Go.Proofs.Ytpjfkomicehinaa
instance : Inhabited FM := ⟨⟨[], []⟩⟩
instance : Inhabited RG := ⟨⟨.slice none 0 0, [], []⟩⟩
open Go.RowKit
set_option linter.unusedSimpArgs false
set_option linter.unusedVariables false
set_option maxRecDepth 20000
set_option maxHeartbeats 4000000
attribute [local irreducible] WPc WPl WPq ReadR OpT BinR HasS bx rdN rowN Take Takes Prov Triple ResF BuildP Done ag Int.decLt Int.decLe Int.instDecidableEq
abbrev both20 (gF mi md gX : Nat) (F : FM) (K : RG) : List Asn := [bx gF 66 (fac mi md), mp idM mi (ies F.ps), mp drM md F.ds, gbag prow F.ps, bx gX 49 (rfc K.vL), rowN 33 23 K.vL K.L.length (svs K.L), gbag brow K.B]
def RDo (gF mi md gX : Nat) (r1 r2 : List Sb × Int) : Value → List Asn → Prop := fun v Γ => ∃ (F : FM) (K : RG), v = .bool (decide (r1.2 = r2.2)) ∧ PInv r1.1 F ∧ RGok K ∧ K.sb = r2.1 ∧ K.vL.oneCell' = true ∧ Γ = both20 gF mi md gX F K
theorem both20_own {gF mi md gX : Nat} {F : FM} {K : RG} : ∀ A, A ∈ both20 gF mi md gX F K → A.own = true := by
  intro A h
  have h : A ∈ fmA gF mi md F ++ rfA gX K := h
  rcases List.mem_append.1 h with h | h
  · exact (show ∀ A, A ∈ fmA gF mi md F → A.own = true from ownsG) A h
  · exact rfA_own A h
attribute [local irreducible] mp rmp rg rgo mput mget mfind mdel gbag bks ies svs pickG dropS addS addB turnS weighS
section
variable (gF mi md gX : Nat) (L : List Sb) (F : FM) (hp : PInv L F) (K : RG) (hK : RGok K) (hm : K.L.length ≤ 1000) (hv0 : K.vL.oneCell' = true) (hs : SrtL K.sb)
include hp hK hm hv0 hs
omit hK hm hv0 hs in
theorem gdropS_t (id : Int) (hw : in64 id) : Triple Try.prog 11 #[hF gF, .int .i64 id] (fmA gF mi md F) (RFm gF mi md (.int .i64 (dropS L id).2) (dropS L id).1) := by
  cases hf : findS L id with
  | none =>
    have e : dropS L id = (L, 6) := by unfold dropS; rw [hf]; rfl
    rw [e]
    exact gdrop0_t gF mi md L F hp id hw hf
  | some y =>
    have e : dropS L id = (L.filter fun x => !decide (x.s.id = id), 0) := by unfold dropS; rw [hf]; rfl
    rw [e]
    exact gdrop1_t gF mi md L F hp id hw y hf
theorem do1_t (x : FA) (hx : faW x) (hk1' : x.k = 1) : Triple Try.prog 14 #[hF gF, hF gX, ag (faC x)] ([rdN x.v x.l.length (bks x.l)] ++ both20 gF mi md gX F K) (RDo gF mi md gX (dropS L x.id) (dropS K.sb x.id)) := by
  obtain ⟨w1, w2, w3, w4, w5, w6, w7, w8, w9⟩ := hx
  have hfx := faC_ok w6
  have c8 := few_t x w6
  have hal := x.s.ad.len
  have hbl := x.c.ad.len
  obtain ⟨r1, hr1⟩ : ∃ r1, r1 = dropS L x.id := ⟨_, rfl⟩
  obtain ⟨r2, hr2⟩ : ∃ r2, r2 = dropS K.sb x.id := ⟨_, rfl⟩
  have c25 : Triple Try.prog 11 #[hF gF, .int .i64 x.id] (fmA gF mi md F) (RFm gF mi md (.int .i64 r1.2) r1.1) := by rw [hr1]; exact gdropS_t gF mi md L F hp x.id w2
  have c29 := rdropS_t gX K hK hm hv0 hs x.id
  rw [← hr2] at c29
  rw [← hr1, ← hr2]
  have hvA : ∀ v Γ', RFm gF mi md (.int .i64 r1.2) r1.1 v Γ' → v = .int .i64 r1.2 ∧ ∃ s : FM, Γ' = (fun s : FM => [bx gF 66 (fac mi md), mp idM mi (ies s.ps), mp drM md s.ds, gbag prow s.ps]) s ∧ (fun s : FM => PInv r1.1 s) s := by
    rintro v Γ' ⟨s, rfl, h1, rfl⟩
    exact ⟨rfl, s, rfl, h1⟩
  have hvB : ∀ v Γ', RXm gX r2.2 r2.1 v Γ' → v = .int .i64 r2.2 ∧ ∃ s : RG, Γ' = (fun s : RG => [bx gX 49 (rfc s.vL), rowN 33 23 s.vL s.L.length (svs s.L), gbag brow s.B]) s ∧ (fun s : RG => RGok s ∧ s.sb = r2.1 ∧ s.vL.oneCell' = true) s := by
    rintro v Γ' ⟨s, rfl, h1, h2, h3, rfl⟩
    exact ⟨rfl, s, rfl, h1, h2, h3⟩
  show Triple _ _ _ (rdN x.v x.l.length (bks x.l) :: [bx gF 66 (fac mi md), mp idM mi (ies F.ps), mp drM md F.ds, gbag prow F.ps, bx gX 49 (rfc K.vL), rowN 33 23 K.vL K.L.length (svs K.L), gbag brow K.B]) _
  refine Triple.enter Try.func14 rfl Try.ntmps14 rfl (fun W => ?_)
  dsimp only [argsF, Nat.reduceAdd]
  repeat' (first
   | refine WPl.nil ?_ | refine WPq.then ?_ | refine WPq.thenR ?_ | refine WPq.thenE ?_ | refine WPq.blockN ?_ | refine WPq.blockR ?_ | refine WPq.blockE ?_ | refine WPq.blockO rfl ?_ | refine WPc.seq ?_ | refine WPc.block ?_ | refine WPc.ret ?_ | refine WPc.exit ?_ | refine WPc.skip ?_ | refine WPc.region ?_
   | (refine isReg 5 ?_; refine WPc.drA [([10, 11, 12, 13, 14, 15, 16], [23, 24, 26, 27, 28]), ([10, 11, 12, 13, 14, 15, 16], [22, 26, 27, 28]), ([1, 10, 11, 12, 13, 14, 15, 16], [22, 23, 26, 27, 28]), ([0, 1, 2, 10, 11, 12, 13, 14, 15, 16], [22, 23, 24, 26, 27, 28]), ([10, 11, 12, 13, 14, 15, 16], [22, 23, 24, 25, 27, 28]), ([10, 11, 12, 13, 14, 15, 16], [22, 23, 24, 25, 26]), ([5, 10, 11, 12, 13, 14, 15, 16], [22, 23, 24, 25, 26, 27]), ([0, 1, 2, 3, 4, 5, 6, 10, 11, 12, 13, 14, 15, 16], [22, 23, 24, 25, 26, 27, 28]), ([0, 1, 2, 3, 4, 5, 6, 7, 10, 11, 12, 13, 14, 15, 16], [22, 23, 24, 25, 26, 27, 28, 29]), ([0, 1, 2, 3, 4, 5, 6, 7, 8, 10, 11, 12, 13, 14, 15, 16], [22, 23, 24, 25, 26, 27, 28, 29, 30])] [(10, 3), (11, 3), (12, 3), (13, 3), (14, 7), (15, 7), (16, 7), (10, 0), (10, 1), (10, 2), (11, 0), (11, 1), (11, 2), (12, 0), (12, 1), (12, 2), (13, 0), (13, 1), (13, 2), (14, 0), (14, 1), (14, 2), (14, 3), (14, 4), (14, 5), (14, 6), (15, 0), (15, 1), (15, 2), (15, 3), (15, 4), (15, 5), (15, 6), (16, 0), (16, 1), (16, 2), (16, 3), (16, 4), (16, 5), (16, 6)] (Γx := [bx gF 66 (fac mi md), mp idM mi (ies F.ps), mp drM md F.ds, gbag prow F.ps, bx gX 49 (rfc K.vL), rowN 33 23 K.vL K.L.length (svs K.L), gbag brow K.B]) (hox := ownsG) ?_; dsimp only [prev0, List.length_nil, List.length_cons])
   | (refine gAny ?_; first | (refine gC 25 ?_; refine RGl.relG ((.int .i64 r1.2)) ((fun s : FM => [bx gF 66 (fac mi md), mp idM mi (ies s.ps), mp drM md s.ds, gbag prow s.ps])) ((fun s : FM => PInv r1.1 s)) (hvA) (fun e hk => by (try dsimp only [bndR, ensR, oksR, fcutR, List.append_nil, List.nil_append, List.cons_append, List.append_assoc] at hk ⊢); exact OpT.callTs (c25)) ?_) | (refine gC 29 ?_; refine RGl.relG ((.int .i64 r2.2)) ((fun s : RG => [bx gX 49 (rfc s.vL), rowN 33 23 s.vL s.L.length (svs s.L), gbag brow s.B])) ((fun s : RG => RGok s ∧ s.sb = r2.1 ∧ s.vL.oneCell' = true)) (hvB) (fun e hk => by (try dsimp only [bndR, ensR, oksR, fcutR, List.append_nil, List.nil_append, List.cons_append, List.append_assoc] at hk ⊢); exact OpT.callTs (c29)) ?_) | (refine gD 21 ?_; refine RGl.rdX (fun e hk => by (try dsimp only [bndR, ensR, oksR, fcutR, List.append_nil, List.nil_append, List.cons_append, List.append_assoc] at hk ⊢); exact ReadR.binE rfl rfl BinR.eql (congrArg Value.bool (decide_eq_true hk1'))) ?_) | (refine gOp ?_; first | refine RGl.rdA ?_ | refine RGl.rdX (fun e hk => by (try dsimp only [bndR, ensR, oksR, fcutR, List.append_nil, List.nil_append, List.cons_append, List.append_assoc] at hk ⊢); exact readB) ?_) | (refine RGl.fin (fun e hk => ?_); (try dsimp only [bndA, ensAR, oksA, List.append_nil, List.nil_append, List.cons_append, List.append_assoc] at hk ⊢); (repeat (obtain ⟨hk1, hk⟩ := hk))) | fail)
   | (refine isCond ?_; first | refine WPc.cT ?_ | refine WPc.cF ?_ | (refine WPc.cQ (fun hc => ?_) (fun hc => ?_) <;> try exact prA))
   | (refine isD 5 ?_; refine WPl.boxC (faC x) hfx rfl (fun g5 => ?_))
   | (refine isC 8 ?_; refine WPl.cXs (c8) fun v Γ1 hR => ?_; (obtain ⟨v2, rfl, hv2, rfl⟩ := hR; have hfx2 := faC_ok (x := fewA x v2) hv2); (try dsimp only [putF, List.cons_append, List.nil_append]))
   | (refine isD 21 ?_; refine WPl.rdX (ReadR.binE rfl rfl BinR.eql (congrArg Value.bool (decide_eq_true hk1'))) ?_)
   | (refine isOp ?_; first | refine WPl.rd ?_ | refine WPl.sk ?_ | refine WPl.rdB ?_)
   | (refine isBx ?_; refine WPl.nw fun g => ?_)
   | (refine isSt ?_; first | refine WPl.st1 ?_ | refine WPl.stA ?_ | refine WPl.stEB ?_ | refine WPl.stRB ?_)
   | (show WPl _ _ _ _ _ _ _ (⟨_, .indexAddr _ _ _, _, _, _, _⟩ :: _) _; refine WPl.rdX (ReadR.indexE rfl rfl hasA (by first | assumption | omega)) ?_)
   | (show WPl _ _ _ _ _ _ _ (⟨_, .fieldAddr _ _ _, _, _, _, _⟩ :: _) _; refine WPl.rdX (ReadR.fieldE rfl hasA (by first | assumption | omega)) ?_)
   | (show WPl _ _ _ _ _ _ _ (⟨_, .load _ _, _, _, _, _⟩ :: _) _; first | refine WPl.rdX (ReadR.loadE rfl hasA (by assumption)) ?_ | refine WPl.rdX (ReadR.loadES (by assumption) (by first | assumption | omega) rfl hasA) ?_)
   | (show WPl _ _ _ _ _ _ _ (⟨_, .slice _ _ _ _ _, _, _, _, _⟩ :: _) _; first | refine WPl.rdX (ReadR.sliceH rfl rfl hasA (by omega)) ?_ | refine WPl.rdX (ReadR.sliceL rfl rfl hasA (by omega)) ?_ | refine WPl.rdX (ReadR.sliceLH rfl rfl rfl hasA (by omega) (by omega)) ?_)
   | (refine WPl.spQ (fun hc => ?_) (fun hc => ?_) <;> try exact prA)
   | fail)
  have hA : (fun s : FM => PInv r1.1 s) (pickG (fun s : FM => [bx gF 66 (fac mi md), mp idM mi (ies s.ps), mp drM md s.ds, gbag prow s.ps]) (fun s : FM => PInv r1.1 s) (e 3).2) := by assumption
  have hB : (fun s : RG => RGok s ∧ s.sb = r2.1 ∧ s.vL.oneCell' = true) (pickG (fun s : RG => [bx gX 49 (rfc s.vL), rowN 33 23 s.vL s.L.length (svs s.L), gbag brow s.B]) (fun s : RG => RGok s ∧ s.sb = r2.1 ∧ s.vL.oneCell' = true) (e 7).2) := by assumption
  obtain ⟨T, hT⟩ : ∃ T, T = (pickG (fun s : FM => [bx gF 66 (fac mi md), mp idM mi (ies s.ps), mp drM md s.ds, gbag prow s.ps]) (fun s : FM => PInv r1.1 s) (e 3).2) := ⟨_, rfl⟩
  obtain ⟨U, hU⟩ : ∃ U, U = (pickG (fun s : RG => [bx gX 49 (rfc s.vL), rowN 33 23 s.vL s.L.length (svs s.L), gbag brow s.B]) (fun s : RG => RGok s ∧ s.sb = r2.1 ∧ s.vL.oneCell' = true) (e 7).2) := ⟨_, rfl⟩
  rw [← hT] at hA ⊢
  rw [← hU] at hB ⊢
  obtain ⟨b1, b2, b3⟩ := hB
  exact WPq.dX (vs := [.bool (decide (r1.2 = r2.2))]) (both20 gF mi md gX T U) ⟨T, U, rfl, hA, b1, b2, b3, rfl⟩ (ho := both20_own)
theorem do2_t (x : FA) (hx : faW x) (hk1' : x.k = 2) (hbs : ∀ x ∈ K.L, SrtB x.bs ∧ x.bs.length ≤ 16) : Triple Try.prog 14 #[hF gF, hF gX, ag (faC x)] ([rdN x.v x.l.length (bks x.l)] ++ both20 gF mi md gX F K) (RDo gF mi md gX (addB L x.id x.c) (addB K.sb x.id x.c)) := by
  obtain ⟨w1, w2, w3, w4, w5, w6, w7, w8, w9⟩ := hx
  have hfx := faC_ok w6
  have c8 := few_t x w6
  have hal := x.s.ad.len
  have hbl := x.c.ad.len
  obtain ⟨r1, hr1⟩ : ∃ r1, r1 = addB L x.id x.c := ⟨_, rfl⟩
  obtain ⟨r2, hr2⟩ : ∃ r2, r2 = addB K.sb x.id x.c := ⟨_, rfl⟩
  have c25 := gaddB_t gF mi md L F hp x.id x.c w2
  rw [← hr1] at c25
  have c29 := raddB_t gX K hK hm hv0 hs hbs x.id x.c
  rw [← hr2] at c29
  rw [← hr1, ← hr2]
  have hvA : ∀ v Γ', RFm gF mi md (.int .i64 r1.2) r1.1 v Γ' → v = .int .i64 r1.2 ∧ ∃ s : FM, Γ' = (fun s : FM => [bx gF 66 (fac mi md), mp idM mi (ies s.ps), mp drM md s.ds, gbag prow s.ps]) s ∧ (fun s : FM => PInv r1.1 s) s := by
    rintro v Γ' ⟨s, rfl, h1, rfl⟩
    exact ⟨rfl, s, rfl, h1⟩
  have hvB : ∀ v Γ', RXm gX r2.2 r2.1 v Γ' → v = .int .i64 r2.2 ∧ ∃ s : RG, Γ' = (fun s : RG => [bx gX 49 (rfc s.vL), rowN 33 23 s.vL s.L.length (svs s.L), gbag brow s.B]) s ∧ (fun s : RG => RGok s ∧ s.sb = r2.1 ∧ s.vL.oneCell' = true) s := by
    rintro v Γ' ⟨s, rfl, h1, h2, h3, rfl⟩
    exact ⟨rfl, s, rfl, h1, h2, h3⟩
  show Triple _ _ _ (rdN x.v x.l.length (bks x.l) :: [bx gF 66 (fac mi md), mp idM mi (ies F.ps), mp drM md F.ds, gbag prow F.ps, bx gX 49 (rfc K.vL), rowN 33 23 K.vL K.L.length (svs K.L), gbag brow K.B]) _
  refine Triple.enter Try.func14 rfl Try.ntmps14 rfl (fun W => ?_)
  dsimp only [argsF, Nat.reduceAdd]
  repeat' (first
   | refine WPl.nil ?_ | refine WPq.then ?_ | refine WPq.thenR ?_ | refine WPq.thenE ?_ | refine WPq.blockN ?_ | refine WPq.blockR ?_ | refine WPq.blockE ?_ | refine WPq.blockO rfl ?_ | refine WPc.seq ?_ | refine WPc.block ?_ | refine WPc.ret ?_ | refine WPc.exit ?_ | refine WPc.skip ?_ | refine WPc.region ?_
   | (refine isReg 7 ?_; refine WPc.drA [([14, 15, 16, 17, 18, 19, 20], [34, 35, 36, 37, 39, 40, 41, 42, 43]), ([14, 15, 16, 17, 18, 19, 20], [33, 36, 37, 39, 40, 41, 42, 43]), ([1, 14, 15, 16, 17, 18, 19, 20], [33, 34, 36, 37, 39, 40, 41, 42, 43]), ([14, 15, 16, 17, 18, 19, 20], [33, 34, 35, 39, 40, 41, 42, 43]), ([3, 14, 15, 16, 17, 18, 19, 20], [33, 34, 35, 36, 39, 40, 41, 42, 43]), ([0, 1, 2, 3, 4, 14, 15, 16, 17, 18, 19, 20], [33, 34, 35, 36, 37, 39, 40, 41, 42, 43]), ([14, 15, 16, 17, 18, 19, 20], [33, 34, 35, 36, 37, 38, 40, 41, 42, 43]), ([14, 15, 16, 17, 18, 19, 20], [33, 34, 35, 36, 37, 38, 39, 42, 43]), ([7, 14, 15, 16, 17, 18, 19, 20], [33, 34, 35, 36, 37, 38, 39, 40, 42, 43]), ([14, 15, 16, 17, 18, 19, 20], [33, 34, 35, 36, 37, 38, 39, 40, 41]), ([9, 14, 15, 16, 17, 18, 19, 20], [33, 34, 35, 36, 37, 38, 39, 40, 41, 42]), ([0, 1, 2, 3, 4, 5, 6, 7, 8, 9, 10, 14, 15, 16, 17, 18, 19, 20], [33, 34, 35, 36, 37, 38, 39, 40, 41, 42, 43]), ([0, 1, 2, 3, 4, 5, 6, 7, 8, 9, 10, 11, 14, 15, 16, 17, 18, 19, 20], [33, 34, 35, 36, 37, 38, 39, 40, 41, 42, 43, 44]), ([0, 1, 2, 3, 4, 5, 6, 7, 8, 9, 10, 11, 12, 14, 15, 16, 17, 18, 19, 20], [33, 34, 35, 36, 37, 38, 39, 40, 41, 42, 43, 44, 45])] [(14, 5), (15, 5), (16, 5), (17, 5), (18, 11), (19, 11), (20, 11), (14, 0), (14, 1), (14, 2), (14, 3), (14, 4), (15, 0), (15, 1), (15, 2), (15, 3), (15, 4), (16, 0), (16, 1), (16, 2), (16, 3), (16, 4), (17, 0), (17, 1), (17, 2), (17, 3), (17, 4), (18, 0), (18, 1), (18, 2), (18, 3), (18, 4), (18, 5), (18, 6), (18, 7), (18, 8), (18, 9), (18, 10), (19, 0), (19, 1), (19, 2), (19, 3), (19, 4), (19, 5), (19, 6), (19, 7), (19, 8), (19, 9), (19, 10), (20, 0), (20, 1), (20, 2), (20, 3), (20, 4), (20, 5), (20, 6), (20, 7), (20, 8), (20, 9), (20, 10)] (Γx := [bx gF 66 (fac mi md), mp idM mi (ies F.ps), mp drM md F.ds, gbag prow F.ps, bx gX 49 (rfc K.vL), rowN 33 23 K.vL K.L.length (svs K.L), gbag brow K.B]) (hox := ownsG) ?_; dsimp only [prev0, List.length_nil, List.length_cons])
   | (refine gAny ?_; first | (refine gC 38 ?_; refine RGl.relG ((.int .i64 r1.2)) ((fun s : FM => [bx gF 66 (fac mi md), mp idM mi (ies s.ps), mp drM md s.ds, gbag prow s.ps])) ((fun s : FM => PInv r1.1 s)) (hvA) (fun e hk => by (try dsimp only [bndR, ensR, oksR, fcutR, List.append_nil, List.nil_append, List.cons_append, List.append_assoc] at hk ⊢); exact OpT.callTs (c25)) ?_) | (refine gC 44 ?_; refine RGl.relG ((.int .i64 r2.2)) ((fun s : RG => [bx gX 49 (rfc s.vL), rowN 33 23 s.vL s.L.length (svs s.L), gbag brow s.B])) ((fun s : RG => RGok s ∧ s.sb = r2.1 ∧ s.vL.oneCell' = true)) (hvB) (fun e hk => by (try dsimp only [bndR, ensR, oksR, fcutR, List.append_nil, List.nil_append, List.cons_append, List.append_assoc] at hk ⊢); exact OpT.callTs (c29)) ?_) | (refine gD 21 ?_; refine RGl.rdX (fun e hk => by (try dsimp only [bndR, ensR, oksR, fcutR, List.append_nil, List.nil_append, List.cons_append, List.append_assoc] at hk ⊢); exact ReadR.binE rfl rfl BinR.eql (congrArg Value.bool (decide_eq_false (show ¬ x.k = 1 by omega)))) ?_) | (refine gD 32 ?_; refine RGl.rdX (fun e hk => by (try dsimp only [bndR, ensR, oksR, fcutR, List.append_nil, List.nil_append, List.cons_append, List.append_assoc] at hk ⊢); exact ReadR.binE rfl rfl BinR.eql (congrArg Value.bool (decide_eq_true hk1'))) ?_) | (refine gOp ?_; first | refine RGl.rdA ?_ | refine RGl.rdX (fun e hk => by (try dsimp only [bndR, ensR, oksR, fcutR, List.append_nil, List.nil_append, List.cons_append, List.append_assoc] at hk ⊢); exact readB) ?_) | (refine RGl.fin (fun e hk => ?_); (try dsimp only [bndA, ensAR, oksA, List.append_nil, List.nil_append, List.cons_append, List.append_assoc] at hk ⊢); (repeat (obtain ⟨hk1, hk⟩ := hk))) | fail)
   | (refine isCond ?_; first | refine WPc.cT ?_ | refine WPc.cF ?_ | (refine WPc.cQ (fun hc => ?_) (fun hc => ?_) <;> try exact prA))
   | (refine isD 5 ?_; refine WPl.boxC (faC x) hfx rfl (fun g5 => ?_))
   | (refine isC 8 ?_; refine WPl.cXs (c8) fun v Γ1 hR => ?_; (obtain ⟨v2, rfl, hv2, rfl⟩ := hR; have hfx2 := faC_ok (x := fewA x v2) hv2); (try dsimp only [putF, List.cons_append, List.nil_append]))
   | (refine isD 21 ?_; refine WPl.rdX (ReadR.binE rfl rfl BinR.eql (congrArg Value.bool (decide_eq_false (show ¬ x.k = 1 by omega)))) ?_)
   | (refine isD 32 ?_; refine WPl.rdX (ReadR.binE rfl rfl BinR.eql (congrArg Value.bool (decide_eq_true hk1'))) ?_)
   | (refine isOp ?_; first | refine WPl.rd ?_ | refine WPl.sk ?_ | refine WPl.rdB ?_)
   | (refine isBx ?_; refine WPl.nw fun g => ?_)
   | (refine isSt ?_; first | refine WPl.st1 ?_ | refine WPl.stA ?_ | refine WPl.stEB ?_ | refine WPl.stRB ?_)
   | (show WPl _ _ _ _ _ _ _ (⟨_, .indexAddr _ _ _, _, _, _, _⟩ :: _) _; refine WPl.rdX (ReadR.indexE rfl rfl hasA (by first | assumption | omega)) ?_)
   | (show WPl _ _ _ _ _ _ _ (⟨_, .fieldAddr _ _ _, _, _, _, _⟩ :: _) _; refine WPl.rdX (ReadR.fieldE rfl hasA (by first | assumption | omega)) ?_)
   | (show WPl _ _ _ _ _ _ _ (⟨_, .load _ _, _, _, _, _⟩ :: _) _; first | refine WPl.rdX (ReadR.loadE rfl hasA (by assumption)) ?_ | refine WPl.rdX (ReadR.loadES (by assumption) (by first | assumption | omega) rfl hasA) ?_)
   | (show WPl _ _ _ _ _ _ _ (⟨_, .slice _ _ _ _ _, _, _, _, _⟩ :: _) _; first | refine WPl.rdX (ReadR.sliceH rfl rfl hasA (by omega)) ?_ | refine WPl.rdX (ReadR.sliceL rfl rfl hasA (by omega)) ?_ | refine WPl.rdX (ReadR.sliceLH rfl rfl rfl hasA (by omega) (by omega)) ?_)
   | (refine WPl.spQ (fun hc => ?_) (fun hc => ?_) <;> try exact prA)
   | fail)
  have hA : (fun s : FM => PInv r1.1 s) (pickG (fun s : FM => [bx gF 66 (fac mi md), mp idM mi (ies s.ps), mp drM md s.ds, gbag prow s.ps]) (fun s : FM => PInv r1.1 s) (e 5).2) := by assumption
  have hB : (fun s : RG => RGok s ∧ s.sb = r2.1 ∧ s.vL.oneCell' = true) (pickG (fun s : RG => [bx gX 49 (rfc s.vL), rowN 33 23 s.vL s.L.length (svs s.L), gbag brow s.B]) (fun s : RG => RGok s ∧ s.sb = r2.1 ∧ s.vL.oneCell' = true) (e 11).2) := by assumption
  obtain ⟨T, hT⟩ : ∃ T, T = (pickG (fun s : FM => [bx gF 66 (fac mi md), mp idM mi (ies s.ps), mp drM md s.ds, gbag prow s.ps]) (fun s : FM => PInv r1.1 s) (e 5).2) := ⟨_, rfl⟩
  obtain ⟨U, hU⟩ : ∃ U, U = (pickG (fun s : RG => [bx gX 49 (rfc s.vL), rowN 33 23 s.vL s.L.length (svs s.L), gbag brow s.B]) (fun s : RG => RGok s ∧ s.sb = r2.1 ∧ s.vL.oneCell' = true) (e 11).2) := ⟨_, rfl⟩
  rw [← hT] at hA ⊢
  rw [← hU] at hB ⊢
  obtain ⟨b1, b2, b3⟩ := hB
  exact WPq.dX (vs := [.bool (decide (r1.2 = r2.2))]) (both20 gF mi md gX T U) ⟨T, U, rfl, hA, b1, b2, b3, rfl⟩ (ho := both20_own)
theorem do3_t (x : FA) (hx : faW x) (hk1' : x.k = 3) (hbs : ∀ x ∈ K.L, SrtB x.bs ∧ x.bs.length ≤ 16) : Triple Try.prog 14 #[hF gF, hF gX, ag (faC x)] ([rdN x.v x.l.length (bks x.l)] ++ both20 gF mi md gX F K) (RDo gF mi md gX (turnS L x.id x.b (delBy x.b)) (turnS K.sb x.id x.b (delBy x.b))) := by
  obtain ⟨w1, w2, w3, w4, w5, w6, w7, w8, w9⟩ := hx
  have hfx := faC_ok w6
  have c8 := few_t x w6
  have hal := x.s.ad.len
  have hbl := x.c.ad.len
  obtain ⟨r1, hr1⟩ : ∃ r1, r1 = turnS L x.id x.b (delBy x.b) := ⟨_, rfl⟩
  obtain ⟨r2, hr2⟩ : ∃ r2, r2 = turnS K.sb x.id x.b (delBy x.b) := ⟨_, rfl⟩
  have c25 := gdropB_t gF mi md L F hp x.id x.b w2
  rw [← hr1] at c25
  have c29 := rturn0_t gX K hK hm hv0 hs hbs x.id x.b
  rw [← hr2] at c29
  rw [← hr1, ← hr2]
  have hvA : ∀ v Γ', RFm gF mi md (.int .i64 r1.2) r1.1 v Γ' → v = .int .i64 r1.2 ∧ ∃ s : FM, Γ' = (fun s : FM => [bx gF 66 (fac mi md), mp idM mi (ies s.ps), mp drM md s.ds, gbag prow s.ps]) s ∧ (fun s : FM => PInv r1.1 s) s := by
    rintro v Γ' ⟨s, rfl, h1, rfl⟩
    exact ⟨rfl, s, rfl, h1⟩
  have hvB : ∀ v Γ', RXm gX r2.2 r2.1 v Γ' → v = .int .i64 r2.2 ∧ ∃ s : RG, Γ' = (fun s : RG => [bx gX 49 (rfc s.vL), rowN 33 23 s.vL s.L.length (svs s.L), gbag brow s.B]) s ∧ (fun s : RG => RGok s ∧ s.sb = r2.1 ∧ s.vL.oneCell' = true) s := by
    rintro v Γ' ⟨s, rfl, h1, h2, h3, rfl⟩
    exact ⟨rfl, s, rfl, h1, h2, h3⟩
  show Triple _ _ _ (rdN x.v x.l.length (bks x.l) :: [bx gF 66 (fac mi md), mp idM mi (ies F.ps), mp drM md F.ds, gbag prow F.ps, bx gX 49 (rfc K.vL), rowN 33 23 K.vL K.L.length (svs K.L), gbag brow K.B]) _
  refine Triple.enter Try.func14 rfl Try.ntmps14 rfl (fun W => ?_)
  dsimp only [argsF, Nat.reduceAdd]
  repeat' (first
   | refine WPl.nil ?_ | refine WPq.then ?_ | refine WPq.thenR ?_ | refine WPq.thenE ?_ | refine WPq.blockN ?_ | refine WPq.blockR ?_ | refine WPq.blockE ?_ | refine WPq.blockO rfl ?_ | refine WPc.seq ?_ | refine WPc.block ?_ | refine WPc.ret ?_ | refine WPc.exit ?_ | refine WPc.skip ?_ | refine WPc.region ?_
   | (refine isReg 9 ?_; refine WPc.drA [([14, 15, 16, 17, 18, 19, 20], [49, 50, 51, 52, 54, 55, 56, 57, 58]), ([14, 15, 16, 17, 18, 19, 20], [48, 51, 52, 54, 55, 56, 57, 58]), ([1, 14, 15, 16, 17, 18, 19, 20], [48, 49, 51, 52, 54, 55, 56, 57, 58]), ([14, 15, 16, 17, 18, 19, 20], [48, 49, 50, 54, 55, 56, 57, 58]), ([3, 14, 15, 16, 17, 18, 19, 20], [48, 49, 50, 51, 54, 55, 56, 57, 58]), ([0, 1, 2, 3, 4, 14, 15, 16, 17, 18, 19, 20], [48, 49, 50, 51, 52, 54, 55, 56, 57, 58]), ([14, 15, 16, 17, 18, 19, 20], [48, 49, 50, 51, 52, 53, 55, 56, 57, 58]), ([14, 15, 16, 17, 18, 19, 20], [48, 49, 50, 51, 52, 53, 54, 57, 58]), ([7, 14, 15, 16, 17, 18, 19, 20], [48, 49, 50, 51, 52, 53, 54, 55, 57, 58]), ([14, 15, 16, 17, 18, 19, 20], [48, 49, 50, 51, 52, 53, 54, 55, 56]), ([9, 14, 15, 16, 17, 18, 19, 20], [48, 49, 50, 51, 52, 53, 54, 55, 56, 57]), ([0, 1, 2, 3, 4, 5, 6, 7, 8, 9, 10, 14, 15, 16, 17, 18, 19, 20], [48, 49, 50, 51, 52, 53, 54, 55, 56, 57, 58]), ([0, 1, 2, 3, 4, 5, 6, 7, 8, 9, 10, 11, 14, 15, 16, 17, 18, 19, 20], [48, 49, 50, 51, 52, 53, 54, 55, 56, 57, 58, 59]), ([0, 1, 2, 3, 4, 5, 6, 7, 8, 9, 10, 11, 12, 14, 15, 16, 17, 18, 19, 20], [48, 49, 50, 51, 52, 53, 54, 55, 56, 57, 58, 59, 60])] [(14, 5), (15, 5), (16, 5), (17, 5), (18, 11), (19, 11), (20, 11), (14, 0), (14, 1), (14, 2), (14, 3), (14, 4), (15, 0), (15, 1), (15, 2), (15, 3), (15, 4), (16, 0), (16, 1), (16, 2), (16, 3), (16, 4), (17, 0), (17, 1), (17, 2), (17, 3), (17, 4), (18, 0), (18, 1), (18, 2), (18, 3), (18, 4), (18, 5), (18, 6), (18, 7), (18, 8), (18, 9), (18, 10), (19, 0), (19, 1), (19, 2), (19, 3), (19, 4), (19, 5), (19, 6), (19, 7), (19, 8), (19, 9), (19, 10), (20, 0), (20, 1), (20, 2), (20, 3), (20, 4), (20, 5), (20, 6), (20, 7), (20, 8), (20, 9), (20, 10)] (Γx := [bx gF 66 (fac mi md), mp idM mi (ies F.ps), mp drM md F.ds, gbag prow F.ps, bx gX 49 (rfc K.vL), rowN 33 23 K.vL K.L.length (svs K.L), gbag brow K.B]) (hox := ownsG) ?_; dsimp only [prev0, List.length_nil, List.length_cons])
   | (refine gAny ?_; first | (refine gC 53 ?_; refine RGl.relG ((.int .i64 r1.2)) ((fun s : FM => [bx gF 66 (fac mi md), mp idM mi (ies s.ps), mp drM md s.ds, gbag prow s.ps])) ((fun s : FM => PInv r1.1 s)) (hvA) (fun e hk => by (try dsimp only [bndR, ensR, oksR, fcutR, List.append_nil, List.nil_append, List.cons_append, List.append_assoc] at hk ⊢); exact OpT.callTs (c25)) ?_) | (refine gC 59 ?_; refine RGl.relG ((.int .i64 r2.2)) ((fun s : RG => [bx gX 49 (rfc s.vL), rowN 33 23 s.vL s.L.length (svs s.L), gbag brow s.B])) ((fun s : RG => RGok s ∧ s.sb = r2.1 ∧ s.vL.oneCell' = true)) (hvB) (fun e hk => by (try dsimp only [bndR, ensR, oksR, fcutR, List.append_nil, List.nil_append, List.cons_append, List.append_assoc] at hk ⊢); exact OpT.callTs (c29)) ?_) | (refine gD 21 ?_; refine RGl.rdX (fun e hk => by (try dsimp only [bndR, ensR, oksR, fcutR, List.append_nil, List.nil_append, List.cons_append, List.append_assoc] at hk ⊢); exact ReadR.binE rfl rfl BinR.eql (congrArg Value.bool (decide_eq_false (show ¬ x.k = 1 by omega)))) ?_) | (refine gD 32 ?_; refine RGl.rdX (fun e hk => by (try dsimp only [bndR, ensR, oksR, fcutR, List.append_nil, List.nil_append, List.cons_append, List.append_assoc] at hk ⊢); exact ReadR.binE rfl rfl BinR.eql (congrArg Value.bool (decide_eq_false (show ¬ x.k = 2 by omega)))) ?_) | (refine gD 47 ?_; refine RGl.rdX (fun e hk => by (try dsimp only [bndR, ensR, oksR, fcutR, List.append_nil, List.nil_append, List.cons_append, List.append_assoc] at hk ⊢); exact ReadR.binE rfl rfl BinR.eql (congrArg Value.bool (decide_eq_true hk1'))) ?_) | (refine gOp ?_; first | refine RGl.rdA ?_ | refine RGl.rdX (fun e hk => by (try dsimp only [bndR, ensR, oksR, fcutR, List.append_nil, List.nil_append, List.cons_append, List.append_assoc] at hk ⊢); exact readB) ?_) | (refine RGl.fin (fun e hk => ?_); (try dsimp only [bndA, ensAR, oksA, List.append_nil, List.nil_append, List.cons_append, List.append_assoc] at hk ⊢); (repeat (obtain ⟨hk1, hk⟩ := hk))) | fail)
   | (refine isCond ?_; first | refine WPc.cT ?_ | refine WPc.cF ?_ | (refine WPc.cQ (fun hc => ?_) (fun hc => ?_) <;> try exact prA))
   | (refine isD 5 ?_; refine WPl.boxC (faC x) hfx rfl (fun g5 => ?_))
   | (refine isC 8 ?_; refine WPl.cXs (c8) fun v Γ1 hR => ?_; (obtain ⟨v2, rfl, hv2, rfl⟩ := hR; have hfx2 := faC_ok (x := fewA x v2) hv2); (try dsimp only [putF, List.cons_append, List.nil_append]))
   | (refine isD 21 ?_; refine WPl.rdX (ReadR.binE rfl rfl BinR.eql (congrArg Value.bool (decide_eq_false (show ¬ x.k = 1 by omega)))) ?_)
   | (refine isD 32 ?_; refine WPl.rdX (ReadR.binE rfl rfl BinR.eql (congrArg Value.bool (decide_eq_false (show ¬ x.k = 2 by omega)))) ?_)
   | (refine isD 47 ?_; refine WPl.rdX (ReadR.binE rfl rfl BinR.eql (congrArg Value.bool (decide_eq_true hk1'))) ?_)
   | (refine isOp ?_; first | refine WPl.rd ?_ | refine WPl.sk ?_ | refine WPl.rdB ?_)
   | (refine isBx ?_; refine WPl.nw fun g => ?_)
   | (refine isSt ?_; first | refine WPl.st1 ?_ | refine WPl.stA ?_ | refine WPl.stEB ?_ | refine WPl.stRB ?_)
   | (show WPl _ _ _ _ _ _ _ (⟨_, .indexAddr _ _ _, _, _, _, _⟩ :: _) _; refine WPl.rdX (ReadR.indexE rfl rfl hasA (by first | assumption | omega)) ?_)
   | (show WPl _ _ _ _ _ _ _ (⟨_, .fieldAddr _ _ _, _, _, _, _⟩ :: _) _; refine WPl.rdX (ReadR.fieldE rfl hasA (by first | assumption | omega)) ?_)
   | (show WPl _ _ _ _ _ _ _ (⟨_, .load _ _, _, _, _, _⟩ :: _) _; first | refine WPl.rdX (ReadR.loadE rfl hasA (by assumption)) ?_ | refine WPl.rdX (ReadR.loadES (by assumption) (by first | assumption | omega) rfl hasA) ?_)
   | (show WPl _ _ _ _ _ _ _ (⟨_, .slice _ _ _ _ _, _, _, _, _⟩ :: _) _; first | refine WPl.rdX (ReadR.sliceH rfl rfl hasA (by omega)) ?_ | refine WPl.rdX (ReadR.sliceL rfl rfl hasA (by omega)) ?_ | refine WPl.rdX (ReadR.sliceLH rfl rfl rfl hasA (by omega) (by omega)) ?_)
   | (refine WPl.spQ (fun hc => ?_) (fun hc => ?_) <;> try exact prA)
   | fail)
  have hA : (fun s : FM => PInv r1.1 s) (pickG (fun s : FM => [bx gF 66 (fac mi md), mp idM mi (ies s.ps), mp drM md s.ds, gbag prow s.ps]) (fun s : FM => PInv r1.1 s) (e 5).2) := by assumption
  have hB : (fun s : RG => RGok s ∧ s.sb = r2.1 ∧ s.vL.oneCell' = true) (pickG (fun s : RG => [bx gX 49 (rfc s.vL), rowN 33 23 s.vL s.L.length (svs s.L), gbag brow s.B]) (fun s : RG => RGok s ∧ s.sb = r2.1 ∧ s.vL.oneCell' = true) (e 11).2) := by assumption
  obtain ⟨T, hT⟩ : ∃ T, T = (pickG (fun s : FM => [bx gF 66 (fac mi md), mp idM mi (ies s.ps), mp drM md s.ds, gbag prow s.ps]) (fun s : FM => PInv r1.1 s) (e 5).2) := ⟨_, rfl⟩
  obtain ⟨U, hU⟩ : ∃ U, U = (pickG (fun s : RG => [bx gX 49 (rfc s.vL), rowN 33 23 s.vL s.L.length (svs s.L), gbag brow s.B]) (fun s : RG => RGok s ∧ s.sb = r2.1 ∧ s.vL.oneCell' = true) (e 11).2) := ⟨_, rfl⟩
  rw [← hT] at hA ⊢
  rw [← hU] at hB ⊢
  obtain ⟨b1, b2, b3⟩ := hB
  exact WPq.dX (vs := [.bool (decide (r1.2 = r2.2))]) (both20 gF mi md gX T U) ⟨T, U, rfl, hA, b1, b2, b3, rfl⟩ (ho := both20_own)
theorem do4_t (x : FA) (hx : faW x) (hk1' : x.k = 4) (hbs : ∀ x ∈ K.L, SrtB x.bs ∧ x.bs.length ≤ 16) : Triple Try.prog 14 #[hF gF, hF gX, ag (faC x)] ([rdN x.v x.l.length (bks x.l)] ++ both20 gF mi md gX F K) (RDo gF mi md gX (turnS L x.id x.b (setBy x.b fun k => { k with dr := true })) (turnS K.sb x.id x.b (setBy x.b fun k => { k with dr := true }))) := by
  obtain ⟨w1, w2, w3, w4, w5, w6, w7, w8, w9⟩ := hx
  have hfx := faC_ok w6
  have c8 := few_t x w6
  have hal := x.s.ad.len
  have hbl := x.c.ad.len
  obtain ⟨r1, hr1⟩ : ∃ r1, r1 = turnS L x.id x.b (setBy x.b fun k => { k with dr := true }) := ⟨_, rfl⟩
  obtain ⟨r2, hr2⟩ : ∃ r2, r2 = turnS K.sb x.id x.b (setBy x.b fun k => { k with dr := true }) := ⟨_, rfl⟩
  have c25 := gdrain_t gF mi md L F hp x.id x.b true w2
  rw [← hr1] at c25
  have c29 := rturn1_t gX K hK hm hv0 hs hbs x.id x.b
  rw [← hr2] at c29
  rw [← hr1, ← hr2]
  have hvA : ∀ v Γ', RFm gF mi md (.int .i64 r1.2) r1.1 v Γ' → v = .int .i64 r1.2 ∧ ∃ s : FM, Γ' = (fun s : FM => [bx gF 66 (fac mi md), mp idM mi (ies s.ps), mp drM md s.ds, gbag prow s.ps]) s ∧ (fun s : FM => PInv r1.1 s) s := by
    rintro v Γ' ⟨s, rfl, h1, rfl⟩
    exact ⟨rfl, s, rfl, h1⟩
  have hvB : ∀ v Γ', RXm gX r2.2 r2.1 v Γ' → v = .int .i64 r2.2 ∧ ∃ s : RG, Γ' = (fun s : RG => [bx gX 49 (rfc s.vL), rowN 33 23 s.vL s.L.length (svs s.L), gbag brow s.B]) s ∧ (fun s : RG => RGok s ∧ s.sb = r2.1 ∧ s.vL.oneCell' = true) s := by
    rintro v Γ' ⟨s, rfl, h1, h2, h3, rfl⟩
    exact ⟨rfl, s, rfl, h1, h2, h3⟩
  show Triple _ _ _ (rdN x.v x.l.length (bks x.l) :: [bx gF 66 (fac mi md), mp idM mi (ies F.ps), mp drM md F.ds, gbag prow F.ps, bx gX 49 (rfc K.vL), rowN 33 23 K.vL K.L.length (svs K.L), gbag brow K.B]) _
  refine Triple.enter Try.func14 rfl Try.ntmps14 rfl (fun W => ?_)
  dsimp only [argsF, Nat.reduceAdd]
  repeat' (first
   | refine WPl.nil ?_ | refine WPq.then ?_ | refine WPq.thenR ?_ | refine WPq.thenE ?_ | refine WPq.blockN ?_ | refine WPq.blockR ?_ | refine WPq.blockE ?_ | refine WPq.blockO rfl ?_ | refine WPc.seq ?_ | refine WPc.block ?_ | refine WPc.ret ?_ | refine WPc.exit ?_ | refine WPc.skip ?_ | refine WPc.region ?_
   | (refine isReg 11 ?_; refine WPc.drA [([14, 15, 16, 17, 18, 19, 20], [64, 65, 66, 67, 69, 70, 71, 72, 73]), ([14, 15, 16, 17, 18, 19, 20], [63, 66, 67, 69, 70, 71, 72, 73]), ([1, 14, 15, 16, 17, 18, 19, 20], [63, 64, 66, 67, 69, 70, 71, 72, 73]), ([14, 15, 16, 17, 18, 19, 20], [63, 64, 65, 69, 70, 71, 72, 73]), ([3, 14, 15, 16, 17, 18, 19, 20], [63, 64, 65, 66, 69, 70, 71, 72, 73]), ([0, 1, 2, 3, 4, 14, 15, 16, 17, 18, 19, 20], [63, 64, 65, 66, 67, 69, 70, 71, 72, 73]), ([14, 15, 16, 17, 18, 19, 20], [63, 64, 65, 66, 67, 68, 70, 71, 72, 73]), ([14, 15, 16, 17, 18, 19, 20], [63, 64, 65, 66, 67, 68, 69, 72, 73]), ([7, 14, 15, 16, 17, 18, 19, 20], [63, 64, 65, 66, 67, 68, 69, 70, 72, 73]), ([14, 15, 16, 17, 18, 19, 20], [63, 64, 65, 66, 67, 68, 69, 70, 71]), ([9, 14, 15, 16, 17, 18, 19, 20], [63, 64, 65, 66, 67, 68, 69, 70, 71, 72]), ([0, 1, 2, 3, 4, 5, 6, 7, 8, 9, 10, 14, 15, 16, 17, 18, 19, 20], [63, 64, 65, 66, 67, 68, 69, 70, 71, 72, 73]), ([0, 1, 2, 3, 4, 5, 6, 7, 8, 9, 10, 11, 14, 15, 16, 17, 18, 19, 20], [63, 64, 65, 66, 67, 68, 69, 70, 71, 72, 73, 74]), ([0, 1, 2, 3, 4, 5, 6, 7, 8, 9, 10, 11, 12, 14, 15, 16, 17, 18, 19, 20], [63, 64, 65, 66, 67, 68, 69, 70, 71, 72, 73, 74, 75])] [(14, 5), (15, 5), (16, 5), (17, 5), (18, 11), (19, 11), (20, 11), (14, 0), (14, 1), (14, 2), (14, 3), (14, 4), (15, 0), (15, 1), (15, 2), (15, 3), (15, 4), (16, 0), (16, 1), (16, 2), (16, 3), (16, 4), (17, 0), (17, 1), (17, 2), (17, 3), (17, 4), (18, 0), (18, 1), (18, 2), (18, 3), (18, 4), (18, 5), (18, 6), (18, 7), (18, 8), (18, 9), (18, 10), (19, 0), (19, 1), (19, 2), (19, 3), (19, 4), (19, 5), (19, 6), (19, 7), (19, 8), (19, 9), (19, 10), (20, 0), (20, 1), (20, 2), (20, 3), (20, 4), (20, 5), (20, 6), (20, 7), (20, 8), (20, 9), (20, 10)] (Γx := [bx gF 66 (fac mi md), mp idM mi (ies F.ps), mp drM md F.ds, gbag prow F.ps, bx gX 49 (rfc K.vL), rowN 33 23 K.vL K.L.length (svs K.L), gbag brow K.B]) (hox := ownsG) ?_; dsimp only [prev0, List.length_nil, List.length_cons])
   | (refine gAny ?_; first | (refine gC 68 ?_; refine RGl.relG ((.int .i64 r1.2)) ((fun s : FM => [bx gF 66 (fac mi md), mp idM mi (ies s.ps), mp drM md s.ds, gbag prow s.ps])) ((fun s : FM => PInv r1.1 s)) (hvA) (fun e hk => by (try dsimp only [bndR, ensR, oksR, fcutR, List.append_nil, List.nil_append, List.cons_append, List.append_assoc] at hk ⊢); exact OpT.callTs (c25)) ?_) | (refine gC 74 ?_; refine RGl.relG ((.int .i64 r2.2)) ((fun s : RG => [bx gX 49 (rfc s.vL), rowN 33 23 s.vL s.L.length (svs s.L), gbag brow s.B])) ((fun s : RG => RGok s ∧ s.sb = r2.1 ∧ s.vL.oneCell' = true)) (hvB) (fun e hk => by (try dsimp only [bndR, ensR, oksR, fcutR, List.append_nil, List.nil_append, List.cons_append, List.append_assoc] at hk ⊢); exact OpT.callTs (c29)) ?_) | (refine gD 21 ?_; refine RGl.rdX (fun e hk => by (try dsimp only [bndR, ensR, oksR, fcutR, List.append_nil, List.nil_append, List.cons_append, List.append_assoc] at hk ⊢); exact ReadR.binE rfl rfl BinR.eql (congrArg Value.bool (decide_eq_false (show ¬ x.k = 1 by omega)))) ?_) | (refine gD 32 ?_; refine RGl.rdX (fun e hk => by (try dsimp only [bndR, ensR, oksR, fcutR, List.append_nil, List.nil_append, List.cons_append, List.append_assoc] at hk ⊢); exact ReadR.binE rfl rfl BinR.eql (congrArg Value.bool (decide_eq_false (show ¬ x.k = 2 by omega)))) ?_) | (refine gD 47 ?_; refine RGl.rdX (fun e hk => by (try dsimp only [bndR, ensR, oksR, fcutR, List.append_nil, List.nil_append, List.cons_append, List.append_assoc] at hk ⊢); exact ReadR.binE rfl rfl BinR.eql (congrArg Value.bool (decide_eq_false (show ¬ x.k = 3 by omega)))) ?_) | (refine gD 62 ?_; refine RGl.rdX (fun e hk => by (try dsimp only [bndR, ensR, oksR, fcutR, List.append_nil, List.nil_append, List.cons_append, List.append_assoc] at hk ⊢); exact ReadR.binE rfl rfl BinR.eql (congrArg Value.bool (decide_eq_true hk1'))) ?_) | (refine gOp ?_; first | refine RGl.rdA ?_ | refine RGl.rdX (fun e hk => by (try dsimp only [bndR, ensR, oksR, fcutR, List.append_nil, List.nil_append, List.cons_append, List.append_assoc] at hk ⊢); exact readB) ?_) | (refine RGl.fin (fun e hk => ?_); (try dsimp only [bndA, ensAR, oksA, List.append_nil, List.nil_append, List.cons_append, List.append_assoc] at hk ⊢); (repeat (obtain ⟨hk1, hk⟩ := hk))) | fail)
   | (refine isCond ?_; first | refine WPc.cT ?_ | refine WPc.cF ?_ | (refine WPc.cQ (fun hc => ?_) (fun hc => ?_) <;> try exact prA))
   | (refine isD 5 ?_; refine WPl.boxC (faC x) hfx rfl (fun g5 => ?_))
   | (refine isC 8 ?_; refine WPl.cXs (c8) fun v Γ1 hR => ?_; (obtain ⟨v2, rfl, hv2, rfl⟩ := hR; have hfx2 := faC_ok (x := fewA x v2) hv2); (try dsimp only [putF, List.cons_append, List.nil_append]))
   | (refine isD 21 ?_; refine WPl.rdX (ReadR.binE rfl rfl BinR.eql (congrArg Value.bool (decide_eq_false (show ¬ x.k = 1 by omega)))) ?_)
   | (refine isD 32 ?_; refine WPl.rdX (ReadR.binE rfl rfl BinR.eql (congrArg Value.bool (decide_eq_false (show ¬ x.k = 2 by omega)))) ?_)
   | (refine isD 47 ?_; refine WPl.rdX (ReadR.binE rfl rfl BinR.eql (congrArg Value.bool (decide_eq_false (show ¬ x.k = 3 by omega)))) ?_)
   | (refine isD 62 ?_; refine WPl.rdX (ReadR.binE rfl rfl BinR.eql (congrArg Value.bool (decide_eq_true hk1'))) ?_)
   | (refine isOp ?_; first | refine WPl.rd ?_ | refine WPl.sk ?_ | refine WPl.rdB ?_)
   | (refine isBx ?_; refine WPl.nw fun g => ?_)
   | (refine isSt ?_; first | refine WPl.st1 ?_ | refine WPl.stA ?_ | refine WPl.stEB ?_ | refine WPl.stRB ?_)
   | (show WPl _ _ _ _ _ _ _ (⟨_, .indexAddr _ _ _, _, _, _, _⟩ :: _) _; refine WPl.rdX (ReadR.indexE rfl rfl hasA (by first | assumption | omega)) ?_)
   | (show WPl _ _ _ _ _ _ _ (⟨_, .fieldAddr _ _ _, _, _, _, _⟩ :: _) _; refine WPl.rdX (ReadR.fieldE rfl hasA (by first | assumption | omega)) ?_)
   | (show WPl _ _ _ _ _ _ _ (⟨_, .load _ _, _, _, _, _⟩ :: _) _; first | refine WPl.rdX (ReadR.loadE rfl hasA (by assumption)) ?_ | refine WPl.rdX (ReadR.loadES (by assumption) (by first | assumption | omega) rfl hasA) ?_)
   | (show WPl _ _ _ _ _ _ _ (⟨_, .slice _ _ _ _ _, _, _, _, _⟩ :: _) _; first | refine WPl.rdX (ReadR.sliceH rfl rfl hasA (by omega)) ?_ | refine WPl.rdX (ReadR.sliceL rfl rfl hasA (by omega)) ?_ | refine WPl.rdX (ReadR.sliceLH rfl rfl rfl hasA (by omega) (by omega)) ?_)
   | (refine WPl.spQ (fun hc => ?_) (fun hc => ?_) <;> try exact prA)
   | fail)
  have hA : (fun s : FM => PInv r1.1 s) (pickG (fun s : FM => [bx gF 66 (fac mi md), mp idM mi (ies s.ps), mp drM md s.ds, gbag prow s.ps]) (fun s : FM => PInv r1.1 s) (e 5).2) := by assumption
  have hB : (fun s : RG => RGok s ∧ s.sb = r2.1 ∧ s.vL.oneCell' = true) (pickG (fun s : RG => [bx gX 49 (rfc s.vL), rowN 33 23 s.vL s.L.length (svs s.L), gbag brow s.B]) (fun s : RG => RGok s ∧ s.sb = r2.1 ∧ s.vL.oneCell' = true) (e 11).2) := by assumption
  obtain ⟨T, hT⟩ : ∃ T, T = (pickG (fun s : FM => [bx gF 66 (fac mi md), mp idM mi (ies s.ps), mp drM md s.ds, gbag prow s.ps]) (fun s : FM => PInv r1.1 s) (e 5).2) := ⟨_, rfl⟩
  obtain ⟨U, hU⟩ : ∃ U, U = (pickG (fun s : RG => [bx gX 49 (rfc s.vL), rowN 33 23 s.vL s.L.length (svs s.L), gbag brow s.B]) (fun s : RG => RGok s ∧ s.sb = r2.1 ∧ s.vL.oneCell' = true) (e 11).2) := ⟨_, rfl⟩
  rw [← hT] at hA ⊢
  rw [← hU] at hB ⊢
  obtain ⟨b1, b2, b3⟩ := hB
  exact WPq.dX (vs := [.bool (decide (r1.2 = r2.2))]) (both20 gF mi md gX T U) ⟨T, U, rfl, hA, b1, b2, b3, rfl⟩ (ho := both20_own)
theorem do5_t (x : FA) (hx : faW x) (hk1' : x.k = 5) (hbs : ∀ x ∈ K.L, SrtB x.bs ∧ x.bs.length ≤ 16) : Triple Try.prog 14 #[hF gF, hF gX, ag (faC x)] ([rdN x.v x.l.length (bks x.l)] ++ both20 gF mi md gX F K) (RDo gF mi md gX (turnS L x.id x.b (setBy x.b fun k => { k with dr := false })) (turnS K.sb x.id x.b (setBy x.b fun k => { k with dr := false }))) := by
  obtain ⟨w1, w2, w3, w4, w5, w6, w7, w8, w9⟩ := hx
  have hfx := faC_ok w6
  have c8 := few_t x w6
  have hal := x.s.ad.len
  have hbl := x.c.ad.len
  obtain ⟨r1, hr1⟩ : ∃ r1, r1 = turnS L x.id x.b (setBy x.b fun k => { k with dr := false }) := ⟨_, rfl⟩
  obtain ⟨r2, hr2⟩ : ∃ r2, r2 = turnS K.sb x.id x.b (setBy x.b fun k => { k with dr := false }) := ⟨_, rfl⟩
  have c25 := gdrain_t gF mi md L F hp x.id x.b false w2
  rw [← hr1] at c25
  have c29 := rturn2_t gX K hK hm hv0 hs hbs x.id x.b
  rw [← hr2] at c29
  rw [← hr1, ← hr2]
  have hvA : ∀ v Γ', RFm gF mi md (.int .i64 r1.2) r1.1 v Γ' → v = .int .i64 r1.2 ∧ ∃ s : FM, Γ' = (fun s : FM => [bx gF 66 (fac mi md), mp idM mi (ies s.ps), mp drM md s.ds, gbag prow s.ps]) s ∧ (fun s : FM => PInv r1.1 s) s := by
    rintro v Γ' ⟨s, rfl, h1, rfl⟩
    exact ⟨rfl, s, rfl, h1⟩
  have hvB : ∀ v Γ', RXm gX r2.2 r2.1 v Γ' → v = .int .i64 r2.2 ∧ ∃ s : RG, Γ' = (fun s : RG => [bx gX 49 (rfc s.vL), rowN 33 23 s.vL s.L.length (svs s.L), gbag brow s.B]) s ∧ (fun s : RG => RGok s ∧ s.sb = r2.1 ∧ s.vL.oneCell' = true) s := by
    rintro v Γ' ⟨s, rfl, h1, h2, h3, rfl⟩
    exact ⟨rfl, s, rfl, h1, h2, h3⟩
  show Triple _ _ _ (rdN x.v x.l.length (bks x.l) :: [bx gF 66 (fac mi md), mp idM mi (ies F.ps), mp drM md F.ds, gbag prow F.ps, bx gX 49 (rfc K.vL), rowN 33 23 K.vL K.L.length (svs K.L), gbag brow K.B]) _
  refine Triple.enter Try.func14 rfl Try.ntmps14 rfl (fun W => ?_)
  dsimp only [argsF, Nat.reduceAdd]
  repeat' (first
   | refine WPl.nil ?_ | refine WPq.then ?_ | refine WPq.thenR ?_ | refine WPq.thenE ?_ | refine WPq.blockN ?_ | refine WPq.blockR ?_ | refine WPq.blockE ?_ | refine WPq.blockO rfl ?_ | refine WPc.seq ?_ | refine WPc.block ?_ | refine WPc.ret ?_ | refine WPc.exit ?_ | refine WPc.skip ?_ | refine WPc.region ?_
   | (refine isReg 13 ?_; refine WPc.drA [([14, 15, 16, 17, 18, 19, 20], [79, 80, 81, 82, 84, 85, 86, 87, 88]), ([14, 15, 16, 17, 18, 19, 20], [78, 81, 82, 84, 85, 86, 87, 88]), ([1, 14, 15, 16, 17, 18, 19, 20], [78, 79, 81, 82, 84, 85, 86, 87, 88]), ([14, 15, 16, 17, 18, 19, 20], [78, 79, 80, 84, 85, 86, 87, 88]), ([3, 14, 15, 16, 17, 18, 19, 20], [78, 79, 80, 81, 84, 85, 86, 87, 88]), ([0, 1, 2, 3, 4, 14, 15, 16, 17, 18, 19, 20], [78, 79, 80, 81, 82, 84, 85, 86, 87, 88]), ([14, 15, 16, 17, 18, 19, 20], [78, 79, 80, 81, 82, 83, 85, 86, 87, 88]), ([14, 15, 16, 17, 18, 19, 20], [78, 79, 80, 81, 82, 83, 84, 87, 88]), ([7, 14, 15, 16, 17, 18, 19, 20], [78, 79, 80, 81, 82, 83, 84, 85, 87, 88]), ([14, 15, 16, 17, 18, 19, 20], [78, 79, 80, 81, 82, 83, 84, 85, 86]), ([9, 14, 15, 16, 17, 18, 19, 20], [78, 79, 80, 81, 82, 83, 84, 85, 86, 87]), ([0, 1, 2, 3, 4, 5, 6, 7, 8, 9, 10, 14, 15, 16, 17, 18, 19, 20], [78, 79, 80, 81, 82, 83, 84, 85, 86, 87, 88]), ([0, 1, 2, 3, 4, 5, 6, 7, 8, 9, 10, 11, 14, 15, 16, 17, 18, 19, 20], [78, 79, 80, 81, 82, 83, 84, 85, 86, 87, 88, 89]), ([0, 1, 2, 3, 4, 5, 6, 7, 8, 9, 10, 11, 12, 14, 15, 16, 17, 18, 19, 20], [78, 79, 80, 81, 82, 83, 84, 85, 86, 87, 88, 89, 90])] [(14, 5), (15, 5), (16, 5), (17, 5), (18, 11), (19, 11), (20, 11), (14, 0), (14, 1), (14, 2), (14, 3), (14, 4), (15, 0), (15, 1), (15, 2), (15, 3), (15, 4), (16, 0), (16, 1), (16, 2), (16, 3), (16, 4), (17, 0), (17, 1), (17, 2), (17, 3), (17, 4), (18, 0), (18, 1), (18, 2), (18, 3), (18, 4), (18, 5), (18, 6), (18, 7), (18, 8), (18, 9), (18, 10), (19, 0), (19, 1), (19, 2), (19, 3), (19, 4), (19, 5), (19, 6), (19, 7), (19, 8), (19, 9), (19, 10), (20, 0), (20, 1), (20, 2), (20, 3), (20, 4), (20, 5), (20, 6), (20, 7), (20, 8), (20, 9), (20, 10)] (Γx := [bx gF 66 (fac mi md), mp idM mi (ies F.ps), mp drM md F.ds, gbag prow F.ps, bx gX 49 (rfc K.vL), rowN 33 23 K.vL K.L.length (svs K.L), gbag brow K.B]) (hox := ownsG) ?_; dsimp only [prev0, List.length_nil, List.length_cons])
   | (refine gAny ?_; first | (refine gC 83 ?_; refine RGl.relG ((.int .i64 r1.2)) ((fun s : FM => [bx gF 66 (fac mi md), mp idM mi (ies s.ps), mp drM md s.ds, gbag prow s.ps])) ((fun s : FM => PInv r1.1 s)) (hvA) (fun e hk => by (try dsimp only [bndR, ensR, oksR, fcutR, List.append_nil, List.nil_append, List.cons_append, List.append_assoc] at hk ⊢); exact OpT.callTs (c25)) ?_) | (refine gC 89 ?_; refine RGl.relG ((.int .i64 r2.2)) ((fun s : RG => [bx gX 49 (rfc s.vL), rowN 33 23 s.vL s.L.length (svs s.L), gbag brow s.B])) ((fun s : RG => RGok s ∧ s.sb = r2.1 ∧ s.vL.oneCell' = true)) (hvB) (fun e hk => by (try dsimp only [bndR, ensR, oksR, fcutR, List.append_nil, List.nil_append, List.cons_append, List.append_assoc] at hk ⊢); exact OpT.callTs (c29)) ?_) | (refine gD 21 ?_; refine RGl.rdX (fun e hk => by (try dsimp only [bndR, ensR, oksR, fcutR, List.append_nil, List.nil_append, List.cons_append, List.append_assoc] at hk ⊢); exact ReadR.binE rfl rfl BinR.eql (congrArg Value.bool (decide_eq_false (show ¬ x.k = 1 by omega)))) ?_) | (refine gD 32 ?_; refine RGl.rdX (fun e hk => by (try dsimp only [bndR, ensR, oksR, fcutR, List.append_nil, List.nil_append, List.cons_append, List.append_assoc] at hk ⊢); exact ReadR.binE rfl rfl BinR.eql (congrArg Value.bool (decide_eq_false (show ¬ x.k = 2 by omega)))) ?_) | (refine gD 47 ?_; refine RGl.rdX (fun e hk => by (try dsimp only [bndR, ensR, oksR, fcutR, List.append_nil, List.nil_append, List.cons_append, List.append_assoc] at hk ⊢); exact ReadR.binE rfl rfl BinR.eql (congrArg Value.bool (decide_eq_false (show ¬ x.k = 3 by omega)))) ?_) | (refine gD 62 ?_; refine RGl.rdX (fun e hk => by (try dsimp only [bndR, ensR, oksR, fcutR, List.append_nil, List.nil_append, List.cons_append, List.append_assoc] at hk ⊢); exact ReadR.binE rfl rfl BinR.eql (congrArg Value.bool (decide_eq_false (show ¬ x.k = 4 by omega)))) ?_) | (refine gD 77 ?_; refine RGl.rdX (fun e hk => by (try dsimp only [bndR, ensR, oksR, fcutR, List.append_nil, List.nil_append, List.cons_append, List.append_assoc] at hk ⊢); exact ReadR.binE rfl rfl BinR.eql (congrArg Value.bool (decide_eq_true hk1'))) ?_) | (refine gOp ?_; first | refine RGl.rdA ?_ | refine RGl.rdX (fun e hk => by (try dsimp only [bndR, ensR, oksR, fcutR, List.append_nil, List.nil_append, List.cons_append, List.append_assoc] at hk ⊢); exact readB) ?_) | (refine RGl.fin (fun e hk => ?_); (try dsimp only [bndA, ensAR, oksA, List.append_nil, List.nil_append, List.cons_append, List.append_assoc] at hk ⊢); (repeat (obtain ⟨hk1, hk⟩ := hk))) | fail)
   | (refine isCond ?_; first | refine WPc.cT ?_ | refine WPc.cF ?_ | (refine WPc.cQ (fun hc => ?_) (fun hc => ?_) <;> try exact prA))
   | (refine isD 5 ?_; refine WPl.boxC (faC x) hfx rfl (fun g5 => ?_))
   | (refine isC 8 ?_; refine WPl.cXs (c8) fun v Γ1 hR => ?_; (obtain ⟨v2, rfl, hv2, rfl⟩ := hR; have hfx2 := faC_ok (x := fewA x v2) hv2); (try dsimp only [putF, List.cons_append, List.nil_append]))
   | (refine isD 21 ?_; refine WPl.rdX (ReadR.binE rfl rfl BinR.eql (congrArg Value.bool (decide_eq_false (show ¬ x.k = 1 by omega)))) ?_)
   | (refine isD 32 ?_; refine WPl.rdX (ReadR.binE rfl rfl BinR.eql (congrArg Value.bool (decide_eq_false (show ¬ x.k = 2 by omega)))) ?_)
   | (refine isD 47 ?_; refine WPl.rdX (ReadR.binE rfl rfl BinR.eql (congrArg Value.bool (decide_eq_false (show ¬ x.k = 3 by omega)))) ?_)
   | (refine isD 62 ?_; refine WPl.rdX (ReadR.binE rfl rfl BinR.eql (congrArg Value.bool (decide_eq_false (show ¬ x.k = 4 by omega)))) ?_)
   | (refine isD 77 ?_; refine WPl.rdX (ReadR.binE rfl rfl BinR.eql (congrArg Value.bool (decide_eq_true hk1'))) ?_)
   | (refine isOp ?_; first | refine WPl.rd ?_ | refine WPl.sk ?_ | refine WPl.rdB ?_)
   | (refine isBx ?_; refine WPl.nw fun g => ?_)
   | (refine isSt ?_; first | refine WPl.st1 ?_ | refine WPl.stA ?_ | refine WPl.stEB ?_ | refine WPl.stRB ?_)
   | (show WPl _ _ _ _ _ _ _ (⟨_, .indexAddr _ _ _, _, _, _, _⟩ :: _) _; refine WPl.rdX (ReadR.indexE rfl rfl hasA (by first | assumption | omega)) ?_)
   | (show WPl _ _ _ _ _ _ _ (⟨_, .fieldAddr _ _ _, _, _, _, _⟩ :: _) _; refine WPl.rdX (ReadR.fieldE rfl hasA (by first | assumption | omega)) ?_)
   | (show WPl _ _ _ _ _ _ _ (⟨_, .load _ _, _, _, _, _⟩ :: _) _; first | refine WPl.rdX (ReadR.loadE rfl hasA (by assumption)) ?_ | refine WPl.rdX (ReadR.loadES (by assumption) (by first | assumption | omega) rfl hasA) ?_)
   | (show WPl _ _ _ _ _ _ _ (⟨_, .slice _ _ _ _ _, _, _, _, _⟩ :: _) _; first | refine WPl.rdX (ReadR.sliceH rfl rfl hasA (by omega)) ?_ | refine WPl.rdX (ReadR.sliceL rfl rfl hasA (by omega)) ?_ | refine WPl.rdX (ReadR.sliceLH rfl rfl rfl hasA (by omega) (by omega)) ?_)
   | (refine WPl.spQ (fun hc => ?_) (fun hc => ?_) <;> try exact prA)
   | fail)
  have hA : (fun s : FM => PInv r1.1 s) (pickG (fun s : FM => [bx gF 66 (fac mi md), mp idM mi (ies s.ps), mp drM md s.ds, gbag prow s.ps]) (fun s : FM => PInv r1.1 s) (e 5).2) := by assumption
  have hB : (fun s : RG => RGok s ∧ s.sb = r2.1 ∧ s.vL.oneCell' = true) (pickG (fun s : RG => [bx gX 49 (rfc s.vL), rowN 33 23 s.vL s.L.length (svs s.L), gbag brow s.B]) (fun s : RG => RGok s ∧ s.sb = r2.1 ∧ s.vL.oneCell' = true) (e 11).2) := by assumption
  obtain ⟨T, hT⟩ : ∃ T, T = (pickG (fun s : FM => [bx gF 66 (fac mi md), mp idM mi (ies s.ps), mp drM md s.ds, gbag prow s.ps]) (fun s : FM => PInv r1.1 s) (e 5).2) := ⟨_, rfl⟩
  obtain ⟨U, hU⟩ : ∃ U, U = (pickG (fun s : RG => [bx gX 49 (rfc s.vL), rowN 33 23 s.vL s.L.length (svs s.L), gbag brow s.B]) (fun s : RG => RGok s ∧ s.sb = r2.1 ∧ s.vL.oneCell' = true) (e 11).2) := ⟨_, rfl⟩
  rw [← hT] at hA ⊢
  rw [← hU] at hB ⊢
  obtain ⟨b1, b2, b3⟩ := hB
  exact WPq.dX (vs := [.bool (decide (r1.2 = r2.2))]) (both20 gF mi md gX T U) ⟨T, U, rfl, hA, b1, b2, b3, rfl⟩ (ho := both20_own)
theorem do6_t (x : FA) (hx : faW x) (hk1' : x.k = 6) (hbs : ∀ x ∈ K.L, SrtB x.bs ∧ x.bs.length ≤ 16) : Triple Try.prog 14 #[hF gF, hF gX, ag (faC x)] ([rdN x.v x.l.length (bks x.l)] ++ both20 gF mi md gX F K) (RDo gF mi md gX (weighS L x.id x.b x.w) (weighS K.sb x.id x.b x.w)) := by
  obtain ⟨w1, w2, w3, w4, w5, w6, w7, w8, w9⟩ := hx
  have hfx := faC_ok w6
  have c8 := few_t x w6
  have hal := x.s.ad.len
  have hbl := x.c.ad.len
  obtain ⟨r1, hr1⟩ : ∃ r1, r1 = weighS L x.id x.b x.w := ⟨_, rfl⟩
  obtain ⟨r2, hr2⟩ : ∃ r2, r2 = weighS K.sb x.id x.b x.w := ⟨_, rfl⟩
  have c25 := gweigh_t gF mi md L F hp x.id x.b x.w w2
  rw [← hr1] at c25
  have c29 := rturn3_t gX K hK hm hv0 hs hbs x.id x.b x.w
  rw [← hr2] at c29
  rw [← hr1, ← hr2]
  have hvA : ∀ v Γ', RFm gF mi md (.int .i64 r1.2) r1.1 v Γ' → v = .int .i64 r1.2 ∧ ∃ s : FM, Γ' = (fun s : FM => [bx gF 66 (fac mi md), mp idM mi (ies s.ps), mp drM md s.ds, gbag prow s.ps]) s ∧ (fun s : FM => PInv r1.1 s) s := by
    rintro v Γ' ⟨s, rfl, h1, rfl⟩
    exact ⟨rfl, s, rfl, h1⟩
  have hvB : ∀ v Γ', RXm gX r2.2 r2.1 v Γ' → v = .int .i64 r2.2 ∧ ∃ s : RG, Γ' = (fun s : RG => [bx gX 49 (rfc s.vL), rowN 33 23 s.vL s.L.length (svs s.L), gbag brow s.B]) s ∧ (fun s : RG => RGok s ∧ s.sb = r2.1 ∧ s.vL.oneCell' = true) s := by
    rintro v Γ' ⟨s, rfl, h1, h2, h3, rfl⟩
    exact ⟨rfl, s, rfl, h1, h2, h3⟩
  show Triple _ _ _ (rdN x.v x.l.length (bks x.l) :: [bx gF 66 (fac mi md), mp idM mi (ies F.ps), mp drM md F.ds, gbag prow F.ps, bx gX 49 (rfc K.vL), rowN 33 23 K.vL K.L.length (svs K.L), gbag brow K.B]) _
  refine Triple.enter Try.func14 rfl Try.ntmps14 rfl (fun W => ?_)
  dsimp only [argsF, Nat.reduceAdd]
  repeat' (first
   | refine WPl.nil ?_ | refine WPq.then ?_ | refine WPq.thenR ?_ | refine WPq.thenE ?_ | refine WPq.blockN ?_ | refine WPq.blockR ?_ | refine WPq.blockE ?_ | refine WPq.blockO rfl ?_ | refine WPc.seq ?_ | refine WPc.block ?_ | refine WPc.ret ?_ | refine WPc.exit ?_ | refine WPc.skip ?_ | refine WPc.region ?_
   | (refine isReg 15 ?_; refine WPc.drA [([18, 19, 20, 21, 22, 23, 24], [94, 95, 96, 97, 98, 99, 101, 102, 103, 104, 105, 106, 107]), ([18, 19, 20, 21, 22, 23, 24], [93, 96, 97, 98, 99, 101, 102, 103, 104, 105, 106, 107]), ([1, 18, 19, 20, 21, 22, 23, 24], [93, 94, 96, 97, 98, 99, 101, 102, 103, 104, 105, 106, 107]), ([18, 19, 20, 21, 22, 23, 24], [93, 94, 95, 98, 99, 101, 102, 103, 104, 105, 106, 107]), ([3, 18, 19, 20, 21, 22, 23, 24], [93, 94, 95, 96, 98, 99, 101, 102, 103, 104, 105, 106, 107]), ([18, 19, 20, 21, 22, 23, 24], [93, 94, 95, 96, 97, 101, 102, 103, 104, 105, 106, 107]), ([5, 18, 19, 20, 21, 22, 23, 24], [93, 94, 95, 96, 97, 98, 101, 102, 103, 104, 105, 106, 107]), ([0, 1, 2, 3, 4, 5, 6, 18, 19, 20, 21, 22, 23, 24], [93, 94, 95, 96, 97, 98, 99, 101, 102, 103, 104, 105, 106, 107]), ([18, 19, 20, 21, 22, 23, 24], [93, 94, 95, 96, 97, 98, 99, 100, 102, 103, 104, 105, 106, 107]), ([18, 19, 20, 21, 22, 23, 24], [93, 94, 95, 96, 97, 98, 99, 100, 101, 104, 105, 106, 107]), ([9, 18, 19, 20, 21, 22, 23, 24], [93, 94, 95, 96, 97, 98, 99, 100, 101, 102, 104, 105, 106, 107]), ([18, 19, 20, 21, 22, 23, 24], [93, 94, 95, 96, 97, 98, 99, 100, 101, 102, 103, 106, 107]), ([11, 18, 19, 20, 21, 22, 23, 24], [93, 94, 95, 96, 97, 98, 99, 100, 101, 102, 103, 104, 106, 107]), ([18, 19, 20, 21, 22, 23, 24], [93, 94, 95, 96, 97, 98, 99, 100, 101, 102, 103, 104, 105]), ([13, 18, 19, 20, 21, 22, 23, 24], [93, 94, 95, 96, 97, 98, 99, 100, 101, 102, 103, 104, 105, 106]), ([0, 1, 2, 3, 4, 5, 6, 7, 8, 9, 10, 11, 12, 13, 14, 18, 19, 20, 21, 22, 23, 24], [93, 94, 95, 96, 97, 98, 99, 100, 101, 102, 103, 104, 105, 106, 107]), ([0, 1, 2, 3, 4, 5, 6, 7, 8, 9, 10, 11, 12, 13, 14, 15, 18, 19, 20, 21, 22, 23, 24], [93, 94, 95, 96, 97, 98, 99, 100, 101, 102, 103, 104, 105, 106, 107, 108]), ([0, 1, 2, 3, 4, 5, 6, 7, 8, 9, 10, 11, 12, 13, 14, 15, 16, 18, 19, 20, 21, 22, 23, 24], [93, 94, 95, 96, 97, 98, 99, 100, 101, 102, 103, 104, 105, 106, 107, 108, 109])] [(18, 7), (19, 7), (20, 7), (21, 7), (22, 15), (23, 15), (24, 15), (18, 0), (18, 1), (18, 2), (18, 3), (18, 4), (18, 5), (18, 6), (19, 0), (19, 1), (19, 2), (19, 3), (19, 4), (19, 5), (19, 6), (20, 0), (20, 1), (20, 2), (20, 3), (20, 4), (20, 5), (20, 6), (21, 0), (21, 1), (21, 2), (21, 3), (21, 4), (21, 5), (21, 6), (22, 0), (22, 1), (22, 2), (22, 3), (22, 4), (22, 5), (22, 6), (22, 7), (22, 8), (22, 9), (22, 10), (22, 11), (22, 12), (22, 13), (22, 14), (23, 0), (23, 1), (23, 2), (23, 3), (23, 4), (23, 5), (23, 6), (23, 7), (23, 8), (23, 9), (23, 10), (23, 11), (23, 12), (23, 13), (23, 14), (24, 0), (24, 1), (24, 2), (24, 3), (24, 4), (24, 5), (24, 6), (24, 7), (24, 8), (24, 9), (24, 10), (24, 11), (24, 12), (24, 13), (24, 14)] (Γx := [bx gF 66 (fac mi md), mp idM mi (ies F.ps), mp drM md F.ds, gbag prow F.ps, bx gX 49 (rfc K.vL), rowN 33 23 K.vL K.L.length (svs K.L), gbag brow K.B]) (hox := ownsG) ?_; dsimp only [prev0, List.length_nil, List.length_cons])
   | (refine gAny ?_; first | (refine gC 100 ?_; refine RGl.relG ((.int .i64 r1.2)) ((fun s : FM => [bx gF 66 (fac mi md), mp idM mi (ies s.ps), mp drM md s.ds, gbag prow s.ps])) ((fun s : FM => PInv r1.1 s)) (hvA) (fun e hk => by (try dsimp only [bndR, ensR, oksR, fcutR, List.append_nil, List.nil_append, List.cons_append, List.append_assoc] at hk ⊢); exact OpT.callTs (c25)) ?_) | (refine gC 108 ?_; refine RGl.relG ((.int .i64 r2.2)) ((fun s : RG => [bx gX 49 (rfc s.vL), rowN 33 23 s.vL s.L.length (svs s.L), gbag brow s.B])) ((fun s : RG => RGok s ∧ s.sb = r2.1 ∧ s.vL.oneCell' = true)) (hvB) (fun e hk => by (try dsimp only [bndR, ensR, oksR, fcutR, List.append_nil, List.nil_append, List.cons_append, List.append_assoc] at hk ⊢); exact OpT.callTs (c29)) ?_) | (refine gD 21 ?_; refine RGl.rdX (fun e hk => by (try dsimp only [bndR, ensR, oksR, fcutR, List.append_nil, List.nil_append, List.cons_append, List.append_assoc] at hk ⊢); exact ReadR.binE rfl rfl BinR.eql (congrArg Value.bool (decide_eq_false (show ¬ x.k = 1 by omega)))) ?_) | (refine gD 32 ?_; refine RGl.rdX (fun e hk => by (try dsimp only [bndR, ensR, oksR, fcutR, List.append_nil, List.nil_append, List.cons_append, List.append_assoc] at hk ⊢); exact ReadR.binE rfl rfl BinR.eql (congrArg Value.bool (decide_eq_false (show ¬ x.k = 2 by omega)))) ?_) | (refine gD 47 ?_; refine RGl.rdX (fun e hk => by (try dsimp only [bndR, ensR, oksR, fcutR, List.append_nil, List.nil_append, List.cons_append, List.append_assoc] at hk ⊢); exact ReadR.binE rfl rfl BinR.eql (congrArg Value.bool (decide_eq_false (show ¬ x.k = 3 by omega)))) ?_) | (refine gD 62 ?_; refine RGl.rdX (fun e hk => by (try dsimp only [bndR, ensR, oksR, fcutR, List.append_nil, List.nil_append, List.cons_append, List.append_assoc] at hk ⊢); exact ReadR.binE rfl rfl BinR.eql (congrArg Value.bool (decide_eq_false (show ¬ x.k = 4 by omega)))) ?_) | (refine gD 77 ?_; refine RGl.rdX (fun e hk => by (try dsimp only [bndR, ensR, oksR, fcutR, List.append_nil, List.nil_append, List.cons_append, List.append_assoc] at hk ⊢); exact ReadR.binE rfl rfl BinR.eql (congrArg Value.bool (decide_eq_false (show ¬ x.k = 5 by omega)))) ?_) | (refine gD 92 ?_; refine RGl.rdX (fun e hk => by (try dsimp only [bndR, ensR, oksR, fcutR, List.append_nil, List.nil_append, List.cons_append, List.append_assoc] at hk ⊢); exact ReadR.binE rfl rfl BinR.eql (congrArg Value.bool (decide_eq_true hk1'))) ?_) | (refine gOp ?_; first | refine RGl.rdA ?_ | refine RGl.rdX (fun e hk => by (try dsimp only [bndR, ensR, oksR, fcutR, List.append_nil, List.nil_append, List.cons_append, List.append_assoc] at hk ⊢); exact readB) ?_) | (refine RGl.fin (fun e hk => ?_); (try dsimp only [bndA, ensAR, oksA, List.append_nil, List.nil_append, List.cons_append, List.append_assoc] at hk ⊢); (repeat (obtain ⟨hk1, hk⟩ := hk))) | fail)
   | (refine isCond ?_; first | refine WPc.cT ?_ | refine WPc.cF ?_ | (refine WPc.cQ (fun hc => ?_) (fun hc => ?_) <;> try exact prA))
   | (refine isD 5 ?_; refine WPl.boxC (faC x) hfx rfl (fun g5 => ?_))
   | (refine isC 8 ?_; refine WPl.cXs (c8) fun v Γ1 hR => ?_; (obtain ⟨v2, rfl, hv2, rfl⟩ := hR; have hfx2 := faC_ok (x := fewA x v2) hv2); (try dsimp only [putF, List.cons_append, List.nil_append]))
   | (refine isD 21 ?_; refine WPl.rdX (ReadR.binE rfl rfl BinR.eql (congrArg Value.bool (decide_eq_false (show ¬ x.k = 1 by omega)))) ?_)
   | (refine isD 32 ?_; refine WPl.rdX (ReadR.binE rfl rfl BinR.eql (congrArg Value.bool (decide_eq_false (show ¬ x.k = 2 by omega)))) ?_)
   | (refine isD 47 ?_; refine WPl.rdX (ReadR.binE rfl rfl BinR.eql (congrArg Value.bool (decide_eq_false (show ¬ x.k = 3 by omega)))) ?_)
   | (refine isD 62 ?_; refine WPl.rdX (ReadR.binE rfl rfl BinR.eql (congrArg Value.bool (decide_eq_false (show ¬ x.k = 4 by omega)))) ?_)
   | (refine isD 77 ?_; refine WPl.rdX (ReadR.binE rfl rfl BinR.eql (congrArg Value.bool (decide_eq_false (show ¬ x.k = 5 by omega)))) ?_)
   | (refine isD 92 ?_; refine WPl.rdX (ReadR.binE rfl rfl BinR.eql (congrArg Value.bool (decide_eq_true hk1'))) ?_)
   | (refine isOp ?_; first | refine WPl.rd ?_ | refine WPl.sk ?_ | refine WPl.rdB ?_)
   | (refine isBx ?_; refine WPl.nw fun g => ?_)
   | (refine isSt ?_; first | refine WPl.st1 ?_ | refine WPl.stA ?_ | refine WPl.stEB ?_ | refine WPl.stRB ?_)
   | (show WPl _ _ _ _ _ _ _ (⟨_, .indexAddr _ _ _, _, _, _, _⟩ :: _) _; refine WPl.rdX (ReadR.indexE rfl rfl hasA (by first | assumption | omega)) ?_)
   | (show WPl _ _ _ _ _ _ _ (⟨_, .fieldAddr _ _ _, _, _, _, _⟩ :: _) _; refine WPl.rdX (ReadR.fieldE rfl hasA (by first | assumption | omega)) ?_)
   | (show WPl _ _ _ _ _ _ _ (⟨_, .load _ _, _, _, _, _⟩ :: _) _; first | refine WPl.rdX (ReadR.loadE rfl hasA (by assumption)) ?_ | refine WPl.rdX (ReadR.loadES (by assumption) (by first | assumption | omega) rfl hasA) ?_)
   | (show WPl _ _ _ _ _ _ _ (⟨_, .slice _ _ _ _ _, _, _, _, _⟩ :: _) _; first | refine WPl.rdX (ReadR.sliceH rfl rfl hasA (by omega)) ?_ | refine WPl.rdX (ReadR.sliceL rfl rfl hasA (by omega)) ?_ | refine WPl.rdX (ReadR.sliceLH rfl rfl rfl hasA (by omega) (by omega)) ?_)
   | (refine WPl.spQ (fun hc => ?_) (fun hc => ?_) <;> try exact prA)
   | fail)
  have hA : (fun s : FM => PInv r1.1 s) (pickG (fun s : FM => [bx gF 66 (fac mi md), mp idM mi (ies s.ps), mp drM md s.ds, gbag prow s.ps]) (fun s : FM => PInv r1.1 s) (e 7).2) := by assumption
  have hB : (fun s : RG => RGok s ∧ s.sb = r2.1 ∧ s.vL.oneCell' = true) (pickG (fun s : RG => [bx gX 49 (rfc s.vL), rowN 33 23 s.vL s.L.length (svs s.L), gbag brow s.B]) (fun s : RG => RGok s ∧ s.sb = r2.1 ∧ s.vL.oneCell' = true) (e 15).2) := by assumption
  obtain ⟨T, hT⟩ : ∃ T, T = (pickG (fun s : FM => [bx gF 66 (fac mi md), mp idM mi (ies s.ps), mp drM md s.ds, gbag prow s.ps]) (fun s : FM => PInv r1.1 s) (e 7).2) := ⟨_, rfl⟩
  obtain ⟨U, hU⟩ : ∃ U, U = (pickG (fun s : RG => [bx gX 49 (rfc s.vL), rowN 33 23 s.vL s.L.length (svs s.L), gbag brow s.B]) (fun s : RG => RGok s ∧ s.sb = r2.1 ∧ s.vL.oneCell' = true) (e 15).2) := ⟨_, rfl⟩
  rw [← hT] at hA ⊢
  rw [← hU] at hB ⊢
  obtain ⟨b1, b2, b3⟩ := hB
  exact WPq.dX (vs := [.bool (decide (r1.2 = r2.2))]) (both20 gF mi md gX T U) ⟨T, U, rfl, hA, b1, b2, b3, rfl⟩ (ho := both20_own)
end
end Go.Proofs.Ytpjfkomicehinaa
/- Law 20: Do, an act done to both (a service). -/
namespace Go.Proofs.Ytpjfkomicehinaa
theorem fpOb20 {Γf : List Asn} {e : TypeId} {sz m : Nat} {v : Value} {xs : List Value} (h : rowN e sz v m xs ∈ Γf) : ∀ A, A ∈ [rdN v m xs] → ∃ B, B ∈ Γf ∧ ∀ g, A.fp g → B.fp g := fun A hA => ⟨_, h, fun g hg => by rw [List.mem_singleton.1 hA] at hg; exact hg.2⟩
open Go.RowKit
set_option linter.unusedSimpArgs false
set_option linter.unusedVariables false
set_option maxRecDepth 20000
set_option maxHeartbeats 4000000
attribute [local irreducible] WPc WPl WPq ReadR OpT BinR HasS bx rdN rowN Take Takes Prov Triple ResF BuildP Done ag Int.decLt Int.decLe Int.instDecidableEq
attribute [local irreducible] mp rmp rg rgo mput mget mfind mdel gbag bks ies svs pickG dropS addS addB turnS weighS
section
variable (gF mi md gX : Nat) (L : List Sb) (F : FM) (hp : PInv L F) (K : RG) (hK : RGok K) (hm : K.L.length ≤ 1000) (hv0 : K.vL.oneCell' = true) (hs : SrtL K.sb)
include hp hK hm hv0 hs
theorem do0_t (x : FA) (hx : faW x) (hk1' : x.k < 1 ∨ 6 < x.k) : Triple Try.prog 14 #[hF gF, hF gX, ag (faC x)] ([rdN x.v x.l.length (bks x.l)] ++ both20 gF mi md gX F K) (RDo gF mi md gX (addS L x.s (x.l.take 2).length) (addS K.sb x.s (x.l.take 2).length)) := by
  obtain ⟨w1, w2, w3, w4, w5, w6, w7, w8, w9⟩ := hx
  have hfx := faC_ok w6
  have c8 := few_t x w6
  have hal := x.s.ad.len
  have hbl := x.c.ad.len
  obtain ⟨r1, hr1⟩ : ∃ r1, r1 = addS L x.s (x.l.take 2).length := ⟨_, rfl⟩
  obtain ⟨r2, hr2⟩ : ∃ r2, r2 = addS K.sb x.s (x.l.take 2).length := ⟨_, rfl⟩
  have c14 := fun v2 hv2 => gadd_t gF mi md L F hp x.s v2 (x.l.take 2) hv2 w5
  rw [← hr1] at c14
  have c18 := fun v2 hv2 => raddS_t gX K hK hm hv0 hs x.s v2 (x.l.take 2) hv2
  rw [← hr2] at c18
  rw [← hr1, ← hr2]
  have hvA : ∀ v Γ', RFm gF mi md (.int .i64 r1.2) r1.1 v Γ' → v = .int .i64 r1.2 ∧ ∃ s : FM, Γ' = (fun s : FM => [bx gF 66 (fac mi md), mp idM mi (ies s.ps), mp drM md s.ds, gbag prow s.ps]) s ∧ (fun s : FM => PInv r1.1 s) s := by
    rintro v Γ' ⟨s, rfl, h1, rfl⟩
    exact ⟨rfl, s, rfl, h1⟩
  have hvB : ∀ v Γ', RXm gX r2.2 r2.1 v Γ' → v = .int .i64 r2.2 ∧ ∃ s : RG, Γ' = (fun s : RG => [bx gX 49 (rfc s.vL), rowN 33 23 s.vL s.L.length (svs s.L), gbag brow s.B]) s ∧ (fun s : RG => RGok s ∧ s.sb = r2.1 ∧ s.vL.oneCell' = true) s := by
    rintro v Γ' ⟨s, rfl, h1, h2, h3, rfl⟩
    exact ⟨rfl, s, rfl, h1, h2, h3⟩
  show Triple _ _ _ (rdN x.v x.l.length (bks x.l) :: [bx gF 66 (fac mi md), mp idM mi (ies F.ps), mp drM md F.ds, gbag prow F.ps, bx gX 49 (rfc K.vL), rowN 33 23 K.vL K.L.length (svs K.L), gbag brow K.B]) _
  refine Triple.enter Try.func14 rfl Try.ntmps14 rfl (fun W => ?_)
  dsimp only [argsF, Nat.reduceAdd]
  repeat' (first
   | refine WPl.nil ?_ | refine WPq.then ?_ | refine WPq.thenR ?_ | refine WPq.thenE ?_ | refine WPq.blockN ?_ | refine WPq.blockR ?_ | refine WPq.blockE ?_ | refine WPq.blockO rfl ?_ | refine WPc.seq ?_ | refine WPc.block ?_ | refine WPc.ret ?_ | refine WPc.exit ?_ | refine WPc.skip ?_ | refine WPc.region ?_
   | (refine isReg 3 ?_; refine WPc.drA [([10, 11, 12, 13, 14, 15, 16], [12, 13, 15, 16, 17]), ([10, 11, 12, 13, 14, 15, 16], [11, 15, 16, 17]), ([1, 10, 11, 12, 13, 14, 15, 16], [11, 12, 15, 16, 17]), ([0, 1, 2, 10, 11, 12, 13, 14, 15, 16], [11, 12, 13, 15, 16, 17]), ([10, 11, 12, 13, 14, 15, 16], [11, 12, 13, 14, 16, 17]), ([10, 11, 12, 13, 14, 15, 16], [11, 12, 13, 14, 15]), ([5, 10, 11, 12, 13, 14, 15, 16], [11, 12, 13, 14, 15, 16]), ([0, 1, 2, 3, 4, 5, 6, 10, 11, 12, 13, 14, 15, 16], [11, 12, 13, 14, 15, 16, 17]), ([0, 1, 2, 3, 4, 5, 6, 7, 10, 11, 12, 13, 14, 15, 16], [11, 12, 13, 14, 15, 16, 17, 18]), ([0, 1, 2, 3, 4, 5, 6, 7, 8, 10, 11, 12, 13, 14, 15, 16], [11, 12, 13, 14, 15, 16, 17, 18, 19])] [(10, 3), (11, 3), (12, 3), (13, 3), (14, 7), (15, 7), (16, 7), (10, 0), (10, 1), (10, 2), (11, 0), (11, 1), (11, 2), (12, 0), (12, 1), (12, 2), (13, 0), (13, 1), (13, 2), (14, 0), (14, 1), (14, 2), (14, 3), (14, 4), (14, 5), (14, 6), (15, 0), (15, 1), (15, 2), (15, 3), (15, 4), (15, 5), (15, 6), (16, 0), (16, 1), (16, 2), (16, 3), (16, 4), (16, 5), (16, 6)] (Γx := [bx gF 66 (fac mi md), mp idM mi (ies F.ps), mp drM md F.ds, gbag prow F.ps, bx gX 49 (rfc K.vL), rowN 33 23 K.vL K.L.length (svs K.L), gbag brow K.B]) (hox := ownsG) ?_; dsimp only [prev0, List.length_nil, List.length_cons])
   | (refine gAny ?_; first | (refine gD 21 ?_; refine RGl.rdX (fun e hk => by (try dsimp only [bndR, ensR, oksR, fcutR, List.append_nil, List.nil_append, List.cons_append, List.append_assoc] at hk ⊢); exact ReadR.binE rfl rfl BinR.eql (congrArg Value.bool (decide_eq_false (show ¬ x.k = 1 by omega)))) ?_) | (refine gD 32 ?_; refine RGl.rdX (fun e hk => by (try dsimp only [bndR, ensR, oksR, fcutR, List.append_nil, List.nil_append, List.cons_append, List.append_assoc] at hk ⊢); exact ReadR.binE rfl rfl BinR.eql (congrArg Value.bool (decide_eq_false (show ¬ x.k = 2 by omega)))) ?_) | (refine gD 47 ?_; refine RGl.rdX (fun e hk => by (try dsimp only [bndR, ensR, oksR, fcutR, List.append_nil, List.nil_append, List.cons_append, List.append_assoc] at hk ⊢); exact ReadR.binE rfl rfl BinR.eql (congrArg Value.bool (decide_eq_false (show ¬ x.k = 3 by omega)))) ?_) | (refine gD 62 ?_; refine RGl.rdX (fun e hk => by (try dsimp only [bndR, ensR, oksR, fcutR, List.append_nil, List.nil_append, List.cons_append, List.append_assoc] at hk ⊢); exact ReadR.binE rfl rfl BinR.eql (congrArg Value.bool (decide_eq_false (show ¬ x.k = 4 by omega)))) ?_) | (refine gD 77 ?_; refine RGl.rdX (fun e hk => by (try dsimp only [bndR, ensR, oksR, fcutR, List.append_nil, List.nil_append, List.cons_append, List.append_assoc] at hk ⊢); exact ReadR.binE rfl rfl BinR.eql (congrArg Value.bool (decide_eq_false (show ¬ x.k = 5 by omega)))) ?_) | (refine gD 92 ?_; refine RGl.rdX (fun e hk => by (try dsimp only [bndR, ensR, oksR, fcutR, List.append_nil, List.nil_append, List.cons_append, List.append_assoc] at hk ⊢); exact ReadR.binE rfl rfl BinR.eql (congrArg Value.bool (decide_eq_false (show ¬ x.k = 6 by omega)))) ?_) | (refine gOp ?_; (refine gC 14 ?_; refine RGl.relG (.int .i64 r1.2) ((fun s : FM => [bx gF 66 (fac mi md), mp idM mi (ies s.ps), mp drM md s.ds, gbag prow s.ps])) ((fun s : FM => PInv r1.1 s)) hvA (fun e hk => by (try dsimp only [bndR, ensR, oksR, fcutR, List.append_nil, List.nil_append, List.cons_append, List.append_assoc] at hk ⊢); exact OpT.callM (c14 v2 hv2) evsA takesA (Provs.cons provA Provs.nil) (fpOb20 memA) (by kernel_rfl)) ?_)) | (refine gOp ?_; (refine gC 18 ?_; refine RGl.relG (.int .i64 r2.2) ((fun s : RG => [bx gX 49 (rfc s.vL), rowN 33 23 s.vL s.L.length (svs s.L), gbag brow s.B])) ((fun s : RG => RGok s ∧ s.sb = r2.1 ∧ s.vL.oneCell' = true)) hvB (fun e hk => by (try dsimp only [bndR, ensR, oksR, fcutR, List.append_nil, List.nil_append, List.cons_append, List.append_assoc] at hk ⊢); exact OpT.callM (c18 v2 hv2) evsA takesA (Provs.cons provA Provs.nil) (fpOb20 memA) (by kernel_rfl)) ?_)) | (refine gOp ?_; first | refine RGl.rdA ?_ | refine RGl.rdX (fun e hk => by (try dsimp only [bndR, ensR, oksR, fcutR, List.append_nil, List.nil_append, List.cons_append, List.append_assoc] at hk ⊢); exact readB) ?_) | (refine RGl.fin (fun e hk => ?_); (try dsimp only [bndA, ensAR, oksA, List.append_nil, List.nil_append, List.cons_append, List.append_assoc] at hk ⊢); (repeat (obtain ⟨hk1, hk⟩ := hk))) | fail)
   | (refine isCond ?_; first | refine WPc.cT ?_ | refine WPc.cF ?_ | (refine WPc.cQ (fun hc => ?_) (fun hc => ?_) <;> try exact prA))
   | (refine isD 5 ?_; refine WPl.boxC (faC x) hfx rfl (fun g5 => ?_))
   | (refine isC 8 ?_; refine WPl.cXs (c8) fun v Γ1 hR => ?_; (obtain ⟨v2, rfl, hv2, rfl⟩ := hR; have hfx2 := faC_ok (x := fewA x v2) hv2); (try dsimp only [putF, List.cons_append, List.nil_append]))
   | (refine isD 21 ?_; refine WPl.rdX (ReadR.binE rfl rfl BinR.eql (congrArg Value.bool (decide_eq_false (show ¬ x.k = 1 by omega)))) ?_)
   | (refine isD 32 ?_; refine WPl.rdX (ReadR.binE rfl rfl BinR.eql (congrArg Value.bool (decide_eq_false (show ¬ x.k = 2 by omega)))) ?_)
   | (refine isD 47 ?_; refine WPl.rdX (ReadR.binE rfl rfl BinR.eql (congrArg Value.bool (decide_eq_false (show ¬ x.k = 3 by omega)))) ?_)
   | (refine isD 62 ?_; refine WPl.rdX (ReadR.binE rfl rfl BinR.eql (congrArg Value.bool (decide_eq_false (show ¬ x.k = 4 by omega)))) ?_)
   | (refine isD 77 ?_; refine WPl.rdX (ReadR.binE rfl rfl BinR.eql (congrArg Value.bool (decide_eq_false (show ¬ x.k = 5 by omega)))) ?_)
   | (refine isD 92 ?_; refine WPl.rdX (ReadR.binE rfl rfl BinR.eql (congrArg Value.bool (decide_eq_false (show ¬ x.k = 6 by omega)))) ?_)
   | (refine isOp ?_; first | refine WPl.rd ?_ | refine WPl.sk ?_ | refine WPl.rdB ?_)
   | (refine isBx ?_; refine WPl.nw fun g => ?_)
   | (refine isSt ?_; first | refine WPl.st1 ?_ | refine WPl.stA ?_ | refine WPl.stEB ?_ | refine WPl.stRB ?_)
   | (show WPl _ _ _ _ _ _ _ (⟨_, .indexAddr _ _ _, _, _, _, _⟩ :: _) _; refine WPl.rdX (ReadR.indexE rfl rfl hasA (by first | assumption | omega)) ?_)
   | (show WPl _ _ _ _ _ _ _ (⟨_, .fieldAddr _ _ _, _, _, _, _⟩ :: _) _; refine WPl.rdX (ReadR.fieldE rfl hasA (by first | assumption | omega)) ?_)
   | (show WPl _ _ _ _ _ _ _ (⟨_, .load _ _, _, _, _, _⟩ :: _) _; first | refine WPl.rdX (ReadR.loadE rfl hasA (by assumption)) ?_ | refine WPl.rdX (ReadR.loadES (by assumption) (by first | assumption | omega) rfl hasA) ?_)
   | (show WPl _ _ _ _ _ _ _ (⟨_, .slice _ _ _ _ _, _, _, _, _⟩ :: _) _; first | refine WPl.rdX (ReadR.sliceH rfl rfl hasA (by omega)) ?_ | refine WPl.rdX (ReadR.sliceL rfl rfl hasA (by omega)) ?_ | refine WPl.rdX (ReadR.sliceLH rfl rfl rfl hasA (by omega) (by omega)) ?_)
   | (refine WPl.spQ (fun hc => ?_) (fun hc => ?_) <;> try exact prA)
   | fail)
  have hA : (fun s : FM => PInv r1.1 s) (pickG (fun s : FM => [bx gF 66 (fac mi md), mp idM mi (ies s.ps), mp drM md s.ds, gbag prow s.ps]) (fun s : FM => PInv r1.1 s) (e 3).2) := by assumption
  have hB : (fun s : RG => RGok s ∧ s.sb = r2.1 ∧ s.vL.oneCell' = true) (pickG (fun s : RG => [bx gX 49 (rfc s.vL), rowN 33 23 s.vL s.L.length (svs s.L), gbag brow s.B]) (fun s : RG => RGok s ∧ s.sb = r2.1 ∧ s.vL.oneCell' = true) (e 7).2) := by assumption
  obtain ⟨T, hT⟩ : ∃ T, T = (pickG (fun s : FM => [bx gF 66 (fac mi md), mp idM mi (ies s.ps), mp drM md s.ds, gbag prow s.ps]) (fun s : FM => PInv r1.1 s) (e 3).2) := ⟨_, rfl⟩
  obtain ⟨U, hU⟩ : ∃ U, U = (pickG (fun s : RG => [bx gX 49 (rfc s.vL), rowN 33 23 s.vL s.L.length (svs s.L), gbag brow s.B]) (fun s : RG => RGok s ∧ s.sb = r2.1 ∧ s.vL.oneCell' = true) (e 7).2) := ⟨_, rfl⟩
  rw [← hT] at hA ⊢
  rw [← hU] at hB ⊢
  obtain ⟨b1, b2, b3⟩ := hB
  exact WPq.dX (vs := [.bool (decide (r1.2 = r2.2))]) (both20 gF mi md gX T U) ⟨T, U, rfl, hA, b1, b2, b3, rfl⟩ (ho := both20_own)
end
end Go.Proofs.Ytpjfkomicehinaa
/- Law 20: Do over all kinds; what is kept over it. -/
namespace Go.Proofs.Ytpjfkomicehinaa
set_option linter.unusedSimpArgs false
set_option linter.unusedVariables false
def act20 (L : List Sb) (x : FA) : List Sb × Int :=
  if x.k = 1 then dropS L x.id
  else if x.k = 2 then addB L x.id x.c
  else if x.k = 3 then turnS L x.id x.b (delBy x.b)
  else if x.k = 4 then turnS L x.id x.b (setBy x.b fun k => { k with dr := true })
  else if x.k = 5 then turnS L x.id x.b (setBy x.b fun k => { k with dr := false })
  else if x.k = 6 then weighS L x.id x.b x.w
  else addS L x.s (x.l.take 2).length
/-! ### Acts that came in -/
theorem faC_len (x : FA) : (flat (faC x)).length = 48 := by simp [flat_eq, x.s.ad.len, x.c.ad.len, u8s_length]
theorem fas_len {l : List FA} : (fas l).length = l.length * 48 := rows_len faC_len
theorem fas_at {l : List FA} {i : Nat} {x : FA} (h : l[i]? = some x) : ((fas l).drop (i * 48)).take 48 = flat (faC x) := rows_drop faC_len h
/-- The backends' rows of acts, that are only read. -/
def fws (l : List FA) : Asn where
  own := false
  fp := fun g => ∃ x ∈ l, (rdN x.v x.l.length (bks x.l)).fp g
  holds := fun w => ∀ x ∈ l, (rdN x.v x.l.length (bks x.l)).holds w
  lt := fun w h g hg => by
    obtain ⟨r, hr, hg⟩ := hg
    exact (rdN r.v r.l.length (bks r.l)).lt w (h r hr) g hg
  loc := fun w w' h hl r hr => (rdN r.v r.l.length (bks r.l)).loc w w' (h r hr) fun g hg => hl g ⟨r, hr, hg⟩
theorem fws_own {l : List FA} : (fws l).own = false := rfl
theorem HasS.fws {Γ : List Asn} {l : List FA} {x : FA} (h : Go.Proofs.Ytpjfkomicehinaa.fws l ∈ Γ) (hx : x ∈ l) : HasS Γ x.v x.l.length (bks x.l) := fun w hw => hw _ h _ hx
theorem fpFws {Γf : List Asn} {l : List FA} {x : FA} (h : fws l ∈ Γf) (hx : x ∈ l) : ∀ A, A ∈ [rdN x.v x.l.length (bks x.l)] → ∀ g, A.fp g → ∃ B, B ∈ Γf ∧ B.fp g := fun A hA g hg => ⟨_, h, x, hx, by rw [← List.mem_singleton.1 hA]; exact hg⟩
theorem HasS.gbagR {α : Type} {Γ : List Asn} {row : α → List Asn} {es : List α} {y : α} {e : TypeId} {sz n : Nat} {xs : List Value} {vl : Value} (h : Go.Proofs.Ytpjfkomicehinaa.gbag row es ∈ Γ) (hx : y ∈ es) (hA : rowN e sz vl n xs ∈ row y) : HasS Γ vl n xs :=
  fun _ hw => row_reads ((hw _ h).1 _ (List.mem_flatMap.2 ⟨y, hx, hA⟩))
/-! ### Cells of a service -/
theorem sh_ad {s : Sh} {v : Value} : ((flat (shC s v)).drop 1).take 17 = flat (adc s.ad) := by
  rw [shC_split]
  simp [flat_eq, u8s_length, s.ad.len]
theorem svs_ad {l : List SX} {i : Nat} {x : SX} (h : l[i]? = some x) : ((svs l).drop (i * 23 + 1)).take 17 = flat (adc x.s.ad) := by
  have h1 := svs_at h
  rw [← sh_ad (s := x.s) (v := x.v), ← h1, List.drop_take, List.drop_drop, List.take_take]
  congr 1
theorem sh_head {s : Sh} : ([.int .i64 s.id, .bool s.ad.six] ++ u8s s.ad.b : List Value).length = 18 := by simp [u8s_length, s.ad.len]
theorem sh_18 {s : Sh} {v : Value} : (flat (shC s v))[18]? = some (.int .u16 (s.port : Int)) := by
  rw [shC_split, List.append_assoc, List.getElem?_append_right (by rw [sh_head]; exact Nat.le_refl _), sh_head]; rfl
theorem sh_19 {s : Sh} {v : Value} : (flat (shC s v))[19]? = some (.int .u8 ((s.proto.toNat : Nat) : Int)) := by
  rw [shC_split, List.append_assoc, List.getElem?_append_right (by rw [sh_head]; omega), sh_head]; rfl
open Go.RowKit
set_option linter.unusedSimpArgs false
set_option linter.unusedVariables false
set_option maxRecDepth 20000
set_option maxHeartbeats 400000
attribute [local irreducible] WPc WPl WPq ReadR OpT BinR HasS bx rdN rowN Take Takes Prov Triple ResF BuildP Done ag Int.decLt Int.decLe Int.instDecidableEq
attribute [local irreducible] mp rmp rg rgo mput mget mfind mdel gbag bks ies svs pickG dropS addS addB turnS weighS
/-- The state of both. -/
def Both20 (L L2 : List Sb) (F : FM) (K : RG) : Prop := PInv L F ∧ RGok K ∧ K.sb = L2 ∧ K.vL.oneCell' = true ∧ LInv L2
theorem doA_t (gF mi md gX : Nat) (L L2 : List Sb) (F : FM) (K : RG) (hB : Both20 L L2 F K) (x : FA) (hx : faW x) : Triple Try.prog 14 #[hF gF, hF gX, ag (faC x)] ([rdN x.v x.l.length (bks x.l)] ++ both20 gF mi md gX F K) (RDo gF mi md gX (act20 L x) (act20 L2 x)) := by
  obtain ⟨hp, hK, rfl, hv0, hi⟩ := hB
  have hs : SrtL K.sb := hi.srt
  have hm : K.L.length ≤ 1000 := by have := hi.len; rw [List.length_map] at this; omega
  have hbs : ∀ x ∈ K.L, SrtB x.bs ∧ x.bs.length ≤ 16 := fun y hy => by
    have hy2 : y.sb ∈ K.sb := List.mem_map.2 ⟨y, hy, rfl⟩
    exact ⟨hi.bsrt _ hy2, hi.blen _ hy2⟩
  by_cases k1 : x.k = 1
  · have e : ∀ L, act20 L x = dropS L x.id := fun L => by unfold act20; rw [if_pos k1]
    rw [e, e]; exact do1_t gF mi md gX L F hp K hK hm hv0 hs x hx k1
  by_cases k2 : x.k = 2
  · have e : ∀ L, act20 L x = addB L x.id x.c := fun L => by unfold act20; rw [if_neg k1, if_pos k2]
    rw [e, e]; exact do2_t gF mi md gX L F hp K hK hm hv0 hs x hx k2 hbs
  by_cases k3 : x.k = 3
  · have e : ∀ L, act20 L x = turnS L x.id x.b (delBy x.b) := fun L => by unfold act20; rw [if_neg k1, if_neg k2, if_pos k3]
    rw [e, e]; exact do3_t gF mi md gX L F hp K hK hm hv0 hs x hx k3 hbs
  by_cases k4 : x.k = 4
  · have e : ∀ L, act20 L x = turnS L x.id x.b (setBy x.b fun k => { k with dr := true }) := fun L => by unfold act20; rw [if_neg k1, if_neg k2, if_neg k3, if_pos k4]
    rw [e, e]; exact do4_t gF mi md gX L F hp K hK hm hv0 hs x hx k4 hbs
  by_cases k5 : x.k = 5
  · have e : ∀ L, act20 L x = turnS L x.id x.b (setBy x.b fun k => { k with dr := false }) := fun L => by unfold act20; rw [if_neg k1, if_neg k2, if_neg k3, if_neg k4, if_pos k5]
    rw [e, e]; exact do5_t gF mi md gX L F hp K hK hm hv0 hs x hx k5 hbs
  by_cases k6 : x.k = 6
  · have e : ∀ L, act20 L x = weighS L x.id x.b x.w := fun L => by unfold act20; rw [if_neg k1, if_neg k2, if_neg k3, if_neg k4, if_neg k5, if_pos k6]
    rw [e, e]; exact do6_t gF mi md gX L F hp K hK hm hv0 hs x hx k6 hbs
  · have e : ∀ L, act20 L x = addS L x.s (x.l.take 2).length := fun L => by unfold act20; rw [if_neg k1, if_neg k2, if_neg k3, if_neg k4, if_neg k5, if_neg k6]
    rw [e, e]; exact do0_t gF mi md gX L F hp K hK hm hv0 hs x hx (by omega)
end Go.Proofs.Ytpjfkomicehinaa
