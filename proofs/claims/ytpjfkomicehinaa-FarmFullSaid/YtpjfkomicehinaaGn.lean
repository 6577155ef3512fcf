/- Layer 20 (farm): a service is matched; what is told of no farm. -/
import Derived.Test.YtpjfkomicehinaaGh
namespace Go.Proofs.Ytpjfkomicehinaa
/-- What is done to a farm. -/
structure FA where
  k : Int
  id : Int
  b : Int
  w : Int
  s : Sh
  v : Value
  l : List Bk
  c : Bk
abbrev faC (x : FA) : Ch := [(1, [.int .i64 x.k]), (1, [.int .i64 x.id]), (1, [.int .i64 x.b]), (1, [.int .i64 x.w]), (1, [.int .i64 x.s.id]), (1, [.bool x.s.ad.six]), (16, u8s x.s.ad.b), (1, [.int .u16 (x.s.port : Int)]), (1, [.int .u8 ((x.s.proto.toNat : Nat) : Int)]), (1, [.int .i64 x.s.bits]), (1, [.int .u64 x.s.lasts]), (1, [x.v]), (1, [.int .i64 x.c.id]), (1, [.bool x.c.ad.six]), (16, u8s x.c.ad.b), (1, [.int .u16 (x.c.port : Int)]), (1, [.int .i64 x.c.wt]), (1, [.bool x.c.dr])]
def faW (x : FA) : Prop := in64 x.k ∧ in64 x.id ∧ in64 x.b ∧ in64 x.w ∧ shW x.s ∧ x.v.oneCell' = true ∧ x.c.port < 65536 ∧ in64 x.c.id ∧ in64 x.c.wt
theorem faC_ok {x : FA} (h : x.v.oneCell' = true) : FOk (faC x) := .one1 rfl (.one1 rfl (.one1 rfl (.one1 rfl (.one1 rfl (.one1 rfl (.bytes x.s.ad.len (.one1 rfl (.one1 rfl (.one1 rfl (.one1 rfl (.one1 h (.one1 rfl (.one1 rfl (.bytes x.c.ad.len (.one1 rfl (.one1 rfl (.one1 rfl .nil)))))))))))))))))
def lvS : Sh := ⟨7, Adr.zero, 80, 6, 0, 1⟩
theorem lv_add : addS [] lvS ([] : List Bk).length = ([⟨lvS, []⟩], 0) := by with_unfolding_all decide
theorem lv_match : matchV [⟨lvS, []⟩] ⟨Adr.zero, 80, 6⟩ = .tuple #[.int .i64 7, .bool true] := by
  have h : doorS [⟨lvS, []⟩] ⟨Adr.zero, 80, 6⟩ = some ⟨lvS, []⟩ := by decide
  unfold matchV
  rw [h]
  rfl
open Go.RowKit
set_option linter.unusedSimpArgs false
set_option linter.unusedVariables false
set_option maxRecDepth 20000
set_option maxHeartbeats 4000000
attribute [local irreducible] WPc WPl WPq ReadR OpT BinR HasS bx rdN rowN Take Takes Prov Triple ResF BuildP Done ag Int.decLt Int.decLe Int.instDecidableEq
attribute [local irreducible] mp rmp rg rgo mput mget mfind mdel gbag bks ies lbB hasB findS doorS mpe lvS
theorem glives_t : Triple Try.prog 13 #[] [] (RVal (.bool true)) := by
  have c8 := fun gF mi md => gadd_t gF mi md [] ⟨[], []⟩ PInv.empty lvS (.slice none 0 0) [] rfl (by with_unfolding_all exact ⟨⟨by decide, by decide⟩, by decide⟩)
  rw [lv_add] at c8
  have c12 := fun gF mi md F (h : PInv [⟨lvS, []⟩] F) => gmatch_t gF mi md [⟨lvS, []⟩] F h Adr.zero 80 6 (by decide)
  rw [lv_match] at c12
  have e0 : bks ([] : List Bk) = [] := by with_unfolding_all rfl
  rw [e0] at c8
  have c8 : ∀ gF mi md, Triple Try.prog 8 #[hF gF, ag (shC lvS (.slice none 0 0))] ([rdN (.slice none 0 0) 0 []] ++ fmA gF mi md ⟨[], []⟩) (RFm gF mi md (.int .i64 0) [⟨lvS, []⟩]) := c8
  refine Triple.enter Try.func13 rfl Try.ntmps13 rfl (fun W => ?_)
  dsimp only [argsF, Nat.reduceAdd]
  refine WPc.nilRowN 36 21 ?_
  repeat' (first
   | refine WPl.nil ?_ | refine WPq.then ?_ | refine WPq.thenR ?_ | refine WPq.thenE ?_ | refine WPq.blockN ?_ | refine WPq.blockR ?_ | refine WPq.blockE ?_ | refine WPq.blockO rfl ?_ | refine WPc.seq ?_ | refine WPc.block ?_ | refine WPc.ret ?_ | refine WPc.exit ?_ | refine WPc.skip ?_ | refine WPc.region ?_
   | (refine isCond ?_; first | refine WPc.cT ?_ | refine WPc.cF ?_ | (refine WPc.cQ (fun hc => ?_) (fun hc => ?_) <;> try exact prA))
   | (refine isC 5 ?_; refine WPl.cXs (gnew_t) fun v Γ1 hR => ?_; obtain ⟨gF, mi, md, rfl, rfl⟩ := hR; (try dsimp only [putF, List.cons_append, List.nil_append]))
   | (refine isD 7 ?_; refine WPl.rdX (ReadR.build (cs' := shC lvS (.slice none 0 0)) (by with_unfolding_all exact buildA)) ?_)
   | (refine isC 8 ?_; refine WPl.cO (c8 gF mi md) (fun v Γ1 hR => ?_) ?_; rotate_left; exact fpA; obtain ⟨F1, rfl, hp1, rfl⟩ := hR; (try dsimp only [putF, List.cons_append, List.nil_append]))
   | (refine isOp ?_; first | refine WPl.rd ?_ | refine WPl.sk ?_ | refine WPl.rdB ?_)
   | (show WPl _ _ _ _ _ _ _ (⟨_, .indexAddr _ _ _, _, _, _, _⟩ :: _) _; refine WPl.rdX (ReadR.indexE rfl rfl hasA (by first | assumption | omega)) ?_)
   | (show WPl _ _ _ _ _ _ _ (⟨_, .fieldAddr _ _ _, _, _, _, _⟩ :: _) _; refine WPl.rdX (ReadR.fieldE rfl hasA (by first | assumption | omega)) ?_)
   | (show WPl _ _ _ _ _ _ _ (⟨_, .load _ _, _, _, _, _⟩ :: _) _; first | refine WPl.rdX (ReadR.loadE rfl hasA (by assumption)) ?_ | refine WPl.rdX (ReadR.loadES (by assumption) (by first | assumption | omega) rfl hasA) ?_)
   | (show WPl _ _ _ _ _ _ _ (⟨_, .slice _ _ _ _ _, _, _, _, _⟩ :: _) _; first | refine WPl.rdX (ReadR.sliceH rfl rfl hasA (by omega)) ?_ | refine WPl.rdX (ReadR.sliceL rfl rfl hasA (by omega)) ?_ | refine WPl.rdX (ReadR.sliceLH rfl rfl rfl hasA (by omega) (by omega)) ?_)
   | (refine WPl.spQ (fun hc => ?_) (fun hc => ?_) <;> try exact prA)
   | fail)
  repeat' (first
   | refine WPl.nil ?_ | refine WPq.then ?_ | refine WPq.thenR ?_ | refine WPq.thenE ?_ | refine WPq.blockN ?_ | refine WPq.blockR ?_ | refine WPq.blockE ?_ | refine WPq.blockO rfl ?_ | refine WPc.seq ?_ | refine WPc.block ?_ | refine WPc.ret ?_ | refine WPc.exit ?_ | refine WPc.skip ?_ | refine WPc.region ?_
   | (refine isCond ?_; first | refine WPc.cT ?_ | refine WPc.cF ?_ | (refine WPc.cQ (fun hc => ?_) (fun hc => ?_) <;> try exact prA))
   | (refine isD 11 ?_; refine WPl.rdX (ReadR.build (cs' := adc Adr.zero) buildA) ?_)
   | (refine isC 12 ?_; refine WPl.cV (c12 gF mi md F1 hp1) ?_ (hΔ := provsM))
   | (refine isD 16 ?_; refine WPl.rdX (ReadR.binE rfl rfl BinR.eql (congrArg Value.bool (decide_eq_true (rfl : (0 : Int) = 0)))) ?_)
   | (refine isD 19 ?_; refine WPl.rdX (ReadR.binE rfl rfl BinR.eql (congrArg Value.bool (decide_eq_true (rfl : (7 : Int) = 7)))) ?_)
   | (refine isOp ?_; first | refine WPl.rd ?_ | refine WPl.sk ?_ | refine WPl.rdB ?_)
   | (show WPl _ _ _ _ _ _ _ (⟨_, .indexAddr _ _ _, _, _, _, _⟩ :: _) _; refine WPl.rdX (ReadR.indexE rfl rfl hasA (by first | assumption | omega)) ?_)
   | (show WPl _ _ _ _ _ _ _ (⟨_, .fieldAddr _ _ _, _, _, _, _⟩ :: _) _; refine WPl.rdX (ReadR.fieldE rfl hasA (by first | assumption | omega)) ?_)
   | (show WPl _ _ _ _ _ _ _ (⟨_, .load _ _, _, _, _, _⟩ :: _) _; first | refine WPl.rdX (ReadR.loadE rfl hasA (by assumption)) ?_ | refine WPl.rdX (ReadR.loadES (by assumption) (by first | assumption | omega) rfl hasA) ?_)
   | (show WPl _ _ _ _ _ _ _ (⟨_, .slice _ _ _ _ _, _, _, _, _⟩ :: _) _; first | refine WPl.rdX (ReadR.sliceH rfl rfl hasA (by omega)) ?_ | refine WPl.rdX (ReadR.sliceL rfl rfl hasA (by omega)) ?_ | refine WPl.rdX (ReadR.sliceLH rfl rfl rfl hasA (by omega) (by omega)) ?_)
   | (refine WPl.spQ (fun hc => ?_) (fun hc => ?_) <;> try exact prA)
   | fail)
  exact WPq.dV
theorem farmNone_t (x : FA) (hx : faW x) : Triple Try.prog 6 #[ag (faC x)] [] (RVal (.bool true)) := by
  obtain ⟨w1, w2, w3, w4, w5, w6, w7, w8, w9⟩ := hx
  have hfx := faC_ok w6
  have hal := x.s.ad.len
  have hbl := x.c.ad.len
  have c21 := gmatchN_t x.s.ad (.int .u16 (x.s.port : Int)) (.int .u8 ((x.s.proto.toNat : Nat) : Int))
  have c28 := gsvcN_t x.id
  have c37 := gbackN_t x.id x.b
  have c49 := gidsN_t
  have c57 := gsharesN_t (.int .i64 x.id) (.slice none 0 0)
  have c64 := gaddN_t x.s x.v w6
  have c70 := gdropN_t x.id
  have c79 := gaddBN_t x.id x.c
  have c86 := gdropBN_t x.id 1
  have c93 := gdrainN_t x.id 1 true
  have c100 := gweighN_t x.id 1 1
  have clv := glives_t
  refine Triple.enter Try.func6 rfl Try.ntmps6 rfl (fun W => ?_)
  dsimp only [argsF, Nat.reduceAdd]
  refine WPc.nilRowN 79 2 ?_
  refine WPc.nilRowN 3 1 ?_
  repeat' (first
   | refine WPl.nil ?_ | refine WPq.then ?_ | refine WPq.thenR ?_ | refine WPq.thenE ?_ | refine WPq.blockN ?_ | refine WPq.blockR ?_ | refine WPq.blockE ?_ | refine WPq.blockO rfl ?_ | refine WPc.seq ?_ | refine WPc.block ?_ | refine WPc.ret ?_ | refine WPc.exit ?_ | refine WPc.skip ?_ | refine WPc.region ?_
   | (refine isCond ?_; first | refine WPc.cT ?_ | refine WPc.cF ?_ | (refine WPc.cQ (fun hc => ?_) (fun hc => ?_) <;> try exact prA))
   | (refine isD 1 ?_; first | (refine isAl ?_; refine WPl.nw fun g1 => ?_) | (refine isBx ?_; refine WPl.nw fun g1 => ?_))
   | (refine isC 21 ?_; refine WPl.cV (c21) ?_)
   | (refine isC 28 ?_; refine WPl.cV (c28) ?_)
   | (refine isC 37 ?_; refine WPl.cV (c37) ?_)
   | (refine isC 49 ?_; refine WPl.cV (c49) ?_)
   | (refine isC 57 ?_; refine WPl.cV (c57) ?_)
   | (refine isC 64 ?_; refine WPl.cV (c64) ?_)
   | (refine isC 70 ?_; refine WPl.cV (c70) ?_)
   | (refine isC 79 ?_; refine WPl.cV (c79) ?_)
   | (refine isC 86 ?_; refine WPl.cV (c86) ?_)
   | (refine isC 93 ?_; refine WPl.cV (c93) ?_)
   | (refine isC 100 ?_; refine WPl.cV (c100) ?_)
   | (refine isC 104 ?_; refine WPl.cV (clv) ?_)
   | (refine isOp ?_; first | refine WPl.rd ?_ | refine WPl.sk ?_ | refine WPl.rdB ?_)
   | (refine isAl ?_; refine WPl.nw fun g => ?_)
   | (refine isBx ?_; refine WPl.nw fun g => ?_)
   | (refine isSt ?_; first | refine WPl.st1 ?_ | refine WPl.stA ?_ | refine WPl.stEB ?_ | refine WPl.stRB ?_)
   | (show WPl _ _ _ _ _ _ _ (⟨_, .indexAddr _ _ _, _, _, _, _⟩ :: _) _; refine WPl.rdX (ReadR.indexE rfl rfl hasA (by first | assumption | omega)) ?_)
   | (show WPl _ _ _ _ _ _ _ (⟨_, .fieldAddr _ _ _, _, _, _, _⟩ :: _) _; refine WPl.rdX (ReadR.fieldE rfl hasA (by first | assumption | omega)) ?_)
   | (show WPl _ _ _ _ _ _ _ (⟨_, .load _ _, _, _, _, _⟩ :: _) _; first | refine WPl.rdX (ReadR.loadE rfl hasA (by assumption)) ?_ | refine WPl.rdX (ReadR.loadES (by assumption) (by first | assumption | omega) rfl hasA) ?_)
   | (show WPl _ _ _ _ _ _ _ (⟨_, .slice _ _ _ _ _, _, _, _, _⟩ :: _) _; first | refine WPl.rdX (ReadR.sliceH rfl rfl hasA (by omega)) ?_ | refine WPl.rdX (ReadR.sliceL rfl rfl hasA (by omega)) ?_ | refine WPl.rdX (ReadR.sliceLH rfl rfl rfl hasA (by omega) (by omega)) ?_)
   | (refine WPl.spQ (fun hc => ?_) (fun hc => ?_) <;> try exact prA)
   | fail)
  exact WPq.dV
end Go.Proofs.Ytpjfkomicehinaa
