/- Layer 20 (farm): contracts that only read: IDs, Service, Backend, Shares; what is told of no farm. -/
import Derived.Test.YtpjfkomicehinaaGf
namespace Go.Proofs.Ytpjfkomicehinaa
open Go.RowKit
set_option linter.unusedSimpArgs false
set_option linter.unusedVariables false
set_option maxRecDepth 20000
set_option maxHeartbeats 400000
attribute [local irreducible] WPc WPl WPq ReadR OpT BinR HasS bx rdN rowN Take Takes Prov Triple ResF BuildP Done ag Int.decLt Int.decLe Int.instDecidableEq
attribute [local irreducible] mp rmp rg rgo mput mget mfind mdel gbag bks ies lbB hasB findS
section
variable (gF mi md : Nat) (L : List Sb) (F : FM)
theorem gids_t (h : PInv L F) : Triple Try.prog 12 #[hF gF] [rbx gF 66 (fac mi md), rmp idM mi (ies F.ps)] (RRow 3 1 L.length (intsV (L.map (·.s.id)))) := by
  have hlen := h.len'
  have hll := h.len
  have c9 := keys_t mi
  have c10 := fun g => sorted_t (M := idM) (fun _ => rfl) (fun _ h => h) g mi (ies F.ps) (by omega)
  rw [ids_sorted h, hlen] at c10
  refine Triple.enter Try.func12 rfl Try.ntmps12 rfl (fun W => ?_)
  dsimp only [argsF, Nat.reduceAdd]
  repeat' (first
   | refine WPl.nil ?_ | refine WPq.then ?_ | refine WPq.thenR ?_ | refine WPq.thenE ?_ | refine WPq.blockN ?_ | refine WPq.blockR ?_ | refine WPq.blockE ?_ | refine WPq.blockO rfl ?_ | refine WPc.seq ?_ | refine WPc.block ?_ | refine WPc.ret ?_ | refine WPc.exit ?_ | refine WPc.skip ?_ | refine WPc.region ?_
   | (refine isCond ?_; first | refine WPc.cT ?_ | refine WPc.cF ?_ | (refine WPc.cQ (fun hc => ?_) (fun hc => ?_) <;> try exact prA))
   | (refine isD 4 ?_; refine WPl.rdX (readP) ?_)
   | (refine isD 8 ?_; refine WPl.rdX (ReadR.loadO memA rfl rfl) ?_)
   | (refine isC 9 ?_; refine WPl.cXs (c9) fun v Γ1 hR => ?_; obtain ⟨g9, rfl, rfl⟩ := hR; (try dsimp only [putF, List.cons_append, List.nil_append]))
   | (refine isC 10 ?_; refine WPl.cR (c10 g9) (fun w10 hw10 => ?_) (hΔ := provsM))
   | (refine isOp ?_; first | refine WPl.rd ?_ | refine WPl.sk ?_ | refine WPl.rdB ?_)
   | (show WPl _ _ _ _ _ _ _ (⟨_, .indexAddr _ _ _, _, _, _, _⟩ :: _) _; refine WPl.rdX (ReadR.indexE rfl rfl hasA (by first | assumption | omega)) ?_)
   | (show WPl _ _ _ _ _ _ _ (⟨_, .fieldAddr _ _ _, _, _, _, _⟩ :: _) _; refine WPl.rdX (ReadR.fieldE rfl hasA (by first | assumption | omega)) ?_)
   | (show WPl _ _ _ _ _ _ _ (⟨_, .load _ _, _, _, _, _⟩ :: _) _; first | refine WPl.rdX (ReadR.loadE rfl hasA (by assumption)) ?_ | refine WPl.rdX (ReadR.loadES (by assumption) (by first | assumption | omega) rfl hasA) ?_)
   | (show WPl _ _ _ _ _ _ _ (⟨_, .slice _ _ _ _ _, _, _, _, _⟩ :: _) _; first | refine WPl.rdX (ReadR.sliceH rfl rfl hasA (by omega)) ?_ | refine WPl.rdX (ReadR.sliceL rfl rfl hasA (by omega)) ?_ | refine WPl.rdX (ReadR.sliceLH rfl rfl rfl hasA (by omega) (by omega)) ?_)
   | (refine WPl.spQ (fun hc => ?_) (fun hc => ?_) <;> try exact prA)
   | fail)
  exact WPq.dR
theorem gidsN_t : Triple Try.prog 12 #[.pointer none] [] (RVal (.slice none 0 0)) := by
  refine Triple.enter Try.func12 rfl Try.ntmps12 rfl (fun W => ?_)
  dsimp only [argsF, Nat.reduceAdd]
  repeat' (first
   | refine WPl.nil ?_ | refine WPq.then ?_ | refine WPq.thenR ?_ | refine WPq.thenE ?_ | refine WPq.blockN ?_ | refine WPq.blockR ?_ | refine WPq.blockE ?_ | refine WPq.blockO rfl ?_ | refine WPc.seq ?_ | refine WPc.block ?_ | refine WPc.ret ?_ | refine WPc.exit ?_ | refine WPc.skip ?_ | refine WPc.region ?_
   | (refine isCond ?_; first | refine WPc.cT ?_ | refine WPc.cF ?_ | (refine WPc.cQ (fun hc => ?_) (fun hc => ?_) <;> try exact prA))
   | (refine isD 4 ?_; refine WPl.rdX (readP) ?_)
   | (refine isOp ?_; first | refine WPl.rd ?_ | refine WPl.sk ?_ | refine WPl.rdB ?_)
   | (show WPl _ _ _ _ _ _ _ (⟨_, .indexAddr _ _ _, _, _, _, _⟩ :: _) _; refine WPl.rdX (ReadR.indexE rfl rfl hasA (by first | assumption | omega)) ?_)
   | (show WPl _ _ _ _ _ _ _ (⟨_, .fieldAddr _ _ _, _, _, _, _⟩ :: _) _; refine WPl.rdX (ReadR.fieldE rfl hasA (by first | assumption | omega)) ?_)
   | (show WPl _ _ _ _ _ _ _ (⟨_, .load _ _, _, _, _, _⟩ :: _) _; first | refine WPl.rdX (ReadR.loadE rfl hasA (by assumption)) ?_ | refine WPl.rdX (ReadR.loadES (by assumption) (by first | assumption | omega) rfl hasA) ?_)
   | (show WPl _ _ _ _ _ _ _ (⟨_, .slice _ _ _ _ _, _, _, _, _⟩ :: _) _; first | refine WPl.rdX (ReadR.sliceH rfl rfl hasA (by omega)) ?_ | refine WPl.rdX (ReadR.sliceL rfl rfl hasA (by omega)) ?_ | refine WPl.rdX (ReadR.sliceLH rfl rfl rfl hasA (by omega) (by omega)) ?_)
   | (refine WPl.spQ (fun hc => ?_) (fun hc => ?_) <;> try exact prA)
   | fail)
  exact WPq.dV
def Bk.zero : Bk := ⟨0, Adr.zero, 0, 0, false⟩
def Sh.zero : Sh := ⟨0, Adr.zero, 0, 0, 0, 0⟩
def RSvc (x : PS) : Value → List Asn → Prop := fun v Γ => ∃ v', v = .tuple #[ag (shC x.s v'), .bool true] ∧ v'.oneCell' = true ∧ Γ = [rowN 36 21 v' x.bs.length (bks x.bs)]
theorem gsvc1_t (sid : Int) (hw : in64 sid) (x : PS) (hm : mfind (ies F.ps) sid = some (some x.g)) (hl : x.bs.length ≤ 16) (hv : x.v.oneCell' = true) :
    Triple Try.prog 15 #[hF gF, .int .i64 sid] [rbx gF 66 (fac mi md), rmp idM mi (ies F.ps), rbx x.g 33 (shC x.s x.v), rdN x.v x.bs.length (bks x.bs)] (RSvc x) := by
  obtain ⟨hget, hb⟩ := ies_get hm
  have hget : idM.vc (mget idM (ies F.ps) sid) = .pointer (some ⟨x.g, 0, none⟩) := hget
  have hb : mhas (ies F.ps) sid = true := hb
  have c31 := gclone_t x.v x.bs (by omega)
  have hfx := shC_ok (s := x.s) hv
  have hal := x.s.ad.len
  have hsel : sel (shC x.s x.v) 0 23 = some (shC x.s x.v) := by rfl
  refine Triple.enter Try.func15 rfl Try.ntmps15 rfl (fun W => ?_)
  dsimp only [argsF, Nat.reduceAdd]
  repeat' (first
   | refine WPl.nil ?_ | refine WPq.then ?_ | refine WPq.thenR ?_ | refine WPq.thenE ?_ | refine WPq.blockN ?_ | refine WPq.blockR ?_ | refine WPq.blockE ?_ | refine WPq.blockO rfl ?_ | refine WPc.seq ?_ | refine WPc.block ?_ | refine WPc.ret ?_ | refine WPc.exit ?_ | refine WPc.skip ?_ | refine WPc.region ?_
   | (refine isCond ?_; first | refine WPc.cT ?_ | refine WPc.cF ?_ | (refine WPc.cQ (fun hc => ?_) (fun hc => ?_) <;> try exact prA))
   | (refine isD 10 ?_; refine WPl.rdX (readP) ?_)
   | (refine isD 16 ?_; refine WPl.rdX (ReadR.loadO memA rfl rfl) ?_)
   | (refine isD 18 ?_; refine WPl.rdX (ReadR.lookOkM (M := idM) (k := sid) hw rfl rfl memA hget hb) ?_)
   | (refine isD 26 ?_; refine WPl.rdX (ReadR.loadOA memA hsel rfl) ?_)
   | (refine isD 8 ?_; first | (refine isAl ?_; refine WPl.nw fun g8 => ?_) | (refine isBx ?_; refine WPl.nw fun g8 => ?_))
   | (show WPl _ _ _ _ _ _ _ (⟨_, .store _ (.tmp 8) _, _, _, _, _⟩ :: _) _; refine WPl.stA (new := shC x.s x.v) ?_ (hn := hfx))
   | (refine isD 30 ?_; refine WPl.rdX (ReadR.loadO memA rfl rfl) ?_)
   | (refine isC 31 ?_; refine WPl.cR (c31) fun v hv => ?_)
   | (refine isOp ?_; first | refine WPl.rd ?_ | refine WPl.sk ?_ | refine WPl.rdB ?_)
   | (refine isAl ?_; refine WPl.nw fun g => ?_)
   | (refine isSt ?_; first | refine WPl.st1 ?_ | refine WPl.stA ?_ | refine WPl.stEB ?_ | refine WPl.stRB ?_)
   | (show WPl _ _ _ _ _ _ _ (⟨_, .indexAddr _ _ _, _, _, _, _⟩ :: _) _; refine WPl.rdX (ReadR.indexE rfl rfl hasA (by first | assumption | omega)) ?_)
   | (show WPl _ _ _ _ _ _ _ (⟨_, .fieldAddr _ _ _, _, _, _, _⟩ :: _) _; refine WPl.rdX (ReadR.fieldE rfl hasA (by first | assumption | omega)) ?_)
   | (show WPl _ _ _ _ _ _ _ (⟨_, .load _ _, _, _, _, _⟩ :: _) _; first | refine WPl.rdX (ReadR.loadE rfl hasA (by assumption)) ?_ | refine WPl.rdX (ReadR.loadES (by assumption) (by first | assumption | omega) rfl hasA) ?_)
   | (show WPl _ _ _ _ _ _ _ (⟨_, .slice _ _ _ _ _, _, _, _, _⟩ :: _) _; first | refine WPl.rdX (ReadR.sliceH rfl rfl hasA (by omega)) ?_ | refine WPl.rdX (ReadR.sliceL rfl rfl hasA (by omega)) ?_ | refine WPl.rdX (ReadR.sliceLH rfl rfl rfl hasA (by omega) (by omega)) ?_)
   | (refine WPl.spQ (fun hc => ?_) (fun hc => ?_) <;> try exact prA)
   | fail)
  exact WPq.dX (vs := [ag (shC x.s v), .bool true]) [rowN 36 21 v x.bs.length (bks x.bs)] ⟨v, rfl, hv, rfl⟩
theorem gsvc0_t (h : PInv L F) (sid : Int) (hw : in64 sid) (hf : findS L sid = none) : Triple Try.prog 15 #[hF gF, .int .i64 sid] [rbx gF 66 (fac mi md), rmp idM mi (ies F.ps)] (RVal (.tuple #[ag (shC Sh.zero (.slice none 0 0)), .bool false])) := by
  obtain ⟨hget, hb⟩ := ies_get (h.no hf)
  have hget : idM.vc (mget idM (ies F.ps) sid) = .pointer none := hget
  have hb : mhas (ies F.ps) sid = false := hb
  refine Triple.enter Try.func15 rfl Try.ntmps15 rfl (fun W => ?_)
  dsimp only [argsF, Nat.reduceAdd]
  repeat' (first
   | refine WPl.nil ?_ | refine WPq.then ?_ | refine WPq.thenR ?_ | refine WPq.thenE ?_ | refine WPq.blockN ?_ | refine WPq.blockR ?_ | refine WPq.blockE ?_ | refine WPq.blockO rfl ?_ | refine WPc.seq ?_ | refine WPc.block ?_ | refine WPc.ret ?_ | refine WPc.exit ?_ | refine WPc.skip ?_ | refine WPc.region ?_
   | (refine isCond ?_; first | refine WPc.cT ?_ | refine WPc.cF ?_ | (refine WPc.cQ (fun hc => ?_) (fun hc => ?_) <;> try exact prA))
   | (refine isD 10 ?_; refine WPl.rdX (readP) ?_)
   | (refine isD 16 ?_; refine WPl.rdX (ReadR.loadO memA rfl rfl) ?_)
   | (refine isD 18 ?_; refine WPl.rdX (ReadR.lookOkM (M := idM) (k := sid) hw rfl rfl memA hget hb) ?_)
   | (refine isD 23 ?_; refine WPl.rdX (ReadR.build (cs' := shC Sh.zero (.slice none 0 0)) buildA) ?_)
   | (show WPl _ _ _ _ _ _ _ (⟨_, .store _ (.tmp 4) _, _, _, _, _⟩ :: _) _; refine WPl.stA (new := shC Sh.zero (.slice none 0 0)) ?_ (hn := shC_ok rfl))
   | (refine isOp ?_; first | refine WPl.rd ?_ | refine WPl.sk ?_ | refine WPl.rdB ?_)
   | (refine isAl ?_; refine WPl.nw fun g => ?_)
   | (refine isSt ?_; first | refine WPl.st1 ?_ | refine WPl.stA ?_ | refine WPl.stEB ?_ | refine WPl.stRB ?_)
   | (show WPl _ _ _ _ _ _ _ (⟨_, .indexAddr _ _ _, _, _, _, _⟩ :: _) _; refine WPl.rdX (ReadR.indexE rfl rfl hasA (by first | assumption | omega)) ?_)
   | (show WPl _ _ _ _ _ _ _ (⟨_, .fieldAddr _ _ _, _, _, _, _⟩ :: _) _; refine WPl.rdX (ReadR.fieldE rfl hasA (by first | assumption | omega)) ?_)
   | (show WPl _ _ _ _ _ _ _ (⟨_, .load _ _, _, _, _, _⟩ :: _) _; first | refine WPl.rdX (ReadR.loadE rfl hasA (by assumption)) ?_ | refine WPl.rdX (ReadR.loadES (by assumption) (by first | assumption | omega) rfl hasA) ?_)
   | (show WPl _ _ _ _ _ _ _ (⟨_, .slice _ _ _ _ _, _, _, _, _⟩ :: _) _; first | refine WPl.rdX (ReadR.sliceH rfl rfl hasA (by omega)) ?_ | refine WPl.rdX (ReadR.sliceL rfl rfl hasA (by omega)) ?_ | refine WPl.rdX (ReadR.sliceLH rfl rfl rfl hasA (by omega) (by omega)) ?_)
   | (refine WPl.spQ (fun hc => ?_) (fun hc => ?_) <;> try exact prA)
   | fail)
  exact WPq.dV
theorem gsvcN_t (sid : Int) : Triple Try.prog 15 #[.pointer none, .int .i64 sid] [] (RVal (.tuple #[ag (shC Sh.zero (.slice none 0 0)), .bool false])) := by
  refine Triple.enter Try.func15 rfl Try.ntmps15 rfl (fun W => ?_)
  dsimp only [argsF, Nat.reduceAdd]
  repeat' (first
   | refine WPl.nil ?_ | refine WPq.then ?_ | refine WPq.thenR ?_ | refine WPq.thenE ?_ | refine WPq.blockN ?_ | refine WPq.blockR ?_ | refine WPq.blockE ?_ | refine WPq.blockO rfl ?_ | refine WPc.seq ?_ | refine WPc.block ?_ | refine WPc.ret ?_ | refine WPc.exit ?_ | refine WPc.skip ?_ | refine WPc.region ?_
   | (refine isCond ?_; first | refine WPc.cT ?_ | refine WPc.cF ?_ | (refine WPc.cQ (fun hc => ?_) (fun hc => ?_) <;> try exact prA))
   | (refine isD 10 ?_; refine WPl.rdX (readP) ?_)
   | (refine isD 11 ?_; refine WPl.rdX (ReadR.build (cs' := shC Sh.zero (.slice none 0 0)) buildA) ?_)
   | (show WPl _ _ _ _ _ _ _ (⟨_, .store _ (.tmp 4) _, _, _, _, _⟩ :: _) _; refine WPl.stA (new := shC Sh.zero (.slice none 0 0)) ?_ (hn := shC_ok rfl))
   | (refine isOp ?_; first | refine WPl.rd ?_ | refine WPl.sk ?_ | refine WPl.rdB ?_)
   | (refine isAl ?_; refine WPl.nw fun g => ?_)
   | (refine isSt ?_; first | refine WPl.st1 ?_ | refine WPl.stA ?_ | refine WPl.stEB ?_ | refine WPl.stRB ?_)
   | (show WPl _ _ _ _ _ _ _ (⟨_, .indexAddr _ _ _, _, _, _, _⟩ :: _) _; refine WPl.rdX (ReadR.indexE rfl rfl hasA (by first | assumption | omega)) ?_)
   | (show WPl _ _ _ _ _ _ _ (⟨_, .fieldAddr _ _ _, _, _, _, _⟩ :: _) _; refine WPl.rdX (ReadR.fieldE rfl hasA (by first | assumption | omega)) ?_)
   | (show WPl _ _ _ _ _ _ _ (⟨_, .load _ _, _, _, _, _⟩ :: _) _; first | refine WPl.rdX (ReadR.loadE rfl hasA (by assumption)) ?_ | refine WPl.rdX (ReadR.loadES (by assumption) (by first | assumption | omega) rfl hasA) ?_)
   | (show WPl _ _ _ _ _ _ _ (⟨_, .slice _ _ _ _ _, _, _, _, _⟩ :: _) _; first | refine WPl.rdX (ReadR.sliceH rfl rfl hasA (by omega)) ?_ | refine WPl.rdX (ReadR.sliceL rfl rfl hasA (by omega)) ?_ | refine WPl.rdX (ReadR.sliceLH rfl rfl rfl hasA (by omega) (by omega)) ?_)
   | (refine WPl.spQ (fun hc => ?_) (fun hc => ?_) <;> try exact prA)
   | fail)
  exact WPq.dV
theorem gback1_t (sid b : Int) (hw : in64 sid) (x : PS) (hm : mfind (ies F.ps) sid = some (some x.g)) (hs : SrtB x.bs) (hl : x.bs.length ≤ 16) (y : Bk) (hh : hasB x.bs b = true) (hy : x.bs[lbB x.bs b]? = some y) :
    Triple Try.prog 18 #[hF gF, .int .i64 sid, .int .i64 b] [rbx gF 66 (fac mi md), rmp idM mi (ies F.ps), rbx x.g 33 (shC x.s x.v), rdN x.v x.bs.length (bks x.bs)] (RVal (.tuple #[ag (bkC y), .bool true])) := by
  have c15 := gfind1_t gF mi md F sid b hw x hm hs hl
  rw [if_pos hh] at c15
  have hal := x.s.ad.len
  have hyc := bks_at hy
  have hL := bks_len (l := x.bs)
  have hlt := (List.getElem?_eq_some_iff.1 hy).1
  refine Triple.enter Try.func18 rfl Try.ntmps18 rfl (fun W => ?_)
  dsimp only [argsF, Nat.reduceAdd]
  repeat' (first
   | refine WPl.nil ?_ | refine WPq.then ?_ | refine WPq.thenR ?_ | refine WPq.thenE ?_ | refine WPq.blockN ?_ | refine WPq.blockR ?_ | refine WPq.blockE ?_ | refine WPq.blockO rfl ?_ | refine WPc.seq ?_ | refine WPc.block ?_ | refine WPc.ret ?_ | refine WPc.exit ?_ | refine WPc.skip ?_ | refine WPc.region ?_
   | (refine isCond ?_; first | refine WPc.cT ?_ | refine WPc.cF ?_ | (refine WPc.cQ (fun hc => ?_) (fun hc => ?_) <;> try exact prA))
   | (refine isC 15 ?_; refine WPl.cV c15 ?_ (hΔ := provsM))
   | (refine isD 25 ?_; refine WPl.rdX (ReadR.loadO memA rfl rfl) ?_)
   | (refine isD 27 ?_; refine WPl.rdX (ReadR.indexE (i := lbB x.bs b) rfl rfl hasA hlt) ?_)
   | (refine isD 28 ?_; refine WPl.rdX (ReadR.loadES (cs := bkC y) hyc (by omega) rfl hasA) ?_)
   | (show WPl _ _ _ _ _ _ _ (⟨_, .store _ (.tmp 6) _, _, _, _, _⟩ :: _) _; refine WPl.stA (new := bkC y) ?_ (hn := bkC_ok y))
   | (refine isOp ?_; first | refine WPl.rd ?_ | refine WPl.sk ?_ | refine WPl.rdB ?_)
   | (refine isAl ?_; refine WPl.nw fun g => ?_)
   | (refine isSt ?_; first | refine WPl.st1 ?_ | refine WPl.stA ?_ | refine WPl.stEB ?_ | refine WPl.stRB ?_)
   | (show WPl _ _ _ _ _ _ _ (⟨_, .indexAddr _ _ _, _, _, _, _⟩ :: _) _; refine WPl.rdX (ReadR.indexE rfl rfl hasA (by first | assumption | omega)) ?_)
   | (show WPl _ _ _ _ _ _ _ (⟨_, .fieldAddr _ _ _, _, _, _, _⟩ :: _) _; refine WPl.rdX (ReadR.fieldE rfl hasA (by first | assumption | omega)) ?_)
   | (show WPl _ _ _ _ _ _ _ (⟨_, .load _ _, _, _, _, _⟩ :: _) _; first | refine WPl.rdX (ReadR.loadE rfl hasA (by assumption)) ?_ | refine WPl.rdX (ReadR.loadES (by assumption) (by first | assumption | omega) rfl hasA) ?_)
   | (show WPl _ _ _ _ _ _ _ (⟨_, .slice _ _ _ _ _, _, _, _, _⟩ :: _) _; first | refine WPl.rdX (ReadR.sliceH rfl rfl hasA (by omega)) ?_ | refine WPl.rdX (ReadR.sliceL rfl rfl hasA (by omega)) ?_ | refine WPl.rdX (ReadR.sliceLH rfl rfl rfl hasA (by omega) (by omega)) ?_)
   | (refine WPl.spQ (fun hc => ?_) (fun hc => ?_) <;> try exact prA)
   | fail)
  exact WPq.dV
theorem gback2_t (sid b : Int) (hw : in64 sid) (x : PS) (hm : mfind (ies F.ps) sid = some (some x.g)) (hs : SrtB x.bs) (hl : x.bs.length ≤ 16) (hh : hasB x.bs b = false) :
    Triple Try.prog 18 #[hF gF, .int .i64 sid, .int .i64 b] [rbx gF 66 (fac mi md), rmp idM mi (ies F.ps), rbx x.g 33 (shC x.s x.v), rdN x.v x.bs.length (bks x.bs)] (RVal (.tuple #[ag (bkC Bk.zero), .bool false])) := by
  have c15 := gfind1_t gF mi md F sid b hw x hm hs hl
  rw [if_neg (by rw [hh]; simp)] at c15
  refine Triple.enter Try.func18 rfl Try.ntmps18 rfl (fun W => ?_)
  dsimp only [argsF, Nat.reduceAdd]
  repeat' (first
   | refine WPl.nil ?_ | refine WPq.then ?_ | refine WPq.thenR ?_ | refine WPq.thenE ?_ | refine WPq.blockN ?_ | refine WPq.blockR ?_ | refine WPq.blockE ?_ | refine WPq.blockO rfl ?_ | refine WPc.seq ?_ | refine WPc.block ?_ | refine WPc.ret ?_ | refine WPc.exit ?_ | refine WPc.skip ?_ | refine WPc.region ?_
   | (refine isCond ?_; first | refine WPc.cT ?_ | refine WPc.cF ?_ | (refine WPc.cQ (fun hc => ?_) (fun hc => ?_) <;> try exact prA))
   | (refine isC 15 ?_; refine WPl.cV c15 ?_ (hΔ := provsM))
   | (refine isD 21 ?_; refine WPl.rdX (ReadR.build (cs' := bkC Bk.zero) buildA) ?_)
   | (show WPl _ _ _ _ _ _ _ (⟨_, .store _ (.tmp 6) _, _, _, _, _⟩ :: _) _; refine WPl.stA (new := bkC Bk.zero) ?_ (hn := bkC_ok _))
   | (refine isOp ?_; first | refine WPl.rd ?_ | refine WPl.sk ?_ | refine WPl.rdB ?_)
   | (refine isAl ?_; refine WPl.nw fun g => ?_)
   | (refine isSt ?_; first | refine WPl.st1 ?_ | refine WPl.stA ?_ | refine WPl.stEB ?_ | refine WPl.stRB ?_)
   | (show WPl _ _ _ _ _ _ _ (⟨_, .indexAddr _ _ _, _, _, _, _⟩ :: _) _; refine WPl.rdX (ReadR.indexE rfl rfl hasA (by first | assumption | omega)) ?_)
   | (show WPl _ _ _ _ _ _ _ (⟨_, .fieldAddr _ _ _, _, _, _, _⟩ :: _) _; refine WPl.rdX (ReadR.fieldE rfl hasA (by first | assumption | omega)) ?_)
   | (show WPl _ _ _ _ _ _ _ (⟨_, .load _ _, _, _, _, _⟩ :: _) _; first | refine WPl.rdX (ReadR.loadE rfl hasA (by assumption)) ?_ | refine WPl.rdX (ReadR.loadES (by assumption) (by first | assumption | omega) rfl hasA) ?_)
   | (show WPl _ _ _ _ _ _ _ (⟨_, .slice _ _ _ _ _, _, _, _, _⟩ :: _) _; first | refine WPl.rdX (ReadR.sliceH rfl rfl hasA (by omega)) ?_ | refine WPl.rdX (ReadR.sliceL rfl rfl hasA (by omega)) ?_ | refine WPl.rdX (ReadR.sliceLH rfl rfl rfl hasA (by omega) (by omega)) ?_)
   | (refine WPl.spQ (fun hc => ?_) (fun hc => ?_) <;> try exact prA)
   | fail)
  exact WPq.dV
theorem gback0_t (h : PInv L F) (sid b : Int) (hw : in64 sid) (hf : findS L sid = none) : Triple Try.prog 18 #[hF gF, .int .i64 sid, .int .i64 b] [rbx gF 66 (fac mi md), rmp idM mi (ies F.ps)] (RVal (.tuple #[ag (bkC Bk.zero), .bool false])) := by
  have c15 := gfind0_t gF mi md L F h sid b hw hf
  refine Triple.enter Try.func18 rfl Try.ntmps18 rfl (fun W => ?_)
  dsimp only [argsF, Nat.reduceAdd]
  repeat' (first
   | refine WPl.nil ?_ | refine WPq.then ?_ | refine WPq.thenR ?_ | refine WPq.thenE ?_ | refine WPq.blockN ?_ | refine WPq.blockR ?_ | refine WPq.blockE ?_ | refine WPq.blockO rfl ?_ | refine WPc.seq ?_ | refine WPc.block ?_ | refine WPc.ret ?_ | refine WPc.exit ?_ | refine WPc.skip ?_ | refine WPc.region ?_
   | (refine isCond ?_; first | refine WPc.cT ?_ | refine WPc.cF ?_ | (refine WPc.cQ (fun hc => ?_) (fun hc => ?_) <;> try exact prA))
   | (refine isC 15 ?_; refine WPl.cV c15 ?_ (hΔ := provsM))
   | (refine isD 21 ?_; refine WPl.rdX (ReadR.build (cs' := bkC Bk.zero) buildA) ?_)
   | (show WPl _ _ _ _ _ _ _ (⟨_, .store _ (.tmp 6) _, _, _, _, _⟩ :: _) _; refine WPl.stA (new := bkC Bk.zero) ?_ (hn := bkC_ok _))
   | (refine isOp ?_; first | refine WPl.rd ?_ | refine WPl.sk ?_ | refine WPl.rdB ?_)
   | (refine isAl ?_; refine WPl.nw fun g => ?_)
   | (refine isSt ?_; first | refine WPl.st1 ?_ | refine WPl.stA ?_ | refine WPl.stEB ?_ | refine WPl.stRB ?_)
   | (show WPl _ _ _ _ _ _ _ (⟨_, .indexAddr _ _ _, _, _, _, _⟩ :: _) _; refine WPl.rdX (ReadR.indexE rfl rfl hasA (by first | assumption | omega)) ?_)
   | (show WPl _ _ _ _ _ _ _ (⟨_, .fieldAddr _ _ _, _, _, _, _⟩ :: _) _; refine WPl.rdX (ReadR.fieldE rfl hasA (by first | assumption | omega)) ?_)
   | (show WPl _ _ _ _ _ _ _ (⟨_, .load _ _, _, _, _, _⟩ :: _) _; first | refine WPl.rdX (ReadR.loadE rfl hasA (by assumption)) ?_ | refine WPl.rdX (ReadR.loadES (by assumption) (by first | assumption | omega) rfl hasA) ?_)
   | (show WPl _ _ _ _ _ _ _ (⟨_, .slice _ _ _ _ _, _, _, _, _⟩ :: _) _; first | refine WPl.rdX (ReadR.sliceH rfl rfl hasA (by omega)) ?_ | refine WPl.rdX (ReadR.sliceL rfl rfl hasA (by omega)) ?_ | refine WPl.rdX (ReadR.sliceLH rfl rfl rfl hasA (by omega) (by omega)) ?_)
   | (refine WPl.spQ (fun hc => ?_) (fun hc => ?_) <;> try exact prA)
   | fail)
  exact WPq.dV
theorem gbackN_t (sid b : Int) : Triple Try.prog 18 #[.pointer none, .int .i64 sid, .int .i64 b] [] (RVal (.tuple #[ag (bkC Bk.zero), .bool false])) := by
  have c15 := gfindN_t sid b
  refine Triple.enter Try.func18 rfl Try.ntmps18 rfl (fun W => ?_)
  dsimp only [argsF, Nat.reduceAdd]
  repeat' (first
   | refine WPl.nil ?_ | refine WPq.then ?_ | refine WPq.thenR ?_ | refine WPq.thenE ?_ | refine WPq.blockN ?_ | refine WPq.blockR ?_ | refine WPq.blockE ?_ | refine WPq.blockO rfl ?_ | refine WPc.seq ?_ | refine WPc.block ?_ | refine WPc.ret ?_ | refine WPc.exit ?_ | refine WPc.skip ?_ | refine WPc.region ?_
   | (refine isCond ?_; first | refine WPc.cT ?_ | refine WPc.cF ?_ | (refine WPc.cQ (fun hc => ?_) (fun hc => ?_) <;> try exact prA))
   | (refine isC 15 ?_; refine WPl.cV (c15) ?_)
   | (refine isD 21 ?_; refine WPl.rdX (ReadR.build (cs' := bkC Bk.zero) buildA) ?_)
   | (show WPl _ _ _ _ _ _ _ (⟨_, .store _ (.tmp 6) _, _, _, _, _⟩ :: _) _; refine WPl.stA (new := bkC Bk.zero) ?_ (hn := bkC_ok _))
   | (refine isOp ?_; first | refine WPl.rd ?_ | refine WPl.sk ?_ | refine WPl.rdB ?_)
   | (refine isAl ?_; refine WPl.nw fun g => ?_)
   | (refine isSt ?_; first | refine WPl.st1 ?_ | refine WPl.stA ?_ | refine WPl.stEB ?_ | refine WPl.stRB ?_)
   | (show WPl _ _ _ _ _ _ _ (⟨_, .indexAddr _ _ _, _, _, _, _⟩ :: _) _; refine WPl.rdX (ReadR.indexE rfl rfl hasA (by first | assumption | omega)) ?_)
   | (show WPl _ _ _ _ _ _ _ (⟨_, .fieldAddr _ _ _, _, _, _, _⟩ :: _) _; refine WPl.rdX (ReadR.fieldE rfl hasA (by first | assumption | omega)) ?_)
   | (show WPl _ _ _ _ _ _ _ (⟨_, .load _ _, _, _, _, _⟩ :: _) _; first | refine WPl.rdX (ReadR.loadE rfl hasA (by assumption)) ?_ | refine WPl.rdX (ReadR.loadES (by assumption) (by first | assumption | omega) rfl hasA) ?_)
   | (show WPl _ _ _ _ _ _ _ (⟨_, .slice _ _ _ _ _, _, _, _, _⟩ :: _) _; first | refine WPl.rdX (ReadR.sliceH rfl rfl hasA (by omega)) ?_ | refine WPl.rdX (ReadR.sliceL rfl rfl hasA (by omega)) ?_ | refine WPl.rdX (ReadR.sliceLH rfl rfl rfl hasA (by omega) (by omega)) ?_)
   | (refine WPl.spQ (fun hc => ?_) (fun hc => ?_) <;> try exact prA)
   | fail)
  exact WPq.dV
/-! ### Shares -/
abbrev shrC (p : Int × Int) : Ch := [(1, [.int .i64 p.1]), (1, [.int .i64 p.2])]
def shrs (l : List (Int × Int)) : List Value := (l.map fun p => flat (shrC p)).flatten
theorem shrC_len (p : Int × Int) : (flat (shrC p)).length = 2 := rfl
theorem shrC_ok (p : Int × Int) : FOk (shrC p) := .one1 rfl (.one1 rfl .nil)
theorem shrs_len {l : List (Int × Int)} : (shrs l).length = l.length * 2 := rows_len shrC_len
theorem shrs_app {l k : List (Int × Int)} : shrs (l ++ k) = shrs l ++ shrs k := by unfold shrs; rw [List.map_append, List.flatten_append]
theorem shrs_one {p : Int × Int} : shrs [p] = flat (shrC p) := by unfold shrs; rw [List.map_singleton]; simp
theorem shrs_at {l : List (Int × Int)} {i : Nat} {p : Int × Int} (h : l[i]? = some p) : ((shrs l).drop (i * 2)).take 2 = flat (shrC p) := rows_drop shrC_len h
def takesB (down : List Int) (b : Bk) : Bool := !b.dr && !decide (b.id ∈ down)
def sharesB (bs : List Bk) (down : List Int) : List (Int × Int) := (bs.filter (takesB down)).map fun b => (b.id, b.wt)
theorem sharesB_next {bs : List Bk} {down : List Int} {i : Nat} {b : Bk} (h : bs[i]? = some b) : sharesB (bs.take (i + 1)) down = sharesB (bs.take i) down ++ (if takesB down b = true then [(b.id, b.wt)] else []) := by
  unfold sharesB
  rw [List.take_add_one, h, List.filter_append, List.map_append]
  congr 1
  by_cases hq : takesB down b = true
  · rw [if_pos hq]; simp [hq]
  · rw [if_neg hq]; simp [hq]
theorem sharesB_len {bs : List Bk} {down : List Int} : (sharesB bs down).length ≤ bs.length := by
  unfold sharesB
  rw [List.length_map]
  exact List.length_filter_le _ _
attribute [local irreducible] shrs sharesB
theorem gshares1_t (sid : Int) (hw : in64 sid) (x : PS) (hm : mfind (ies F.ps) sid = some (some x.g)) (hl : x.bs.length ≤ 16) (vd : Value) (down : List Int) (hd : down.length ≤ 1000) :
    Triple Try.prog 10 #[hF gF, .int .i64 sid, vd] [rbx gF 66 (fac mi md), rmp idM mi (ies F.ps), rbx x.g 33 (shC x.s x.v), rdN x.v x.bs.length (bks x.bs), rdN vd down.length (intsV down)] (RRow 79 2 (sharesB x.bs down).length (shrs (sharesB x.bs down))) := by
  obtain ⟨hget, hb⟩ := ies_get hm
  have hget : idM.vc (mget idM (ies F.ps) sid) = .pointer (some ⟨x.g, 0, none⟩) := hget
  have hb : mhas (ies F.ps) sid = true := hb
  have hal := x.s.ad.len
  have hL := bks_len (l := x.bs)
  have c41 := fun b : Bk => gcontains_t vd down b.id hd
  have e1 : ∀ v, rowN 79 2 v 0 [] = rowN 79 2 v (sharesB (x.bs.take 0) down).length (shrs (sharesB (x.bs.take 0) down)) := fun v => by with_unfolding_all rfl
  refine Triple.enter Try.func10 rfl Try.ntmps10 rfl (fun W => ?_)
  dsimp only [argsF, Nat.reduceAdd]
  repeat' (first
   | refine WPl.nil ?_ | refine WPq.then ?_ | refine WPq.thenR ?_ | refine WPq.thenE ?_ | refine WPq.blockN ?_ | refine WPq.blockR ?_ | refine WPq.blockE ?_ | refine WPq.blockO rfl ?_ | refine WPc.seq ?_ | refine WPc.block ?_ | refine WPc.ret ?_ | refine WPc.exit ?_ | refine WPc.skip ?_ | refine WPc.region ?_
   | (refine isCond ?_; first | refine WPc.cT ?_ | refine WPc.cF ?_ | (refine WPc.cQ (fun hc => ?_) (fun hc => ?_) <;> try exact prA))
   | (refine isD 13 ?_; refine WPl.rdX (readP) ?_)
   | (refine isD 18 ?_; refine WPl.rdX (ReadR.loadO memA rfl rfl) ?_)
   | (refine isD 20 ?_; refine WPl.rdX (ReadR.lookOkM (M := idM) (k := sid) hw rfl rfl memA hget hb) ?_)
   | (refine isD 28 ?_; refine WPl.rdX (ReadR.loadO memA rfl rfl) ?_)
   | (refine isOp ?_; first | refine WPl.rd ?_ | refine WPl.sk ?_ | refine WPl.rdB ?_)
   | (refine isAl ?_; refine WPl.nw fun g => ?_)
   | (refine isSt ?_; first | refine WPl.st1 ?_ | refine WPl.stA ?_ | refine WPl.stEB ?_ | refine WPl.stRB ?_)
   | (show WPl _ _ _ _ _ _ _ (⟨_, .indexAddr _ _ _, _, _, _, _⟩ :: _) _; refine WPl.rdX (ReadR.indexE rfl rfl hasA (by first | assumption | omega)) ?_)
   | (show WPl _ _ _ _ _ _ _ (⟨_, .fieldAddr _ _ _, _, _, _, _⟩ :: _) _; refine WPl.rdX (ReadR.fieldE rfl hasA (by first | assumption | omega)) ?_)
   | (show WPl _ _ _ _ _ _ _ (⟨_, .load _ _, _, _, _, _⟩ :: _) _; first | refine WPl.rdX (ReadR.loadE rfl hasA (by assumption)) ?_ | refine WPl.rdX (ReadR.loadES (by assumption) (by first | assumption | omega) rfl hasA) ?_)
   | (show WPl _ _ _ _ _ _ _ (⟨_, .slice _ _ _ _ _, _, _, _, _⟩ :: _) _; first | refine WPl.rdX (ReadR.sliceH rfl rfl hasA (by omega)) ?_ | refine WPl.rdX (ReadR.sliceL rfl rfl hasA (by omega)) ?_ | refine WPl.rdX (ReadR.sliceLH rfl rfl rfl hasA (by omega) (by omega)) ?_)
   | (refine WPl.spQ (fun hc => ?_) (fun hc => ?_) <;> try exact prA)
   | fail)
  refine WPc.nilRowN 79 2 ?_
  rw [e1]
  first | refine WPc.loop (σ := Nat × Value) (fun st => st.1 ≤ x.bs.length ∧ st.2.oneCell' = true) (fun st => [rbx gF 66 (fac mi md), rmp idM mi (ies F.ps), rbx x.g 33 (shC x.s x.v), rdN x.v x.bs.length (bks x.bs), rdN vd down.length (intsV down), rowN 79 2 st.2 (sharesB (x.bs.take st.1) down).length (shrs (sharesB (x.bs.take st.1) down))]) (fun st => [(2, vd), (28, x.v), (29, .int .i64 (x.bs.length : Int)), (30, .int .i64 (st.1 : Int)), (9, st.2)]) (fun st => x.bs.length - st.1) ((0, .slice none 0 0)) ?_ takesA frsA (fun st km hx hk => ?_)
  · exact ⟨Nat.zero_le _, rfl⟩
  obtain ⟨i, vo⟩ := st
  obtain ⟨hi, hvo⟩ := hx
  dsimp only at hi hvo hk ⊢
  have hkm : km = x.bs.length - i := hk
  clear hk
  by_cases hlt : i < x.bs.length
  · obtain ⟨y, hy⟩ : ∃ y, x.bs[i]? = some y := ⟨_, List.getElem?_eq_getElem hlt⟩
    have hyc := bks_at hy
    have hlt' : (i : Int) < (x.bs.length : Int) := by omega
    have hnx := sharesB_next (down := down) hy
    have hle := sharesB_len (bs := x.bs.take i) (down := down)
    rw [List.length_take] at hle
    have cy := c41 y
    have hLo := shrs_len (l := sharesB (x.bs.take i) down)
    have hfb := bkC_ok y
    obtain ⟨cur, hcur⟩ : ∃ cur, cur = sharesB (x.bs.take i) down := ⟨_, rfl⟩
    rw [← hcur] at hnx hle hLo ⊢
    have hrow : takesB down y = true → ∀ v2, rowN 79 2 v2 (cur.length + 1) (shrs cur ++ flat (shrC (y.id, y.wt))) = rowN 79 2 v2 (sharesB (x.bs.take (i + 1)) down).length (shrs (sharesB (x.bs.take (i + 1)) down)) := fun hq v2 => by
      rw [hnx, if_pos hq, shrs_app, shrs_one, List.length_append]; rfl
    have hno : takesB down y = false → cur = sharesB (x.bs.take (i + 1)) down := fun hq => by rw [hnx, if_neg (by rw [hq]; simp), List.append_nil]
    cases hdr : y.dr with
    | true =>
      have hq : takesB down y = false := by unfold takesB; rw [hdr]; rfl
      repeat' (first
       | refine WPl.nil ?_ | refine WPq.then ?_ | refine WPq.thenR ?_ | refine WPq.thenE ?_ | refine WPq.blockN ?_ | refine WPq.blockR ?_ | refine WPq.blockE ?_ | refine WPq.blockO rfl ?_ | refine WPc.seq ?_ | refine WPc.block ?_ | refine WPc.ret ?_ | refine WPc.exit ?_ | refine WPc.skip ?_ | refine WPc.region ?_
       | (refine isCond ?_; first | refine WPc.cT ?_ | refine WPc.cF ?_ | (refine WPc.cQ (fun hc => ?_) (fun hc => ?_) <;> try first | exact prA | (exfalso; first | omega)))
       | (refine isD 31 ?_; refine WPl.rdX (ReadR.binE rfl rfl BinR.lss (congrArg Value.bool (decide_eq_true hlt'))) ?_)
       | (refine isD 32 ?_; refine WPl.rdX (ReadR.indexE (i := i) rfl rfl hasA hlt) ?_)
       | (refine isD 33 ?_; refine WPl.rdX (ReadR.loadES (cs := bkC y) hyc (by omega) rfl hasA) ?_)
       | (refine isD 11 ?_; first | (refine isAl ?_; refine WPl.nw fun g11 => ?_) | (refine isBx ?_; refine WPl.nw fun g11 => ?_))
       | (show WPl _ _ _ _ _ _ _ (⟨_, .store _ (.tmp 11) _, _, _, _, _⟩ :: _) _; refine WPl.stA (new := bkC y) ?_ (hn := hfb); rw [hdr])
       | (refine isOp ?_; first | refine WPl.rd ?_ | refine WPl.sk ?_ | refine WPl.rdB ?_)
       | (refine isAl ?_; refine WPl.nw fun g => ?_)
       | (refine isSt ?_; first | refine WPl.st1 ?_ | refine WPl.stA ?_ | refine WPl.stEB ?_ | refine WPl.stRB ?_)
       | (show WPl _ _ _ _ _ _ _ (⟨_, .indexAddr _ _ _, _, _, _, _⟩ :: _) _; refine WPl.rdX (ReadR.indexE rfl rfl hasA (by first | assumption | omega)) ?_)
       | (show WPl _ _ _ _ _ _ _ (⟨_, .fieldAddr _ _ _, _, _, _, _⟩ :: _) _; refine WPl.rdX (ReadR.fieldE rfl hasA (by first | assumption | omega)) ?_)
       | (show WPl _ _ _ _ _ _ _ (⟨_, .load _ _, _, _, _, _⟩ :: _) _; first | refine WPl.rdX (ReadR.loadE rfl hasA (by assumption)) ?_ | refine WPl.rdX (ReadR.loadES (by assumption) (by first | assumption | omega) rfl hasA) ?_)
       | (show WPl _ _ _ _ _ _ _ (⟨_, .slice _ _ _ _ _, _, _, _, _⟩ :: _) _; first | refine WPl.rdX (ReadR.sliceH rfl rfl hasA (by omega)) ?_ | refine WPl.rdX (ReadR.sliceL rfl rfl hasA (by omega)) ?_ | refine WPl.rdX (ReadR.sliceLH rfl rfl rfl hasA (by omega) (by omega)) ?_)
       | (refine WPl.spQ (fun hc => ?_) (fun hc => ?_) <;> try first | exact prA | (exfalso; first | omega))
       | fail)
      rw [hno hq]
      exact WPq.rnd (i + 1, vo) ⟨hlt, hvo⟩ (by dsimp only; omega)
    | false =>
      by_cases hin : y.id ∈ down
      · have hq : takesB down y = false := by unfold takesB; rw [hdr, decide_eq_true hin]; rfl
        rw [decide_eq_true hin] at cy
        repeat' (first
         | refine WPl.nil ?_ | refine WPq.then ?_ | refine WPq.thenR ?_ | refine WPq.thenE ?_ | refine WPq.blockN ?_ | refine WPq.blockR ?_ | refine WPq.blockE ?_ | refine WPq.blockO rfl ?_ | refine WPc.seq ?_ | refine WPc.block ?_ | refine WPc.ret ?_ | refine WPc.exit ?_ | refine WPc.skip ?_ | refine WPc.region ?_
         | (refine isCond ?_; first | refine WPc.cT ?_ | refine WPc.cF ?_ | (refine WPc.cQ (fun hc => ?_) (fun hc => ?_) <;> try first | exact prA | (exfalso; first | omega)))
         | (refine isD 31 ?_; refine WPl.rdX (ReadR.binE rfl rfl BinR.lss (congrArg Value.bool (decide_eq_true hlt'))) ?_)
         | (refine isD 32 ?_; refine WPl.rdX (ReadR.indexE (i := i) rfl rfl hasA hlt) ?_)
         | (refine isD 33 ?_; refine WPl.rdX (ReadR.loadES (cs := bkC y) hyc (by omega) rfl hasA) ?_)
         | (refine isD 11 ?_; first | (refine isAl ?_; refine WPl.nw fun g11 => ?_) | (refine isBx ?_; refine WPl.nw fun g11 => ?_))
         | (show WPl _ _ _ _ _ _ _ (⟨_, .store _ (.tmp 11) _, _, _, _, _⟩ :: _) _; refine WPl.stA (new := bkC y) ?_ (hn := hfb); rw [hdr])
         | (refine isC 41 ?_; refine WPl.cV cy ?_ (hΔ := provsM))
         | (refine isOp ?_; first | refine WPl.rd ?_ | refine WPl.sk ?_ | refine WPl.rdB ?_)
         | (refine isAl ?_; refine WPl.nw fun g => ?_)
         | (refine isSt ?_; first | refine WPl.st1 ?_ | refine WPl.stA ?_ | refine WPl.stEB ?_ | refine WPl.stRB ?_)
         | (show WPl _ _ _ _ _ _ _ (⟨_, .indexAddr _ _ _, _, _, _, _⟩ :: _) _; refine WPl.rdX (ReadR.indexE rfl rfl hasA (by first | assumption | omega)) ?_)
         | (show WPl _ _ _ _ _ _ _ (⟨_, .fieldAddr _ _ _, _, _, _, _⟩ :: _) _; refine WPl.rdX (ReadR.fieldE rfl hasA (by first | assumption | omega)) ?_)
         | (show WPl _ _ _ _ _ _ _ (⟨_, .load _ _, _, _, _, _⟩ :: _) _; first | refine WPl.rdX (ReadR.loadE rfl hasA (by assumption)) ?_ | refine WPl.rdX (ReadR.loadES (by assumption) (by first | assumption | omega) rfl hasA) ?_)
         | (show WPl _ _ _ _ _ _ _ (⟨_, .slice _ _ _ _ _, _, _, _, _⟩ :: _) _; first | refine WPl.rdX (ReadR.sliceH rfl rfl hasA (by omega)) ?_ | refine WPl.rdX (ReadR.sliceL rfl rfl hasA (by omega)) ?_ | refine WPl.rdX (ReadR.sliceLH rfl rfl rfl hasA (by omega) (by omega)) ?_)
         | (refine WPl.spQ (fun hc => ?_) (fun hc => ?_) <;> try first | exact prA | (exfalso; first | omega))
         | fail)
        rw [hno hq]
        exact WPq.rnd (i + 1, vo) ⟨hlt, hvo⟩ (by dsimp only; omega)
      · have hq : takesB down y = true := by unfold takesB; rw [hdr, decide_eq_false hin]; rfl
        rw [decide_eq_false hin] at cy
        repeat' (first
         | refine WPl.nil ?_ | refine WPq.then ?_ | refine WPq.thenR ?_ | refine WPq.thenE ?_ | refine WPq.blockN ?_ | refine WPq.blockR ?_ | refine WPq.blockE ?_ | refine WPq.blockO rfl ?_ | refine WPc.seq ?_ | refine WPc.block ?_ | refine WPc.ret ?_ | refine WPc.exit ?_ | refine WPc.skip ?_ | refine WPc.region ?_
         | (refine isCond ?_; first | refine WPc.cT ?_ | refine WPc.cF ?_ | (refine WPc.cQ (fun hc => ?_) (fun hc => ?_) <;> try first | exact prA | (exfalso; first | omega)))
         | (refine isD 31 ?_; refine WPl.rdX (ReadR.binE rfl rfl BinR.lss (congrArg Value.bool (decide_eq_true hlt'))) ?_)
         | (refine isD 32 ?_; refine WPl.rdX (ReadR.indexE (i := i) rfl rfl hasA hlt) ?_)
         | (refine isD 33 ?_; refine WPl.rdX (ReadR.loadES (cs := bkC y) hyc (by omega) rfl hasA) ?_)
         | (refine isD 11 ?_; first | (refine isAl ?_; refine WPl.nw fun g11 => ?_) | (refine isBx ?_; refine WPl.nw fun g11 => ?_))
         | (show WPl _ _ _ _ _ _ _ (⟨_, .store _ (.tmp 11) _, _, _, _, _⟩ :: _) _; refine WPl.stA (new := bkC y) ?_ (hn := hfb); rw [hdr])
         | (refine isC 41 ?_; refine WPl.cV cy ?_ (hΔ := provsM))
         | (refine isD 49 ?_; refine WPl.rdX (ReadR.build (cs' := shrC (y.id, y.wt)) buildA) ?_)
         | (refine isD 50 ?_; refine WPl.litS1 fun w50 hw50 => ?_)
         | (refine isD 51 ?_; refine WPl.appN (m := cur.length) (m2 := 1) (xs := shrs cur) (ys := flat (shrC (y.id, y.wt))) rfl (shrC_ok (y.id, y.wt)).one (by omega) fun v51 hv51 => ?_)
         | (refine isOp ?_; first | refine WPl.rd ?_ | refine WPl.sk ?_ | refine WPl.rdB ?_)
         | (refine isAl ?_; refine WPl.nw fun g => ?_)
         | (refine isSt ?_; first | refine WPl.st1 ?_ | refine WPl.stA ?_ | refine WPl.stEB ?_ | refine WPl.stRB ?_)
         | (show WPl _ _ _ _ _ _ _ (⟨_, .indexAddr _ _ _, _, _, _, _⟩ :: _) _; refine WPl.rdX (ReadR.indexE rfl rfl hasA (by first | assumption | omega)) ?_)
         | (show WPl _ _ _ _ _ _ _ (⟨_, .fieldAddr _ _ _, _, _, _, _⟩ :: _) _; refine WPl.rdX (ReadR.fieldE rfl hasA (by first | assumption | omega)) ?_)
         | (show WPl _ _ _ _ _ _ _ (⟨_, .load _ _, _, _, _, _⟩ :: _) _; first | refine WPl.rdX (ReadR.loadE rfl hasA (by assumption)) ?_ | refine WPl.rdX (ReadR.loadES (by assumption) (by first | assumption | omega) rfl hasA) ?_)
         | (show WPl _ _ _ _ _ _ _ (⟨_, .slice _ _ _ _ _, _, _, _, _⟩ :: _) _; first | refine WPl.rdX (ReadR.sliceH rfl rfl hasA (by omega)) ?_ | refine WPl.rdX (ReadR.sliceL rfl rfl hasA (by omega)) ?_ | refine WPl.rdX (ReadR.sliceLH rfl rfl rfl hasA (by omega) (by omega)) ?_)
         | (refine WPl.spQ (fun hc => ?_) (fun hc => ?_) <;> try first | exact prA | (exfalso; first | omega))
         | fail)
        rw [hrow hq]
        exact WPq.rnd (i + 1, v51) ⟨hlt, hv51⟩ (by dsimp only; omega)
  · have hil : x.bs.take i = x.bs := List.take_of_length_le (by omega)
    rw [hil]
    have hlt' : ¬ (i : Int) < (x.bs.length : Int) := by omega
    repeat' (first
     | refine WPl.nil ?_ | refine WPq.then ?_ | refine WPq.thenR ?_ | refine WPq.thenE ?_ | refine WPq.blockN ?_ | refine WPq.blockR ?_ | refine WPq.blockE ?_ | refine WPq.blockO rfl ?_ | refine WPc.seq ?_ | refine WPc.block ?_ | refine WPc.ret ?_ | refine WPc.exit ?_ | refine WPc.skip ?_ | refine WPc.region ?_
     | (refine isCond ?_; first | refine WPc.cT ?_ | refine WPc.cF ?_ | (refine WPc.cQ (fun hc => ?_) (fun hc => ?_) <;> try first | exact prA | (exfalso; first | omega)))
     | (refine isD 31 ?_; refine WPl.rdX (ReadR.binE rfl rfl BinR.lss (congrArg Value.bool (decide_eq_false hlt'))) ?_)
     | (refine isOp ?_; first | refine WPl.rd ?_ | refine WPl.sk ?_ | refine WPl.rdB ?_)
     | (refine isAl ?_; refine WPl.nw fun g => ?_)
     | (refine isSt ?_; first | refine WPl.st1 ?_ | refine WPl.stA ?_ | refine WPl.stEB ?_ | refine WPl.stRB ?_)
     | (show WPl _ _ _ _ _ _ _ (⟨_, .indexAddr _ _ _, _, _, _, _⟩ :: _) _; refine WPl.rdX (ReadR.indexE rfl rfl hasA (by first | assumption | omega)) ?_)
     | (show WPl _ _ _ _ _ _ _ (⟨_, .fieldAddr _ _ _, _, _, _, _⟩ :: _) _; refine WPl.rdX (ReadR.fieldE rfl hasA (by first | assumption | omega)) ?_)
     | (show WPl _ _ _ _ _ _ _ (⟨_, .load _ _, _, _, _, _⟩ :: _) _; first | refine WPl.rdX (ReadR.loadE rfl hasA (by assumption)) ?_ | refine WPl.rdX (ReadR.loadES (by assumption) (by first | assumption | omega) rfl hasA) ?_)
     | (show WPl _ _ _ _ _ _ _ (⟨_, .slice _ _ _ _ _, _, _, _, _⟩ :: _) _; first | refine WPl.rdX (ReadR.sliceH rfl rfl hasA (by omega)) ?_ | refine WPl.rdX (ReadR.sliceL rfl rfl hasA (by omega)) ?_ | refine WPl.rdX (ReadR.sliceLH rfl rfl rfl hasA (by omega) (by omega)) ?_)
     | (refine WPl.spQ (fun hc => ?_) (fun hc => ?_) <;> try first | exact prA | (exfalso; first | omega))
     | fail)
    exact WPq.dR
theorem gshares0_t (h : PInv L F) (sid : Int) (hw : in64 sid) (vd : Value) (hf : findS L sid = none) : Triple Try.prog 10 #[hF gF, .int .i64 sid, vd] [rbx gF 66 (fac mi md), rmp idM mi (ies F.ps)] (RVal (.slice none 0 0)) := by
  obtain ⟨hget, hb⟩ := ies_get (h.no hf)
  have hget : idM.vc (mget idM (ies F.ps) sid) = .pointer none := hget
  have hb : mhas (ies F.ps) sid = false := hb
  refine Triple.enter Try.func10 rfl Try.ntmps10 rfl (fun W => ?_)
  dsimp only [argsF, Nat.reduceAdd]
  repeat' (first
   | refine WPl.nil ?_ | refine WPq.then ?_ | refine WPq.thenR ?_ | refine WPq.thenE ?_ | refine WPq.blockN ?_ | refine WPq.blockR ?_ | refine WPq.blockE ?_ | refine WPq.blockO rfl ?_ | refine WPc.seq ?_ | refine WPc.block ?_ | refine WPc.ret ?_ | refine WPc.exit ?_ | refine WPc.skip ?_ | refine WPc.region ?_
   | (refine isCond ?_; first | refine WPc.cT ?_ | refine WPc.cF ?_ | (refine WPc.cQ (fun hc => ?_) (fun hc => ?_) <;> try exact prA))
   | (refine isD 13 ?_; refine WPl.rdX (readP) ?_)
   | (refine isD 18 ?_; refine WPl.rdX (ReadR.loadO memA rfl rfl) ?_)
   | (refine isD 20 ?_; refine WPl.rdX (ReadR.lookOkM (M := idM) (k := sid) hw rfl rfl memA hget hb) ?_)
   | (refine isOp ?_; first | refine WPl.rd ?_ | refine WPl.sk ?_ | refine WPl.rdB ?_)
   | (refine isAl ?_; refine WPl.nw fun g => ?_)
   | (refine isSt ?_; first | refine WPl.st1 ?_ | refine WPl.stA ?_ | refine WPl.stEB ?_ | refine WPl.stRB ?_)
   | (show WPl _ _ _ _ _ _ _ (⟨_, .indexAddr _ _ _, _, _, _, _⟩ :: _) _; refine WPl.rdX (ReadR.indexE rfl rfl hasA (by first | assumption | omega)) ?_)
   | (show WPl _ _ _ _ _ _ _ (⟨_, .fieldAddr _ _ _, _, _, _, _⟩ :: _) _; refine WPl.rdX (ReadR.fieldE rfl hasA (by first | assumption | omega)) ?_)
   | (show WPl _ _ _ _ _ _ _ (⟨_, .load _ _, _, _, _, _⟩ :: _) _; first | refine WPl.rdX (ReadR.loadE rfl hasA (by assumption)) ?_ | refine WPl.rdX (ReadR.loadES (by assumption) (by first | assumption | omega) rfl hasA) ?_)
   | (show WPl _ _ _ _ _ _ _ (⟨_, .slice _ _ _ _ _, _, _, _, _⟩ :: _) _; first | refine WPl.rdX (ReadR.sliceH rfl rfl hasA (by omega)) ?_ | refine WPl.rdX (ReadR.sliceL rfl rfl hasA (by omega)) ?_ | refine WPl.rdX (ReadR.sliceLH rfl rfl rfl hasA (by omega) (by omega)) ?_)
   | (refine WPl.spQ (fun hc => ?_) (fun hc => ?_) <;> try exact prA)
   | fail)
  exact WPq.dV
theorem gsharesN_t (sid vd : Value) : Triple Try.prog 10 #[.pointer none, sid, vd] [] (RVal (.slice none 0 0)) := by
  refine Triple.enter Try.func10 rfl Try.ntmps10 rfl (fun W => ?_)
  dsimp only [argsF, Nat.reduceAdd]
  repeat' (first
   | refine WPl.nil ?_ | refine WPq.then ?_ | refine WPq.thenR ?_ | refine WPq.thenE ?_ | refine WPq.blockN ?_ | refine WPq.blockR ?_ | refine WPq.blockE ?_ | refine WPq.blockO rfl ?_ | refine WPc.seq ?_ | refine WPc.block ?_ | refine WPc.ret ?_ | refine WPc.exit ?_ | refine WPc.skip ?_ | refine WPc.region ?_
   | (refine isCond ?_; first | refine WPc.cT ?_ | refine WPc.cF ?_ | (refine WPc.cQ (fun hc => ?_) (fun hc => ?_) <;> try exact prA))
   | (refine isD 13 ?_; refine WPl.rdX (readP) ?_)
   | (refine isOp ?_; first | refine WPl.rd ?_ | refine WPl.sk ?_ | refine WPl.rdB ?_)
   | (refine isAl ?_; refine WPl.nw fun g => ?_)
   | (refine isSt ?_; first | refine WPl.st1 ?_ | refine WPl.stA ?_ | refine WPl.stEB ?_ | refine WPl.stRB ?_)
   | (show WPl _ _ _ _ _ _ _ (⟨_, .indexAddr _ _ _, _, _, _, _⟩ :: _) _; refine WPl.rdX (ReadR.indexE rfl rfl hasA (by first | assumption | omega)) ?_)
   | (show WPl _ _ _ _ _ _ _ (⟨_, .fieldAddr _ _ _, _, _, _, _⟩ :: _) _; refine WPl.rdX (ReadR.fieldE rfl hasA (by first | assumption | omega)) ?_)
   | (show WPl _ _ _ _ _ _ _ (⟨_, .load _ _, _, _, _, _⟩ :: _) _; first | refine WPl.rdX (ReadR.loadE rfl hasA (by assumption)) ?_ | refine WPl.rdX (ReadR.loadES (by assumption) (by first | assumption | omega) rfl hasA) ?_)
   | (show WPl _ _ _ _ _ _ _ (⟨_, .slice _ _ _ _ _, _, _, _, _⟩ :: _) _; first | refine WPl.rdX (ReadR.sliceH rfl rfl hasA (by omega)) ?_ | refine WPl.rdX (ReadR.sliceL rfl rfl hasA (by omega)) ?_ | refine WPl.rdX (ReadR.sliceLH rfl rfl rfl hasA (by omega) (by omega)) ?_)
   | (refine WPl.spQ (fun hc => ?_) (fun hc => ?_) <;> try exact prA)
   | fail)
  exact WPq.dV
end
end Go.Proofs.Ytpjfkomicehinaa
