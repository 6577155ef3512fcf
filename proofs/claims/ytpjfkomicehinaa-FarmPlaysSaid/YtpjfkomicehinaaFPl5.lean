/- What the row of farmPlays_holds needs: part 5. -/
import Derived.Test.YtpjfkomicehinaaFPl4
import Derived.Test.YtpjfkomicehinaaFPl3
/- Layer 20 (farm): contracts that only read: IDs, Service, Backend, Shares; what is told of no farm. -/
namespace Go.Proofs.Ytpjfkomicehinaa
open Go.RowKit
set_option linter.unusedSimpArgs false
set_option linter.unusedVariables false
set_option maxRecDepth 20000
set_option maxHeartbeats 4000000
attribute [local irreducible] WPc WPl WPq ReadR OpT BinR HasS bx rdN rowN Take Takes Prov Triple ResF BuildP Done ag Int.decLt Int.decLe Int.instDecidableEq
attribute [local irreducible] mp rmp rg rgo mput mget mfind mdel gbag bks ies lbB hasB findS
section
variable (gF mi md : Nat) (L : List Sb) (F : FM)
theorem gids_t (h : PInv L F) : Triple Try.prog 12 #[hF gF] [rbx gF 66 (fac mi md), rmp idM mi (ies F.ps)] (RRow 3 1 L.length (intsV (L.map (·.s.id)))) := by
  have hlen := h.len'
  have hll := h.len
  have c9 := keys_t mi
  have c10 := fun g => sorted_t (M := idM) (fun _ => rfl) (fun _ h => h) g mi (ies F.ps) (by omega)
  rw [ids_sorted h, hlen] at c10
  refine Triple.enter Try.func12 rfl Try.ntmps12 rfl (fun W => ?_)
  dsimp only [argsF, Nat.reduceAdd]
  repeat' (first
   | refine WPl.nil ?_ | refine WPq.then ?_ | refine WPq.thenR ?_ | refine WPq.thenE ?_ | refine WPq.blockN ?_ | refine WPq.blockR ?_ | refine WPq.blockE ?_ | refine WPq.blockO rfl ?_ | refine WPc.seq ?_ | refine WPc.block ?_ | refine WPc.ret ?_ | refine WPc.exit ?_ | refine WPc.skip ?_ | refine WPc.region ?_
   | (refine isCond ?_; first | refine WPc.cT ?_ | refine WPc.cF ?_ | (refine WPc.cQ (fun hc => ?_) (fun hc => ?_) <;> try exact prA))
   | (refine isD 4 ?_; refine WPl.rdX (readP) ?_)
   | (refine isD 8 ?_; refine WPl.rdX (ReadR.loadO memA rfl rfl) ?_)
   | (refine isC 9 ?_; refine WPl.cXs (c9) fun v Γ1 hR => ?_; obtain ⟨g9, rfl, rfl⟩ := hR; (try dsimp only [putF, List.cons_append, List.nil_append]))
   | (refine isC 10 ?_; refine WPl.cR (c10 g9) (fun w10 hw10 => ?_) (hΔ := provsM))
   | (refine isOp ?_; first | refine WPl.rd ?_ | refine WPl.sk ?_ | refine WPl.rdB ?_)
   | (show WPl _ _ _ _ _ _ _ (⟨_, .indexAddr _ _ _, _, _, _, _⟩ :: _) _; refine WPl.rdX (ReadR.indexE rfl rfl hasA (by first | assumption | omega)) ?_)
   | (show WPl _ _ _ _ _ _ _ (⟨_, .fieldAddr _ _ _, _, _, _, _⟩ :: _) _; refine WPl.rdX (ReadR.fieldE rfl hasA (by first | assumption | omega)) ?_)
   | (show WPl _ _ _ _ _ _ _ (⟨_, .load _ _, _, _, _, _⟩ :: _) _; first | refine WPl.rdX (ReadR.loadE rfl hasA (by assumption)) ?_ | refine WPl.rdX (ReadR.loadES (by assumption) (by first | assumption | omega) rfl hasA) ?_)
   | (show WPl _ _ _ _ _ _ _ (⟨_, .slice _ _ _ _ _, _, _, _, _⟩ :: _) _; first | refine WPl.rdX (ReadR.sliceH rfl rfl hasA (by omega)) ?_ | refine WPl.rdX (ReadR.sliceL rfl rfl hasA (by omega)) ?_ | refine WPl.rdX (ReadR.sliceLH rfl rfl rfl hasA (by omega) (by omega)) ?_)
   | (refine WPl.spQ (fun hc => ?_) (fun hc => ?_) <;> try exact prA)
   | fail)
  exact WPq.dR
def Bk.zero : Bk := ⟨0, Adr.zero, 0, 0, false⟩
def Sh.zero : Sh := ⟨0, Adr.zero, 0, 0, 0, 0⟩
def RSvc (x : PS) : Value → List Asn → Prop := fun v Γ => ∃ v', v = .tuple #[ag (shC x.s v'), .bool true] ∧ v'.oneCell' = true ∧ Γ = [rowN 36 21 v' x.bs.length (bks x.bs)]
theorem gsvc1_t (sid : Int) (hw : in64 sid) (x : PS) (hm : mfind (ies F.ps) sid = some (some x.g)) (hl : x.bs.length ≤ 16) (hv : x.v.oneCell' = true) :
    Triple Try.prog 15 #[hF gF, .int .i64 sid] [rbx gF 66 (fac mi md), rmp idM mi (ies F.ps), rbx x.g 33 (shC x.s x.v), rdN x.v x.bs.length (bks x.bs)] (RSvc x) := by
  obtain ⟨hget, hb⟩ := ies_get hm
  have hget : idM.vc (mget idM (ies F.ps) sid) = .pointer (some ⟨x.g, 0, none⟩) := hget
  have hb : mhas (ies F.ps) sid = true := hb
  have c31 := gclone_t x.v x.bs (by omega)
  have hfx := shC_ok (s := x.s) hv
  have hal := x.s.ad.len
  have hsel : sel (shC x.s x.v) 0 23 = some (shC x.s x.v) := by rfl
  refine Triple.enter Try.func15 rfl Try.ntmps15 rfl (fun W => ?_)
  dsimp only [argsF, Nat.reduceAdd]
  repeat' (first
   | refine WPl.nil ?_ | refine WPq.then ?_ | refine WPq.thenR ?_ | refine WPq.thenE ?_ | refine WPq.blockN ?_ | refine WPq.blockR ?_ | refine WPq.blockE ?_ | refine WPq.blockO rfl ?_ | refine WPc.seq ?_ | refine WPc.block ?_ | refine WPc.ret ?_ | refine WPc.exit ?_ | refine WPc.skip ?_ | refine WPc.region ?_
   | (refine isCond ?_; first | refine WPc.cT ?_ | refine WPc.cF ?_ | (refine WPc.cQ (fun hc => ?_) (fun hc => ?_) <;> try exact prA))
   | (refine isD 10 ?_; refine WPl.rdX (readP) ?_)
   | (refine isD 16 ?_; refine WPl.rdX (ReadR.loadO memA rfl rfl) ?_)
   | (refine isD 18 ?_; refine WPl.rdX (ReadR.lookOkM (M := idM) (k := sid) hw rfl rfl memA hget hb) ?_)
   | (refine isD 26 ?_; refine WPl.rdX (ReadR.loadOA memA hsel rfl) ?_)
   | (refine isD 8 ?_; first | (refine isAl ?_; refine WPl.nw fun g8 => ?_) | (refine isBx ?_; refine WPl.nw fun g8 => ?_))
   | (show WPl _ _ _ _ _ _ _ (⟨_, .store _ (.tmp 8) _, _, _, _, _⟩ :: _) _; refine WPl.stA (new := shC x.s x.v) ?_ (hn := hfx))
   | (refine isD 30 ?_; refine WPl.rdX (ReadR.loadO memA rfl rfl) ?_)
   | (refine isC 31 ?_; refine WPl.cR (c31) fun v hv => ?_)
   | (refine isOp ?_; first | refine WPl.rd ?_ | refine WPl.sk ?_ | refine WPl.rdB ?_)
   | (refine isAl ?_; refine WPl.nw fun g => ?_)
   | (refine isSt ?_; first | refine WPl.st1 ?_ | refine WPl.stA ?_ | refine WPl.stEB ?_ | refine WPl.stRB ?_)
   | (show WPl _ _ _ _ _ _ _ (⟨_, .indexAddr _ _ _, _, _, _, _⟩ :: _) _; refine WPl.rdX (ReadR.indexE rfl rfl hasA (by first | assumption | omega)) ?_)
   | (show WPl _ _ _ _ _ _ _ (⟨_, .fieldAddr _ _ _, _, _, _, _⟩ :: _) _; refine WPl.rdX (ReadR.fieldE rfl hasA (by first | assumption | omega)) ?_)
   | (show WPl _ _ _ _ _ _ _ (⟨_, .load _ _, _, _, _, _⟩ :: _) _; first | refine WPl.rdX (ReadR.loadE rfl hasA (by assumption)) ?_ | refine WPl.rdX (ReadR.loadES (by assumption) (by first | assumption | omega) rfl hasA) ?_)
   | (show WPl _ _ _ _ _ _ _ (⟨_, .slice _ _ _ _ _, _, _, _, _⟩ :: _) _; first | refine WPl.rdX (ReadR.sliceH rfl rfl hasA (by omega)) ?_ | refine WPl.rdX (ReadR.sliceL rfl rfl hasA (by omega)) ?_ | refine WPl.rdX (ReadR.sliceLH rfl rfl rfl hasA (by omega) (by omega)) ?_)
   | (refine WPl.spQ (fun hc => ?_) (fun hc => ?_) <;> try exact prA)
   | fail)
  exact WPq.dX (vs := [ag (shC x.s v), .bool true]) [rowN 36 21 v x.bs.length (bks x.bs)] ⟨v, rfl, hv, rfl⟩
theorem gback1_t (sid b : Int) (hw : in64 sid) (x : PS) (hm : mfind (ies F.ps) sid = some (some x.g)) (hs : SrtB x.bs) (hl : x.bs.length ≤ 16) (y : Bk) (hh : hasB x.bs b = true) (hy : x.bs[lbB x.bs b]? = some y) :
    Triple Try.prog 18 #[hF gF, .int .i64 sid, .int .i64 b] [rbx gF 66 (fac mi md), rmp idM mi (ies F.ps), rbx x.g 33 (shC x.s x.v), rdN x.v x.bs.length (bks x.bs)] (RVal (.tuple #[ag (bkC y), .bool true])) := by
  have c15 := gfind1_t gF mi md F sid b hw x hm hs hl
  rw [if_pos hh] at c15
  have hal := x.s.ad.len
  have hyc := bks_at hy
  have hL := bks_len (l := x.bs)
  have hlt := (List.getElem?_eq_some_iff.1 hy).1
  refine Triple.enter Try.func18 rfl Try.ntmps18 rfl (fun W => ?_)
  dsimp only [argsF, Nat.reduceAdd]
  repeat' (first
   | refine WPl.nil ?_ | refine WPq.then ?_ | refine WPq.thenR ?_ | refine WPq.thenE ?_ | refine WPq.blockN ?_ | refine WPq.blockR ?_ | refine WPq.blockE ?_ | refine WPq.blockO rfl ?_ | refine WPc.seq ?_ | refine WPc.block ?_ | refine WPc.ret ?_ | refine WPc.exit ?_ | refine WPc.skip ?_ | refine WPc.region ?_
   | (refine isCond ?_; first | refine WPc.cT ?_ | refine WPc.cF ?_ | (refine WPc.cQ (fun hc => ?_) (fun hc => ?_) <;> try exact prA))
   | (refine isC 15 ?_; refine WPl.cV c15 ?_ (hΔ := provsM))
   | (refine isD 25 ?_; refine WPl.rdX (ReadR.loadO memA rfl rfl) ?_)
   | (refine isD 27 ?_; refine WPl.rdX (ReadR.indexE (i := lbB x.bs b) rfl rfl hasA hlt) ?_)
   | (refine isD 28 ?_; refine WPl.rdX (ReadR.loadES (cs := bkC y) hyc (by omega) rfl hasA) ?_)
   | (show WPl _ _ _ _ _ _ _ (⟨_, .store _ (.tmp 6) _, _, _, _, _⟩ :: _) _; refine WPl.stA (new := bkC y) ?_ (hn := bkC_ok y))
   | (refine isOp ?_; first | refine WPl.rd ?_ | refine WPl.sk ?_ | refine WPl.rdB ?_)
   | (refine isAl ?_; refine WPl.nw fun g => ?_)
   | (refine isSt ?_; first | refine WPl.st1 ?_ | refine WPl.stA ?_ | refine WPl.stEB ?_ | refine WPl.stRB ?_)
   | (show WPl _ _ _ _ _ _ _ (⟨_, .indexAddr _ _ _, _, _, _, _⟩ :: _) _; refine WPl.rdX (ReadR.indexE rfl rfl hasA (by first | assumption | omega)) ?_)
   | (show WPl _ _ _ _ _ _ _ (⟨_, .fieldAddr _ _ _, _, _, _, _⟩ :: _) _; refine WPl.rdX (ReadR.fieldE rfl hasA (by first | assumption | omega)) ?_)
   | (show WPl _ _ _ _ _ _ _ (⟨_, .load _ _, _, _, _, _⟩ :: _) _; first | refine WPl.rdX (ReadR.loadE rfl hasA (by assumption)) ?_ | refine WPl.rdX (ReadR.loadES (by assumption) (by first | assumption | omega) rfl hasA) ?_)
   | (show WPl _ _ _ _ _ _ _ (⟨_, .slice _ _ _ _ _, _, _, _, _⟩ :: _) _; first | refine WPl.rdX (ReadR.sliceH rfl rfl hasA (by omega)) ?_ | refine WPl.rdX (ReadR.sliceL rfl rfl hasA (by omega)) ?_ | refine WPl.rdX (ReadR.sliceLH rfl rfl rfl hasA (by omega) (by omega)) ?_)
   | (refine WPl.spQ (fun hc => ?_) (fun hc => ?_) <;> try exact prA)
   | fail)
  exact WPq.dV
theorem gback2_t (sid b : Int) (hw : in64 sid) (x : PS) (hm : mfind (ies F.ps) sid = some (some x.g)) (hs : SrtB x.bs) (hl : x.bs.length ≤ 16) (hh : hasB x.bs b = false) :
    Triple Try.prog 18 #[hF gF, .int .i64 sid, .int .i64 b] [rbx gF 66 (fac mi md), rmp idM mi (ies F.ps), rbx x.g 33 (shC x.s x.v), rdN x.v x.bs.length (bks x.bs)] (RVal (.tuple #[ag (bkC Bk.zero), .bool false])) := by
  have c15 := gfind1_t gF mi md F sid b hw x hm hs hl
  rw [if_neg (by rw [hh]; simp)] at c15
  refine Triple.enter Try.func18 rfl Try.ntmps18 rfl (fun W => ?_)
  dsimp only [argsF, Nat.reduceAdd]
  repeat' (first
   | refine WPl.nil ?_ | refine WPq.then ?_ | refine WPq.thenR ?_ | refine WPq.thenE ?_ | refine WPq.blockN ?_ | refine WPq.blockR ?_ | refine WPq.blockE ?_ | refine WPq.blockO rfl ?_ | refine WPc.seq ?_ | refine WPc.block ?_ | refine WPc.ret ?_ | refine WPc.exit ?_ | refine WPc.skip ?_ | refine WPc.region ?_
   | (refine isCond ?_; first | refine WPc.cT ?_ | refine WPc.cF ?_ | (refine WPc.cQ (fun hc => ?_) (fun hc => ?_) <;> try exact prA))
   | (refine isC 15 ?_; refine WPl.cV c15 ?_ (hΔ := provsM))
   | (refine isD 21 ?_; refine WPl.rdX (ReadR.build (cs' := bkC Bk.zero) buildA) ?_)
   | (show WPl _ _ _ _ _ _ _ (⟨_, .store _ (.tmp 6) _, _, _, _, _⟩ :: _) _; refine WPl.stA (new := bkC Bk.zero) ?_ (hn := bkC_ok _))
   | (refine isOp ?_; first | refine WPl.rd ?_ | refine WPl.sk ?_ | refine WPl.rdB ?_)
   | (refine isAl ?_; refine WPl.nw fun g => ?_)
   | (refine isSt ?_; first | refine WPl.st1 ?_ | refine WPl.stA ?_ | refine WPl.stEB ?_ | refine WPl.stRB ?_)
   | (show WPl _ _ _ _ _ _ _ (⟨_, .indexAddr _ _ _, _, _, _, _⟩ :: _) _; refine WPl.rdX (ReadR.indexE rfl rfl hasA (by first | assumption | omega)) ?_)
   | (show WPl _ _ _ _ _ _ _ (⟨_, .fieldAddr _ _ _, _, _, _, _⟩ :: _) _; refine WPl.rdX (ReadR.fieldE rfl hasA (by first | assumption | omega)) ?_)
   | (show WPl _ _ _ _ _ _ _ (⟨_, .load _ _, _, _, _, _⟩ :: _) _; first | refine WPl.rdX (ReadR.loadE rfl hasA (by assumption)) ?_ | refine WPl.rdX (ReadR.loadES (by assumption) (by first | assumption | omega) rfl hasA) ?_)
   | (show WPl _ _ _ _ _ _ _ (⟨_, .slice _ _ _ _ _, _, _, _, _⟩ :: _) _; first | refine WPl.rdX (ReadR.sliceH rfl rfl hasA (by omega)) ?_ | refine WPl.rdX (ReadR.sliceL rfl rfl hasA (by omega)) ?_ | refine WPl.rdX (ReadR.sliceLH rfl rfl rfl hasA (by omega) (by omega)) ?_)
   | (refine WPl.spQ (fun hc => ?_) (fun hc => ?_) <;> try exact prA)
   | fail)
  exact WPq.dV
theorem gback0_t (h : PInv L F) (sid b : Int) (hw : in64 sid) (hf : findS L sid = none) : Triple Try.prog 18 #[hF gF, .int .i64 sid, .int .i64 b] [rbx gF 66 (fac mi md), rmp idM mi (ies F.ps)] (RVal (.tuple #[ag (bkC Bk.zero), .bool false])) := by
  have c15 := gfind0_t gF mi md L F h sid b hw hf
  refine Triple.enter Try.func18 rfl Try.ntmps18 rfl (fun W => ?_)
  dsimp only [argsF, Nat.reduceAdd]
  repeat' (first
   | refine WPl.nil ?_ | refine WPq.then ?_ | refine WPq.thenR ?_ | refine WPq.thenE ?_ | refine WPq.blockN ?_ | refine WPq.blockR ?_ | refine WPq.blockE ?_ | refine WPq.blockO rfl ?_ | refine WPc.seq ?_ | refine WPc.block ?_ | refine WPc.ret ?_ | refine WPc.exit ?_ | refine WPc.skip ?_ | refine WPc.region ?_
   | (refine isCond ?_; first | refine WPc.cT ?_ | refine WPc.cF ?_ | (refine WPc.cQ (fun hc => ?_) (fun hc => ?_) <;> try exact prA))
   | (refine isC 15 ?_; refine WPl.cV c15 ?_ (hΔ := provsM))
   | (refine isD 21 ?_; refine WPl.rdX (ReadR.build (cs' := bkC Bk.zero) buildA) ?_)
   | (show WPl _ _ _ _ _ _ _ (⟨_, .store _ (.tmp 6) _, _, _, _, _⟩ :: _) _; refine WPl.stA (new := bkC Bk.zero) ?_ (hn := bkC_ok _))
   | (refine isOp ?_; first | refine WPl.rd ?_ | refine WPl.sk ?_ | refine WPl.rdB ?_)
   | (refine isAl ?_; refine WPl.nw fun g => ?_)
   | (refine isSt ?_; first | refine WPl.st1 ?_ | refine WPl.stA ?_ | refine WPl.stEB ?_ | refine WPl.stRB ?_)
   | (show WPl _ _ _ _ _ _ _ (⟨_, .indexAddr _ _ _, _, _, _, _⟩ :: _) _; refine WPl.rdX (ReadR.indexE rfl rfl hasA (by first | assumption | omega)) ?_)
   | (show WPl _ _ _ _ _ _ _ (⟨_, .fieldAddr _ _ _, _, _, _, _⟩ :: _) _; refine WPl.rdX (ReadR.fieldE rfl hasA (by first | assumption | omega)) ?_)
   | (show WPl _ _ _ _ _ _ _ (⟨_, .load _ _, _, _, _, _⟩ :: _) _; first | refine WPl.rdX (ReadR.loadE rfl hasA (by assumption)) ?_ | refine WPl.rdX (ReadR.loadES (by assumption) (by first | assumption | omega) rfl hasA) ?_)
   | (show WPl _ _ _ _ _ _ _ (⟨_, .slice _ _ _ _ _, _, _, _, _⟩ :: _) _; first | refine WPl.rdX (ReadR.sliceH rfl rfl hasA (by omega)) ?_ | refine WPl.rdX (ReadR.sliceL rfl rfl hasA (by omega)) ?_ | refine WPl.rdX (ReadR.sliceLH rfl rfl rfl hasA (by omega) (by omega)) ?_)
   | (refine WPl.spQ (fun hc => ?_) (fun hc => ?_) <;> try exact prA)
   | fail)
  exact WPq.dV
/-! ### Shares -/
abbrev shrC (p : Int × Int) : Ch := [(1, [.int .i64 p.1]), (1, [.int .i64 p.2])]
def shrs (l : List (Int × Int)) : List Value := (l.map fun p => flat (shrC p)).flatten
theorem shrC_len (p : Int × Int) : (flat (shrC p)).length = 2 := rfl
theorem shrC_ok (p : Int × Int) : FOk (shrC p) := .one1 rfl (.one1 rfl .nil)
theorem shrs_len {l : List (Int × Int)} : (shrs l).length = l.length * 2 := rows_len shrC_len
theorem shrs_app {l k : List (Int × Int)} : shrs (l ++ k) = shrs l ++ shrs k := by unfold shrs; rw [List.map_append, List.flatten_append]
theorem shrs_one {p : Int × Int} : shrs [p] = flat (shrC p) := by unfold shrs; rw [List.map_singleton]; simp
theorem shrs_at {l : List (Int × Int)} {i : Nat} {p : Int × Int} (h : l[i]? = some p) : ((shrs l).drop (i * 2)).take 2 = flat (shrC p) := rows_drop shrC_len h
def takesB (down : List Int) (b : Bk) : Bool := !b.dr && !decide (b.id ∈ down)
def sharesB (bs : List Bk) (down : List Int) : List (Int × Int) := (bs.filter (takesB down)).map fun b => (b.id, b.wt)
theorem sharesB_next {bs : List Bk} {down : List Int} {i : Nat} {b : Bk} (h : bs[i]? = some b) : sharesB (bs.take (i + 1)) down = sharesB (bs.take i) down ++ (if takesB down b = true then [(b.id, b.wt)] else []) := by
  unfold sharesB
  rw [List.take_add_one, h, List.filter_append, List.map_append]
  congr 1
  by_cases hq : takesB down b = true
  · rw [if_pos hq]; simp [hq]
  · rw [if_neg hq]; simp [hq]
theorem sharesB_len {bs : List Bk} {down : List Int} : (sharesB bs down).length ≤ bs.length := by
  unfold sharesB
  rw [List.length_map]
  exact List.length_filter_le _ _
attribute [local irreducible] shrs sharesB
theorem gshares1_t (sid : Int) (hw : in64 sid) (x : PS) (hm : mfind (ies F.ps) sid = some (some x.g)) (hl : x.bs.length ≤ 16) (vd : Value) (down : List Int) (hd : down.length ≤ 1000) :
    Triple Try.prog 10 #[hF gF, .int .i64 sid, vd] [rbx gF 66 (fac mi md), rmp idM mi (ies F.ps), rbx x.g 33 (shC x.s x.v), rdN x.v x.bs.length (bks x.bs), rdN vd down.length (intsV down)] (RRow 79 2 (sharesB x.bs down).length (shrs (sharesB x.bs down))) := by
  obtain ⟨hget, hb⟩ := ies_get hm
  have hget : idM.vc (mget idM (ies F.ps) sid) = .pointer (some ⟨x.g, 0, none⟩) := hget
  have hb : mhas (ies F.ps) sid = true := hb
  have hal := x.s.ad.len
  have hL := bks_len (l := x.bs)
  have c41 := fun b : Bk => gcontains_t vd down b.id hd
  have e1 : ∀ v, rowN 79 2 v 0 [] = rowN 79 2 v (sharesB (x.bs.take 0) down).length (shrs (sharesB (x.bs.take 0) down)) := fun v => by with_unfolding_all rfl
  refine Triple.enter Try.func10 rfl Try.ntmps10 rfl (fun W => ?_)
  dsimp only [argsF, Nat.reduceAdd]
  repeat' (first
   | refine WPl.nil ?_ | refine WPq.then ?_ | refine WPq.thenR ?_ | refine WPq.thenE ?_ | refine WPq.blockN ?_ | refine WPq.blockR ?_ | refine WPq.blockE ?_ | refine WPq.blockO rfl ?_ | refine WPc.seq ?_ | refine WPc.block ?_ | refine WPc.ret ?_ | refine WPc.exit ?_ | refine WPc.skip ?_ | refine WPc.region ?_
   | (refine isCond ?_; first | refine WPc.cT ?_ | refine WPc.cF ?_ | (refine WPc.cQ (fun hc => ?_) (fun hc => ?_) <;> try exact prA))
   | (refine isD 13 ?_; refine WPl.rdX (readP) ?_)
   | (refine isD 18 ?_; refine WPl.rdX (ReadR.loadO memA rfl rfl) ?_)
   | (refine isD 20 ?_; refine WPl.rdX (ReadR.lookOkM (M := idM) (k := sid) hw rfl rfl memA hget hb) ?_)
   | (refine isD 28 ?_; refine WPl.rdX (ReadR.loadO memA rfl rfl) ?_)
   | (refine isOp ?_; first | refine WPl.rd ?_ | refine WPl.sk ?_ | refine WPl.rdB ?_)
   | (refine isAl ?_; refine WPl.nw fun g => ?_)
   | (refine isSt ?_; first | refine WPl.st1 ?_ | refine WPl.stA ?_ | refine WPl.stEB ?_ | refine WPl.stRB ?_)
   | (show WPl _ _ _ _ _ _ _ (⟨_, .indexAddr _ _ _, _, _, _, _⟩ :: _) _; refine WPl.rdX (ReadR.indexE rfl rfl hasA (by first | assumption | omega)) ?_)
   | (show WPl _ _ _ _ _ _ _ (⟨_, .fieldAddr _ _ _, _, _, _, _⟩ :: _) _; refine WPl.rdX (ReadR.fieldE rfl hasA (by first | assumption | omega)) ?_)
   | (show WPl _ _ _ _ _ _ _ (⟨_, .load _ _, _, _, _, _⟩ :: _) _; first | refine WPl.rdX (ReadR.loadE rfl hasA (by assumption)) ?_ | refine WPl.rdX (ReadR.loadES (by assumption) (by first | assumption | omega) rfl hasA) ?_)
   | (show WPl _ _ _ _ _ _ _ (⟨_, .slice _ _ _ _ _, _, _, _, _⟩ :: _) _; first | refine WPl.rdX (ReadR.sliceH rfl rfl hasA (by omega)) ?_ | refine WPl.rdX (ReadR.sliceL rfl rfl hasA (by omega)) ?_ | refine WPl.rdX (ReadR.sliceLH rfl rfl rfl hasA (by omega) (by omega)) ?_)
   | (refine WPl.spQ (fun hc => ?_) (fun hc => ?_) <;> try exact prA)
   | fail)
  refine WPc.nilRowN 79 2 ?_
  rw [e1]
  first | refine WPc.loop (σ := Nat × Value) (fun st => st.1 ≤ x.bs.length ∧ st.2.oneCell' = true) (fun st => [rbx gF 66 (fac mi md), rmp idM mi (ies F.ps), rbx x.g 33 (shC x.s x.v), rdN x.v x.bs.length (bks x.bs), rdN vd down.length (intsV down), rowN 79 2 st.2 (sharesB (x.bs.take st.1) down).length (shrs (sharesB (x.bs.take st.1) down))]) (fun st => [(2, vd), (28, x.v), (29, .int .i64 (x.bs.length : Int)), (30, .int .i64 (st.1 : Int)), (9, st.2)]) (fun st => x.bs.length - st.1) ((0, .slice none 0 0)) ?_ takesA frsA (fun st km hx hk => ?_)
  · exact ⟨Nat.zero_le _, rfl⟩
  obtain ⟨i, vo⟩ := st
  obtain ⟨hi, hvo⟩ := hx
  dsimp only at hi hvo hk ⊢
  have hkm : km = x.bs.length - i := hk
  clear hk
  by_cases hlt : i < x.bs.length
  · obtain ⟨y, hy⟩ : ∃ y, x.bs[i]? = some y := ⟨_, List.getElem?_eq_getElem hlt⟩
    have hyc := bks_at hy
    have hlt' : (i : Int) < (x.bs.length : Int) := by omega
    have hnx := sharesB_next (down := down) hy
    have hle := sharesB_len (bs := x.bs.take i) (down := down)
    rw [List.length_take] at hle
    have cy := c41 y
    have hLo := shrs_len (l := sharesB (x.bs.take i) down)
    have hfb := bkC_ok y
    obtain ⟨cur, hcur⟩ : ∃ cur, cur = sharesB (x.bs.take i) down := ⟨_, rfl⟩
    rw [← hcur] at hnx hle hLo ⊢
    have hrow : takesB down y = true → ∀ v2, rowN 79 2 v2 (cur.length + 1) (shrs cur ++ flat (shrC (y.id, y.wt))) = rowN 79 2 v2 (sharesB (x.bs.take (i + 1)) down).length (shrs (sharesB (x.bs.take (i + 1)) down)) := fun hq v2 => by
      rw [hnx, if_pos hq, shrs_app, shrs_one, List.length_append]; rfl
    have hno : takesB down y = false → cur = sharesB (x.bs.take (i + 1)) down := fun hq => by rw [hnx, if_neg (by rw [hq]; simp), List.append_nil]
    cases hdr : y.dr with
    | true =>
      have hq : takesB down y = false := by unfold takesB; rw [hdr]; rfl
      repeat' (first
       | refine WPl.nil ?_ | refine WPq.then ?_ | refine WPq.thenR ?_ | refine WPq.thenE ?_ | refine WPq.blockN ?_ | refine WPq.blockR ?_ | refine WPq.blockE ?_ | refine WPq.blockO rfl ?_ | refine WPc.seq ?_ | refine WPc.block ?_ | refine WPc.ret ?_ | refine WPc.exit ?_ | refine WPc.skip ?_ | refine WPc.region ?_
       | (refine isCond ?_; first | refine WPc.cT ?_ | refine WPc.cF ?_ | (refine WPc.cQ (fun hc => ?_) (fun hc => ?_) <;> try first | exact prA | (exfalso; first | omega)))
       | (refine isD 31 ?_; refine WPl.rdX (ReadR.binE rfl rfl BinR.lss (congrArg Value.bool (decide_eq_true hlt'))) ?_)
       | (refine isD 32 ?_; refine WPl.rdX (ReadR.indexE (i := i) rfl rfl hasA hlt) ?_)
       | (refine isD 33 ?_; refine WPl.rdX (ReadR.loadES (cs := bkC y) hyc (by omega) rfl hasA) ?_)
       | (refine isD 11 ?_; first | (refine isAl ?_; refine WPl.nw fun g11 => ?_) | (refine isBx ?_; refine WPl.nw fun g11 => ?_))
       | (show WPl _ _ _ _ _ _ _ (⟨_, .store _ (.tmp 11) _, _, _, _, _⟩ :: _) _; refine WPl.stA (new := bkC y) ?_ (hn := hfb); rw [hdr])
       | (refine isOp ?_; first | refine WPl.rd ?_ | refine WPl.sk ?_ | refine WPl.rdB ?_)
       | (refine isAl ?_; refine WPl.nw fun g => ?_)
       | (refine isSt ?_; first | refine WPl.st1 ?_ | refine WPl.stA ?_ | refine WPl.stEB ?_ | refine WPl.stRB ?_)
       | (show WPl _ _ _ _ _ _ _ (⟨_, .indexAddr _ _ _, _, _, _, _⟩ :: _) _; refine WPl.rdX (ReadR.indexE rfl rfl hasA (by first | assumption | omega)) ?_)
       | (show WPl _ _ _ _ _ _ _ (⟨_, .fieldAddr _ _ _, _, _, _, _⟩ :: _) _; refine WPl.rdX (ReadR.fieldE rfl hasA (by first | assumption | omega)) ?_)
       | (show WPl _ _ _ _ _ _ _ (⟨_, .load _ _, _, _, _, _⟩ :: _) _; first | refine WPl.rdX (ReadR.loadE rfl hasA (by assumption)) ?_ | refine WPl.rdX (ReadR.loadES (by assumption) (by first | assumption | omega) rfl hasA) ?_)
       | (show WPl _ _ _ _ _ _ _ (⟨_, .slice _ _ _ _ _, _, _, _, _⟩ :: _) _; first | refine WPl.rdX (ReadR.sliceH rfl rfl hasA (by omega)) ?_ | refine WPl.rdX (ReadR.sliceL rfl rfl hasA (by omega)) ?_ | refine WPl.rdX (ReadR.sliceLH rfl rfl rfl hasA (by omega) (by omega)) ?_)
       | (refine WPl.spQ (fun hc => ?_) (fun hc => ?_) <;> try first | exact prA | (exfalso; first | omega))
       | fail)
      rw [hno hq]
      exact WPq.rnd (i + 1, vo) ⟨hlt, hvo⟩ (by dsimp only; omega)
    | false =>
      by_cases hin : y.id ∈ down
      · have hq : takesB down y = false := by unfold takesB; rw [hdr, decide_eq_true hin]; rfl
        rw [decide_eq_true hin] at cy
        repeat' (first
         | refine WPl.nil ?_ | refine WPq.then ?_ | refine WPq.thenR ?_ | refine WPq.thenE ?_ | refine WPq.blockN ?_ | refine WPq.blockR ?_ | refine WPq.blockE ?_ | refine WPq.blockO rfl ?_ | refine WPc.seq ?_ | refine WPc.block ?_ | refine WPc.ret ?_ | refine WPc.exit ?_ | refine WPc.skip ?_ | refine WPc.region ?_
         | (refine isCond ?_; first | refine WPc.cT ?_ | refine WPc.cF ?_ | (refine WPc.cQ (fun hc => ?_) (fun hc => ?_) <;> try first | exact prA | (exfalso; first | omega)))
         | (refine isD 31 ?_; refine WPl.rdX (ReadR.binE rfl rfl BinR.lss (congrArg Value.bool (decide_eq_true hlt'))) ?_)
         | (refine isD 32 ?_; refine WPl.rdX (ReadR.indexE (i := i) rfl rfl hasA hlt) ?_)
         | (refine isD 33 ?_; refine WPl.rdX (ReadR.loadES (cs := bkC y) hyc (by omega) rfl hasA) ?_)
         | (refine isD 11 ?_; first | (refine isAl ?_; refine WPl.nw fun g11 => ?_) | (refine isBx ?_; refine WPl.nw fun g11 => ?_))
         | (show WPl _ _ _ _ _ _ _ (⟨_, .store _ (.tmp 11) _, _, _, _, _⟩ :: _) _; refine WPl.stA (new := bkC y) ?_ (hn := hfb); rw [hdr])
         | (refine isC 41 ?_; refine WPl.cV cy ?_ (hΔ := provsM))
         | (refine isOp ?_; first | refine WPl.rd ?_ | refine WPl.sk ?_ | refine WPl.rdB ?_)
         | (refine isAl ?_; refine WPl.nw fun g => ?_)
         | (refine isSt ?_; first | refine WPl.st1 ?_ | refine WPl.stA ?_ | refine WPl.stEB ?_ | refine WPl.stRB ?_)
         | (show WPl _ _ _ _ _ _ _ (⟨_, .indexAddr _ _ _, _, _, _, _⟩ :: _) _; refine WPl.rdX (ReadR.indexE rfl rfl hasA (by first | assumption | omega)) ?_)
         | (show WPl _ _ _ _ _ _ _ (⟨_, .fieldAddr _ _ _, _, _, _, _⟩ :: _) _; refine WPl.rdX (ReadR.fieldE rfl hasA (by first | assumption | omega)) ?_)
         | (show WPl _ _ _ _ _ _ _ (⟨_, .load _ _, _, _, _, _⟩ :: _) _; first | refine WPl.rdX (ReadR.loadE rfl hasA (by assumption)) ?_ | refine WPl.rdX (ReadR.loadES (by assumption) (by first | assumption | omega) rfl hasA) ?_)
         | (show WPl _ _ _ _ _ _ _ (⟨_, .slice _ _ _ _ _, _, _, _, _⟩ :: _) _; first | refine WPl.rdX (ReadR.sliceH rfl rfl hasA (by omega)) ?_ | refine WPl.rdX (ReadR.sliceL rfl rfl hasA (by omega)) ?_ | refine WPl.rdX (ReadR.sliceLH rfl rfl rfl hasA (by omega) (by omega)) ?_)
         | (refine WPl.spQ (fun hc => ?_) (fun hc => ?_) <;> try first | exact prA | (exfalso; first | omega))
         | fail)
        rw [hno hq]
        exact WPq.rnd (i + 1, vo) ⟨hlt, hvo⟩ (by dsimp only; omega)
      · have hq : takesB down y = true := by unfold takesB; rw [hdr, decide_eq_false hin]; rfl
        rw [decide_eq_false hin] at cy
        repeat' (first
         | refine WPl.nil ?_ | refine WPq.then ?_ | refine WPq.thenR ?_ | refine WPq.thenE ?_ | refine WPq.blockN ?_ | refine WPq.blockR ?_ | refine WPq.blockE ?_ | refine WPq.blockO rfl ?_ | refine WPc.seq ?_ | refine WPc.block ?_ | refine WPc.ret ?_ | refine WPc.exit ?_ | refine WPc.skip ?_ | refine WPc.region ?_
         | (refine isCond ?_; first | refine WPc.cT ?_ | refine WPc.cF ?_ | (refine WPc.cQ (fun hc => ?_) (fun hc => ?_) <;> try first | exact prA | (exfalso; first | omega)))
         | (refine isD 31 ?_; refine WPl.rdX (ReadR.binE rfl rfl BinR.lss (congrArg Value.bool (decide_eq_true hlt'))) ?_)
         | (refine isD 32 ?_; refine WPl.rdX (ReadR.indexE (i := i) rfl rfl hasA hlt) ?_)
         | (refine isD 33 ?_; refine WPl.rdX (ReadR.loadES (cs := bkC y) hyc (by omega) rfl hasA) ?_)
         | (refine isD 11 ?_; first | (refine isAl ?_; refine WPl.nw fun g11 => ?_) | (refine isBx ?_; refine WPl.nw fun g11 => ?_))
         | (show WPl _ _ _ _ _ _ _ (⟨_, .store _ (.tmp 11) _, _, _, _, _⟩ :: _) _; refine WPl.stA (new := bkC y) ?_ (hn := hfb); rw [hdr])
         | (refine isC 41 ?_; refine WPl.cV cy ?_ (hΔ := provsM))
         | (refine isD 49 ?_; refine WPl.rdX (ReadR.build (cs' := shrC (y.id, y.wt)) buildA) ?_)
         | (refine isD 50 ?_; refine WPl.litS1 fun w50 hw50 => ?_)
         | (refine isD 51 ?_; refine WPl.appN (m := cur.length) (m2 := 1) (xs := shrs cur) (ys := flat (shrC (y.id, y.wt))) rfl (shrC_ok (y.id, y.wt)).one (by omega) fun v51 hv51 => ?_)
         | (refine isOp ?_; first | refine WPl.rd ?_ | refine WPl.sk ?_ | refine WPl.rdB ?_)
         | (refine isAl ?_; refine WPl.nw fun g => ?_)
         | (refine isSt ?_; first | refine WPl.st1 ?_ | refine WPl.stA ?_ | refine WPl.stEB ?_ | refine WPl.stRB ?_)
         | (show WPl _ _ _ _ _ _ _ (⟨_, .indexAddr _ _ _, _, _, _, _⟩ :: _) _; refine WPl.rdX (ReadR.indexE rfl rfl hasA (by first | assumption | omega)) ?_)
         | (show WPl _ _ _ _ _ _ _ (⟨_, .fieldAddr _ _ _, _, _, _, _⟩ :: _) _; refine WPl.rdX (ReadR.fieldE rfl hasA (by first | assumption | omega)) ?_)
         | (show WPl _ _ _ _ _ _ _ (⟨_, .load _ _, _, _, _, _⟩ :: _) _; first | refine WPl.rdX (ReadR.loadE rfl hasA (by assumption)) ?_ | refine WPl.rdX (ReadR.loadES (by assumption) (by first | assumption | omega) rfl hasA) ?_)
         | (show WPl _ _ _ _ _ _ _ (⟨_, .slice _ _ _ _ _, _, _, _, _⟩ :: _) _; first | refine WPl.rdX (ReadR.sliceH rfl rfl hasA (by omega)) ?_ | refine WPl.rdX (ReadR.sliceL rfl rfl hasA (by omega)) ?_ | refine WPl.rdX (ReadR.sliceLH rfl rfl rfl hasA (by omega) (by omega)) ?_)
         | (refine WPl.spQ (fun hc => ?_) (fun hc => ?_) <;> try first | exact prA | (exfalso; first | omega))
         | fail)
        rw [hrow hq]
        exact WPq.rnd (i + 1, v51) ⟨hlt, hv51⟩ (by dsimp only; omega)
  · have hil : x.bs.take i = x.bs := List.take_of_length_le (by omega)
    rw [hil]
    have hlt' : ¬ (i : Int) < (x.bs.length : Int) := by omega
    repeat' (first
     | refine WPl.nil ?_ | refine WPq.then ?_ | refine WPq.thenR ?_ | refine WPq.thenE ?_ | refine WPq.blockN ?_ | refine WPq.blockR ?_ | refine WPq.blockE ?_ | refine WPq.blockO rfl ?_ | refine WPc.seq ?_ | refine WPc.block ?_ | refine WPc.ret ?_ | refine WPc.exit ?_ | refine WPc.skip ?_ | refine WPc.region ?_
     | (refine isCond ?_; first | refine WPc.cT ?_ | refine WPc.cF ?_ | (refine WPc.cQ (fun hc => ?_) (fun hc => ?_) <;> try first | exact prA | (exfalso; first | omega)))
     | (refine isD 31 ?_; refine WPl.rdX (ReadR.binE rfl rfl BinR.lss (congrArg Value.bool (decide_eq_false hlt'))) ?_)
     | (refine isOp ?_; first | refine WPl.rd ?_ | refine WPl.sk ?_ | refine WPl.rdB ?_)
     | (refine isAl ?_; refine WPl.nw fun g => ?_)
     | (refine isSt ?_; first | refine WPl.st1 ?_ | refine WPl.stA ?_ | refine WPl.stEB ?_ | refine WPl.stRB ?_)
     | (show WPl _ _ _ _ _ _ _ (⟨_, .indexAddr _ _ _, _, _, _, _⟩ :: _) _; refine WPl.rdX (ReadR.indexE rfl rfl hasA (by first | assumption | omega)) ?_)
     | (show WPl _ _ _ _ _ _ _ (⟨_, .fieldAddr _ _ _, _, _, _, _⟩ :: _) _; refine WPl.rdX (ReadR.fieldE rfl hasA (by first | assumption | omega)) ?_)
     | (show WPl _ _ _ _ _ _ _ (⟨_, .load _ _, _, _, _, _⟩ :: _) _; first | refine WPl.rdX (ReadR.loadE rfl hasA (by assumption)) ?_ | refine WPl.rdX (ReadR.loadES (by assumption) (by first | assumption | omega) rfl hasA) ?_)
     | (show WPl _ _ _ _ _ _ _ (⟨_, .slice _ _ _ _ _, _, _, _, _⟩ :: _) _; first | refine WPl.rdX (ReadR.sliceH rfl rfl hasA (by omega)) ?_ | refine WPl.rdX (ReadR.sliceL rfl rfl hasA (by omega)) ?_ | refine WPl.rdX (ReadR.sliceLH rfl rfl rfl hasA (by omega) (by omega)) ?_)
     | (refine WPl.spQ (fun hc => ?_) (fun hc => ?_) <;> try first | exact prA | (exfalso; first | omega))
     | fail)
    exact WPq.dR
theorem gshares0_t (h : PInv L F) (sid : Int) (hw : in64 sid) (vd : Value) (hf : findS L sid = none) : Triple Try.prog 10 #[hF gF, .int .i64 sid, vd] [rbx gF 66 (fac mi md), rmp idM mi (ies F.ps)] (RVal (.slice none 0 0)) := by
  obtain ⟨hget, hb⟩ := ies_get (h.no hf)
  have hget : idM.vc (mget idM (ies F.ps) sid) = .pointer none := hget
  have hb : mhas (ies F.ps) sid = false := hb
  refine Triple.enter Try.func10 rfl Try.ntmps10 rfl (fun W => ?_)
  dsimp only [argsF, Nat.reduceAdd]
  repeat' (first
   | refine WPl.nil ?_ | refine WPq.then ?_ | refine WPq.thenR ?_ | refine WPq.thenE ?_ | refine WPq.blockN ?_ | refine WPq.blockR ?_ | refine WPq.blockE ?_ | refine WPq.blockO rfl ?_ | refine WPc.seq ?_ | refine WPc.block ?_ | refine WPc.ret ?_ | refine WPc.exit ?_ | refine WPc.skip ?_ | refine WPc.region ?_
   | (refine isCond ?_; first | refine WPc.cT ?_ | refine WPc.cF ?_ | (refine WPc.cQ (fun hc => ?_) (fun hc => ?_) <;> try exact prA))
   | (refine isD 13 ?_; refine WPl.rdX (readP) ?_)
   | (refine isD 18 ?_; refine WPl.rdX (ReadR.loadO memA rfl rfl) ?_)
   | (refine isD 20 ?_; refine WPl.rdX (ReadR.lookOkM (M := idM) (k := sid) hw rfl rfl memA hget hb) ?_)
   | (refine isOp ?_; first | refine WPl.rd ?_ | refine WPl.sk ?_ | refine WPl.rdB ?_)
   | (refine isAl ?_; refine WPl.nw fun g => ?_)
   | (refine isSt ?_; first | refine WPl.st1 ?_ | refine WPl.stA ?_ | refine WPl.stEB ?_ | refine WPl.stRB ?_)
   | (show WPl _ _ _ _ _ _ _ (⟨_, .indexAddr _ _ _, _, _, _, _⟩ :: _) _; refine WPl.rdX (ReadR.indexE rfl rfl hasA (by first | assumption | omega)) ?_)
   | (show WPl _ _ _ _ _ _ _ (⟨_, .fieldAddr _ _ _, _, _, _, _⟩ :: _) _; refine WPl.rdX (ReadR.fieldE rfl hasA (by first | assumption | omega)) ?_)
   | (show WPl _ _ _ _ _ _ _ (⟨_, .load _ _, _, _, _, _⟩ :: _) _; first | refine WPl.rdX (ReadR.loadE rfl hasA (by assumption)) ?_ | refine WPl.rdX (ReadR.loadES (by assumption) (by first | assumption | omega) rfl hasA) ?_)
   | (show WPl _ _ _ _ _ _ _ (⟨_, .slice _ _ _ _ _, _, _, _, _⟩ :: _) _; first | refine WPl.rdX (ReadR.sliceH rfl rfl hasA (by omega)) ?_ | refine WPl.rdX (ReadR.sliceL rfl rfl hasA (by omega)) ?_ | refine WPl.rdX (ReadR.sliceLH rfl rfl rfl hasA (by omega) (by omega)) ?_)
   | (refine WPl.spQ (fun hc => ?_) (fun hc => ?_) <;> try exact prA)
   | fail)
  exact WPq.dV
end
end Go.Proofs.Ytpjfkomicehinaa
/- Layer 20 (farm): what changes do, plain. -/
namespace Go.Proofs.Ytpjfkomicehinaa
set_option linter.unusedSimpArgs false
set_option linter.unusedVariables false
def insS (L : List Sb) (y : Sb) : List Sb := (L.filter fun x => decide (x.s.id < y.s.id)) ++ y :: (L.filter fun x => !decide (x.s.id < y.s.id))
def addS (L : List Sb) (s : Sh) (nb : Nat) : List Sb × Int :=
  if mayS s nb = true then
    (if (findS L s.id).isSome = true ∨ (doorS L s.door).isSome = true then (L, 7) else if 8 ≤ L.length then (L, 2) else (insS L ⟨s, []⟩, 0))
  else (L, 1)
def dropS (L : List Sb) (id : Int) : List Sb × Int := if (findS L id).isSome = true then (L.filter fun x => !decide (x.s.id = id), 0) else (L, 6)
def updB (L : List Sb) (id : Int) (f : List Bk → List Bk) : List Sb := L.map fun y => if y.s.id = id then ⟨y.s, f y.bs⟩ else y
def turnS (L : List Sb) (id b : Int) (f : List Bk → List Bk) : List Sb × Int := match findS L id with
  | none => (L, 6)
  | some y => if hasB y.bs b = true then (updB L id f, 0) else (L, 6)
def setBy (b : Int) (g : Bk → Bk) (bs : List Bk) : List Bk := bs.map fun k => if k.id = b then g k else k
def delBy (b : Int) (bs : List Bk) : List Bk := bs.filter fun k => !decide (k.id = b)
def insB (c : Bk) (bs : List Bk) : List Bk := (bs.filter fun x => decide (x.id < c.id)) ++ c :: (bs.filter fun x => !decide (x.id < c.id))
def canB (s : Sh) (c : Bk) : Bool := decide (0 ≤ c.id ∧ c.id ≤ 65535) && (c.ad.good && (decide (c.ad.six = s.ad.six) && (decide ((c.port : Int) ≠ 0) && (decide (0 ≤ c.wt ∧ c.wt ≤ 10) && !c.dr))))
def addB (L : List Sb) (id : Int) (c : Bk) : List Sb × Int := match findS L id with
  | none => (L, 6)
  | some y => if canB y.s c = true then (if hasB y.bs c.id = true then (L, 7) else if 16 ≤ y.bs.length then (L, 2) else (updB L id (insB c), 0)) else (L, 1)
theorem door_iff {L : List Sb} (h : LInv L) {ds : List (Dr × Int)} : (∀ d, mfind ds d = (doorS L d).map (·.s.id)) ↔ ∀ d v, mfind ds d = some v ↔ ∃ y ∈ L, y.s.door = d ∧ y.s.id = v := by
  constructor
  · intro hd d v
    rw [hd d]
    constructor
    · intro h1
      cases hh : doorS L d with
      | none => rw [hh] at h1; cases h1
      | some y =>
        rw [hh] at h1
        obtain ⟨h2, h3⟩ := doorS_some hh
        exact ⟨y, h2, h3, Option.some.inj h1⟩
    · rintro ⟨y, hy, rfl, rfl⟩
      rw [h.doorMem hy]; rfl
  · intro hd d
    cases hh : doorS L d with
    | some y =>
      obtain ⟨h2, h3⟩ := doorS_some hh
      exact (hd d y.s.id).2 ⟨y, h2, h3, rfl⟩
    | none =>
      cases hm : mfind ds d with
      | none => rfl
      | some v =>
        obtain ⟨y, hy, h1, _⟩ := (hd d v).1 hm
        exact absurd h1 (doorS_none hh y hy)
theorem insS_mem {L : List Sb} {y x : Sb} : x ∈ insS L y ↔ x = y ∨ x ∈ L := by
  unfold insS
  rw [List.mem_append, List.mem_cons, List.mem_filter, List.mem_filter]
  by_cases h : x.s.id < y.s.id
  · simp [h]; exact Or.comm
  · simp [h]
theorem insS_perm {L : List Sb} {y : Sb} : (insS L y).Perm (y :: L) := by
  unfold insS
  refine List.perm_middle.trans (List.Perm.cons _ ?_)
  exact List.filter_append_perm _ _
theorem insS_srt {L : List Sb} {y : Sb} (h : SrtL L) (hn : findS L y.s.id = none) : SrtL (insS L y) := by
  unfold insS SrtL
  rw [List.pairwise_append]
  refine ⟨h.filter _, List.pairwise_cons.2 ⟨fun b hb => ?_, h.filter _⟩, fun a ha b hb => ?_⟩
  · obtain ⟨h1, h2⟩ := List.mem_filter.1 hb
    have h3 := findS_none hn b h1
    have h2 : ¬ b.s.id < y.s.id := by simpa using h2
    omega
  · obtain ⟨h1, h2⟩ := List.mem_filter.1 ha
    have h2 : a.s.id < y.s.id := by simpa using h2
    rcases List.mem_cons.1 hb with rfl | hb
    · exact h2
    · obtain ⟨h4, h5⟩ := List.mem_filter.1 hb
      have h5 : ¬ b.s.id < y.s.id := by simpa using h5
      omega
def shW (s : Sh) : Prop := in64 s.id ∧ s.port < 65536
theorem mayS_id {s : Sh} {nb : Nat} (h : mayS s nb = true) : 0 ≤ s.id ∧ s.id ≤ 65535 := by
  unfold mayS at h
  rw [Bool.and_eq_true, decide_eq_true_eq] at h
  exact h.1
theorem insS_inv {L : List Sb} {s : Sh} {nb : Nat} (h : LInv L) (hw : shW s) (hm : mayS s nb = true) (h1 : findS L s.id = none) (h2 : doorS L s.door = none) (h3 : L.length < 8) : LInv (insS L ⟨s, []⟩) := by
  refine ⟨insS_srt h.srt h1, fun x hx => ?_, fun x hx y hy hd => ?_, ?_, fun x hx => ?_, fun x hx => ?_, fun x hx => ?_⟩
  · rcases insS_mem.1 hx with rfl | hx
    · exact List.Pairwise.nil
    · exact h.bsrt x hx
  · rcases insS_mem.1 hx with rfl | hx
    · rcases insS_mem.1 hy with rfl | hy
      · rfl
      · exact absurd hd.symm (doorS_none h2 y hy)
    · rcases insS_mem.1 hy with rfl | hy
      · exact absurd hd (doorS_none h2 x hx)
      · exact h.uniq x hx y hy hd
  · rw [insS_perm.length_eq, List.length_cons]; omega
  · rcases insS_mem.1 hx with rfl | hx
    · exact Nat.zero_le _
    · exact h.blen x hx
  · rcases insS_mem.1 hx with rfl | hx
    · exact mayS_id hm
    · exact h.idr x hx
  · rcases insS_mem.1 hx with rfl | hx
    · exact hw.2
    · exact h.portr x hx
theorem mput_new {K V : Type} [DecidableEq K] {l : List (K × V)} {k : K} (h : mfind l k = none) (v : V) : mput l k v = l ++ [(k, v)] := (mfind_none (mfind_none_of h)).2.1 v
theorem PInv.ins {L : List Sb} {F : FM} {s : Sh} {nb g : Nat} (h : PInv L F) (hw : shW s) (hm : mayS s nb = true) (h1 : findS L s.id = none) (h2 : doorS L s.door = none) (h3 : L.length < 8) :
    PInv (insS L ⟨s, []⟩) ⟨F.ps ++ [⟨g, .slice none 0 0, s, []⟩], F.ds ++ [(s.door, s.id)]⟩ ∧ mput (ies F.ps) s.id (some g) = ies (F.ps ++ [⟨g, .slice none 0 0, s, []⟩]) ∧ mput F.ds s.door s.id = F.ds ++ [(s.door, s.id)] := by
  have hli := insS_inv h.toLInv hw hm h1 h2 h3
  have hdn : mfind F.ds s.door = none := by rw [h.door, h2]; rfl
  have hp2 := mput_new hdn s.id
  refine ⟨⟨hli, ?_, ?_, ?_, fun x hx => ?_⟩, ?_, hp2⟩
  · show ((F.ps ++ [_]).map PS.sb).Perm _
    rw [List.map_append]
    refine (List.perm_append_comm).trans ?_
    show (_ :: F.ps.map PS.sb).Perm _
    exact (List.Perm.cons _ h.perm).trans insS_perm.symm
  · rw [door_iff hli]
    intro d v
    show mfind (F.ds ++ [(s.door, s.id)]) d = some v ↔ _
    rw [← hp2, mfind_put]
    have hd := (door_iff h.toLInv).1 h.door
    by_cases hs : s.door = d
    · rw [if_pos hs]
      constructor
      · intro h4
        exact ⟨⟨s, []⟩, insS_mem.2 (.inl rfl), hs, Option.some.inj h4⟩
      · rintro ⟨y, hy, h4, h5⟩
        rcases insS_mem.1 hy with rfl | hy
        · rw [← h5]
        · exact absurd (h4.trans hs.symm) (doorS_none h2 y hy)
    · rw [if_neg hs, hd d v]
      constructor
      · rintro ⟨y, hy, h4⟩
        exact ⟨y, insS_mem.2 (.inr hy), h4⟩
      · rintro ⟨y, hy, h4, h5⟩
        rcases insS_mem.1 hy with rfl | hy
        · exact absurd h4 hs
        · exact ⟨y, hy, h4, h5⟩
  · show ((F.ds ++ [(s.door, s.id)]).map (·.1)).Nodup
    rw [← hp2]
    exact mput_keys h.dnd
  · rcases List.mem_append.1 hx with hx | hx
    · exact h.one x hx
    · rw [List.mem_singleton.1 hx]; rfl
  · rw [mput_new (h.no h1)]
    unfold ies
    rw [List.map_append]
    rfl
/-! ### A service goes -/
theorem filt_inv {L : List Sb} (h : LInv L) (q : Sb → Bool) : LInv (L.filter q) :=
  ⟨h.srt.filter _, fun x hx => h.bsrt x (List.mem_filter.1 hx).1, fun x hx y hy hd => h.uniq x (List.mem_filter.1 hx).1 y (List.mem_filter.1 hy).1 hd, Nat.le_trans (List.length_filter_le _ _) h.len, fun x hx => h.blen x (List.mem_filter.1 hx).1, fun x hx => h.idr x (List.mem_filter.1 hx).1, fun x hx => h.portr x (List.mem_filter.1 hx).1⟩
theorem PInv.del {L : List Sb} {F : FM} (h : PInv L F) {A B : List PS} {x : PS} (hps : F.ps = A ++ x :: B) (hx : findS L x.s.id = some x.sb) :
    PInv (L.filter fun y => !decide (y.s.id = x.s.id)) ⟨A ++ B, mdel F.ds x.s.door⟩ ∧ mdel (ies F.ps) x.s.id = ies (A ++ B) := by
  have hli := filt_inv h.toLInv (fun y => !decide (y.s.id = x.s.id))
  obtain ⟨hxL, _⟩ := findS_some hx
  refine ⟨⟨hli, ?_, ?_, mdel_keys h.dnd, fun y hy => ?_⟩, ?_⟩
  · have hnd : (F.ps.map PS.sb).Perm L := h.perm
    have hids := h.ids
    rw [ies_keys] at hids
    have e : ((A ++ B).map PS.sb) = (F.ps.map PS.sb).filter fun y => !decide (y.s.id = x.s.id) := by
      rw [hps] at hids ⊢
      rw [List.map_map, List.map_append, List.map_cons] at hids
      have h1 := List.nodup_append.1 hids
      have h2 := List.nodup_cons.1 h1.2.1
      simp only [List.map_append, List.map_cons]
      rw [List.filter_append, List.filter_cons_of_neg (by simp)]
      congr 1
      · symm
        rw [List.filter_eq_self]
        intro y hy
        obtain ⟨z, hz, rfl⟩ := List.mem_map.1 hy
        have : z.s.id ≠ x.s.id := fun e => h1.2.2 _ (List.mem_map.2 ⟨z, hz, rfl⟩) _ (List.mem_cons_self ..) e
        simpa using this
      · symm
        rw [List.filter_eq_self]
        intro y hy
        obtain ⟨z, hz, rfl⟩ := List.mem_map.1 hy
        have : z.s.id ≠ x.s.id := fun e => h2.1 (List.mem_map.2 ⟨z, hz, e⟩)
        simpa using this
    show ((A ++ B).map PS.sb).Perm _
    rw [e]
    exact hnd.filter _
  · rw [door_iff hli]
    intro d v
    show mfind (mdel F.ds x.s.door) d = some v ↔ _
    rw [mfind_del h.dnd]
    have hd := (door_iff h.toLInv).1 h.door
    by_cases hs : x.s.door = d
    · rw [if_pos hs]
      constructor
      · intro h4; cases h4
      · rintro ⟨y, hy, h4, h5⟩
        obtain ⟨h6, h7⟩ := List.mem_filter.1 hy
        have := h.uniq y h6 x.sb hxL (h4.trans hs.symm)
        rw [this] at h7
        simp at h7
    · rw [if_neg hs, hd d v]
      constructor
      · rintro ⟨y, hy, h4, h5⟩
        refine ⟨y, List.mem_filter.2 ⟨hy, ?_⟩, h4, h5⟩
        have : y.s.id ≠ x.s.id := fun e => by
          have := h.srt.uniq hy hxL e
          rw [this] at h4
          exact hs h4
        simpa using this
      · rintro ⟨y, hy, h4, h5⟩
        exact ⟨y, (List.mem_filter.1 hy).1, h4, h5⟩
  · refine h.one y ?_
    rw [hps]
    rcases List.mem_append.1 hy with hy | hy
    · exact List.mem_append_left _ hy
    · exact List.mem_append_right _ (List.mem_cons_of_mem _ hy)
  · have hi : (ies F.ps)[A.length]? = some (x.s.id, some x.g) := ies_at (by rw [hps, List.getElem?_append_right (Nat.le_refl _), Nat.sub_self]; rfl)
    rw [(mfind_some h.ids hi rfl).2.2, hps]
    unfold ies
    rw [List.map_append, List.map_cons, List.map_append, List.eraseIdx_append_of_length_le (by rw [List.length_map]; exact Nat.le_refl _), List.length_map, Nat.sub_self]
    rfl
/-! ### Backends change -/
theorem updB_mem {L : List Sb} {id : Int} {f : List Bk → List Bk} {y : Sb} (h : y ∈ updB L id f) : ∃ z ∈ L, y.s = z.s ∧ (y = z ∨ (z.s.id = id ∧ y.bs = f z.bs)) := by
  unfold updB at h
  obtain ⟨z, hz, rfl⟩ := List.mem_map.1 h
  by_cases hi : z.s.id = id
  · rw [if_pos hi]; exact ⟨z, hz, rfl, .inr ⟨hi, rfl⟩⟩
  · rw [if_neg hi]; exact ⟨z, hz, rfl, .inl rfl⟩
theorem updB_s {L : List Sb} {id : Int} {f : List Bk → List Bk} : (updB L id f).map (·.s) = L.map (·.s) := by
  unfold updB
  rw [List.map_map]
  refine List.map_congr_left fun y _ => ?_
  show (if y.s.id = id then (⟨y.s, f y.bs⟩ : Sb) else y).s = y.s
  split <;> rfl
theorem updB_inv {L : List Sb} {id : Int} {f : List Bk → List Bk} {y : Sb} (h : LInv L) (hy : findS L id = some y) (h1 : SrtB (f y.bs)) (h2 : (f y.bs).length ≤ 16) : LInv (updB L id f) := by
  obtain ⟨hyL, hyi⟩ := findS_some hy
  have hfb : ∀ z ∈ L, z.s.id = id → z = y := fun z hz hi => h.srt.uniq hz hyL (by rw [hi, hyi])
  refine ⟨?_, fun x hx => ?_, fun x hx z hz hd => ?_, ?_, fun x hx => ?_, fun x hx => ?_, fun x hx => ?_⟩
  · have e : (updB L id f).map (fun x => x.s.id) = L.map (fun x => x.s.id) := by
      have := congrArg (List.map Sh.id) (updB_s (L := L) (id := id) (f := f))
      rw [List.map_map, List.map_map] at this
      exact this
    have h3 : ((updB L id f).map (fun x => x.s.id)).Pairwise (· < ·) := by rw [e, List.pairwise_map]; exact h.srt
    rw [List.pairwise_map] at h3
    exact h3
  · obtain ⟨z, hz, _, rfl | ⟨hi, hb⟩⟩ := updB_mem hx
    · exact h.bsrt _ hz
    · rw [hb, hfb z hz hi]; exact h1
  · unfold updB at hx hz
    obtain ⟨x', hx', rfl⟩ := List.mem_map.1 hx
    obtain ⟨z', hz', rfl⟩ := List.mem_map.1 hz
    have e1 : ∀ w : Sb, (if w.s.id = id then (⟨w.s, f w.bs⟩ : Sb) else w).s = w.s := fun w => by split <;> rfl
    have hd : x'.s.door = z'.s.door := by rw [e1 x', e1 z'] at hd; exact hd
    rw [h.uniq x' hx' z' hz' hd]
  · unfold updB; rw [List.length_map]; exact h.len
  · obtain ⟨z, hz, _, rfl | ⟨hi, hb⟩⟩ := updB_mem hx
    · exact h.blen _ hz
    · rw [hb, hfb z hz hi]; exact h2
  · obtain ⟨z, hz, hs, _⟩ := updB_mem hx
    rw [hs]; exact h.idr z hz
  · obtain ⟨z, hz, hs, _⟩ := updB_mem hx
    rw [hs]; exact h.portr z hz
theorem PInv.upd {L : List Sb} {F : FM} (h : PInv L F) {A B : List PS} {x : PS} (hps : F.ps = A ++ x :: B) (hx : findS L x.s.id = some x.sb) {f : List Bk → List Bk} {v : Value} (hv : v.oneCell' = true) (h1 : SrtB (f x.bs)) (h2 : (f x.bs).length ≤ 16) :
    PInv (updB L x.s.id f) ⟨A ++ ⟨x.g, v, x.s, f x.bs⟩ :: B, F.ds⟩ ∧ ies (A ++ ⟨x.g, v, x.s, f x.bs⟩ :: B) = ies F.ps := by
  have hli := updB_inv h.toLInv hx h1 h2
  have hids := h.ids
  rw [ies_keys, hps, List.map_map, List.map_append, List.map_cons] at hids
  have n1 := List.nodup_append.1 hids
  have n2 := List.nodup_cons.1 n1.2.1
  refine ⟨⟨hli, ?_, ?_, h.dnd, fun y hy => ?_⟩, ?_⟩
  · have e : (A ++ (⟨x.g, v, x.s, f x.bs⟩ : PS) :: B).map PS.sb = updB (F.ps.map PS.sb) x.s.id f := by
      rw [hps]
      unfold updB
      rw [List.map_append, List.map_cons, List.map_append, List.map_cons, List.map_append, List.map_cons, if_pos rfl]
      congr 1
      · symm
        conv => rhs; rw [← List.map_id (A.map PS.sb)]
        refine List.map_congr_left fun y hy => ?_
        obtain ⟨z, hz, rfl⟩ := List.mem_map.1 hy
        have hne : ¬ z.sb.s.id = x.s.id := fun e => n1.2.2 _ (List.mem_map.2 ⟨z, hz, rfl⟩) _ (List.mem_cons_self ..) e
        rw [if_neg hne]
        rfl
      · congr 1
        symm
        conv => rhs; rw [← List.map_id (B.map PS.sb)]
        refine List.map_congr_left fun y hy => ?_
        obtain ⟨z, hz, rfl⟩ := List.mem_map.1 hy
        have hne : ¬ z.sb.s.id = x.s.id := fun e => n2.1 (List.mem_map.2 ⟨z, hz, e⟩)
        rw [if_neg hne]
        rfl
    show ((A ++ (⟨x.g, v, x.s, f x.bs⟩ : PS) :: B).map PS.sb).Perm _
    rw [e]
    exact h.perm.map _
  · rw [door_iff hli]
    intro d w
    have hd := (door_iff h.toLInv).1 h.door
    show mfind F.ds d = some w ↔ _
    rw [hd d w]
    constructor
    · rintro ⟨y, hy, h4, h5⟩
      refine ⟨_, List.mem_map.2 ⟨y, hy, rfl⟩, ?_⟩
      split
      · exact ⟨h4, h5⟩
      · exact ⟨h4, h5⟩
    · rintro ⟨y, hy, h4, h5⟩
      obtain ⟨z, hz, hs, _⟩ := updB_mem hy
      rw [hs] at h4 h5
      exact ⟨z, hz, h4, h5⟩
  · rcases List.mem_append.1 hy with hy | hy
    · exact h.one y (by rw [hps]; exact List.mem_append_left _ hy)
    · rcases List.mem_cons.1 hy with rfl | hy
      · exact hv
      · exact h.one y (by rw [hps]; exact List.mem_append_right _ (List.mem_cons_of_mem _ hy))
  · rw [hps]
    unfold ies
    rw [List.map_append, List.map_append, List.map_cons, List.map_cons]
/-! ### Backends in order -/
theorem srtB_uniq {l : List Bk} (h : SrtB l) {i j : Nat} {a b : Bk} (ha : l[i]? = some a) (hb : l[j]? = some b) (he : a.id = b.id) : i = j := by
  rcases Nat.lt_trichotomy i j with h1 | h1 | h1
  · have := srt_lt h ha hb h1; omega
  · exact h1
  · have := srt_lt h hb ha h1; omega
theorem set_setBy {l : List Bk} (h : SrtB l) {i : Nat} {y : Bk} (hy : l[i]? = some y) (g : Bk → Bk) : l.set i (g y) = setBy y.id g l := by
  apply List.ext_getElem?
  intro j
  unfold setBy
  rw [List.getElem?_map, List.getElem?_set]
  by_cases hij : i = j
  · subst hij
    rw [if_pos rfl, if_pos (List.getElem?_eq_some_iff.1 hy).1, hy]
    show _ = some (if y.id = y.id then g y else y)
    rw [if_pos rfl]
  · rw [if_neg hij]
    cases hj : l[j]? with
    | none => rfl
    | some z =>
      show _ = some (if z.id = y.id then g z else z)
      rw [if_neg fun e => hij (srtB_uniq h hy hj e.symm)]
theorem erase_delBy {l : List Bk} (h : SrtB l) {i : Nat} {y : Bk} (hy : l[i]? = some y) : l.take i ++ l.drop (i + 1) = delBy y.id l := by
  have hi := (List.getElem?_eq_some_iff.1 hy).1
  have e : l = l.take i ++ y :: l.drop (i + 1) := by
    conv => lhs; rw [← List.take_append_drop i l, List.drop_eq_getElem_cons hi]
    rw [(List.getElem?_eq_some_iff.1 hy).2]
  unfold delBy
  conv => rhs; rw [e]
  rw [List.filter_append, List.filter_cons_of_neg (by simp)]
  congr 1
  · symm
    rw [List.filter_eq_self]
    intro b hb
    obtain ⟨k, hk⟩ := List.getElem?_of_mem hb
    have hlt : k < i := by have := (List.getElem?_eq_some_iff.1 hk).1; rw [List.length_take] at this; omega
    rw [List.getElem?_take_of_lt hlt] at hk
    have := srt_lt h hk hy hlt
    simp; omega
  · symm
    rw [List.filter_eq_self]
    intro b hb
    obtain ⟨k, hk⟩ := List.getElem?_of_mem hb
    rw [List.getElem?_drop] at hk
    have := srt_lt h hy hk (by omega)
    simp; omega
theorem setBy_srt {l : List Bk} (h : SrtB l) {b : Int} {g : Bk → Bk} (hg : ∀ k, (g k).id = k.id) : SrtB (setBy b g l) := by
  unfold SrtB setBy
  rw [List.pairwise_map]
  refine List.Pairwise.imp ?_ h
  intro x y hxy
  have e : ∀ k : Bk, (if k.id = b then g k else k).id = k.id := fun k => by split; exact hg k; rfl
  rw [e, e]; exact hxy
theorem setBy_len {l : List Bk} {b : Int} {g : Bk → Bk} : (setBy b g l).length = l.length := by unfold setBy; rw [List.length_map]
theorem delBy_srt {l : List Bk} (h : SrtB l) {b : Int} : SrtB (delBy b l) := h.filter _
theorem delBy_len {l : List Bk} {b : Int} : (delBy b l).length ≤ l.length := List.length_filter_le _ _
theorem insB_srt {l : List Bk} {c : Bk} (h : SrtB l) (hn : hasB l c.id = false) : SrtB (insB c l) := by
  have hno : ∀ x ∈ l, x.id ≠ c.id := fun x hx e => by
    unfold hasB at hn
    rw [List.any_eq_false] at hn
    exact hn x hx (by simpa using e)
  unfold insB SrtB
  rw [List.pairwise_append]
  refine ⟨h.filter _, List.pairwise_cons.2 ⟨fun b hb => ?_, h.filter _⟩, fun a ha b hb => ?_⟩
  · obtain ⟨h1, h2⟩ := List.mem_filter.1 hb
    have h3 := hno b h1
    have h2 : ¬ b.id < c.id := by simpa using h2
    omega
  · obtain ⟨h1, h2⟩ := List.mem_filter.1 ha
    have h2 : a.id < c.id := by simpa using h2
    rcases List.mem_cons.1 hb with rfl | hb
    · exact h2
    · obtain ⟨h4, h5⟩ := List.mem_filter.1 hb
      have h5 : ¬ b.id < c.id := by simpa using h5
      omega
theorem insB_len {l : List Bk} {c : Bk} : (insB c l).length = l.length + 1 := by
  unfold insB
  have := (List.filter_append_perm (fun x : Bk => decide (x.id < c.id)) l).length_eq
  rw [List.length_append] at this ⊢
  rw [List.length_cons]
  omega
theorem insB_at {l : List Bk} {c : Bk} (h : SrtB l) : insB c l = l.take (lbB l c.id) ++ c :: l.drop (lbB l c.id) := by
  have hsp : ∃ i, i ≤ l.length ∧ (∀ k b, k < i → l[k]? = some b → b.id < c.id) ∧ (∀ k b, i ≤ k → l[k]? = some b → ¬ b.id < c.id) := by
    induction l with
    | nil => exact ⟨0, Nat.le_refl _, fun k b hk => absurd hk (Nat.not_lt_zero _), fun k b _ hb => by cases hb⟩
    | cons x l ih =>
      by_cases hx : x.id < c.id
      · obtain ⟨i, h1, h2, h3⟩ := ih (List.pairwise_cons.1 h).2
        refine ⟨i + 1, by simpa using h1, fun k b hk hb => ?_, fun k b hk hb => ?_⟩
        · cases k with
          | zero => cases hb; exact hx
          | succ k => exact h2 k b (by omega) (by simpa using hb)
        · cases k with
          | zero => omega
          | succ k => exact h3 k b (by omega) (by simpa using hb)
      · refine ⟨0, Nat.zero_le _, fun k b hk => absurd hk (Nat.not_lt_zero _), fun k b _ hb => ?_⟩
        cases k with
        | zero => cases hb; exact hx
        | succ k =>
          have := srt_lt (l := x :: l) h (i := 0) (j := k + 1) rfl hb (by omega)
          omega
  obtain ⟨i, h1, h2, h3⟩ := hsp
  have hlb := lb_of h1 h2 h3
  obtain ⟨f1, f2⟩ := filter_split (q := fun b => decide (b.id < c.id)) h1 (fun k b hk hb => decide_eq_true (h2 k b hk hb)) (fun k b hk hb => decide_eq_false (h3 k b hk hb))
  unfold insB
  rw [hlb, f1, f2]
theorem has_lb {l : List Bk} (h : SrtB l) {id : Int} (hh : hasB l id = true) : ∃ y, l[lbB l id]? = some y ∧ y.id = id := by
  unfold hasB at hh
  rw [List.any_eq_true] at hh
  obtain ⟨y, hy, hid⟩ := hh
  have hid : y.id = id := by simpa using hid
  obtain ⟨i, hi⟩ := List.getElem?_of_mem hy
  have hil := (List.getElem?_eq_some_iff.1 hi).1
  have := lb_of (l := l) (id := id) (i := i) (by omega) (fun k b hk hb => by have := srt_lt h hb hi hk; omega) (fun k b hk hb => by
    rcases Nat.lt_or_ge i k with h1 | h1
    · have := srt_lt h hi hb h1; omega
    · have : k = i := by omega
      subst this; rw [hi] at hb; cases hb; omega)
  rw [this]
  exact ⟨y, hi, hid⟩
theorem lb_le {l : List Bk} {id : Int} : lbB l id ≤ l.length := List.length_filter_le _ _
end Go.Proofs.Ytpjfkomicehinaa
/- Layer 20 (farm): contracts: New, AddService, DropService, Drain, Weigh. -/
namespace Go.Proofs.Ytpjfkomicehinaa
open Go.RowKit
set_option linter.unusedSimpArgs false
set_option linter.unusedVariables false
set_option maxRecDepth 20000
set_option maxHeartbeats 4000000
attribute [local irreducible] WPc WPl WPq ReadR OpT BinR HasS bx rdN rowN Take Takes Prov Triple ResF BuildP Done ag Int.decLt Int.decLe Int.instDecidableEq
attribute [local irreducible] mp rmp rg rgo mput mget mfind mdel gbag bks ies lbB hasB findS doorS mpe
theorem ownsG {Γ : List Asn} (h : ∀ A, A ∈ Γ → A.own = true := by ((repeat' (first | exact own_nil | refine own_cons (by first | exact bx_own | exact rowN_own | exact mp_own | exact gbag_own | exact rfl) ?_ | fail)) <;> fail)) : ∀ A, A ∈ Γ → A.own = true := h
def RFm (gF mi md : Nat) (c : Value) (L : List Sb) : Value → List Asn → Prop := fun v Γ => ∃ F, v = c ∧ PInv L F ∧ Γ = fmA gF mi md F
def weighS (L : List Sb) (id b n : Int) : List Sb × Int := match findS L id with
  | none => (L, 6)
  | some y => if hasB y.bs b = true ∧ ¬ (0 ≤ n ∧ n ≤ 10) then (L, 1) else turnS L id b (setBy b fun k => { k with wt := n })
theorem PInv.empty : PInv [] ⟨[], []⟩ := by
  refine ⟨⟨List.Pairwise.nil, fun x hx => (by cases hx), fun x hx => (by cases hx), Nat.zero_le _, fun x hx => (by cases hx), fun x hx => (by cases hx), fun x hx => (by cases hx)⟩, .nil, fun d => ?_, List.Pairwise.nil, fun x hx => (by cases hx)⟩
  with_unfolding_all rfl
theorem gnew_t : Triple Try.prog 7 #[] [] (fun v Γ => ∃ gF mi md, v = hF gF ∧ Γ = fmA gF mi md ⟨[], []⟩) := by
  refine Triple.enter Try.func7 rfl Try.ntmps7 rfl (fun W => ?_)
  dsimp only [argsF, Nat.reduceAdd]
  repeat' (first
   | refine WPl.nil ?_ | refine WPq.then ?_ | refine WPq.thenR ?_ | refine WPq.thenE ?_ | refine WPq.blockN ?_ | refine WPq.blockR ?_ | refine WPq.blockE ?_ | refine WPq.blockO rfl ?_ | refine WPc.seq ?_ | refine WPc.block ?_ | refine WPc.ret ?_ | refine WPc.exit ?_ | refine WPc.skip ?_ | refine WPc.region ?_
   | (refine isCond ?_; first | refine WPc.cT ?_ | refine WPc.cF ?_ | (refine WPc.cQ (fun hc => ?_) (fun hc => ?_) <;> try exact prA))
   | (refine isD 1 ?_; refine WPl.mnew idM fun mi => ?_)
   | (refine isD 2 ?_; refine WPl.mnew drM fun md => ?_)
   | (refine isD 3 ?_; refine WPl.rdX (ReadR.build (cs' := fac mi md) buildA) ?_)
   | (refine isD 4 ?_; first | (refine isAl ?_; refine WPl.nw fun gF => ?_) | (refine isBx ?_; refine WPl.nw fun gF => ?_))
   | (refine isOp ?_; first | refine WPl.rd ?_ | refine WPl.sk ?_ | refine WPl.rdB ?_)
   | (refine isBx ?_; refine WPl.nw fun g => ?_)
   | (show WPl _ _ _ _ _ _ _ (⟨_, .indexAddr _ _ _, _, _, _, _⟩ :: _) _; refine WPl.rdX (ReadR.indexE rfl rfl hasA (by first | assumption | omega)) ?_)
   | (show WPl _ _ _ _ _ _ _ (⟨_, .fieldAddr _ _ _, _, _, _, _⟩ :: _) _; refine WPl.rdX (ReadR.fieldE rfl hasA (by first | assumption | omega)) ?_)
   | (show WPl _ _ _ _ _ _ _ (⟨_, .load _ _, _, _, _, _⟩ :: _) _; first | refine WPl.rdX (ReadR.loadE rfl hasA (by assumption)) ?_ | refine WPl.rdX (ReadR.loadES (by assumption) (by first | assumption | omega) rfl hasA) ?_)
   | (show WPl _ _ _ _ _ _ _ (⟨_, .slice _ _ _ _ _, _, _, _, _⟩ :: _) _; first | refine WPl.rdX (ReadR.sliceH rfl rfl hasA (by omega)) ?_ | refine WPl.rdX (ReadR.sliceL rfl rfl hasA (by omega)) ?_ | refine WPl.rdX (ReadR.sliceLH rfl rfl rfl hasA (by omega) (by omega)) ?_)
   | (refine WPl.spQ (fun hc => ?_) (fun hc => ?_) <;> try exact prA)
   | fail)
  refine WPq.gbag0 prow ?_
  refine WPq.dX (ho := ownsG) (vs := [hF gF]) [bx gF 66 (fac mi md), mp idM mi [], mp drM md [], gbag prow []] ⟨gF, mi, md, rfl, ?_⟩
  with_unfolding_all rfl
section
variable (gF mi md : Nat) (L : List Sb) (F : FM)
theorem gadd_t (h : PInv L F) (s : Sh) (vb : Value) (l : List Bk) (hv : vb.oneCell' = true) (hw : shW s) :
    Triple Try.prog 8 #[hF gF, ag (shC s vb)] (rdN vb l.length (bks l) :: fmA gF mi md F) (RFm gF mi md (.int .i64 (addS L s l.length).2) (addS L s l.length).1) := by
  have hfx := shC_ok (s := s) hv
  have hal := s.ad.len
  have c13 := gmay_t s vb l hv
  have c32 := gof_t s vb hv
  have hlen := h.len'
  have hll := h.len
  have e0 : bks ([] : List Bk) = [] := by with_unfolding_all rfl
  cases hm : mayS s l.length with
  | false =>
    have hr : addS L s l.length = (L, 1) := by unfold addS; rw [if_neg (by rw [hm]; simp)]
    rw [hr]
    rw [hm] at c13
    refine Triple.enter Try.func8 rfl Try.ntmps8 rfl (fun W => ?_)
    dsimp only [argsF, Nat.reduceAdd]
    repeat' (first
     | refine WPl.nil ?_ | refine WPq.then ?_ | refine WPq.thenR ?_ | refine WPq.thenE ?_ | refine WPq.blockN ?_ | refine WPq.blockR ?_ | refine WPq.blockE ?_ | refine WPq.blockO rfl ?_ | refine WPc.seq ?_ | refine WPc.block ?_ | refine WPc.ret ?_ | refine WPc.exit ?_ | refine WPc.skip ?_ | refine WPc.region ?_
     | (refine isCond ?_; first | refine WPc.cT ?_ | refine WPc.cF ?_ | (refine WPc.cQ (fun hc => ?_) (fun hc => ?_) <;> try exact prA))
     | (refine isD 3 ?_; first | (refine isAl ?_; refine WPl.nw fun g3 => ?_) | (refine isBx ?_; refine WPl.nw fun g3 => ?_))
     | (refine isD 10 ?_; refine WPl.rdX (readP) ?_)
     | (refine isC 13 ?_; refine WPl.cV c13 ?_ (hΔ := provsM))
     | (refine isOp ?_; first | refine WPl.rd ?_ | refine WPl.sk ?_ | refine WPl.rdB ?_)
     | (refine isBx ?_; refine WPl.nw fun g => ?_)
     | (refine isSt ?_; first | refine WPl.st1 ?_ | refine WPl.stA ?_ | refine WPl.stEB ?_ | refine WPl.stRB ?_)
     | (show WPl _ _ _ _ _ _ _ (⟨_, .indexAddr _ _ _, _, _, _, _⟩ :: _) _; refine WPl.rdX (ReadR.indexE rfl rfl hasA (by first | assumption | omega)) ?_)
     | (show WPl _ _ _ _ _ _ _ (⟨_, .fieldAddr _ _ _, _, _, _, _⟩ :: _) _; refine WPl.rdX (ReadR.fieldE rfl hasA (by first | assumption | omega)) ?_)
     | (show WPl _ _ _ _ _ _ _ (⟨_, .load _ _, _, _, _, _⟩ :: _) _; first | refine WPl.rdX (ReadR.loadE rfl hasA (by assumption)) ?_ | refine WPl.rdX (ReadR.loadES (by assumption) (by first | assumption | omega) rfl hasA) ?_)
     | (show WPl _ _ _ _ _ _ _ (⟨_, .slice _ _ _ _ _, _, _, _, _⟩ :: _) _; first | refine WPl.rdX (ReadR.sliceH rfl rfl hasA (by omega)) ?_ | refine WPl.rdX (ReadR.sliceL rfl rfl hasA (by omega)) ?_ | refine WPl.rdX (ReadR.sliceLH rfl rfl rfl hasA (by omega) (by omega)) ?_)
     | (refine WPl.spQ (fun hc => ?_) (fun hc => ?_) <;> try exact prA)
     | fail)
    exact WPq.dX (ho := ownsG) (vs := [.int .i64 1]) [bx gF 66 (fac mi md), mp idM mi (ies F.ps), mp drM md F.ds, gbag prow F.ps] ⟨F, rfl, h, rfl⟩
  | true =>
    rw [hm] at c13
    obtain ⟨hget, hb⟩ := ies_get (ps := F.ps) (sid := s.id) rfl
    obtain ⟨p1, hp1⟩ : ∃ p1, p1 = idM.vc (mget idM (ies F.ps) s.id) := ⟨_, rfl⟩
    obtain ⟨b1, hb1⟩ : ∃ b1, b1 = mhas (ies F.ps) s.id := ⟨_, rfl⟩
    have hb1f : b1 = (findS L s.id).isSome := by
      rw [hb1, hb]
      cases hf : findS L s.id with
      | none => rw [h.no hf]; rfl
      | some y => obtain ⟨A, B, x, _, _, _, hm⟩ := h.at hf; rw [hm]; rfl
    obtain ⟨n2, b2, hg2, hb2, hb2f⟩ : ∃ n2 b2, drM.vc (mget drM F.ds s.door) = .int .i64 n2 ∧ mhas F.ds s.door = b2 ∧ b2 = (doorS L s.door).isSome := by
      refine ⟨_, _, by with_unfolding_all rfl, rfl, ?_⟩
      have hd := h.door s.door
      with_unfolding_all
        unfold mhas
        rw [hd]
        cases doorS L s.door <;> rfl
    have hwi : idM.wf s.id := hw.1
    have hwd : drM.wf s.door := hw.2
    have hp1' := hp1.symm
    have hb1' := hb1.symm
    by_cases hth : (findS L s.id).isSome = true ∨ (doorS L s.door).isSome = true
    · have hr : addS L s l.length = (L, 7) := by unfold addS; rw [if_pos hm, if_pos hth]
      rw [hr]
      rw [← hb1f, ← hb2f] at hth
      clear hp1 hb1
      cases b1 with
      | true =>
        refine Triple.enter Try.func8 rfl Try.ntmps8 rfl (fun W => ?_)
        dsimp only [argsF, Nat.reduceAdd]
        repeat' (first
         | refine WPl.nil ?_ | refine WPq.then ?_ | refine WPq.thenR ?_ | refine WPq.thenE ?_ | refine WPq.blockN ?_ | refine WPq.blockR ?_ | refine WPq.blockE ?_ | refine WPq.blockO rfl ?_ | refine WPc.seq ?_ | refine WPc.block ?_ | refine WPc.ret ?_ | refine WPc.exit ?_ | refine WPc.skip ?_ | refine WPc.region ?_
         | (refine isReg 3 ?_; refine WPc.drA [([], [21, 22]), ([0], [17, 21, 22]), ([0, 1], [17, 18, 21, 22]), ([0, 1, 2], [17, 18, 19, 21, 22]), ([], [17, 18, 19, 20]), ([4], [17, 18, 19, 20, 21]), ([0, 1, 2, 3, 4, 5], [17, 18, 19, 20, 21, 22]), ([0, 1, 2, 3, 4, 5, 6], [17, 18, 19, 20, 21, 22, 23]), ([0, 1, 2, 3, 4, 5, 6, 7], [16, 17, 18, 19, 20, 21, 22, 23, 25]), ([0, 1, 2, 3, 4, 5, 6, 7], [5, 16, 17, 18, 19, 20, 21, 22, 23, 24]), ([0, 1, 2, 3, 4, 5, 6, 7, 8], [16, 17, 18, 19, 20, 21, 22, 23, 24, 25]), ([0, 1, 2, 3, 4, 5, 6, 7, 8, 9, 10], [5, 16, 17, 18, 19, 20, 21, 22, 23, 24, 25])] [] (Γx := []) ?_; dsimp only [prev0, List.length_nil, List.length_cons])
         | (refine isReg 4 ?_; refine WPc.drA [([], [31, 32]), ([0], [27, 31, 32]), ([0, 1], [27, 28, 31, 32]), ([0, 1, 2], [27, 28, 29, 31, 32]), ([], [27, 28, 29, 30]), ([4], [27, 28, 29, 30, 31]), ([0, 1, 2, 3, 4, 5], [27, 28, 29, 30, 31, 32]), ([0, 1, 2, 3, 4, 5, 6], [27, 28, 29, 30, 31, 32, 33]), ([0, 1, 2, 3, 4, 5, 6, 7], [26, 27, 28, 29, 30, 31, 32, 33, 35]), ([0, 1, 2, 3, 4, 5, 6, 7], [7, 26, 27, 28, 29, 30, 31, 32, 33, 34]), ([0, 1, 2, 3, 4, 5, 6, 7, 8], [26, 27, 28, 29, 30, 31, 32, 33, 34, 35]), ([0, 1, 2, 3, 4, 5, 6, 7, 8, 9, 10], [7, 26, 27, 28, 29, 30, 31, 32, 33, 34, 35])] [] (Γx := []) ?_; dsimp only [prev0, List.length_nil, List.length_cons])
         | (refine gAny ?_; first | (refine gC 32 ?_; refine RGl.vl (fun e hk => OpT.callN (c32)) ?_) | (refine gD 10 ?_; refine RGl.rdX (fun e hk => by (try dsimp only [bndR, ensR, oksR, fcutR, List.append_nil, List.nil_append, List.cons_append, List.append_assoc] at hk ⊢); exact readP) ?_) | (refine gD 23 ?_; refine RGl.rdX (fun e hk => by (try dsimp only [bndR, ensR, oksR, fcutR, List.append_nil, List.nil_append, List.cons_append, List.append_assoc] at hk ⊢); exact ReadR.lookOk (M := idM) (k := s.id) hwi rfl rfl memA hp1' hb1') ?_) | (refine gD 33 ?_; refine RGl.rdX (fun e hk => by (try dsimp only [bndR, ensR, oksR, fcutR, List.append_nil, List.nil_append, List.cons_append, List.append_assoc] at hk ⊢); exact ReadR.lookOk (M := drM) (k := s.door) hwd rfl rfl memA hg2 hb2) ?_) | (refine gOp ?_; first | refine RGl.rdA ?_ | refine RGl.rdX (fun e hk => by (try dsimp only [bndR, ensR, oksR, fcutR, List.append_nil, List.nil_append, List.cons_append, List.append_assoc] at hk ⊢); exact readB) ?_) | (refine RGl.fin (fun e hk => ?_); (try dsimp only [bndA, ensAR, oksA, List.append_nil, List.nil_append, List.cons_append, List.append_assoc] at hk ⊢); (repeat (obtain ⟨hk1, hk⟩ := hk))) | fail)
         | (refine isCond ?_; first | refine WPc.cT ?_ | refine WPc.cF ?_ | (refine WPc.cQ (fun hc => ?_) (fun hc => ?_) <;> try exact prA))
         | (refine isD 3 ?_; first | (refine isAl ?_; refine WPl.nw fun g3 => ?_) | (refine isBx ?_; refine WPl.nw fun g3 => ?_))
         | (refine isD 10 ?_; refine WPl.rdX (readP) ?_)
         | (refine isC 13 ?_; refine WPl.cV c13 ?_ (hΔ := provsM))
         | (refine isD 23 ?_; refine WPl.rdX (ReadR.lookOk (M := idM) (k := s.id) hwi rfl rfl memA hp1' hb1') ?_)
         | (refine isC 32 ?_; refine WPl.cV (c32) ?_)
         | (refine isD 33 ?_; refine WPl.rdX (ReadR.lookOk (M := drM) (k := s.door) hwd rfl rfl memA hg2 hb2) ?_)
         | (refine isOp ?_; first | refine WPl.rd ?_ | refine WPl.sk ?_ | refine WPl.rdB ?_)
         | (refine isBx ?_; refine WPl.nw fun g => ?_)
         | (refine isSt ?_; first | refine WPl.st1 ?_ | refine WPl.stA ?_ | refine WPl.stEB ?_ | refine WPl.stRB ?_)
         | (show WPl _ _ _ _ _ _ _ (⟨_, .indexAddr _ _ _, _, _, _, _⟩ :: _) _; refine WPl.rdX (ReadR.indexE rfl rfl hasA (by first | assumption | omega)) ?_)
         | (show WPl _ _ _ _ _ _ _ (⟨_, .fieldAddr _ _ _, _, _, _, _⟩ :: _) _; refine WPl.rdX (ReadR.fieldE rfl hasA (by first | assumption | omega)) ?_)
         | (show WPl _ _ _ _ _ _ _ (⟨_, .load _ _, _, _, _, _⟩ :: _) _; first | refine WPl.rdX (ReadR.loadE rfl hasA (by assumption)) ?_ | refine WPl.rdX (ReadR.loadES (by assumption) (by first | assumption | omega) rfl hasA) ?_)
         | (show WPl _ _ _ _ _ _ _ (⟨_, .slice _ _ _ _ _, _, _, _, _⟩ :: _) _; first | refine WPl.rdX (ReadR.sliceH rfl rfl hasA (by omega)) ?_ | refine WPl.rdX (ReadR.sliceL rfl rfl hasA (by omega)) ?_ | refine WPl.rdX (ReadR.sliceLH rfl rfl rfl hasA (by omega) (by omega)) ?_)
         | (refine WPl.spQ (fun hc => ?_) (fun hc => ?_) <;> try exact prA)
         | fail)
        exact WPq.dX (ho := ownsG) (vs := [.int .i64 7]) [bx gF 66 (fac mi md), mp idM mi (ies F.ps), mp drM md F.ds, gbag prow F.ps] ⟨F, rfl, h, rfl⟩
      | false =>
        have hbt : b2 = true := by rcases hth with hth | hth; cases hth; exact hth
        subst hbt
        refine Triple.enter Try.func8 rfl Try.ntmps8 rfl (fun W => ?_)
        dsimp only [argsF, Nat.reduceAdd]
        repeat' (first
         | refine WPl.nil ?_ | refine WPq.then ?_ | refine WPq.thenR ?_ | refine WPq.thenE ?_ | refine WPq.blockN ?_ | refine WPq.blockR ?_ | refine WPq.blockE ?_ | refine WPq.blockO rfl ?_ | refine WPc.seq ?_ | refine WPc.block ?_ | refine WPc.ret ?_ | refine WPc.exit ?_ | refine WPc.skip ?_ | refine WPc.region ?_
         | (refine isReg 3 ?_; refine WPc.drA [([], [21, 22]), ([0], [17, 21, 22]), ([0, 1], [17, 18, 21, 22]), ([0, 1, 2], [17, 18, 19, 21, 22]), ([], [17, 18, 19, 20]), ([4], [17, 18, 19, 20, 21]), ([0, 1, 2, 3, 4, 5], [17, 18, 19, 20, 21, 22]), ([0, 1, 2, 3, 4, 5, 6], [17, 18, 19, 20, 21, 22, 23]), ([0, 1, 2, 3, 4, 5, 6, 7], [16, 17, 18, 19, 20, 21, 22, 23, 25]), ([0, 1, 2, 3, 4, 5, 6, 7], [5, 16, 17, 18, 19, 20, 21, 22, 23, 24]), ([0, 1, 2, 3, 4, 5, 6, 7, 8], [16, 17, 18, 19, 20, 21, 22, 23, 24, 25]), ([0, 1, 2, 3, 4, 5, 6, 7, 8, 9, 10], [5, 16, 17, 18, 19, 20, 21, 22, 23, 24, 25])] [] (Γx := []) ?_; dsimp only [prev0, List.length_nil, List.length_cons])
         | (refine isReg 4 ?_; refine WPc.drA [([], [31, 32]), ([0], [27, 31, 32]), ([0, 1], [27, 28, 31, 32]), ([0, 1, 2], [27, 28, 29, 31, 32]), ([], [27, 28, 29, 30]), ([4], [27, 28, 29, 30, 31]), ([0, 1, 2, 3, 4, 5], [27, 28, 29, 30, 31, 32]), ([0, 1, 2, 3, 4, 5, 6], [27, 28, 29, 30, 31, 32, 33]), ([0, 1, 2, 3, 4, 5, 6, 7], [26, 27, 28, 29, 30, 31, 32, 33, 35]), ([0, 1, 2, 3, 4, 5, 6, 7], [7, 26, 27, 28, 29, 30, 31, 32, 33, 34]), ([0, 1, 2, 3, 4, 5, 6, 7, 8], [26, 27, 28, 29, 30, 31, 32, 33, 34, 35]), ([0, 1, 2, 3, 4, 5, 6, 7, 8, 9, 10], [7, 26, 27, 28, 29, 30, 31, 32, 33, 34, 35])] [] (Γx := []) ?_; dsimp only [prev0, List.length_nil, List.length_cons])
         | (refine gAny ?_; first | (refine gC 32 ?_; refine RGl.vl (fun e hk => OpT.callN (c32)) ?_) | (refine gD 10 ?_; refine RGl.rdX (fun e hk => by (try dsimp only [bndR, ensR, oksR, fcutR, List.append_nil, List.nil_append, List.cons_append, List.append_assoc] at hk ⊢); exact readP) ?_) | (refine gD 23 ?_; refine RGl.rdX (fun e hk => by (try dsimp only [bndR, ensR, oksR, fcutR, List.append_nil, List.nil_append, List.cons_append, List.append_assoc] at hk ⊢); exact ReadR.lookOk (M := idM) (k := s.id) hwi rfl rfl memA hp1' hb1') ?_) | (refine gD 33 ?_; refine RGl.rdX (fun e hk => by (try dsimp only [bndR, ensR, oksR, fcutR, List.append_nil, List.nil_append, List.cons_append, List.append_assoc] at hk ⊢); exact ReadR.lookOk (M := drM) (k := s.door) hwd rfl rfl memA hg2 hb2) ?_) | (refine gOp ?_; first | refine RGl.rdA ?_ | refine RGl.rdX (fun e hk => by (try dsimp only [bndR, ensR, oksR, fcutR, List.append_nil, List.nil_append, List.cons_append, List.append_assoc] at hk ⊢); exact readB) ?_) | (refine RGl.fin (fun e hk => ?_); (try dsimp only [bndA, ensAR, oksA, List.append_nil, List.nil_append, List.cons_append, List.append_assoc] at hk ⊢); (repeat (obtain ⟨hk1, hk⟩ := hk))) | fail)
         | (refine isCond ?_; first | refine WPc.cT ?_ | refine WPc.cF ?_ | (refine WPc.cQ (fun hc => ?_) (fun hc => ?_) <;> try exact prA))
         | (refine isD 3 ?_; first | (refine isAl ?_; refine WPl.nw fun g3 => ?_) | (refine isBx ?_; refine WPl.nw fun g3 => ?_))
         | (refine isD 10 ?_; refine WPl.rdX (readP) ?_)
         | (refine isC 13 ?_; refine WPl.cV c13 ?_ (hΔ := provsM))
         | (refine isD 23 ?_; refine WPl.rdX (ReadR.lookOk (M := idM) (k := s.id) hwi rfl rfl memA hp1' hb1') ?_)
         | (refine isC 32 ?_; refine WPl.cV (c32) ?_)
         | (refine isD 33 ?_; refine WPl.rdX (ReadR.lookOk (M := drM) (k := s.door) hwd rfl rfl memA hg2 hb2) ?_)
         | (refine isOp ?_; first | refine WPl.rd ?_ | refine WPl.sk ?_ | refine WPl.rdB ?_)
         | (refine isBx ?_; refine WPl.nw fun g => ?_)
         | (refine isSt ?_; first | refine WPl.st1 ?_ | refine WPl.stA ?_ | refine WPl.stEB ?_ | refine WPl.stRB ?_)
         | (show WPl _ _ _ _ _ _ _ (⟨_, .indexAddr _ _ _, _, _, _, _⟩ :: _) _; refine WPl.rdX (ReadR.indexE rfl rfl hasA (by first | assumption | omega)) ?_)
         | (show WPl _ _ _ _ _ _ _ (⟨_, .fieldAddr _ _ _, _, _, _, _⟩ :: _) _; refine WPl.rdX (ReadR.fieldE rfl hasA (by first | assumption | omega)) ?_)
         | (show WPl _ _ _ _ _ _ _ (⟨_, .load _ _, _, _, _, _⟩ :: _) _; first | refine WPl.rdX (ReadR.loadE rfl hasA (by assumption)) ?_ | refine WPl.rdX (ReadR.loadES (by assumption) (by first | assumption | omega) rfl hasA) ?_)
         | (show WPl _ _ _ _ _ _ _ (⟨_, .slice _ _ _ _ _, _, _, _, _⟩ :: _) _; first | refine WPl.rdX (ReadR.sliceH rfl rfl hasA (by omega)) ?_ | refine WPl.rdX (ReadR.sliceL rfl rfl hasA (by omega)) ?_ | refine WPl.rdX (ReadR.sliceLH rfl rfl rfl hasA (by omega) (by omega)) ?_)
         | (refine WPl.spQ (fun hc => ?_) (fun hc => ?_) <;> try exact prA)
         | fail)
        exact WPq.dX (ho := ownsG) (vs := [.int .i64 7]) [bx gF 66 (fac mi md), mp idM mi (ies F.ps), mp drM md F.ds, gbag prow F.ps] ⟨F, rfl, h, rfl⟩
    · have h1 : findS L s.id = none := by cases hf : findS L s.id with | none => rfl | some y => exact (hth (.inl (by rw [hf]; rfl))).elim
      have h2 : doorS L s.door = none := by cases hf : doorS L s.door with | none => rfl | some y => exact (hth (.inr (by rw [hf]; rfl))).elim
      rw [h1] at hb1f
      rw [h2] at hb2f
      have hb1f : b1 = false := hb1f
      have hb2f : b2 = false := hb2f
      clear hp1 hb1
      subst hb1f hb2f
      by_cases h8 : 8 ≤ L.length
      · have hr : addS L s l.length = (L, 2) := by unfold addS; rw [if_pos hm, if_neg hth, if_pos h8]
        rw [hr]
        have hge : ((ies F.ps).length : Int) ≥ 8 := by omega
        refine Triple.enter Try.func8 rfl Try.ntmps8 rfl (fun W => ?_)
        dsimp only [argsF, Nat.reduceAdd]
        repeat' (first
         | refine WPl.nil ?_ | refine WPq.then ?_ | refine WPq.thenR ?_ | refine WPq.thenE ?_ | refine WPq.blockN ?_ | refine WPq.blockR ?_ | refine WPq.blockE ?_ | refine WPq.blockO rfl ?_ | refine WPc.seq ?_ | refine WPc.block ?_ | refine WPc.ret ?_ | refine WPc.exit ?_ | refine WPc.skip ?_ | refine WPc.region ?_
         | (refine isReg 3 ?_; refine WPc.drA [([], [21, 22]), ([0], [17, 21, 22]), ([0, 1], [17, 18, 21, 22]), ([0, 1, 2], [17, 18, 19, 21, 22]), ([], [17, 18, 19, 20]), ([4], [17, 18, 19, 20, 21]), ([0, 1, 2, 3, 4, 5], [17, 18, 19, 20, 21, 22]), ([0, 1, 2, 3, 4, 5, 6], [17, 18, 19, 20, 21, 22, 23]), ([0, 1, 2, 3, 4, 5, 6, 7], [16, 17, 18, 19, 20, 21, 22, 23, 25]), ([0, 1, 2, 3, 4, 5, 6, 7], [5, 16, 17, 18, 19, 20, 21, 22, 23, 24]), ([0, 1, 2, 3, 4, 5, 6, 7, 8], [16, 17, 18, 19, 20, 21, 22, 23, 24, 25]), ([0, 1, 2, 3, 4, 5, 6, 7, 8, 9, 10], [5, 16, 17, 18, 19, 20, 21, 22, 23, 24, 25])] [] (Γx := []) ?_; dsimp only [prev0, List.length_nil, List.length_cons])
         | (refine isReg 4 ?_; refine WPc.drA [([], [31, 32]), ([0], [27, 31, 32]), ([0, 1], [27, 28, 31, 32]), ([0, 1, 2], [27, 28, 29, 31, 32]), ([], [27, 28, 29, 30]), ([4], [27, 28, 29, 30, 31]), ([0, 1, 2, 3, 4, 5], [27, 28, 29, 30, 31, 32]), ([0, 1, 2, 3, 4, 5, 6], [27, 28, 29, 30, 31, 32, 33]), ([0, 1, 2, 3, 4, 5, 6, 7], [26, 27, 28, 29, 30, 31, 32, 33, 35]), ([0, 1, 2, 3, 4, 5, 6, 7], [7, 26, 27, 28, 29, 30, 31, 32, 33, 34]), ([0, 1, 2, 3, 4, 5, 6, 7, 8], [26, 27, 28, 29, 30, 31, 32, 33, 34, 35]), ([0, 1, 2, 3, 4, 5, 6, 7, 8, 9, 10], [7, 26, 27, 28, 29, 30, 31, 32, 33, 34, 35])] [] (Γx := []) ?_; dsimp only [prev0, List.length_nil, List.length_cons])
         | (refine gAny ?_; first | (refine gC 32 ?_; refine RGl.vl (fun e hk => OpT.callN (c32)) ?_) | (refine gD 10 ?_; refine RGl.rdX (fun e hk => by (try dsimp only [bndR, ensR, oksR, fcutR, List.append_nil, List.nil_append, List.cons_append, List.append_assoc] at hk ⊢); exact readP) ?_) | (refine gD 23 ?_; refine RGl.rdX (fun e hk => by (try dsimp only [bndR, ensR, oksR, fcutR, List.append_nil, List.nil_append, List.cons_append, List.append_assoc] at hk ⊢); exact ReadR.lookOk (M := idM) (k := s.id) hwi rfl rfl memA hp1' hb1') ?_) | (refine gD 33 ?_; refine RGl.rdX (fun e hk => by (try dsimp only [bndR, ensR, oksR, fcutR, List.append_nil, List.nil_append, List.cons_append, List.append_assoc] at hk ⊢); exact ReadR.lookOk (M := drM) (k := s.door) hwd rfl rfl memA hg2 hb2) ?_) | (refine gD 46 ?_; refine RGl.rdX (fun e hk => by (try dsimp only [bndR, ensR, oksR, fcutR, List.append_nil, List.nil_append, List.cons_append, List.append_assoc] at hk ⊢); exact ReadR.mlen rfl memA) ?_) | (refine gD 47 ?_; refine RGl.rdX (fun e hk => by (try dsimp only [bndR, ensR, oksR, fcutR, List.append_nil, List.nil_append, List.cons_append, List.append_assoc] at hk ⊢); exact ReadR.binE rfl rfl BinR.geq (congrArg Value.bool (decide_eq_true hge))) ?_) | (refine gOp ?_; first | refine RGl.rdA ?_ | refine RGl.rdX (fun e hk => by (try dsimp only [bndR, ensR, oksR, fcutR, List.append_nil, List.nil_append, List.cons_append, List.append_assoc] at hk ⊢); exact readB) ?_) | (refine RGl.fin (fun e hk => ?_); (try dsimp only [bndA, ensAR, oksA, List.append_nil, List.nil_append, List.cons_append, List.append_assoc] at hk ⊢); (repeat (obtain ⟨hk1, hk⟩ := hk))) | fail)
         | (refine isCond ?_; first | refine WPc.cT ?_ | refine WPc.cF ?_ | (refine WPc.cQ (fun hc => ?_) (fun hc => ?_) <;> try exact prA))
         | (refine isD 3 ?_; first | (refine isAl ?_; refine WPl.nw fun g3 => ?_) | (refine isBx ?_; refine WPl.nw fun g3 => ?_))
         | (refine isD 10 ?_; refine WPl.rdX (readP) ?_)
         | (refine isC 13 ?_; refine WPl.cV c13 ?_ (hΔ := provsM))
         | (refine isD 23 ?_; refine WPl.rdX (ReadR.lookOk (M := idM) (k := s.id) hwi rfl rfl memA hp1' hb1') ?_)
         | (refine isC 32 ?_; refine WPl.cV (c32) ?_)
         | (refine isD 33 ?_; refine WPl.rdX (ReadR.lookOk (M := drM) (k := s.door) hwd rfl rfl memA hg2 hb2) ?_)
         | (refine isD 46 ?_; refine WPl.rdX (ReadR.mlen rfl memA) ?_)
         | (refine isD 47 ?_; refine WPl.rdX (ReadR.binE rfl rfl BinR.geq (congrArg Value.bool (decide_eq_true hge))) ?_)
         | (refine isOp ?_; first | refine WPl.rd ?_ | refine WPl.sk ?_ | refine WPl.rdB ?_)
         | (refine isBx ?_; refine WPl.nw fun g => ?_)
         | (refine isSt ?_; first | refine WPl.st1 ?_ | refine WPl.stA ?_ | refine WPl.stEB ?_ | refine WPl.stRB ?_)
         | (show WPl _ _ _ _ _ _ _ (⟨_, .indexAddr _ _ _, _, _, _, _⟩ :: _) _; refine WPl.rdX (ReadR.indexE rfl rfl hasA (by first | assumption | omega)) ?_)
         | (show WPl _ _ _ _ _ _ _ (⟨_, .fieldAddr _ _ _, _, _, _, _⟩ :: _) _; refine WPl.rdX (ReadR.fieldE rfl hasA (by first | assumption | omega)) ?_)
         | (show WPl _ _ _ _ _ _ _ (⟨_, .load _ _, _, _, _, _⟩ :: _) _; first | refine WPl.rdX (ReadR.loadE rfl hasA (by assumption)) ?_ | refine WPl.rdX (ReadR.loadES (by assumption) (by first | assumption | omega) rfl hasA) ?_)
         | (show WPl _ _ _ _ _ _ _ (⟨_, .slice _ _ _ _ _, _, _, _, _⟩ :: _) _; first | refine WPl.rdX (ReadR.sliceH rfl rfl hasA (by omega)) ?_ | refine WPl.rdX (ReadR.sliceL rfl rfl hasA (by omega)) ?_ | refine WPl.rdX (ReadR.sliceLH rfl rfl rfl hasA (by omega) (by omega)) ?_)
         | (refine WPl.spQ (fun hc => ?_) (fun hc => ?_) <;> try exact prA)
         | fail)
        exact WPq.dX (ho := ownsG) (vs := [.int .i64 2]) [bx gF 66 (fac mi md), mp idM mi (ies F.ps), mp drM md F.ds, gbag prow F.ps] ⟨F, rfl, h, rfl⟩
      · have hr : addS L s l.length = (insS L ⟨s, []⟩, 0) := by unfold addS; rw [if_pos hm, if_neg hth, if_neg h8]
        rw [hr]
        have hge : ¬ ((ies F.ps).length : Int) ≥ 8 := by omega
        have hpi := fun g => PInv.ins (g := g) h hw hm h1 h2 (by omega)
        have c60 := gof_t s (.slice none 0 0) rfl
        refine Triple.enter Try.func8 rfl Try.ntmps8 rfl (fun W => ?_)
        dsimp only [argsF, Nat.reduceAdd]
        refine WPc.nilRowN 36 21 ?_
        repeat' (first
         | refine WPl.nil ?_ | refine WPq.then ?_ | refine WPq.thenR ?_ | refine WPq.thenE ?_ | refine WPq.blockN ?_ | refine WPq.blockR ?_ | refine WPq.blockE ?_ | refine WPq.blockO rfl ?_ | refine WPc.seq ?_ | refine WPc.block ?_ | refine WPc.ret ?_ | refine WPc.exit ?_ | refine WPc.skip ?_ | refine WPc.region ?_
         | (refine isReg 3 ?_; refine WPc.drA [([], [21, 22]), ([0], [17, 21, 22]), ([0, 1], [17, 18, 21, 22]), ([0, 1, 2], [17, 18, 19, 21, 22]), ([], [17, 18, 19, 20]), ([4], [17, 18, 19, 20, 21]), ([0, 1, 2, 3, 4, 5], [17, 18, 19, 20, 21, 22]), ([0, 1, 2, 3, 4, 5, 6], [17, 18, 19, 20, 21, 22, 23]), ([0, 1, 2, 3, 4, 5, 6, 7], [16, 17, 18, 19, 20, 21, 22, 23, 25]), ([0, 1, 2, 3, 4, 5, 6, 7], [5, 16, 17, 18, 19, 20, 21, 22, 23, 24]), ([0, 1, 2, 3, 4, 5, 6, 7, 8], [16, 17, 18, 19, 20, 21, 22, 23, 24, 25]), ([0, 1, 2, 3, 4, 5, 6, 7, 8, 9, 10], [5, 16, 17, 18, 19, 20, 21, 22, 23, 24, 25])] [] (Γx := []) ?_; dsimp only [prev0, List.length_nil, List.length_cons])
         | (refine isReg 4 ?_; refine WPc.drA [([], [31, 32]), ([0], [27, 31, 32]), ([0, 1], [27, 28, 31, 32]), ([0, 1, 2], [27, 28, 29, 31, 32]), ([], [27, 28, 29, 30]), ([4], [27, 28, 29, 30, 31]), ([0, 1, 2, 3, 4, 5], [27, 28, 29, 30, 31, 32]), ([0, 1, 2, 3, 4, 5, 6], [27, 28, 29, 30, 31, 32, 33]), ([0, 1, 2, 3, 4, 5, 6, 7], [26, 27, 28, 29, 30, 31, 32, 33, 35]), ([0, 1, 2, 3, 4, 5, 6, 7], [7, 26, 27, 28, 29, 30, 31, 32, 33, 34]), ([0, 1, 2, 3, 4, 5, 6, 7, 8], [26, 27, 28, 29, 30, 31, 32, 33, 34, 35]), ([0, 1, 2, 3, 4, 5, 6, 7, 8, 9, 10], [7, 26, 27, 28, 29, 30, 31, 32, 33, 34, 35])] [] (Γx := []) ?_; dsimp only [prev0, List.length_nil, List.length_cons])
         | (refine isReg 10 ?_; refine WPc.drA [([20, 21], [53, 54, 55, 56, 57, 58, 59, 60, 61, 62]), ([0, 20, 21], [49, 53, 54, 55, 56, 57, 58, 59, 60, 61, 62]), ([0, 1, 20, 21], [49, 50, 53, 54, 55, 56, 57, 58, 59, 60, 61, 62]), ([0, 1, 2, 20, 21], [49, 50, 51, 53, 54, 55, 56, 57, 58, 59, 60, 61, 62]), ([20, 21], [49, 50, 51, 52, 55, 56, 57, 58, 59, 60, 61, 62]), ([4, 20, 21], [49, 50, 51, 52, 53, 55, 56, 57, 58, 59, 60, 61, 62]), ([20, 21], [49, 50, 51, 52, 53, 54, 59, 60, 61, 62]), ([6, 20, 21], [49, 50, 51, 52, 53, 54, 55, 59, 60, 61, 62]), ([6, 7, 20, 21], [49, 50, 51, 52, 53, 54, 55, 56, 59, 60, 61, 62]), ([6, 7, 8, 20, 21], [49, 50, 51, 52, 53, 54, 55, 56, 57, 59, 60, 61, 62]), ([20, 21], [49, 50, 51, 52, 53, 54, 55, 56, 57, 58, 61, 62]), ([10, 20, 21], [49, 50, 51, 52, 53, 54, 55, 56, 57, 58, 59, 61, 62]), ([20, 21], [49, 50, 51, 52, 53, 54, 55, 56, 57, 58, 59, 60]), ([12, 20, 21], [49, 50, 51, 52, 53, 54, 55, 56, 57, 58, 59, 60, 61]), ([0, 1, 2, 3, 4, 5, 6, 7, 8, 9, 10, 11, 12, 13, 20, 21], [49, 50, 51, 52, 53, 54, 55, 56, 57, 58, 59, 60, 61, 62]), ([0, 1, 2, 3, 4, 5, 6, 7, 8, 9, 10, 11, 12, 13, 14, 20, 21], [49, 50, 51, 52, 53, 54, 55, 56, 57, 58, 59, 60, 61, 62, 63]), ([0, 1, 2, 3, 4, 5, 6, 7, 8, 9, 10, 11, 12, 13, 14, 15, 20, 21], [49, 50, 51, 52, 53, 54, 55, 56, 57, 58, 59, 60, 61, 62, 63, 64]), ([0, 1, 2, 3, 4, 5, 6, 7, 8, 9, 10, 11, 12, 13, 14, 15, 16, 20, 21], [49, 50, 51, 52, 53, 54, 55, 56, 57, 58, 59, 60, 61, 62, 63, 64]), ([0, 1, 2, 3, 4, 5, 6, 7, 8, 9, 10, 11, 12, 13, 14, 15, 16, 17, 20, 21], [49, 50, 51, 52, 53, 54, 55, 56, 57, 58, 59, 60, 61, 62, 63, 64, 65]), ([0, 1, 2, 3, 4, 5, 6, 7, 8, 9, 10, 11, 12, 13, 14, 15, 16, 17, 18, 20, 21], [49, 50, 51, 52, 53, 54, 55, 56, 57, 58, 59, 60, 61, 62, 63, 64, 65, 66])] [(20, 14), (14, 16), (21, 17), (17, 19), (20, 0), (20, 1), (20, 2), (20, 3), (20, 4), (20, 5), (20, 6), (20, 7), (20, 8), (20, 9), (20, 10), (20, 11), (20, 12), (20, 13), (14, 15), (21, 0), (21, 1), (21, 2), (21, 3), (21, 4), (21, 5), (21, 6), (21, 7), (21, 8), (21, 9), (21, 10), (21, 11), (21, 12), (21, 13), (21, 14), (21, 15), (21, 16), (17, 18)] (Γx := [mp idM mi (ies F.ps), mp drM md F.ds]) (hox := ownsA) ?_; dsimp only [prev0, List.length_nil, List.length_cons])
         | (refine gAny ?_; first | (refine gC 32 ?_; refine RGl.vl (fun e hk => OpT.callN (c32)) ?_) | (refine gC 60 ?_; refine RGl.vl (fun e hk => OpT.callN (c60)) ?_) | (refine gD 10 ?_; refine RGl.rdX (fun e hk => by (try dsimp only [bndR, ensR, oksR, fcutR, List.append_nil, List.nil_append, List.cons_append, List.append_assoc] at hk ⊢); exact readP) ?_) | (refine gD 23 ?_; refine RGl.rdX (fun e hk => by (try dsimp only [bndR, ensR, oksR, fcutR, List.append_nil, List.nil_append, List.cons_append, List.append_assoc] at hk ⊢); exact ReadR.lookOk (M := idM) (k := s.id) hwi rfl rfl memA hp1' hb1') ?_) | (refine gD 33 ?_; refine RGl.rdX (fun e hk => by (try dsimp only [bndR, ensR, oksR, fcutR, List.append_nil, List.nil_append, List.cons_append, List.append_assoc] at hk ⊢); exact ReadR.lookOk (M := drM) (k := s.door) hwd rfl rfl memA hg2 hb2) ?_) | (refine gD 46 ?_; refine RGl.rdX (fun e hk => by (try dsimp only [bndR, ensR, oksR, fcutR, List.append_nil, List.nil_append, List.cons_append, List.append_assoc] at hk ⊢); exact ReadR.mlen rfl memA) ?_) | (refine gD 47 ?_; refine RGl.rdX (fun e hk => by (try dsimp only [bndR, ensR, oksR, fcutR, List.append_nil, List.nil_append, List.cons_append, List.append_assoc] at hk ⊢); exact ReadR.binE rfl rfl BinR.geq (congrArg Value.bool (decide_eq_false hge))) ?_) | (refine gOp ?_; refine RGl.mapE (gm := mi) (lm := ies F.ps) (km := s.id) (A := fun _ => mp idM mi (ies F.ps)) (fun e hk => by (try dsimp only [bndR, ensR, oksR, fcutR, List.append_nil, List.nil_append, List.cons_append, List.append_assoc] at hk ⊢); exact OpT.mapEntry hwi rfl rfl takesA) ?_) | (refine gOp ?_; refine RGl.mapE (gm := md) (lm := F.ds) (km := s.door) (A := fun _ => mp drM md (F.ds)) (fun e hk => by (try dsimp only [bndR, ensR, oksR, fcutR, List.append_nil, List.nil_append, List.cons_append, List.append_assoc] at hk ⊢); exact OpT.mapEntry hwd rfl rfl takesA) ?_) | (refine gOp ?_; refine RGl.turn (fun e hk => by (try dsimp only [bndR, ensR, oksR, fcutR, List.append_nil, List.nil_append, List.cons_append, List.append_assoc] at hk ⊢); exact OpT.entryStore (M := idM) (v := some g3) rfl rfl rfl takesA) ?_) | (refine gOp ?_; refine RGl.turn (fun e hk => by (try dsimp only [bndR, ensR, oksR, fcutR, List.append_nil, List.nil_append, List.cons_append, List.append_assoc] at hk ⊢); exact OpT.entryStore (M := drM) (v := s.id) rfl rfl rfl takesA) ?_) | (refine gOp ?_; first | refine RGl.rdA ?_ | refine RGl.rdX (fun e hk => by (try dsimp only [bndR, ensR, oksR, fcutR, List.append_nil, List.nil_append, List.cons_append, List.append_assoc] at hk ⊢); exact readB) ?_) | (refine RGl.fin (fun e hk => ?_); (try dsimp only [bndA, ensAR, oksA, List.append_nil, List.nil_append, List.cons_append, List.append_assoc] at hk ⊢); (repeat (obtain ⟨hk1, hk⟩ := hk))) | fail)
         | (refine isCond ?_; first | refine WPc.cT ?_ | refine WPc.cF ?_ | (refine WPc.cQ (fun hc => ?_) (fun hc => ?_) <;> try exact prA))
         | (refine isD 3 ?_; first | (refine isAl ?_; refine WPl.nw fun g3 => ?_) | (refine isBx ?_; refine WPl.nw fun g3 => ?_))
         | (refine isD 10 ?_; refine WPl.rdX (readP) ?_)
         | (refine isC 13 ?_; refine WPl.cV c13 ?_ (hΔ := provsM))
         | (refine isD 23 ?_; refine WPl.rdX (ReadR.lookOk (M := idM) (k := s.id) hwi rfl rfl memA hp1' hb1') ?_)
         | (refine isC 32 ?_; refine WPl.cV (c32) ?_)
         | (refine isD 33 ?_; refine WPl.rdX (ReadR.lookOk (M := drM) (k := s.door) hwd rfl rfl memA hg2 hb2) ?_)
         | (refine isD 46 ?_; refine WPl.rdX (ReadR.mlen rfl memA) ?_)
         | (refine isD 47 ?_; refine WPl.rdX (ReadR.binE rfl rfl BinR.geq (congrArg Value.bool (decide_eq_false hge))) ?_)
         | (refine isC 60 ?_; refine WPl.cV (c60) ?_)
         | (refine isOp ?_; first | refine WPl.rd ?_ | refine WPl.sk ?_ | refine WPl.rdB ?_)
         | (refine isBx ?_; refine WPl.nw fun g => ?_)
         | (refine isSt ?_; first | refine WPl.st1 ?_ | refine WPl.stA ?_ | refine WPl.stEB ?_ | refine WPl.stRB ?_)
         | (show WPl _ _ _ _ _ _ _ (⟨_, .indexAddr _ _ _, _, _, _, _⟩ :: _) _; refine WPl.rdX (ReadR.indexE rfl rfl hasA (by first | assumption | omega)) ?_)
         | (show WPl _ _ _ _ _ _ _ (⟨_, .fieldAddr _ _ _, _, _, _, _⟩ :: _) _; refine WPl.rdX (ReadR.fieldE rfl hasA (by first | assumption | omega)) ?_)
         | (show WPl _ _ _ _ _ _ _ (⟨_, .load _ _, _, _, _, _⟩ :: _) _; first | refine WPl.rdX (ReadR.loadE rfl hasA (by assumption)) ?_ | refine WPl.rdX (ReadR.loadES (by assumption) (by first | assumption | omega) rfl hasA) ?_)
         | (show WPl _ _ _ _ _ _ _ (⟨_, .slice _ _ _ _ _, _, _, _, _⟩ :: _) _; first | refine WPl.rdX (ReadR.sliceH rfl rfl hasA (by omega)) ?_ | refine WPl.rdX (ReadR.sliceL rfl rfl hasA (by omega)) ?_ | refine WPl.rdX (ReadR.sliceLH rfl rfl rfl hasA (by omega) (by omega)) ?_)
         | (refine WPl.spQ (fun hc => ?_) (fun hc => ?_) <;> try exact prA)
         | fail)
        obtain ⟨q1, q2, q3⟩ := hpi g3
        rw [mput_mput, mput_mput, q2, q3]
        refine WPq.gbagI (row := prow) (es := F.ps ++ [⟨g3, .slice none 0 0, s, []⟩]) (es' := F.ps) (x := ⟨g3, .slice none 0 0, s, []⟩) prow_own List.perm_append_comm (by show Takes _ [gbag prow F.ps, bx g3 33 (shC s (.slice none 0 0)), rowN 36 21 (.slice none 0 0) 0 (bks [])] _; rw [e0]; exact takesA) ?_
        exact WPq.dX (ho := ownsG) (vs := [.int .i64 0]) [bx gF 66 (fac mi md), mp idM mi (ies (F.ps ++ [⟨g3, .slice none 0 0, s, []⟩])), mp drM md (F.ds ++ [(s.door, s.id)]), gbag prow (F.ps ++ [⟨g3, .slice none 0 0, s, []⟩])] ⟨⟨_, _⟩, rfl, q1, rfl⟩
theorem gdrop0_t (h : PInv L F) (id : Int) (hw : in64 id) (hf : findS L id = none) : Triple Try.prog 11 #[hF gF, .int .i64 id] (fmA gF mi md F) (RFm gF mi md (.int .i64 6) L) := by
  obtain ⟨hget, hb⟩ := ies_get (h.no hf)
  have hget : idM.vc (mget idM (ies F.ps) id) = .pointer none := hget
  have hb : mhas (ies F.ps) id = false := hb
  refine Triple.enter Try.func11 rfl Try.ntmps11 rfl (fun W => ?_)
  dsimp only [argsF, Nat.reduceAdd]
  repeat' (first
   | refine WPl.nil ?_ | refine WPq.then ?_ | refine WPq.thenR ?_ | refine WPq.thenE ?_ | refine WPq.blockN ?_ | refine WPq.blockR ?_ | refine WPq.blockE ?_ | refine WPq.blockO rfl ?_ | refine WPc.seq ?_ | refine WPc.block ?_ | refine WPc.ret ?_ | refine WPc.exit ?_ | refine WPc.skip ?_ | refine WPc.region ?_
   | (refine isCond ?_; first | refine WPc.cT ?_ | refine WPc.cF ?_ | (refine WPc.cQ (fun hc => ?_) (fun hc => ?_) <;> try exact prA))
   | (refine isD 8 ?_; refine WPl.rdX (readP) ?_)
   | (refine isD 15 ?_; refine WPl.rdX (ReadR.lookOk (M := idM) (k := id) hw rfl rfl memA hget hb) ?_)
   | (refine isOp ?_; first | refine WPl.rd ?_ | refine WPl.sk ?_ | refine WPl.rdB ?_)
   | (show WPl _ _ _ _ _ _ _ (⟨_, .indexAddr _ _ _, _, _, _, _⟩ :: _) _; refine WPl.rdX (ReadR.indexE rfl rfl hasA (by first | assumption | omega)) ?_)
   | (show WPl _ _ _ _ _ _ _ (⟨_, .fieldAddr _ _ _, _, _, _, _⟩ :: _) _; refine WPl.rdX (ReadR.fieldE rfl hasA (by first | assumption | omega)) ?_)
   | (show WPl _ _ _ _ _ _ _ (⟨_, .load _ _, _, _, _, _⟩ :: _) _; first | refine WPl.rdX (ReadR.loadE rfl hasA (by assumption)) ?_ | refine WPl.rdX (ReadR.loadES (by assumption) (by first | assumption | omega) rfl hasA) ?_)
   | (show WPl _ _ _ _ _ _ _ (⟨_, .slice _ _ _ _ _, _, _, _, _⟩ :: _) _; first | refine WPl.rdX (ReadR.sliceH rfl rfl hasA (by omega)) ?_ | refine WPl.rdX (ReadR.sliceL rfl rfl hasA (by omega)) ?_ | refine WPl.rdX (ReadR.sliceLH rfl rfl rfl hasA (by omega) (by omega)) ?_)
   | (refine WPl.spQ (fun hc => ?_) (fun hc => ?_) <;> try exact prA)
   | fail)
  exact WPq.dX (ho := ownsG) (vs := [.int .i64 6]) [bx gF 66 (fac mi md), mp idM mi (ies F.ps), mp drM md F.ds, gbag prow F.ps] ⟨F, rfl, h, rfl⟩
theorem gdrop1_t (h : PInv L F) (id : Int) (hw : in64 id) (y : Sb) (hf : findS L id = some y) : Triple Try.prog 11 #[hF gF, .int .i64 id] (fmA gF mi md F) (RFm gF mi md (.int .i64 0) (L.filter fun x => !decide (x.s.id = id))) := by
  obtain ⟨A, B, x, hps, hxy, hxi, hm⟩ := h.at hf
  subst hxy
  subst hxi
  obtain ⟨hpi, hdel⟩ := h.del hps hf
  obtain ⟨hget, hb⟩ := ies_get hm
  have hget : idM.vc (mget idM (ies F.ps) x.s.id) = .pointer (some ⟨x.g, 0, none⟩) := hget
  have hb : mhas (ies F.ps) x.s.id = true := hb
  have hwf : idM.wf x.s.id := hw
  have hwd : drM.wf x.s.door := h.portr _ (findS_some hf).1
  have hxv : x.v.oneCell' = true := h.one x (by rw [hps]; exact List.mem_append_right _ (List.mem_cons_self ..))
  have c32 := gof_t x.s x.v hxv
  have hal := x.s.ad.len
  have hpp : F.ps.Perm (x :: (A ++ B)) := by rw [hps]; exact List.perm_middle
  refine Triple.enter Try.func11 rfl Try.ntmps11 rfl (fun W => ?_)
  dsimp only [argsF, Nat.reduceAdd]
  refine WPc.gbagO (row := prow) prow_own hpp ?_
  rw [show prow x = [bx x.g 33 (shC x.s x.v), rowN 36 21 x.v x.bs.length (bks x.bs)] from rfl, List.cons_append, List.cons_append, List.nil_append]
  repeat' (first
   | refine WPl.nil ?_ | refine WPq.then ?_ | refine WPq.thenR ?_ | refine WPq.thenE ?_ | refine WPq.blockN ?_ | refine WPq.blockR ?_ | refine WPq.blockE ?_ | refine WPq.blockO rfl ?_ | refine WPc.seq ?_ | refine WPc.block ?_ | refine WPc.ret ?_ | refine WPc.exit ?_ | refine WPc.skip ?_ | refine WPc.region ?_
   | (refine isReg 7 ?_; refine WPc.drA [([9], [29, 30, 31, 32]), ([0, 9], [25, 29, 30, 31, 32]), ([0, 1, 9], [25, 26, 29, 30, 31, 32]), ([0, 1, 2, 9], [25, 26, 27, 29, 30, 31, 32]), ([9], [25, 26, 27, 28]), ([4, 9], [25, 26, 27, 28, 29]), ([4, 5, 9], [25, 26, 27, 28, 29, 30]), ([4, 5, 6, 9], [25, 26, 27, 28, 29, 30, 31]), ([0, 1, 2, 3, 4, 5, 6, 7, 9], [25, 26, 27, 28, 29, 30, 31, 32])] [(9, 8), (9, 0), (9, 1), (9, 2), (9, 3), (9, 4), (9, 5), (9, 6), (9, 7)] (Γx := [mp drM md F.ds]) (hox := ownsA) ?_; dsimp only [prev0, List.length_nil, List.length_cons])
   | (refine gAny ?_; first | (refine gOp ?_; refine RGl.turn (fun e hk => by (try dsimp only [bndR, ensR, oksR, fcutR, List.append_nil, List.nil_append, List.cons_append, List.append_assoc] at hk ⊢); exact OpT.mdel (k := x.s.id) (hwf) rfl rfl takesA) ?_) | (refine gC 32 ?_; refine RGl.vl (fun e hk => OpT.callN (c32)) ?_) | (refine gD 8 ?_; refine RGl.rdX (fun e hk => by (try dsimp only [bndR, ensR, oksR, fcutR, List.append_nil, List.nil_append, List.cons_append, List.append_assoc] at hk ⊢); exact readP) ?_) | (refine gD 15 ?_; refine RGl.rdX (fun e hk => by (try dsimp only [bndR, ensR, oksR, fcutR, List.append_nil, List.nil_append, List.cons_append, List.append_assoc] at hk ⊢); exact ReadR.lookOk (M := idM) (k := x.s.id) hw rfl rfl memA hget hb) ?_) | (refine gOp ?_; (refine RGl.turn (fun e hk => by (try dsimp only [bndR, ensR, oksR, fcutR, List.append_nil, List.nil_append, List.cons_append, List.append_assoc] at hk ⊢); exact OpT.mdel (M := drM) (k := x.s.door) hwd rfl rfl takesA) ?_)) | (refine gOp ?_; first | refine RGl.rdA ?_ | refine RGl.rdX (fun e hk => by (try dsimp only [bndR, ensR, oksR, fcutR, List.append_nil, List.nil_append, List.cons_append, List.append_assoc] at hk ⊢); exact readB) ?_) | (refine RGl.fin (fun e hk => ?_); (try dsimp only [bndA, ensAR, oksA, List.append_nil, List.nil_append, List.cons_append, List.append_assoc] at hk ⊢); (repeat (obtain ⟨hk1, hk⟩ := hk))) | fail)
   | (refine isCond ?_; first | refine WPc.cT ?_ | refine WPc.cF ?_ | (refine WPc.cQ (fun hc => ?_) (fun hc => ?_) <;> try exact prA))
   | (refine isD 8 ?_; refine WPl.rdX (readP) ?_)
   | (refine isD 15 ?_; refine WPl.rdX (ReadR.lookOk (M := idM) (k := x.s.id) hw rfl rfl memA hget hb) ?_)
   | (refine WPl.mdel (x.s.id) (hwf) ?_)
   | (refine isC 32 ?_; refine WPl.cV (c32) ?_)
   | (refine isOp ?_; first | refine WPl.rd ?_ | refine WPl.sk ?_ | refine WPl.rdB ?_)
   | (show WPl _ _ _ _ _ _ _ (⟨_, .indexAddr _ _ _, _, _, _, _⟩ :: _) _; refine WPl.rdX (ReadR.indexE rfl rfl hasA (by first | assumption | omega)) ?_)
   | (show WPl _ _ _ _ _ _ _ (⟨_, .fieldAddr _ _ _, _, _, _, _⟩ :: _) _; refine WPl.rdX (ReadR.fieldE rfl hasA (by first | assumption | omega)) ?_)
   | (show WPl _ _ _ _ _ _ _ (⟨_, .load _ _, _, _, _, _⟩ :: _) _; first | refine WPl.rdX (ReadR.loadE rfl hasA (by assumption)) ?_ | refine WPl.rdX (ReadR.loadES (by assumption) (by first | assumption | omega) rfl hasA) ?_)
   | (show WPl _ _ _ _ _ _ _ (⟨_, .slice _ _ _ _ _, _, _, _, _⟩ :: _) _; first | refine WPl.rdX (ReadR.sliceH rfl rfl hasA (by omega)) ?_ | refine WPl.rdX (ReadR.sliceL rfl rfl hasA (by omega)) ?_ | refine WPl.rdX (ReadR.sliceLH rfl rfl rfl hasA (by omega) (by omega)) ?_)
   | (refine WPl.spQ (fun hc => ?_) (fun hc => ?_) <;> try exact prA)
   | fail)
  rw [hdel]
  exact WPq.dX (ho := ownsG) (vs := [.int .i64 0]) [bx gF 66 (fac mi md), mp idM mi (ies (A ++ B)), mp drM md (mdel F.ds x.s.door), gbag prow (A ++ B)] ⟨⟨A ++ B, mdel F.ds x.s.door⟩, rfl, hpi, rfl⟩
theorem bks_1 {l : List Bk} {i : Nat} {b b' : Bk} (h : l[i]? = some b) {o : Nat} {u : Value} (ho : o < 21) (hu : flat (bkC b') = (flat (bkC b)).set o u) : (bks l).set (i * 21 + o) u = bks (l.set i b') := by
  with_unfolding_all exact rows_set (f := fun b => flat (bkC b)) bkC_len hu ho h
theorem gdrain_t (h : PInv L F) (sid b : Int) (on : Bool) (hw : in64 sid) : Triple Try.prog 20 #[hF gF, .int .i64 sid, .int .i64 b, .bool on] (fmA gF mi md F) (RFm gF mi md (.int .i64 (turnS L sid b (setBy b fun k => { k with dr := on })).2) (turnS L sid b (setBy b fun k => { k with dr := on })).1) := by
  cases hf : findS L sid with
  | none =>
    have hr : turnS L sid b (setBy b fun k => { k with dr := on }) = (L, 6) := by unfold turnS; rw [hf]
    rw [hr]
    have c16 := gfind0_t gF mi md L F h sid b hw hf
    refine Triple.enter Try.func20 rfl Try.ntmps20 rfl (fun W => ?_)
    dsimp only [argsF, Nat.reduceAdd]
    repeat' (first
     | refine WPl.nil ?_ | refine WPq.then ?_ | refine WPq.thenR ?_ | refine WPq.thenE ?_ | refine WPq.blockN ?_ | refine WPq.blockR ?_ | refine WPq.blockE ?_ | refine WPq.blockO rfl ?_ | refine WPc.seq ?_ | refine WPc.block ?_ | refine WPc.ret ?_ | refine WPc.exit ?_ | refine WPc.skip ?_ | refine WPc.region ?_
     | (refine isCond ?_; first | refine WPc.cT ?_ | refine WPc.cF ?_ | (refine WPc.cQ (fun hc => ?_) (fun hc => ?_) <;> try exact prA))
     | (refine isC 16 ?_; refine WPl.cV c16 ?_ (hΔ := provsM))
     | (refine isD 21 ?_; refine WPl.rdX (ReadR.binE rfl rfl BinR.eql (congrArg Value.bool (decide_eq_false (show ¬ (6 : Int) = 0 by omega)))) ?_)
     | (refine isOp ?_; first | refine WPl.rd ?_ | refine WPl.sk ?_ | refine WPl.rdB ?_)
     | (refine isSt ?_; first | refine WPl.st1 ?_ | refine WPl.stA ?_ | refine WPl.stEB ?_ | refine WPl.stRB ?_)
     | (show WPl _ _ _ _ _ _ _ (⟨_, .indexAddr _ _ _, _, _, _, _⟩ :: _) _; refine WPl.rdX (ReadR.indexE rfl rfl hasA (by first | assumption | omega)) ?_)
     | (show WPl _ _ _ _ _ _ _ (⟨_, .fieldAddr _ _ _, _, _, _, _⟩ :: _) _; refine WPl.rdX (ReadR.fieldE rfl hasA (by first | assumption | omega)) ?_)
     | (show WPl _ _ _ _ _ _ _ (⟨_, .load _ _, _, _, _, _⟩ :: _) _; first | refine WPl.rdX (ReadR.loadE rfl hasA (by assumption)) ?_ | refine WPl.rdX (ReadR.loadES (by assumption) (by first | assumption | omega) rfl hasA) ?_)
     | (show WPl _ _ _ _ _ _ _ (⟨_, .slice _ _ _ _ _, _, _, _, _⟩ :: _) _; first | refine WPl.rdX (ReadR.sliceH rfl rfl hasA (by omega)) ?_ | refine WPl.rdX (ReadR.sliceL rfl rfl hasA (by omega)) ?_ | refine WPl.rdX (ReadR.sliceLH rfl rfl rfl hasA (by omega) (by omega)) ?_)
     | (refine WPl.spQ (fun hc => ?_) (fun hc => ?_) <;> try exact prA)
     | fail)
    exact WPq.dX (ho := ownsG) (vs := [.int .i64 6]) [bx gF 66 (fac mi md), mp idM mi (ies F.ps), mp drM md F.ds, gbag prow F.ps] ⟨F, rfl, h, rfl⟩
  | some y =>
    obtain ⟨A, B, x, hps, hxy, hxi, hm⟩ := h.at hf
    subst hxy
    subst hxi
    have hxL := (findS_some hf).1
    have hsx : SrtB x.bs := h.bsrt _ hxL
    have hlx : x.bs.length ≤ 16 := h.blen _ hxL
    have hxv : x.v.oneCell' = true := h.one x (by rw [hps]; exact List.mem_append_right _ (List.mem_cons_self ..))
    have hal := x.s.ad.len
    have hpp : F.ps.Perm (x :: (A ++ B)) := by rw [hps]; exact List.perm_middle
    have hL := bks_len (l := x.bs)
    have c16 := gfind1_t gF mi md F x.s.id b hw x hm hsx hlx
    cases hh : hasB x.bs b with
    | false =>
      have hr : turnS L x.s.id b (setBy b fun k => { k with dr := on }) = (L, 6) := by unfold turnS; rw [hf]; dsimp only; rw [if_neg (by rw [hh]; simp)]
      rw [hr]
      rw [if_neg (by rw [hh]; simp)] at c16
      refine Triple.enter Try.func20 rfl Try.ntmps20 rfl (fun W => ?_)
      dsimp only [argsF, Nat.reduceAdd]
      refine WPc.gbagO (row := prow) prow_own hpp ?_
      rw [show prow x = [bx x.g 33 (shC x.s x.v), rowN 36 21 x.v x.bs.length (bks x.bs)] from rfl, List.cons_append, List.cons_append, List.nil_append]
      repeat' (first
       | refine WPl.nil ?_ | refine WPq.then ?_ | refine WPq.thenR ?_ | refine WPq.thenE ?_ | refine WPq.blockN ?_ | refine WPq.blockR ?_ | refine WPq.blockE ?_ | refine WPq.blockO rfl ?_ | refine WPc.seq ?_ | refine WPc.block ?_ | refine WPc.ret ?_ | refine WPc.exit ?_ | refine WPc.skip ?_ | refine WPc.region ?_
       | (refine isCond ?_; first | refine WPc.cT ?_ | refine WPc.cF ?_ | (refine WPc.cQ (fun hc => ?_) (fun hc => ?_) <;> try exact prA))
       | (refine isC 16 ?_; refine WPl.cV c16 ?_ (hΔ := provsM))
       | (refine isD 21 ?_; refine WPl.rdX (ReadR.binE rfl rfl BinR.eql (congrArg Value.bool (decide_eq_false (show ¬ (6 : Int) = 0 by omega)))) ?_)
       | (refine isOp ?_; first | refine WPl.rd ?_ | refine WPl.sk ?_ | refine WPl.rdB ?_)
       | (refine isSt ?_; first | refine WPl.st1 ?_ | refine WPl.stA ?_ | refine WPl.stEB ?_ | refine WPl.stRB ?_)
       | (show WPl _ _ _ _ _ _ _ (⟨_, .indexAddr _ _ _, _, _, _, _⟩ :: _) _; refine WPl.rdX (ReadR.indexE rfl rfl hasA (by first | assumption | omega)) ?_)
       | (show WPl _ _ _ _ _ _ _ (⟨_, .fieldAddr _ _ _, _, _, _, _⟩ :: _) _; refine WPl.rdX (ReadR.fieldE rfl hasA (by first | assumption | omega)) ?_)
       | (show WPl _ _ _ _ _ _ _ (⟨_, .load _ _, _, _, _, _⟩ :: _) _; first | refine WPl.rdX (ReadR.loadE rfl hasA (by assumption)) ?_ | refine WPl.rdX (ReadR.loadES (by assumption) (by first | assumption | omega) rfl hasA) ?_)
       | (show WPl _ _ _ _ _ _ _ (⟨_, .slice _ _ _ _ _, _, _, _, _⟩ :: _) _; first | refine WPl.rdX (ReadR.sliceH rfl rfl hasA (by omega)) ?_ | refine WPl.rdX (ReadR.sliceL rfl rfl hasA (by omega)) ?_ | refine WPl.rdX (ReadR.sliceLH rfl rfl rfl hasA (by omega) (by omega)) ?_)
       | (refine WPl.spQ (fun hc => ?_) (fun hc => ?_) <;> try exact prA)
       | fail)
      refine WPq.gbagI (row := prow) (es := F.ps) (es' := A ++ B) (x := x) prow_own hpp (by show Takes _ [gbag prow (A ++ B), bx x.g 33 (shC x.s x.v), rowN 36 21 x.v x.bs.length (bks x.bs)] _; exact takesA) ?_
      exact WPq.dX (ho := ownsG) (vs := [.int .i64 6]) [bx gF 66 (fac mi md), mp idM mi (ies F.ps), mp drM md F.ds, gbag prow F.ps] ⟨F, rfl, h, rfl⟩
    | true =>
      rw [if_pos hh] at c16
      obtain ⟨z, hz, hzi⟩ := has_lb hsx hh
      subst hzi
      have hzl := (List.getElem?_eq_some_iff.1 hz).1
      have hr : turnS L x.s.id z.id (setBy z.id fun k => { k with dr := on }) = (updB L x.s.id (setBy z.id fun k => { k with dr := on }), 0) := by unfold turnS; rw [hf]; dsimp only; rw [if_pos hh]
      rw [hr]
      have hset := set_setBy hsx hz (fun k => { k with dr := on })
      have hs := bks_1 (b' := { z with dr := on }) (o := 20) (u := .bool on) hz (by omega) (by simp [flat_eq, z.ad.len, u8s_length])
      obtain ⟨hpi, hie⟩ := h.upd hps hf (f := setBy z.id fun k => { k with dr := on }) hxv (setBy_srt hsx fun k => rfl) (by rw [setBy_len]; exact hlx)
      refine Triple.enter Try.func20 rfl Try.ntmps20 rfl (fun W => ?_)
      dsimp only [argsF, Nat.reduceAdd]
      refine WPc.gbagO (row := prow) prow_own hpp ?_
      rw [show prow x = [bx x.g 33 (shC x.s x.v), rowN 36 21 x.v x.bs.length (bks x.bs)] from rfl, List.cons_append, List.cons_append, List.nil_append]
      repeat' (first
       | refine WPl.nil ?_ | refine WPq.then ?_ | refine WPq.thenR ?_ | refine WPq.thenE ?_ | refine WPq.blockN ?_ | refine WPq.blockR ?_ | refine WPq.blockE ?_ | refine WPq.blockO rfl ?_ | refine WPc.seq ?_ | refine WPc.block ?_ | refine WPc.ret ?_ | refine WPc.exit ?_ | refine WPc.skip ?_ | refine WPc.region ?_
       | (refine isCond ?_; first | refine WPc.cT ?_ | refine WPc.cF ?_ | (refine WPc.cQ (fun hc => ?_) (fun hc => ?_) <;> try exact prA))
       | (refine isC 16 ?_; refine WPl.cV c16 ?_ (hΔ := provsM))
       | (refine isD 21 ?_; refine WPl.rdX (ReadR.binE rfl rfl BinR.eql (congrArg Value.bool (decide_eq_true (rfl : (0 : Int) = 0)))) ?_)
       | (refine isD 28 ?_; refine WPl.rdX (ReadR.indexE (i := lbB x.bs z.id) rfl rfl hasA hzl) ?_)
       | (refine isD 29 ?_; refine WPl.rdX (ReadR.fieldE rfl hasA (by omega)) ?_)
       | (show WPl _ _ _ _ _ _ _ (⟨_, .store _ (.tmp 29) _, _, _, _, _⟩ :: _) _; refine WPl.stEN (i := lbB x.bs z.id * 21 + 20) (m := x.bs.length) (xs := bks x.bs) (by omega) ?_)
       | (refine isOp ?_; first | refine WPl.rd ?_ | refine WPl.sk ?_ | refine WPl.rdB ?_)
       | (refine isSt ?_; first | refine WPl.st1 ?_ | refine WPl.stA ?_ | refine WPl.stEB ?_ | refine WPl.stRB ?_)
       | (show WPl _ _ _ _ _ _ _ (⟨_, .indexAddr _ _ _, _, _, _, _⟩ :: _) _; refine WPl.rdX (ReadR.indexE rfl rfl hasA (by first | assumption | omega)) ?_)
       | (show WPl _ _ _ _ _ _ _ (⟨_, .fieldAddr _ _ _, _, _, _, _⟩ :: _) _; refine WPl.rdX (ReadR.fieldE rfl hasA (by first | assumption | omega)) ?_)
       | (show WPl _ _ _ _ _ _ _ (⟨_, .load _ _, _, _, _, _⟩ :: _) _; first | refine WPl.rdX (ReadR.loadE rfl hasA (by assumption)) ?_ | refine WPl.rdX (ReadR.loadES (by assumption) (by first | assumption | omega) rfl hasA) ?_)
       | (show WPl _ _ _ _ _ _ _ (⟨_, .slice _ _ _ _ _, _, _, _, _⟩ :: _) _; first | refine WPl.rdX (ReadR.sliceH rfl rfl hasA (by omega)) ?_ | refine WPl.rdX (ReadR.sliceL rfl rfl hasA (by omega)) ?_ | refine WPl.rdX (ReadR.sliceLH rfl rfl rfl hasA (by omega) (by omega)) ?_)
       | (refine WPl.spQ (fun hc => ?_) (fun hc => ?_) <;> try exact prA)
       | fail)
      rw [hs, hset, ← hie]
      obtain ⟨bs', hbs'⟩ : ∃ bs', bs' = setBy z.id (fun k => { k with dr := on }) x.bs := ⟨_, rfl⟩
      rw [← hbs'] at hpi ⊢
      have hlb' : bs'.length = x.bs.length := by rw [hbs', setBy_len]
      rw [← hlb']
      refine WPq.gbagI (row := prow) (es := A ++ ⟨x.g, x.v, x.s, bs'⟩ :: B) (es' := A ++ B) (x := ⟨x.g, x.v, x.s, bs'⟩) prow_own List.perm_middle (by show Takes _ [gbag prow (A ++ B), bx x.g 33 (shC x.s x.v), rowN 36 21 x.v bs'.length (bks bs')] _; exact takesA) ?_
      exact WPq.dX (ho := ownsG) (vs := [.int .i64 0]) [bx gF 66 (fac mi md), mp idM mi (ies (A ++ ⟨x.g, x.v, x.s, bs'⟩ :: B)), mp drM md F.ds, gbag prow (A ++ ⟨x.g, x.v, x.s, bs'⟩ :: B)] ⟨⟨_, _⟩, rfl, hpi, rfl⟩
theorem gweigh_t (h : PInv L F) (sid b n : Int) (hw : in64 sid) : Triple Try.prog 21 #[hF gF, .int .i64 sid, .int .i64 b, .int .i64 n] (fmA gF mi md F) (RFm gF mi md (.int .i64 (weighS L sid b n).2) (weighS L sid b n).1) := by
  cases hf : findS L sid with
  | none =>
    have hr : weighS L sid b n = (L, 6) := by unfold weighS; rw [hf]
    rw [hr]
    have c16 := gfind0_t gF mi md L F h sid b hw hf
    refine Triple.enter Try.func21 rfl Try.ntmps21 rfl (fun W => ?_)
    dsimp only [argsF, Nat.reduceAdd]
    repeat' (first
     | refine WPl.nil ?_ | refine WPq.then ?_ | refine WPq.thenR ?_ | refine WPq.thenE ?_ | refine WPq.blockN ?_ | refine WPq.blockR ?_ | refine WPq.blockE ?_ | refine WPq.blockO rfl ?_ | refine WPc.seq ?_ | refine WPc.block ?_ | refine WPc.ret ?_ | refine WPc.exit ?_ | refine WPc.skip ?_ | refine WPc.region ?_
     | (refine isCond ?_; first | refine WPc.cT ?_ | refine WPc.cF ?_ | (refine WPc.cQ (fun hc => ?_) (fun hc => ?_) <;> try exact prA))
     | (refine isC 16 ?_; refine WPl.cV c16 ?_ (hΔ := provsM))
     | (refine isD 22 ?_; refine WPl.rdX (ReadR.binE rfl rfl BinR.neq (congrArg (fun q => Value.bool (!q)) (decide_eq_false (show ¬ (6 : Int) = 0 by omega)))) ?_)
     | (refine isOp ?_; first | refine WPl.rd ?_ | refine WPl.sk ?_ | refine WPl.rdB ?_)
     | (refine isSt ?_; first | refine WPl.st1 ?_ | refine WPl.stA ?_ | refine WPl.stEB ?_ | refine WPl.stRB ?_)
     | (show WPl _ _ _ _ _ _ _ (⟨_, .indexAddr _ _ _, _, _, _, _⟩ :: _) _; refine WPl.rdX (ReadR.indexE rfl rfl hasA (by first | assumption | omega)) ?_)
     | (show WPl _ _ _ _ _ _ _ (⟨_, .fieldAddr _ _ _, _, _, _, _⟩ :: _) _; refine WPl.rdX (ReadR.fieldE rfl hasA (by first | assumption | omega)) ?_)
     | (show WPl _ _ _ _ _ _ _ (⟨_, .load _ _, _, _, _, _⟩ :: _) _; first | refine WPl.rdX (ReadR.loadE rfl hasA (by assumption)) ?_ | refine WPl.rdX (ReadR.loadES (by assumption) (by first | assumption | omega) rfl hasA) ?_)
     | (show WPl _ _ _ _ _ _ _ (⟨_, .slice _ _ _ _ _, _, _, _, _⟩ :: _) _; first | refine WPl.rdX (ReadR.sliceH rfl rfl hasA (by omega)) ?_ | refine WPl.rdX (ReadR.sliceL rfl rfl hasA (by omega)) ?_ | refine WPl.rdX (ReadR.sliceLH rfl rfl rfl hasA (by omega) (by omega)) ?_)
     | (refine WPl.spQ (fun hc => ?_) (fun hc => ?_) <;> try exact prA)
     | fail)
    exact WPq.dX (ho := ownsG) (vs := [.int .i64 6]) [bx gF 66 (fac mi md), mp idM mi (ies F.ps), mp drM md F.ds, gbag prow F.ps] ⟨F, rfl, h, rfl⟩
  | some y =>
    obtain ⟨A, B, x, hps, hxy, hxi, hm⟩ := h.at hf
    subst hxy
    subst hxi
    have hxL := (findS_some hf).1
    have hsx : SrtB x.bs := h.bsrt _ hxL
    have hlx : x.bs.length ≤ 16 := h.blen _ hxL
    have hxv : x.v.oneCell' = true := h.one x (by rw [hps]; exact List.mem_append_right _ (List.mem_cons_self ..))
    have hal := x.s.ad.len
    have hpp : F.ps.Perm (x :: (A ++ B)) := by rw [hps]; exact List.perm_middle
    have hL := bks_len (l := x.bs)
    have c16 := gfind1_t gF mi md F x.s.id b hw x hm hsx hlx
    have c26 := gwt_t n
    cases hh : hasB x.bs b with
    | false =>
      have hr : weighS L x.s.id b n = (L, 6) := by unfold weighS turnS; rw [hf]; dsimp only; rw [if_neg (by rw [hh]; simp), if_neg (by rw [hh]; simp)]
      rw [hr]
      rw [if_neg (by rw [hh]; simp)] at c16
      refine Triple.enter Try.func21 rfl Try.ntmps21 rfl (fun W => ?_)
      dsimp only [argsF, Nat.reduceAdd]
      refine WPc.gbagO (row := prow) prow_own hpp ?_
      rw [show prow x = [bx x.g 33 (shC x.s x.v), rowN 36 21 x.v x.bs.length (bks x.bs)] from rfl, List.cons_append, List.cons_append, List.nil_append]
      repeat' (first
       | refine WPl.nil ?_ | refine WPq.then ?_ | refine WPq.thenR ?_ | refine WPq.thenE ?_ | refine WPq.blockN ?_ | refine WPq.blockR ?_ | refine WPq.blockE ?_ | refine WPq.blockO rfl ?_ | refine WPc.seq ?_ | refine WPc.block ?_ | refine WPc.ret ?_ | refine WPc.exit ?_ | refine WPc.skip ?_ | refine WPc.region ?_
       | (refine isCond ?_; first | refine WPc.cT ?_ | refine WPc.cF ?_ | (refine WPc.cQ (fun hc => ?_) (fun hc => ?_) <;> try exact prA))
       | (refine isC 16 ?_; refine WPl.cV c16 ?_ (hΔ := provsM))
       | (refine isD 22 ?_; refine WPl.rdX (ReadR.binE rfl rfl BinR.neq (congrArg (fun q => Value.bool (!q)) (decide_eq_false (show ¬ (6 : Int) = 0 by omega)))) ?_)
       | (refine isOp ?_; first | refine WPl.rd ?_ | refine WPl.sk ?_ | refine WPl.rdB ?_)
       | (refine isSt ?_; first | refine WPl.st1 ?_ | refine WPl.stA ?_ | refine WPl.stEB ?_ | refine WPl.stRB ?_)
       | (show WPl _ _ _ _ _ _ _ (⟨_, .indexAddr _ _ _, _, _, _, _⟩ :: _) _; refine WPl.rdX (ReadR.indexE rfl rfl hasA (by first | assumption | omega)) ?_)
       | (show WPl _ _ _ _ _ _ _ (⟨_, .fieldAddr _ _ _, _, _, _, _⟩ :: _) _; refine WPl.rdX (ReadR.fieldE rfl hasA (by first | assumption | omega)) ?_)
       | (show WPl _ _ _ _ _ _ _ (⟨_, .load _ _, _, _, _, _⟩ :: _) _; first | refine WPl.rdX (ReadR.loadE rfl hasA (by assumption)) ?_ | refine WPl.rdX (ReadR.loadES (by assumption) (by first | assumption | omega) rfl hasA) ?_)
       | (show WPl _ _ _ _ _ _ _ (⟨_, .slice _ _ _ _ _, _, _, _, _⟩ :: _) _; first | refine WPl.rdX (ReadR.sliceH rfl rfl hasA (by omega)) ?_ | refine WPl.rdX (ReadR.sliceL rfl rfl hasA (by omega)) ?_ | refine WPl.rdX (ReadR.sliceLH rfl rfl rfl hasA (by omega) (by omega)) ?_)
       | (refine WPl.spQ (fun hc => ?_) (fun hc => ?_) <;> try exact prA)
       | fail)
      refine WPq.gbagI (row := prow) (es := F.ps) (es' := A ++ B) (x := x) prow_own hpp (by show Takes _ [gbag prow (A ++ B), bx x.g 33 (shC x.s x.v), rowN 36 21 x.v x.bs.length (bks x.bs)] _; exact takesA) ?_
      exact WPq.dX (ho := ownsG) (vs := [.int .i64 6]) [bx gF 66 (fac mi md), mp idM mi (ies F.ps), mp drM md F.ds, gbag prow F.ps] ⟨F, rfl, h, rfl⟩
    | true =>
      rw [if_pos hh] at c16
      by_cases hn : 0 ≤ n ∧ n ≤ 10
      · rw [decide_eq_true hn] at c26
        obtain ⟨z, hz, hzi⟩ := has_lb hsx hh
        subst hzi
        have hzl := (List.getElem?_eq_some_iff.1 hz).1
        have hr : weighS L x.s.id z.id n = (updB L x.s.id (setBy z.id fun k => { k with wt := n }), 0) := by unfold weighS turnS; rw [hf]; dsimp only; rw [if_pos hh, if_neg (by rintro ⟨_, h2⟩; exact h2 hn)]
        rw [hr]
        have hset := set_setBy hsx hz (fun k => { k with wt := n })
        have hs := bks_1 (b' := { z with wt := n }) (o := 19) (u := .int .i64 n) hz (by omega) (by simp [flat_eq, z.ad.len, u8s_length])
        obtain ⟨hpi, hie⟩ := h.upd hps hf (f := setBy z.id fun k => { k with wt := n }) hxv (setBy_srt hsx fun k => rfl) (by rw [setBy_len]; exact hlx)
        refine Triple.enter Try.func21 rfl Try.ntmps21 rfl (fun W => ?_)
        dsimp only [argsF, Nat.reduceAdd]
        refine WPc.gbagO (row := prow) prow_own hpp ?_
        rw [show prow x = [bx x.g 33 (shC x.s x.v), rowN 36 21 x.v x.bs.length (bks x.bs)] from rfl, List.cons_append, List.cons_append, List.nil_append]
        repeat' (first
         | refine WPl.nil ?_ | refine WPq.then ?_ | refine WPq.thenR ?_ | refine WPq.thenE ?_ | refine WPq.blockN ?_ | refine WPq.blockR ?_ | refine WPq.blockE ?_ | refine WPq.blockO rfl ?_ | refine WPc.seq ?_ | refine WPc.block ?_ | refine WPc.ret ?_ | refine WPc.exit ?_ | refine WPc.skip ?_ | refine WPc.region ?_
         | (refine isCond ?_; first | refine WPc.cT ?_ | refine WPc.cF ?_ | (refine WPc.cQ (fun hc => ?_) (fun hc => ?_) <;> try exact prA))
         | (refine isC 16 ?_; refine WPl.cV c16 ?_ (hΔ := provsM))
         | (refine isD 22 ?_; refine WPl.rdX (ReadR.binE rfl rfl BinR.neq (congrArg (fun q => Value.bool (!q)) (decide_eq_true (rfl : (0 : Int) = 0)))) ?_)
         | (refine isC 26 ?_; refine WPl.cV (c26) ?_)
         | (refine isD 34 ?_; refine WPl.rdX (ReadR.indexE (i := lbB x.bs z.id) rfl rfl hasA hzl) ?_)
         | (refine isD 35 ?_; refine WPl.rdX (ReadR.fieldE rfl hasA (by omega)) ?_)
         | (show WPl _ _ _ _ _ _ _ (⟨_, .store _ (.tmp 35) _, _, _, _, _⟩ :: _) _; refine WPl.stEN (i := lbB x.bs z.id * 21 + 19) (m := x.bs.length) (xs := bks x.bs) (by omega) ?_)
         | (refine isOp ?_; first | refine WPl.rd ?_ | refine WPl.sk ?_ | refine WPl.rdB ?_)
         | (refine isSt ?_; first | refine WPl.st1 ?_ | refine WPl.stA ?_ | refine WPl.stEB ?_ | refine WPl.stRB ?_)
         | (show WPl _ _ _ _ _ _ _ (⟨_, .indexAddr _ _ _, _, _, _, _⟩ :: _) _; refine WPl.rdX (ReadR.indexE rfl rfl hasA (by first | assumption | omega)) ?_)
         | (show WPl _ _ _ _ _ _ _ (⟨_, .fieldAddr _ _ _, _, _, _, _⟩ :: _) _; refine WPl.rdX (ReadR.fieldE rfl hasA (by first | assumption | omega)) ?_)
         | (show WPl _ _ _ _ _ _ _ (⟨_, .load _ _, _, _, _, _⟩ :: _) _; first | refine WPl.rdX (ReadR.loadE rfl hasA (by assumption)) ?_ | refine WPl.rdX (ReadR.loadES (by assumption) (by first | assumption | omega) rfl hasA) ?_)
         | (show WPl _ _ _ _ _ _ _ (⟨_, .slice _ _ _ _ _, _, _, _, _⟩ :: _) _; first | refine WPl.rdX (ReadR.sliceH rfl rfl hasA (by omega)) ?_ | refine WPl.rdX (ReadR.sliceL rfl rfl hasA (by omega)) ?_ | refine WPl.rdX (ReadR.sliceLH rfl rfl rfl hasA (by omega) (by omega)) ?_)
         | (refine WPl.spQ (fun hc => ?_) (fun hc => ?_) <;> try exact prA)
         | fail)
        rw [hs, hset, ← hie]
        obtain ⟨bs', hbs'⟩ : ∃ bs', bs' = setBy z.id (fun k => { k with wt := n }) x.bs := ⟨_, rfl⟩
        rw [← hbs'] at hpi ⊢
        have hlb' : bs'.length = x.bs.length := by rw [hbs', setBy_len]
        rw [← hlb']
        refine WPq.gbagI (row := prow) (es := A ++ ⟨x.g, x.v, x.s, bs'⟩ :: B) (es' := A ++ B) (x := ⟨x.g, x.v, x.s, bs'⟩) prow_own List.perm_middle (by show Takes _ [gbag prow (A ++ B), bx x.g 33 (shC x.s x.v), rowN 36 21 x.v bs'.length (bks bs')] _; exact takesA) ?_
        exact WPq.dX (ho := ownsG) (vs := [.int .i64 0]) [bx gF 66 (fac mi md), mp idM mi (ies (A ++ ⟨x.g, x.v, x.s, bs'⟩ :: B)), mp drM md F.ds, gbag prow (A ++ ⟨x.g, x.v, x.s, bs'⟩ :: B)] ⟨⟨_, _⟩, rfl, hpi, rfl⟩
      · rw [decide_eq_false hn] at c26
        have hr : weighS L x.s.id b n = (L, 1) := by unfold weighS; rw [hf]; dsimp only; rw [if_pos ⟨hh, hn⟩]
        rw [hr]
        refine Triple.enter Try.func21 rfl Try.ntmps21 rfl (fun W => ?_)
        dsimp only [argsF, Nat.reduceAdd]
        refine WPc.gbagO (row := prow) prow_own hpp ?_
        rw [show prow x = [bx x.g 33 (shC x.s x.v), rowN 36 21 x.v x.bs.length (bks x.bs)] from rfl, List.cons_append, List.cons_append, List.nil_append]
        repeat' (first
         | refine WPl.nil ?_ | refine WPq.then ?_ | refine WPq.thenR ?_ | refine WPq.thenE ?_ | refine WPq.blockN ?_ | refine WPq.blockR ?_ | refine WPq.blockE ?_ | refine WPq.blockO rfl ?_ | refine WPc.seq ?_ | refine WPc.block ?_ | refine WPc.ret ?_ | refine WPc.exit ?_ | refine WPc.skip ?_ | refine WPc.region ?_
         | (refine isCond ?_; first | refine WPc.cT ?_ | refine WPc.cF ?_ | (refine WPc.cQ (fun hc => ?_) (fun hc => ?_) <;> try exact prA))
         | (refine isC 16 ?_; refine WPl.cV c16 ?_ (hΔ := provsM))
         | (refine isD 22 ?_; refine WPl.rdX (ReadR.binE rfl rfl BinR.neq (congrArg (fun q => Value.bool (!q)) (decide_eq_true (rfl : (0 : Int) = 0)))) ?_)
         | (refine isC 26 ?_; refine WPl.cV (c26) ?_)
         | (refine isOp ?_; first | refine WPl.rd ?_ | refine WPl.sk ?_ | refine WPl.rdB ?_)
         | (refine isSt ?_; first | refine WPl.st1 ?_ | refine WPl.stA ?_ | refine WPl.stEB ?_ | refine WPl.stRB ?_)
         | (show WPl _ _ _ _ _ _ _ (⟨_, .indexAddr _ _ _, _, _, _, _⟩ :: _) _; refine WPl.rdX (ReadR.indexE rfl rfl hasA (by first | assumption | omega)) ?_)
         | (show WPl _ _ _ _ _ _ _ (⟨_, .fieldAddr _ _ _, _, _, _, _⟩ :: _) _; refine WPl.rdX (ReadR.fieldE rfl hasA (by first | assumption | omega)) ?_)
         | (show WPl _ _ _ _ _ _ _ (⟨_, .load _ _, _, _, _, _⟩ :: _) _; first | refine WPl.rdX (ReadR.loadE rfl hasA (by assumption)) ?_ | refine WPl.rdX (ReadR.loadES (by assumption) (by first | assumption | omega) rfl hasA) ?_)
         | (show WPl _ _ _ _ _ _ _ (⟨_, .slice _ _ _ _ _, _, _, _, _⟩ :: _) _; first | refine WPl.rdX (ReadR.sliceH rfl rfl hasA (by omega)) ?_ | refine WPl.rdX (ReadR.sliceL rfl rfl hasA (by omega)) ?_ | refine WPl.rdX (ReadR.sliceLH rfl rfl rfl hasA (by omega) (by omega)) ?_)
         | (refine WPl.spQ (fun hc => ?_) (fun hc => ?_) <;> try exact prA)
         | fail)
        refine WPq.gbagI (row := prow) (es := F.ps) (es' := A ++ B) (x := x) prow_own hpp (by show Takes _ [gbag prow (A ++ B), bx x.g 33 (shC x.s x.v), rowN 36 21 x.v x.bs.length (bks x.bs)] _; exact takesA) ?_
        exact WPq.dX (ho := ownsG) (vs := [.int .i64 1]) [bx gF 66 (fac mi md), mp idM mi (ies F.ps), mp drM md F.ds, gbag prow F.ps] ⟨F, rfl, h, rfl⟩
end
end Go.Proofs.Ytpjfkomicehinaa
/- Layer 20 (farm): a service is matched; what is told of no farm. -/
namespace Go.Proofs.Ytpjfkomicehinaa
/-- What is done to a farm. -/
structure FA where
  k : Int
  id : Int
  b : Int
  w : Int
  s : Sh
  v : Value
  l : List Bk
  c : Bk
abbrev faC (x : FA) : Ch := [(1, [.int .i64 x.k]), (1, [.int .i64 x.id]), (1, [.int .i64 x.b]), (1, [.int .i64 x.w]), (1, [.int .i64 x.s.id]), (1, [.bool x.s.ad.six]), (16, u8s x.s.ad.b), (1, [.int .u16 (x.s.port : Int)]), (1, [.int .u8 ((x.s.proto.toNat : Nat) : Int)]), (1, [.int .i64 x.s.bits]), (1, [.int .u64 x.s.lasts]), (1, [x.v]), (1, [.int .i64 x.c.id]), (1, [.bool x.c.ad.six]), (16, u8s x.c.ad.b), (1, [.int .u16 (x.c.port : Int)]), (1, [.int .i64 x.c.wt]), (1, [.bool x.c.dr])]
def faW (x : FA) : Prop := in64 x.k ∧ in64 x.id ∧ in64 x.b ∧ in64 x.w ∧ shW x.s ∧ x.v.oneCell' = true ∧ x.c.port < 65536 ∧ in64 x.c.id ∧ in64 x.c.wt
theorem faC_ok {x : FA} (h : x.v.oneCell' = true) : FOk (faC x) := .one1 rfl (.one1 rfl (.one1 rfl (.one1 rfl (.one1 rfl (.one1 rfl (.bytes x.s.ad.len (.one1 rfl (.one1 rfl (.one1 rfl (.one1 rfl (.one1 h (.one1 rfl (.one1 rfl (.bytes x.c.ad.len (.one1 rfl (.one1 rfl (.one1 rfl .nil)))))))))))))))))
def lvS : Sh := ⟨7, Adr.zero, 80, 6, 0, 1⟩
theorem lv_add : addS [] lvS ([] : List Bk).length = ([⟨lvS, []⟩], 0) := by with_unfolding_all decide
theorem lv_match : matchV [⟨lvS, []⟩] ⟨Adr.zero, 80, 6⟩ = .tuple #[.int .i64 7, .bool true] := by
  have h : doorS [⟨lvS, []⟩] ⟨Adr.zero, 80, 6⟩ = some ⟨lvS, []⟩ := by decide
  unfold matchV
  rw [h]
  rfl
open Go.RowKit
set_option linter.unusedSimpArgs false
set_option linter.unusedVariables false
set_option maxRecDepth 20000
set_option maxHeartbeats 4000000
attribute [local irreducible] WPc WPl WPq ReadR OpT BinR HasS bx rdN rowN Take Takes Prov Triple ResF BuildP Done ag Int.decLt Int.decLe Int.instDecidableEq
attribute [local irreducible] mp rmp rg rgo mput mget mfind mdel gbag bks ies lbB hasB findS doorS mpe lvS
theorem glives_t : Triple Try.prog 13 #[] [] (RVal (.bool true)) := by
  have c8 := fun gF mi md => gadd_t gF mi md [] ⟨[], []⟩ PInv.empty lvS (.slice none 0 0) [] rfl (by with_unfolding_all exact ⟨⟨by decide, by decide⟩, by decide⟩)
  rw [lv_add] at c8
  have c12 := fun gF mi md F (h : PInv [⟨lvS, []⟩] F) => gmatch_t gF mi md [⟨lvS, []⟩] F h Adr.zero 80 6 (by decide)
  rw [lv_match] at c12
  have e0 : bks ([] : List Bk) = [] := by with_unfolding_all rfl
  rw [e0] at c8
  have c8 : ∀ gF mi md, Triple Try.prog 8 #[hF gF, ag (shC lvS (.slice none 0 0))] ([rdN (.slice none 0 0) 0 []] ++ fmA gF mi md ⟨[], []⟩) (RFm gF mi md (.int .i64 0) [⟨lvS, []⟩]) := c8
  refine Triple.enter Try.func13 rfl Try.ntmps13 rfl (fun W => ?_)
  dsimp only [argsF, Nat.reduceAdd]
  refine WPc.nilRowN 36 21 ?_
  repeat' (first
   | refine WPl.nil ?_ | refine WPq.then ?_ | refine WPq.thenR ?_ | refine WPq.thenE ?_ | refine WPq.blockN ?_ | refine WPq.blockR ?_ | refine WPq.blockE ?_ | refine WPq.blockO rfl ?_ | refine WPc.seq ?_ | refine WPc.block ?_ | refine WPc.ret ?_ | refine WPc.exit ?_ | refine WPc.skip ?_ | refine WPc.region ?_
   | (refine isCond ?_; first | refine WPc.cT ?_ | refine WPc.cF ?_ | (refine WPc.cQ (fun hc => ?_) (fun hc => ?_) <;> try exact prA))
   | (refine isC 5 ?_; refine WPl.cXs (gnew_t) fun v Γ1 hR => ?_; obtain ⟨gF, mi, md, rfl, rfl⟩ := hR; (try dsimp only [putF, List.cons_append, List.nil_append]))
   | (refine isD 7 ?_; refine WPl.rdX (ReadR.build (cs' := shC lvS (.slice none 0 0)) (by with_unfolding_all exact buildA)) ?_)
   | (refine isC 8 ?_; refine WPl.cO (c8 gF mi md) (fun v Γ1 hR => ?_) ?_; rotate_left; exact fpA; obtain ⟨F1, rfl, hp1, rfl⟩ := hR; (try dsimp only [putF, List.cons_append, List.nil_append]))
   | (refine isOp ?_; first | refine WPl.rd ?_ | refine WPl.sk ?_ | refine WPl.rdB ?_)
   | (show WPl _ _ _ _ _ _ _ (⟨_, .indexAddr _ _ _, _, _, _, _⟩ :: _) _; refine WPl.rdX (ReadR.indexE rfl rfl hasA (by first | assumption | omega)) ?_)
   | (show WPl _ _ _ _ _ _ _ (⟨_, .fieldAddr _ _ _, _, _, _, _⟩ :: _) _; refine WPl.rdX (ReadR.fieldE rfl hasA (by first | assumption | omega)) ?_)
   | (show WPl _ _ _ _ _ _ _ (⟨_, .load _ _, _, _, _, _⟩ :: _) _; first | refine WPl.rdX (ReadR.loadE rfl hasA (by assumption)) ?_ | refine WPl.rdX (ReadR.loadES (by assumption) (by first | assumption | omega) rfl hasA) ?_)
   | (show WPl _ _ _ _ _ _ _ (⟨_, .slice _ _ _ _ _, _, _, _, _⟩ :: _) _; first | refine WPl.rdX (ReadR.sliceH rfl rfl hasA (by omega)) ?_ | refine WPl.rdX (ReadR.sliceL rfl rfl hasA (by omega)) ?_ | refine WPl.rdX (ReadR.sliceLH rfl rfl rfl hasA (by omega) (by omega)) ?_)
   | (refine WPl.spQ (fun hc => ?_) (fun hc => ?_) <;> try exact prA)
   | fail)
  repeat' (first
   | refine WPl.nil ?_ | refine WPq.then ?_ | refine WPq.thenR ?_ | refine WPq.thenE ?_ | refine WPq.blockN ?_ | refine WPq.blockR ?_ | refine WPq.blockE ?_ | refine WPq.blockO rfl ?_ | refine WPc.seq ?_ | refine WPc.block ?_ | refine WPc.ret ?_ | refine WPc.exit ?_ | refine WPc.skip ?_ | refine WPc.region ?_
   | (refine isCond ?_; first | refine WPc.cT ?_ | refine WPc.cF ?_ | (refine WPc.cQ (fun hc => ?_) (fun hc => ?_) <;> try exact prA))
   | (refine isD 11 ?_; refine WPl.rdX (ReadR.build (cs' := adc Adr.zero) buildA) ?_)
   | (refine isC 12 ?_; refine WPl.cV (c12 gF mi md F1 hp1) ?_ (hΔ := provsM))
   | (refine isD 16 ?_; refine WPl.rdX (ReadR.binE rfl rfl BinR.eql (congrArg Value.bool (decide_eq_true (rfl : (0 : Int) = 0)))) ?_)
   | (refine isD 19 ?_; refine WPl.rdX (ReadR.binE rfl rfl BinR.eql (congrArg Value.bool (decide_eq_true (rfl : (7 : Int) = 7)))) ?_)
   | (refine isOp ?_; first | refine WPl.rd ?_ | refine WPl.sk ?_ | refine WPl.rdB ?_)
   | (show WPl _ _ _ _ _ _ _ (⟨_, .indexAddr _ _ _, _, _, _, _⟩ :: _) _; refine WPl.rdX (ReadR.indexE rfl rfl hasA (by first | assumption | omega)) ?_)
   | (show WPl _ _ _ _ _ _ _ (⟨_, .fieldAddr _ _ _, _, _, _, _⟩ :: _) _; refine WPl.rdX (ReadR.fieldE rfl hasA (by first | assumption | omega)) ?_)
   | (show WPl _ _ _ _ _ _ _ (⟨_, .load _ _, _, _, _, _⟩ :: _) _; first | refine WPl.rdX (ReadR.loadE rfl hasA (by assumption)) ?_ | refine WPl.rdX (ReadR.loadES (by assumption) (by first | assumption | omega) rfl hasA) ?_)
   | (show WPl _ _ _ _ _ _ _ (⟨_, .slice _ _ _ _ _, _, _, _, _⟩ :: _) _; first | refine WPl.rdX (ReadR.sliceH rfl rfl hasA (by omega)) ?_ | refine WPl.rdX (ReadR.sliceL rfl rfl hasA (by omega)) ?_ | refine WPl.rdX (ReadR.sliceLH rfl rfl rfl hasA (by omega) (by omega)) ?_)
   | (refine WPl.spQ (fun hc => ?_) (fun hc => ?_) <;> try exact prA)
   | fail)
  exact WPq.dV
end Go.Proofs.Ytpjfkomicehinaa
/- What is done to a farm, opened. -/
namespace Go.Proofs.Ytpjfkomicehinaa
open Go.ChangeShapes Go.WideShapes Go.ChangeAt Go.RowKit
set_option linter.unusedSimpArgs false
set_option linter.unusedVariables false
def bkKs : List (Option IntKind) := some .i64 :: (adKinds ++ [some .u16, some .i64, none])
def shKs : List (Option IntKind) := some .i64 :: (adKinds ++ [some .u16, some .u8, some .i64, some .u64])
def faKs : List KW := (some .i64 :: some .i64 :: some .i64 :: some .i64 :: shKs).map KW.k ++ KW.r (bkKs.map KW.k) :: bkKs.map KW.k
def bkW (b : Bk) : Prop := in64 b.id ∧ b.port < 65536 ∧ in64 b.wt
section
variable {H : Type} {enc : TypeId × Value → H} {P : Program} {W : World}
theorem fits_bk {vs : List Value} (h : Fits bkKs vs) : ∃ b : Bk, vs = flat (bkC b) ∧ bkW b := by
  obtain ⟨n1, r1, rfl, a1, b1, k1⟩ := fits_i64 h
  obtain ⟨v3, v4, rfl, g3, g4⟩ := Fits.split k1
  obtain ⟨a, rfl⟩ := fits_adr g3
  obtain ⟨n3, r3, rfl, b3, k3⟩ := fits_uint rfl g4
  obtain ⟨n4, r4, rfl, a4, b4, k4⟩ := fits_i64 k3
  obtain ⟨d, r5, rfl, k5⟩ := fits_bool k4
  obtain rfl := fits_nil k5
  exact ⟨⟨n1, a, n3, n4, d⟩, by simp [flat_eq], ⟨a1, b1⟩, by simpa [IntKind.bits] using b3, a4, b4⟩
theorem fits_sh {vs : List Value} (h : Fits shKs vs) : ∃ s : Sh, vs = .int .i64 s.id :: .bool s.ad.six :: (u8s s.ad.b ++ [.int .u16 (s.port : Int), .int .u8 ((s.proto.toNat : Nat) : Int), .int .i64 s.bits, .int .u64 s.lasts]) ∧ shW s := by
  obtain ⟨n1, r1, rfl, a1, b1, k1⟩ := fits_i64 h
  obtain ⟨v3, v4, rfl, g3, g4⟩ := Fits.split k1
  obtain ⟨a, rfl⟩ := fits_adr g3
  obtain ⟨n3, r3, rfl, b3, k3⟩ := fits_uint rfl g4
  obtain ⟨c, r4, rfl, k4⟩ := fits_u8n k3
  obtain ⟨n5, r5, rfl, a5, b5, k5⟩ := fits_i64 k4
  obtain ⟨n6, r6, rfl, b6, k6⟩ := fits_uint rfl k5
  obtain rfl := fits_nil k6
  exact ⟨⟨n1, a, n3, c, n5, n6⟩, by simp [flat_eq], ⟨a1, b1⟩, by simpa [IntKind.bits] using b3⟩
theorem fits_fa {es : List Value} (h : FitsW W faKs es) : ∃ x : FA, es = flat (faC x) ∧ faW x ∧ (rdN x.v x.l.length (bks x.l)).holds W := by
  obtain ⟨v1, v2, rfl, h1, h2⟩ := FitsW.split h
  obtain ⟨n1, r1, rfl, a1, b1, k1⟩ := fits_i64 h1
  obtain ⟨n2, r2, rfl, a2, b2, k2⟩ := fits_i64 k1
  obtain ⟨n3, r3, rfl, a3, b3, k3⟩ := fits_i64 k2
  obtain ⟨n4, r4, rfl, a4, b4, k4⟩ := fits_i64 k3
  obtain ⟨s, rfl, hs⟩ := fits_sh k4
  obtain ⟨v, r, ess, rfl, hr, he, h3⟩ := FitsW.row h2
  obtain ⟨c, rfl, hc1, hc2, hc3⟩ := fits_bk h3.flat
  obtain ⟨l, rfl, hl⟩ := list_of (c := fun b => flat (bkC b)) (p := bkW) fun es hes => fits_bk (he es hes).flat
  refine ⟨⟨n1, n2, n3, n4, s, v, l, c⟩, by simp [flat_eq], ⟨⟨a1, b1⟩, ⟨a2, b2⟩, ⟨a3, b3⟩, ⟨a4, b4⟩, hs, readsW_one hr, hc2, hc1, hc3⟩, ?_⟩
  show (rdN v l.length (l.map fun b => flat (bkC b)).flatten).holds W
  rwa [List.length_map] at hr
def fas (l : List FA) : List Value := (l.map fun x => flat (faC x)).flatten
theorem open_fas {v : Value} {d : DataW H} {p : List MemPlace} {base : Nat} {t e : TypeId} (ht : P.underlying t = some (.slice e)) (hk : flatW P 8 e = some faKs) (hc : P.cellsOf e = 48)
    (hval : Value.okWide P W .any base t v) (h : DataW.Trod enc P W 0 (fun _ => true) true t v d p) : ∃ l : List FA, (rdN v l.length (fas l)).holds W ∧ (∀ x ∈ l, (rdN x.v x.l.length (bks x.l)).holds W) ∧ ∀ x ∈ l, faW x := by
  obtain ⟨l, h1, h2⟩ := open_listW (q := fun x : FA => faW x ∧ (rdN x.v x.l.length (bks x.l)).holds W) faC (fun es he => fits_fa he) 8 ht hk hc (by decide) hval h
  exact ⟨l, h1, fun x hx => (h2 x hx).2, fun x hx => (h2 x hx).1⟩
end
end Go.Proofs.Ytpjfkomicehinaa
