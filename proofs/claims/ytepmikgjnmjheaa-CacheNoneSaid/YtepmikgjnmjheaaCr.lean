/- Layer 5 (cache): contracts: room. -/
import Derived.Test.YtepmikgjnmjheaaCp
namespace Go.Proofs.Ytepmikgjnmjheaa
open Go.RowKit
set_option linter.unusedSimpArgs false
set_option linter.unusedVariables false
set_option maxRecDepth 20000
set_option maxHeartbeats 4000000
attribute [local irreducible] WPc WPl WPq ReadR OpT BinR HasS bx rdN rowN Take Takes Prov Triple ResF BuildP Done ag Int.decLt Int.decLe Int.instDecidableEq
attribute [local irreducible] mp rmp rg rgo bag vrow secs mput mget mfind mdel intsV skeys vault frs pickG
instance : Inhabited DS := ⟨⟨[], [], [], 0⟩⟩
theorem frs_z {l : List Frm} {i : Nat} (h : i < l.length) : (frs l).take (i * 6) ++ flat ([(1, [.bool false]), (1, [.bool false]), (1, [.bool false]), (1, [.int .i64 0]), (1, [.int .i64 0]), (1, [.slice none 0 0])] : Ch) ++ (frs l).drop (i * 6 + 6) = frs (l.set i fr0) := frs_set (f := fr0) h
/-- A cache over a device. -/
abbrev cdA (gK gV : Nat) (vF : Value) (C : CS) (mD : Nat) (vd : Value) (S : DS) : List Asn := [bx gK 86 (cxc gV vF (C.hand : Int)), rowN 90 6 vF C.fs.length (frs C.fs), vault C.rs, bx gV 79 (dvc S.fu vd mD S.cn), rowN 81 256 vd S.ls.length (secs S.ls), mp secM mD S.es, bag S.es]
def RRoom (gK gV : Nat) (vF : Value) (mD : Nat) (vd : Value) (n m p k : Nat) (rs : List (Value × Sec)) (r : Cv × Dv × Option Nat × Int) : Value → List Asn → Prop := fun v Γ => ∃ C S, v = .tuple #[fptr vF r.2.2.1, .int .i64 r.2.2.2] ∧ C.vw = r.1 ∧ S.vw = r.2.1 ∧ CInv n m p C ∧ DInv n k S ∧ C.rs = rs ∧ (∀ i, r.2.2.1 = some i → r.2.2.2 = 0 ∧ ∃ f, C.fs[i]? = some f ∧ f.full = false) ∧ (r.2.2.1 = none → r.2.2.2 ≠ 0) ∧ Γ = cdA gK gV vF C mD vd S
section
variable (gK gV : Nat) (vF : Value) (mD : Nat) (vd : Value) (n m p k : Nat) (C : CS) (S : DS)
theorem room_t (h : CInv n m p C) (hd : DInv n k S) (hn : n ≤ 1600) (h8 : 8 ≤ m) (hm : m ≤ 64) (hkb : k ≤ 80000) :
    Triple Try.prog 58 #[hC gK] (cdA gK gV vF C mD vd S) (RRoom gK gV vF mD vd n m p (k + 1) C.rs (C.vw.room S.vw)) := by
  obtain ⟨fs, hand, rs⟩ := C
  have hlen : fs.length = m := h.len
  have hhand : hand < m := h.hand
  have hlen2 : (fs.map Frm.vw).length = m := by rw [List.length_map]; exact hlen
  have c8 := empty_t gK gV vF (hand : Int) fs (by omega)
  rw [show cdA gK gV vF ⟨fs, hand, rs⟩ mD vd S = [bx gK 86 (cxc gV vF (hand : Int)), rowN 90 6 vF fs.length (frs fs), vault rs, bx gV 79 (dvc S.fu vd mD S.cn), rowN 81 256 vd S.ls.length (secs S.ls), mp secM mD S.es, bag S.es] from rfl]
  have hev := empty_vw (C := ⟨fs, hand, rs⟩)
  have hev' : emptyF fs = (CS.mk fs hand rs).vw.empty := hev
  cases hem : emptyF fs with
  | some i =>
    obtain ⟨f, hf, hff⟩ := findIdx_spec hem
    have hr : (CS.mk fs hand rs).vw.room S.vw = ((CS.mk fs hand rs).vw, S.vw, some i, 0) := by unfold Cv.room; rw [← hev', hem]
    rw [hr]
    rw [hem] at c8
    unfold fptr at c8
    dsimp only at c8
    refine Triple.enter Try.func58 rfl Try.ntmps58 rfl (fun W => ?_)
    dsimp only [argsF, Nat.reduceAdd]
    repeat' (first
     | refine WPl.nil ?_ | refine WPq.then ?_ | refine WPq.thenR ?_ | refine WPq.thenE ?_ | refine WPq.blockN ?_ | refine WPq.blockR ?_ | refine WPq.blockE ?_ | refine WPq.blockO rfl ?_ | refine WPc.seq ?_ | refine WPc.block ?_ | refine WPc.ret ?_ | refine WPc.exit ?_ | refine WPc.skip ?_ | refine WPc.region ?_
     | (refine isCond ?_; first | refine WPc.cT ?_ | refine WPc.cF ?_ | (refine WPc.cQ (fun hc => ?_) (fun hc => ?_) <;> try exact prA))
     | (refine isC 8 ?_; refine WPl.cV c8 ?_ (hΔ := provsW))
     | (refine isD 10 ?_; refine WPl.rdX (readP) ?_)
     | (refine isOp ?_; first | refine WPl.rd ?_ | refine WPl.sk ?_ | refine WPl.rdB ?_)
     | (refine isSt ?_; first | refine WPl.st1 ?_ | refine WPl.stA ?_ | refine WPl.stEB ?_ | refine WPl.stRB ?_)
     | (show WPl _ _ _ _ _ _ _ (⟨_, .indexAddr _ _ _, _, _, _, _⟩ :: _) _; refine WPl.rdX (ReadR.indexE rfl rfl hasA (by first | assumption | omega)) ?_)
     | (show WPl _ _ _ _ _ _ _ (⟨_, .fieldAddr _ _ _, _, _, _, _⟩ :: _) _; refine WPl.rdX (ReadR.fieldE rfl hasA (by first | assumption | omega)) ?_)
     | (show WPl _ _ _ _ _ _ _ (⟨_, .load _ _, _, _, _, _⟩ :: _) _; first | refine WPl.rdX (ReadR.loadE rfl hasA (by assumption)) ?_ | refine WPl.rdX (ReadR.loadES (by assumption) (by first | assumption | omega) rfl hasA) ?_)
     | (show WPl _ _ _ _ _ _ _ (⟨_, .slice _ _ _ _ _, _, _, _, _⟩ :: _) _; first | refine WPl.rdX (ReadR.sliceH rfl rfl hasA (by omega)) ?_ | refine WPl.rdX (ReadR.sliceL rfl rfl hasA (by omega)) ?_ | refine WPl.rdX (ReadR.sliceLH rfl rfl rfl hasA (by omega) (by omega)) ?_)
     | (refine WPl.spQ (fun hc => ?_) (fun hc => ?_) <;> try exact prA)
     | fail)
    exact WPq.dX (ho := ownsW) (vs := [.pointer (some (ela vF (i * 6))), .int .i64 0]) (cdA gK gV vF ⟨fs, hand, rs⟩ mD vd S) ⟨⟨fs, hand, rs⟩, S, rfl, rfl, rfl, h, hd.mono (Nat.le_succ _), rfl, fun j hj => by cases hj; exact ⟨rfl, f, hf, by simpa using hff⟩, (fun hj => by cases hj), rfl⟩
  | none =>
    have hfull := emptyF_none hem
    rw [hem] at c8
    unfold fptr at c8
    dsimp only at c8
    have c13 := victim_t gK gV vF hand fs m (by omega) (by omega) hlen hhand
    obtain ⟨hv1, hv2⟩ := vic_vw (m := m) (t := 2 * m) (k := hand) h.each
    have hv3 := vicF_full (m := m) (t := 2 * m) (k := hand) hfull
    have hvl := vicF_len (m := m) (t := 2 * m) (fs := fs) (k := hand)
    have hvic : (CS.mk fs hand rs).vw.vic = ((vicF m (2 * m) fs hand).1.map Frm.vw, (vicF m (2 * m) fs hand).2) := by
      unfold Cv.vic
      show vicP (fs.map Frm.vw).length (2 * (fs.map Frm.vw).length) (fs.map Frm.vw) hand = _
      rw [hlen2]
      exact hv1
    have hhit := fun i h => vicF_hit (m := m) (t := 2 * m) (fs := fs) (k := hand) (i := i) (h := h)
    have hroom : (CS.mk fs hand rs).vw.room S.vw = match (CS.mk fs hand rs).vw.vic.2 with | none => (⟨(CS.mk fs hand rs).vw.vic.1, hand⟩, S.vw, none, 11) | some x => giveUp (CS.mk fs hand rs).vw.vic.1 x.1 x.2 S.vw := by unfold Cv.room; rw [← hev', hem]; rfl
    rw [hroom, hvic]
    obtain ⟨⟨g, o⟩, hgo⟩ : ∃ x, x = vicF m (2 * m) fs hand := ⟨_, rfl⟩
    rw [← hgo] at c13 hv2 hv3 hvl hhit ⊢
    dsimp only at c13 hv2 hv3 hvl hhit ⊢
    clear hroom hvic hv1 hgo
    cases o with
    | none =>
      unfold fptr vhand at c13
      dsimp only [Option.map] at c13 ⊢
      rw [hlen] at c8 ⊢
      refine Triple.enter Try.func58 rfl Try.ntmps58 rfl (fun W => ?_)
      dsimp only [argsF, Nat.reduceAdd]
      repeat' (first
       | refine WPl.nil ?_ | refine WPq.then ?_ | refine WPq.thenR ?_ | refine WPq.thenE ?_ | refine WPq.blockN ?_ | refine WPq.blockR ?_ | refine WPq.blockE ?_ | refine WPq.blockO rfl ?_ | refine WPc.seq ?_ | refine WPc.block ?_ | refine WPc.ret ?_ | refine WPc.exit ?_ | refine WPc.skip ?_ | refine WPc.region ?_
       | (refine isCond ?_; first | refine WPc.cT ?_ | refine WPc.cF ?_ | (refine WPc.cQ (fun hc => ?_) (fun hc => ?_) <;> try exact prA))
       | (refine isC 8 ?_; refine WPl.cV c8 ?_ (hΔ := provsW))
       | (refine isD 10 ?_; refine WPl.rdX (readP) ?_)
       | (refine isC 13 ?_; refine WPl.cTs (c13) ?_; (try dsimp only [putF, List.cons_append, List.nil_append]))
       | (refine isD 15 ?_; refine WPl.rdX (readP) ?_)
       | (refine isOp ?_; first | refine WPl.rd ?_ | refine WPl.sk ?_ | refine WPl.rdB ?_)
       | (refine isSt ?_; first | refine WPl.st1 ?_ | refine WPl.stA ?_ | refine WPl.stEB ?_ | refine WPl.stRB ?_)
       | (show WPl _ _ _ _ _ _ _ (⟨_, .indexAddr _ _ _, _, _, _, _⟩ :: _) _; refine WPl.rdX (ReadR.indexE rfl rfl hasA (by first | assumption | omega)) ?_)
       | (show WPl _ _ _ _ _ _ _ (⟨_, .fieldAddr _ _ _, _, _, _, _⟩ :: _) _; refine WPl.rdX (ReadR.fieldE rfl hasA (by first | assumption | omega)) ?_)
       | (show WPl _ _ _ _ _ _ _ (⟨_, .load _ _, _, _, _, _⟩ :: _) _; first | refine WPl.rdX (ReadR.loadE rfl hasA (by assumption)) ?_ | refine WPl.rdX (ReadR.loadES (by assumption) (by first | assumption | omega) rfl hasA) ?_)
       | (show WPl _ _ _ _ _ _ _ (⟨_, .slice _ _ _ _ _, _, _, _, _⟩ :: _) _; first | refine WPl.rdX (ReadR.sliceH rfl rfl hasA (by omega)) ?_ | refine WPl.rdX (ReadR.sliceL rfl rfl hasA (by omega)) ?_ | refine WPl.rdX (ReadR.sliceLH rfl rfl rfl hasA (by omega) (by omega)) ?_)
       | (refine WPl.spQ (fun hc => ?_) (fun hc => ?_) <;> try exact prA)
       | fail)
      exact WPq.dX (ho := ownsW) (vs := [.pointer none, .int .i64 11]) [bx gK 86 (cxc gV vF (hand : Int)), rowN 90 6 vF m (frs g), vault rs, bx gV 79 (dvc S.fu vd mD S.cn), rowN 81 256 vd S.ls.length (secs S.ls), mp secM mD S.es, bag S.es] ⟨⟨g, hand, rs⟩, S, rfl, rfl, rfl, ⟨by show g.length = m; omega, hhand, hv2⟩, hd.mono (Nat.le_succ _), rfl, (fun j hj => by cases hj), (fun _ => by show (11 : Int) ≠ 0; omega), by show _ = [_, rowN _ 6 vF g.length _, _, _, _, _, _]; rw [hvl, hlen]⟩
    | some x =>
      obtain ⟨i, h'⟩ := x
      obtain ⟨hi1, hi2⟩ := hhit i h' rfl
      have hig : i < g.length := by omega
      have hh' : h' < m := by rw [hi2]; exact Nat.mod_lt _ (by omega)
      obtain ⟨f, hf⟩ : ∃ f, g[i]? = some f := ⟨_, List.getElem?_eq_getElem hig⟩
      have hfu := hv3 f (List.mem_of_getElem? hf)
      have hfi := hv2 f (List.mem_of_getElem? hf)
      obtain ⟨⟨hno0, hno1⟩, hmem⟩ := hfi.here hfu
      obtain ⟨j, hj⟩ : ∃ j : Nat, f.no = (j : Int) := ⟨f.no.toNat, by omega⟩
      have hjn : j < n := by omega
      have hgv : (g.map Frm.vw)[i]? = some (some ⟨f.no, f.pins, f.dirty, f.used, f.s⟩) := by rw [List.getElem?_map, hf, Option.map_some, Frm.vw_some hfu]
      have hgl : g.length = m := by omega
      have c1 : (frs g)[i * 6 + 1]? = some (.bool f.dirty) := frs_cell hf (by omega)
      have c3 : (frs g)[i * 6 + 3]? = some (.int .i64 (j : Int)) := by rw [← hj]; exact frs_cell hf (by omega)
      have c5 : (frs g)[i * 6 + 5]? = some f.bv := frs_cell hf (by omega)
      have hL := frs_len (l := g)
      have hz := frs_set (f := fr0) hig
      have hfz : FOk (frC fr0) := FInv.fok (n := n) (p := p) (rs := rs) .zero
      have hsetv : (g.set i fr0).map Frm.vw = (g.map Frm.vw).set i none := by rw [List.map_set]; rfl
      have hCs : CInv n m p ⟨g.set i fr0, h', rs⟩ := CInv.set (C := ⟨g, hand, rs⟩) ⟨hgl, hhand, hv2⟩ .zero hh'
      have hCg : CInv n m p ⟨g, h', rs⟩ := ⟨hgl, hh', hv2⟩
      unfold fptr vhand at c13
      dsimp only [Option.map] at c13 ⊢
      rw [hlen] at c8 ⊢
      cases hdt : f.dirty with
      | false =>
        rw [hdt] at c1
        have hg2 : giveUp (g.map Frm.vw) i h' S.vw = (⟨(g.map Frm.vw).set i none, h'⟩, S.vw, some i, 0) := by unfold giveUp; rw [hgv]; dsimp only; rw [hdt]; rfl
        rw [hg2]
        refine Triple.enter Try.func58 rfl Try.ntmps58 rfl (fun W => ?_)
        dsimp only [argsF, Nat.reduceAdd]
        repeat' (first
         | refine WPl.nil ?_ | refine WPq.then ?_ | refine WPq.thenR ?_ | refine WPq.thenE ?_ | refine WPq.blockN ?_ | refine WPq.blockR ?_ | refine WPq.blockE ?_ | refine WPq.blockO rfl ?_ | refine WPc.seq ?_ | refine WPc.block ?_ | refine WPc.ret ?_ | refine WPc.exit ?_ | refine WPc.skip ?_ | refine WPc.region ?_
         | (refine isCond ?_; first | refine WPc.cT ?_ | refine WPc.cF ?_ | (refine WPc.cQ (fun hc => ?_) (fun hc => ?_) <;> try exact prA))
         | (refine isC 8 ?_; refine WPl.cV c8 ?_ (hΔ := provsW))
         | (refine isD 10 ?_; refine WPl.rdX (readP) ?_)
         | (refine isC 13 ?_; refine WPl.cTs (c13) ?_; (try dsimp only [putF, List.cons_append, List.nil_append]))
         | (refine isD 15 ?_; refine WPl.rdX (readP) ?_)
         | (refine isD 18 ?_; refine WPl.rdX (ReadR.fieldE rfl hasA (by omega)) ?_)
         | (refine isD 19 ?_; refine WPl.rdX (ReadR.loadE rfl hasA c1) ?_)
         | (show WPl _ _ _ _ _ _ _ (⟨_, .store _ (.tmp 38) _, _, _, _, _⟩ :: _) _; refine WPl.stES (new := frC fr0) (i := i * 6) (k := 6) (m := m) (xs := frs g) hfz rfl (by omega) (by omega) ?_)
         | (refine isOp ?_; first | refine WPl.rd ?_ | refine WPl.sk ?_ | refine WPl.rdB ?_)
         | (refine isSt ?_; first | refine WPl.st1 ?_ | refine WPl.stA ?_ | refine WPl.stEB ?_ | refine WPl.stRB ?_)
         | (show WPl _ _ _ _ _ _ _ (⟨_, .indexAddr _ _ _, _, _, _, _⟩ :: _) _; refine WPl.rdX (ReadR.indexE rfl rfl hasA (by first | assumption | omega)) ?_)
         | (show WPl _ _ _ _ _ _ _ (⟨_, .fieldAddr _ _ _, _, _, _, _⟩ :: _) _; refine WPl.rdX (ReadR.fieldE rfl hasA (by first | assumption | omega)) ?_)
         | (show WPl _ _ _ _ _ _ _ (⟨_, .load _ _, _, _, _, _⟩ :: _) _; first | refine WPl.rdX (ReadR.loadE rfl hasA (by assumption)) ?_ | refine WPl.rdX (ReadR.loadES (by assumption) (by first | assumption | omega) rfl hasA) ?_)
         | (show WPl _ _ _ _ _ _ _ (⟨_, .slice _ _ _ _ _, _, _, _, _⟩ :: _) _; first | refine WPl.rdX (ReadR.sliceH rfl rfl hasA (by omega)) ?_ | refine WPl.rdX (ReadR.sliceL rfl rfl hasA (by omega)) ?_ | refine WPl.rdX (ReadR.sliceLH rfl rfl rfl hasA (by omega) (by omega)) ?_)
         | (refine WPl.spQ (fun hc => ?_) (fun hc => ?_) <;> try exact prA)
         | fail)
        rw [hz]
        exact WPq.dX (ho := ownsW) (vs := [.pointer (some (ela vF (i * 6))), .int .i64 0]) [bx gK 86 (cxc gV vF (h' : Int)), rowN 90 6 vF m (frs (g.set i fr0)), vault rs, bx gV 79 (dvc S.fu vd mD S.cn), rowN 81 256 vd S.ls.length (secs S.ls), mp secM mD S.es, bag S.es] ⟨⟨g.set i fr0, h', rs⟩, S, rfl, (by show Cv.mk _ _ = Cv.mk _ _; rw [hsetv]), rfl, hCs, hd.mono (Nat.le_succ _), rfl, (fun a ha => by cases ha; exact ⟨rfl, fr0, by show (g.set i fr0)[i]? = _; rw [List.getElem?_set_self hig], rfl⟩), (fun ha => by cases ha), by show _ = [_, rowN _ 6 vF (g.set i fr0).length _, _, _, _, _, _]; rw [List.length_set, hgl]⟩
      | true =>
        rw [hdt] at c1
        have c32 := dwr_t gV mD vd n k S j f.bv f.s hd (by omega) (by omega) hjn
        by_cases he : (S.vw.wr j f.s).2 = 0
        · have hg2 : giveUp (g.map Frm.vw) i h' S.vw = (⟨(g.map Frm.vw).set i none, h'⟩, (S.vw.wr j f.s).1, some i, 0) := by unfold giveUp; rw [hgv]; dsimp only; rw [hdt, if_pos rfl, hj, Int.toNat_natCast, if_pos he]
          rw [hg2]
          rw [he] at c32
          obtain ⟨D1, hD1⟩ : ∃ D1, D1 = (S.vw.wr j f.s).1 := ⟨_, rfl⟩
          rw [← hD1] at c32 ⊢
          have hv32 : ∀ v Γ', RD gV mD vd n (k + 1) (.int .i64 0) D1 v Γ' → v = .int .i64 0 ∧ ∃ S', Γ' = dvA gV mD vd S' ∧ (S'.vw = D1 ∧ DInv n (k + 1) S') := fun v Γ' ⟨S', h1, h2, h3, h4⟩ => ⟨h1, S', h4, h2, h3⟩
          refine Triple.enter Try.func58 rfl Try.ntmps58 rfl (fun W => ?_)
          dsimp only [argsF, Nat.reduceAdd]
          repeat' (first
           | refine WPl.nil ?_ | refine WPq.then ?_ | refine WPq.thenR ?_ | refine WPq.thenE ?_ | refine WPq.blockN ?_ | refine WPq.blockR ?_ | refine WPq.blockE ?_ | refine WPq.blockO rfl ?_ | refine WPc.seq ?_ | refine WPc.block ?_ | refine WPc.ret ?_ | refine WPc.exit ?_ | refine WPc.skip ?_ | refine WPc.region ?_
           | (refine isReg 8 ?_; refine WPc.drA [([14, 15, 16, 17], [24, 25, 26, 27, 28, 29, 30, 31]), ([0, 14, 15, 16, 17], [20, 24, 25, 26, 27, 28, 29, 30, 31]), ([0, 1, 14, 15, 16, 17], [20, 21, 24, 25, 26, 27, 28, 29, 30, 31]), ([0, 1, 2, 14, 15, 16, 17], [20, 21, 22, 24, 25, 26, 27, 28, 29, 30, 31]), ([14, 15, 16, 17], [20, 21, 22, 23, 28, 29, 30, 31]), ([4, 14, 15, 16, 17], [20, 21, 22, 23, 24, 28, 29, 30, 31]), ([4, 5, 14, 15, 16, 17], [20, 21, 22, 23, 24, 25, 28, 29, 30, 31]), ([4, 5, 6, 14, 15, 16, 17], [20, 21, 22, 23, 24, 25, 26, 28, 29, 30, 31]), ([14, 15, 16, 17], [20, 21, 22, 23, 24, 25, 26, 27]), ([8, 14, 15, 16, 17], [20, 21, 22, 23, 24, 25, 26, 27, 28]), ([8, 9, 14, 15, 16, 17], [20, 21, 22, 23, 24, 25, 26, 27, 28, 29]), ([8, 9, 10, 14, 15, 16, 17], [20, 21, 22, 23, 24, 25, 26, 27, 28, 29, 30]), ([0, 1, 2, 3, 4, 5, 6, 7, 8, 9, 10, 11, 14, 15, 16, 17], [20, 21, 22, 23, 24, 25, 26, 27, 28, 29, 30, 31]), ([0, 1, 2, 3, 4, 5, 6, 7, 8, 9, 10, 11, 12, 14, 15, 16, 17], [20, 21, 22, 23, 24, 25, 26, 27, 28, 29, 30, 31, 32])] [(14, 12), (15, 12), (16, 12), (17, 12), (14, 0), (14, 1), (14, 2), (14, 3), (14, 4), (14, 5), (14, 6), (14, 7), (14, 8), (14, 9), (14, 10), (14, 11), (15, 0), (15, 1), (15, 2), (15, 3), (15, 4), (15, 5), (15, 6), (15, 7), (15, 8), (15, 9), (15, 10), (15, 11), (16, 0), (16, 1), (16, 2), (16, 3), (16, 4), (16, 5), (16, 6), (16, 7), (16, 8), (16, 9), (16, 10), (16, 11), (17, 0), (17, 1), (17, 2), (17, 3), (17, 4), (17, 5), (17, 6), (17, 7), (17, 8), (17, 9), (17, 10), (17, 11)] (Γx := [bx gV 79 (dvc S.fu vd mD S.cn), rowN 81 256 vd S.ls.length (secs S.ls), mp secM mD S.es, bag S.es]) (hox := ownsV) ?_; dsimp only [prev0, List.length_nil, List.length_cons])
           | (refine gAny ?_; first | (refine gC 13 ?_; refine RGl.turns (fun e hk => by (try dsimp only [bndR, ensR, oksR, fcutR, List.append_nil, List.nil_append, List.cons_append, List.append_assoc] at hk ⊢); exact OpT.callTs (c13)) ?_) | (refine gD 10 ?_; refine RGl.rdX (fun e hk => by (try dsimp only [bndR, ensR, oksR, fcutR, List.append_nil, List.nil_append, List.cons_append, List.append_assoc] at hk ⊢); exact readP) ?_) | (refine gD 15 ?_; refine RGl.rdX (fun e hk => by (try dsimp only [bndR, ensR, oksR, fcutR, List.append_nil, List.nil_append, List.cons_append, List.append_assoc] at hk ⊢); exact readP) ?_) | (refine gD 18 ?_; refine RGl.rdX (fun e hk => by (try dsimp only [bndR, ensR, oksR, fcutR, List.append_nil, List.nil_append, List.cons_append, List.append_assoc] at hk ⊢); exact ReadR.fieldE rfl hasA (by omega)) ?_) | (refine gD 19 ?_; refine RGl.rdX (fun e hk => by (try dsimp only [bndR, ensR, oksR, fcutR, List.append_nil, List.nil_append, List.cons_append, List.append_assoc] at hk ⊢); exact ReadR.loadE rfl hasA c1) ?_) | (refine gD 26 ?_; refine RGl.rdX (fun e hk => by (try dsimp only [bndR, ensR, oksR, fcutR, List.append_nil, List.nil_append, List.cons_append, List.append_assoc] at hk ⊢); exact ReadR.fieldE rfl hasA (by omega)) ?_) | (refine gD 27 ?_; refine RGl.rdX (fun e hk => by (try dsimp only [bndR, ensR, oksR, fcutR, List.append_nil, List.nil_append, List.cons_append, List.append_assoc] at hk ⊢); exact ReadR.loadE rfl hasA c3) ?_) | (refine gD 30 ?_; refine RGl.rdX (fun e hk => by (try dsimp only [bndR, ensR, oksR, fcutR, List.append_nil, List.nil_append, List.cons_append, List.append_assoc] at hk ⊢); exact ReadR.fieldE rfl hasA (by omega)) ?_) | (refine gD 31 ?_; refine RGl.rdX (fun e hk => by (try dsimp only [bndR, ensR, oksR, fcutR, List.append_nil, List.nil_append, List.cons_append, List.append_assoc] at hk ⊢); exact ReadR.loadE rfl hasA c5) ?_) | (refine gOp ?_; (refine gC 32 ?_; refine RGl.relG (.int .i64 0) (fun S' => dvA gV mD vd S') (fun S' => S'.vw = D1 ∧ DInv n (k + 1) S') hv32 (fun e hk => by (try dsimp only [bndR, ensR, oksR, fcutR, List.append_nil, List.nil_append, List.cons_append, List.append_assoc] at hk ⊢); exact OpT.callM c32 evsA takesA (Provs.cons (Prov.rd (HasS.vault memA hmem)) Provs.nil) (fpVaultM memA hmem) (by kernel_rfl)) ?_)) | (refine gOp ?_; first | refine RGl.rdA ?_ | refine RGl.rdX (fun e hk => by (try dsimp only [bndR, ensR, oksR, fcutR, List.append_nil, List.nil_append, List.cons_append, List.append_assoc] at hk ⊢); exact readB) ?_) | (refine RGl.fin (fun e hk => ?_); (try dsimp only [bndA, ensAR, oksA, List.append_nil, List.nil_append, List.cons_append, List.append_assoc] at hk ⊢); (repeat (obtain ⟨hk1, hk⟩ := hk))) | fail)
           | (refine isCond ?_; first | refine WPc.cT ?_ | refine WPc.cF ?_ | (refine WPc.cQ (fun hc => ?_) (fun hc => ?_) <;> try exact prA))
           | (refine isC 8 ?_; refine WPl.cV c8 ?_ (hΔ := provsW))
           | (refine isD 10 ?_; refine WPl.rdX (readP) ?_)
           | (refine isC 13 ?_; refine WPl.cTs (c13) ?_; (try dsimp only [putF, List.cons_append, List.nil_append]))
           | (refine isD 15 ?_; refine WPl.rdX (readP) ?_)
           | (refine isD 18 ?_; refine WPl.rdX (ReadR.fieldE rfl hasA (by omega)) ?_)
           | (refine isD 19 ?_; refine WPl.rdX (ReadR.loadE rfl hasA c1) ?_)
           | (show WPl _ _ _ _ _ _ _ (⟨_, .store _ (.tmp 38) _, _, _, _, _⟩ :: _) _; refine WPl.stES (new := frC fr0) (i := i * 6) (k := 6) (m := m) (xs := frs g) hfz rfl (by omega) (by omega) ?_)
           | (refine isOp ?_; first | refine WPl.rd ?_ | refine WPl.sk ?_ | refine WPl.rdB ?_)
           | (refine isSt ?_; first | refine WPl.st1 ?_ | refine WPl.stA ?_ | refine WPl.stEB ?_ | refine WPl.stRB ?_)
           | (show WPl _ _ _ _ _ _ _ (⟨_, .indexAddr _ _ _, _, _, _, _⟩ :: _) _; refine WPl.rdX (ReadR.indexE rfl rfl hasA (by first | assumption | omega)) ?_)
           | (show WPl _ _ _ _ _ _ _ (⟨_, .fieldAddr _ _ _, _, _, _, _⟩ :: _) _; refine WPl.rdX (ReadR.fieldE rfl hasA (by first | assumption | omega)) ?_)
           | (show WPl _ _ _ _ _ _ _ (⟨_, .load _ _, _, _, _, _⟩ :: _) _; first | refine WPl.rdX (ReadR.loadE rfl hasA (by assumption)) ?_ | refine WPl.rdX (ReadR.loadES (by assumption) (by first | assumption | omega) rfl hasA) ?_)
           | (show WPl _ _ _ _ _ _ _ (⟨_, .slice _ _ _ _ _, _, _, _, _⟩ :: _) _; first | refine WPl.rdX (ReadR.sliceH rfl rfl hasA (by omega)) ?_ | refine WPl.rdX (ReadR.sliceL rfl rfl hasA (by omega)) ?_ | refine WPl.rdX (ReadR.sliceLH rfl rfl rfl hasA (by omega) (by omega)) ?_)
           | (refine WPl.spQ (fun hc => ?_) (fun hc => ?_) <;> try exact prA)
           | fail)
          have hA : (fun S' => S'.vw = D1 ∧ DInv n (k + 1) S') (pickG (fun S' => dvA gV mD vd S') (fun S' => S'.vw = D1 ∧ DInv n (k + 1) S') (e 12).2) := by assumption
          obtain ⟨S', hS'⟩ : ∃ S', S' = (pickG (fun S' => dvA gV mD vd S') (fun S' => S'.vw = D1 ∧ DInv n (k + 1) S') (e 12).2) := ⟨_, rfl⟩
          rw [← hS'] at hA
          obtain ⟨hA1, hA2⟩ := hA
          dsimp only [Nat.reduceAdd]
          rw [← hS']
          rw [hz]
          exact WPq.dX (ho := ownsW) (vs := [.pointer (some (ela vF (i * 6))), .int .i64 0]) [bx gK 86 (cxc gV vF (h' : Int)), rowN 90 6 vF m (frs (g.set i fr0)), vault rs, bx gV 79 (dvc S'.fu vd mD S'.cn), rowN 81 256 vd S'.ls.length (secs S'.ls), mp secM mD S'.es, bag S'.es] ⟨⟨g.set i fr0, h', rs⟩, S', rfl, (by show Cv.mk _ _ = Cv.mk _ _; rw [hsetv]), hA1, hCs, hA2, rfl, (fun a ha => by cases ha; exact ⟨rfl, fr0, by show (g.set i fr0)[i]? = _; rw [List.getElem?_set_self hig], rfl⟩), (fun ha => by cases ha), by show _ = [_, rowN _ 6 vF (g.set i fr0).length _, _, _, _, _, _]; rw [List.length_set, hgl]⟩
        · have hg2 : giveUp (g.map Frm.vw) i h' S.vw = (⟨g.map Frm.vw, h'⟩, (S.vw.wr j f.s).1, none, (S.vw.wr j f.s).2) := by unfold giveUp; rw [hgv]; dsimp only; rw [hdt, if_pos rfl, hj, Int.toNat_natCast, if_neg he]
          rw [hg2]
          obtain ⟨D1, hD1⟩ : ∃ D1, D1 = (S.vw.wr j f.s).1 := ⟨_, rfl⟩
          obtain ⟨er, her⟩ : ∃ er, er = (S.vw.wr j f.s).2 := ⟨_, rfl⟩
          rw [← hD1, ← her] at c32 ⊢
          rw [← her] at he
          have hv32 : ∀ v Γ', RD gV mD vd n (k + 1) (.int .i64 er) D1 v Γ' → v = .int .i64 er ∧ ∃ S', Γ' = dvA gV mD vd S' ∧ (S'.vw = D1 ∧ DInv n (k + 1) S') := fun v Γ' ⟨S', h1, h2, h3, h4⟩ => ⟨h1, S', h4, h2, h3⟩
          refine Triple.enter Try.func58 rfl Try.ntmps58 rfl (fun W => ?_)
          dsimp only [argsF, Nat.reduceAdd]
          repeat' (first
           | refine WPl.nil ?_ | refine WPq.then ?_ | refine WPq.thenR ?_ | refine WPq.thenE ?_ | refine WPq.blockN ?_ | refine WPq.blockR ?_ | refine WPq.blockE ?_ | refine WPq.blockO rfl ?_ | refine WPc.seq ?_ | refine WPc.block ?_ | refine WPc.ret ?_ | refine WPc.exit ?_ | refine WPc.skip ?_ | refine WPc.region ?_
           | (refine isReg 8 ?_; refine WPc.drA [([14, 15, 16, 17], [24, 25, 26, 27, 28, 29, 30, 31]), ([0, 14, 15, 16, 17], [20, 24, 25, 26, 27, 28, 29, 30, 31]), ([0, 1, 14, 15, 16, 17], [20, 21, 24, 25, 26, 27, 28, 29, 30, 31]), ([0, 1, 2, 14, 15, 16, 17], [20, 21, 22, 24, 25, 26, 27, 28, 29, 30, 31]), ([14, 15, 16, 17], [20, 21, 22, 23, 28, 29, 30, 31]), ([4, 14, 15, 16, 17], [20, 21, 22, 23, 24, 28, 29, 30, 31]), ([4, 5, 14, 15, 16, 17], [20, 21, 22, 23, 24, 25, 28, 29, 30, 31]), ([4, 5, 6, 14, 15, 16, 17], [20, 21, 22, 23, 24, 25, 26, 28, 29, 30, 31]), ([14, 15, 16, 17], [20, 21, 22, 23, 24, 25, 26, 27]), ([8, 14, 15, 16, 17], [20, 21, 22, 23, 24, 25, 26, 27, 28]), ([8, 9, 14, 15, 16, 17], [20, 21, 22, 23, 24, 25, 26, 27, 28, 29]), ([8, 9, 10, 14, 15, 16, 17], [20, 21, 22, 23, 24, 25, 26, 27, 28, 29, 30]), ([0, 1, 2, 3, 4, 5, 6, 7, 8, 9, 10, 11, 14, 15, 16, 17], [20, 21, 22, 23, 24, 25, 26, 27, 28, 29, 30, 31]), ([0, 1, 2, 3, 4, 5, 6, 7, 8, 9, 10, 11, 12, 14, 15, 16, 17], [20, 21, 22, 23, 24, 25, 26, 27, 28, 29, 30, 31, 32])] [(14, 12), (15, 12), (16, 12), (17, 12), (14, 0), (14, 1), (14, 2), (14, 3), (14, 4), (14, 5), (14, 6), (14, 7), (14, 8), (14, 9), (14, 10), (14, 11), (15, 0), (15, 1), (15, 2), (15, 3), (15, 4), (15, 5), (15, 6), (15, 7), (15, 8), (15, 9), (15, 10), (15, 11), (16, 0), (16, 1), (16, 2), (16, 3), (16, 4), (16, 5), (16, 6), (16, 7), (16, 8), (16, 9), (16, 10), (16, 11), (17, 0), (17, 1), (17, 2), (17, 3), (17, 4), (17, 5), (17, 6), (17, 7), (17, 8), (17, 9), (17, 10), (17, 11)] (Γx := [bx gV 79 (dvc S.fu vd mD S.cn), rowN 81 256 vd S.ls.length (secs S.ls), mp secM mD S.es, bag S.es]) (hox := ownsV) ?_; dsimp only [prev0, List.length_nil, List.length_cons])
           | (refine gAny ?_; first | (refine gC 13 ?_; refine RGl.turns (fun e hk => by (try dsimp only [bndR, ensR, oksR, fcutR, List.append_nil, List.nil_append, List.cons_append, List.append_assoc] at hk ⊢); exact OpT.callTs (c13)) ?_) | (refine gD 10 ?_; refine RGl.rdX (fun e hk => by (try dsimp only [bndR, ensR, oksR, fcutR, List.append_nil, List.nil_append, List.cons_append, List.append_assoc] at hk ⊢); exact readP) ?_) | (refine gD 15 ?_; refine RGl.rdX (fun e hk => by (try dsimp only [bndR, ensR, oksR, fcutR, List.append_nil, List.nil_append, List.cons_append, List.append_assoc] at hk ⊢); exact readP) ?_) | (refine gD 18 ?_; refine RGl.rdX (fun e hk => by (try dsimp only [bndR, ensR, oksR, fcutR, List.append_nil, List.nil_append, List.cons_append, List.append_assoc] at hk ⊢); exact ReadR.fieldE rfl hasA (by omega)) ?_) | (refine gD 19 ?_; refine RGl.rdX (fun e hk => by (try dsimp only [bndR, ensR, oksR, fcutR, List.append_nil, List.nil_append, List.cons_append, List.append_assoc] at hk ⊢); exact ReadR.loadE rfl hasA c1) ?_) | (refine gD 34 ?_; refine RGl.rdX (fun e hk => by (try dsimp only [bndR, ensR, oksR, fcutR, List.append_nil, List.nil_append, List.cons_append, List.append_assoc] at hk ⊢); exact ReadR.binE rfl rfl BinR.neq (congrArg Value.bool (show (!decide _) = true by rw [decide_eq_false he]; rfl))) ?_) | (refine gD 26 ?_; refine RGl.rdX (fun e hk => by (try dsimp only [bndR, ensR, oksR, fcutR, List.append_nil, List.nil_append, List.cons_append, List.append_assoc] at hk ⊢); exact ReadR.fieldE rfl hasA (by omega)) ?_) | (refine gD 27 ?_; refine RGl.rdX (fun e hk => by (try dsimp only [bndR, ensR, oksR, fcutR, List.append_nil, List.nil_append, List.cons_append, List.append_assoc] at hk ⊢); exact ReadR.loadE rfl hasA c3) ?_) | (refine gD 30 ?_; refine RGl.rdX (fun e hk => by (try dsimp only [bndR, ensR, oksR, fcutR, List.append_nil, List.nil_append, List.cons_append, List.append_assoc] at hk ⊢); exact ReadR.fieldE rfl hasA (by omega)) ?_) | (refine gD 31 ?_; refine RGl.rdX (fun e hk => by (try dsimp only [bndR, ensR, oksR, fcutR, List.append_nil, List.nil_append, List.cons_append, List.append_assoc] at hk ⊢); exact ReadR.loadE rfl hasA c5) ?_) | (refine gOp ?_; (refine gC 32 ?_; refine RGl.relG (.int .i64 er) (fun S' => dvA gV mD vd S') (fun S' => S'.vw = D1 ∧ DInv n (k + 1) S') hv32 (fun e hk => by (try dsimp only [bndR, ensR, oksR, fcutR, List.append_nil, List.nil_append, List.cons_append, List.append_assoc] at hk ⊢); exact OpT.callM c32 evsA takesA (Provs.cons (Prov.rd (HasS.vault memA hmem)) Provs.nil) (fpVaultM memA hmem) (by kernel_rfl)) ?_)) | (refine gOp ?_; first | refine RGl.rdA ?_ | refine RGl.rdX (fun e hk => by (try dsimp only [bndR, ensR, oksR, fcutR, List.append_nil, List.nil_append, List.cons_append, List.append_assoc] at hk ⊢); exact readB) ?_) | (refine RGl.fin (fun e hk => ?_); (try dsimp only [bndA, ensAR, oksA, List.append_nil, List.nil_append, List.cons_append, List.append_assoc] at hk ⊢); (repeat (obtain ⟨hk1, hk⟩ := hk))) | fail)
           | (refine isCond ?_; first | refine WPc.cT ?_ | refine WPc.cF ?_ | (refine WPc.cQ (fun hc => ?_) (fun hc => ?_) <;> try exact prA))
           | (refine isC 8 ?_; refine WPl.cV c8 ?_ (hΔ := provsW))
           | (refine isD 10 ?_; refine WPl.rdX (readP) ?_)
           | (refine isC 13 ?_; refine WPl.cTs (c13) ?_; (try dsimp only [putF, List.cons_append, List.nil_append]))
           | (refine isD 15 ?_; refine WPl.rdX (readP) ?_)
           | (refine isD 18 ?_; refine WPl.rdX (ReadR.fieldE rfl hasA (by omega)) ?_)
           | (refine isD 19 ?_; refine WPl.rdX (ReadR.loadE rfl hasA c1) ?_)
           | (refine isD 34 ?_; refine WPl.rdX (ReadR.binE rfl rfl BinR.neq (congrArg Value.bool (show (!decide _) = true by rw [decide_eq_false he]; rfl))) ?_)
           | (refine isOp ?_; first | refine WPl.rd ?_ | refine WPl.sk ?_ | refine WPl.rdB ?_)
           | (refine isSt ?_; first | refine WPl.st1 ?_ | refine WPl.stA ?_ | refine WPl.stEB ?_ | refine WPl.stRB ?_)
           | (show WPl _ _ _ _ _ _ _ (⟨_, .indexAddr _ _ _, _, _, _, _⟩ :: _) _; refine WPl.rdX (ReadR.indexE rfl rfl hasA (by first | assumption | omega)) ?_)
           | (show WPl _ _ _ _ _ _ _ (⟨_, .fieldAddr _ _ _, _, _, _, _⟩ :: _) _; refine WPl.rdX (ReadR.fieldE rfl hasA (by first | assumption | omega)) ?_)
           | (show WPl _ _ _ _ _ _ _ (⟨_, .load _ _, _, _, _, _⟩ :: _) _; first | refine WPl.rdX (ReadR.loadE rfl hasA (by assumption)) ?_ | refine WPl.rdX (ReadR.loadES (by assumption) (by first | assumption | omega) rfl hasA) ?_)
           | (show WPl _ _ _ _ _ _ _ (⟨_, .slice _ _ _ _ _, _, _, _, _⟩ :: _) _; first | refine WPl.rdX (ReadR.sliceH rfl rfl hasA (by omega)) ?_ | refine WPl.rdX (ReadR.sliceL rfl rfl hasA (by omega)) ?_ | refine WPl.rdX (ReadR.sliceLH rfl rfl rfl hasA (by omega) (by omega)) ?_)
           | (refine WPl.spQ (fun hc => ?_) (fun hc => ?_) <;> try exact prA)
           | fail)
          have hA : (fun S' => S'.vw = D1 ∧ DInv n (k + 1) S') (pickG (fun S' => dvA gV mD vd S') (fun S' => S'.vw = D1 ∧ DInv n (k + 1) S') (e 12).2) := by assumption
          obtain ⟨S', hS'⟩ : ∃ S', S' = (pickG (fun S' => dvA gV mD vd S') (fun S' => S'.vw = D1 ∧ DInv n (k + 1) S') (e 12).2) := ⟨_, rfl⟩
          rw [← hS'] at hA
          obtain ⟨hA1, hA2⟩ := hA
          dsimp only [Nat.reduceAdd]
          rw [← hS']
          exact WPq.dX (ho := ownsW) (vs := [.pointer none, .int .i64 er]) [bx gK 86 (cxc gV vF (h' : Int)), rowN 90 6 vF m (frs g), vault rs, bx gV 79 (dvc S'.fu vd mD S'.cn), rowN 81 256 vd S'.ls.length (secs S'.ls), mp secM mD S'.es, bag S'.es] ⟨⟨g, h', rs⟩, S', rfl, rfl, hA1, hCg, hA2, rfl, (fun a ha => by cases ha), (fun ha => he), by show _ = [_, rowN _ 6 vF g.length _, _, _, _, _, _]; rw [hgl]⟩
end
end Go.Proofs.Ytepmikgjnmjheaa
