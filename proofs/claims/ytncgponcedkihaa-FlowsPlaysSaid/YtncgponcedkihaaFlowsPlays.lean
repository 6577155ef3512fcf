/- FlowsPlays: what a table tells of any calls, and which flows it keeps. -/
import Derived.Test.YtncgponcedkihaaFv
import Derived.Test.YtncgponcedkihaaFr
import Derived.Test.YtncgponcedkihaaJn
import Derived.Test.YtncgponcedkihaaRo
namespace Go.Proofs.Ytncgponcedkihaa
section
open Go.RowKit
set_option linter.unusedSimpArgs false
set_option linter.unusedVariables false
def rmp {K V : Type} (M : MK K V) (g : Nat) (l : List (K × V)) : Asn where
  own := false
  fp := (mp M g l).fp
  holds := (mp M g l).holds
  lt := (mp M g l).lt
  loc := (mp M g l).loc
/-- The same, its entries told. -/
def rme {K V : Type} (M : MK K V) (m : Nat) (l : List (K × V)) (es : Array MapEntry) (clock : Nat) : Asn where
  own := false
  fp := fun g' => g' = m
  holds := fun w => w.heap[m]? = some (.map es clock) ∧ es.toList.map (fun e => (e.key, e.val)) = l.map (fun x => (M.kc x.1, M.vc x.2)) ∧ (es.toList.map (fun e : MapEntry => e.born)).Pairwise (fun a b : Nat => a < b) ∧ (∀ e ∈ es.toList, e.born < clock) ∧ (l.map (fun x : K × V => x.1)).Nodup ∧ ∀ x ∈ l, M.wf x.1
  lt := fun w h g' hg => by
    subst hg
    exact (Array.getElem?_eq_some_iff.1 h.1).1
  loc := fun w w' h hl => ⟨by rw [hl m rfl]; exact h.1, h.2⟩
/-- An iterator of a map that is only read. -/
def rgo {K V : Type} (M : MK K V) (m r : Nat) (l : List (K × V)) (es : Array MapEntry) (clock : Nat) (td : List (K × V)) (c : Option (K × V)) : Asn where
  own := true
  fp := fun g => g = r
  holds := fun w => ∃ since seen c0, w.heap[r]? = some (.mapIter (some m) since seen c0) ∧
    (since ≤ c0 ∧ since ≤ clock) ∧ (∀ e ∈ es.toList, e.born < since) ∧ (leftOf es seen).toList.map (fun e => (e.key, e.val)) = td.map (fun x => (M.kc x.1, M.vc x.2)) ∧ td.Sublist l ∧
    (∀ x, c = some x → c0 = clock ∧ ∃ e ∈ es.toList, seen.back? = some e.born ∧ e.key = M.kc x.1 ∧ e.val = M.vc x.2)
  lt := fun w h g hg => by
    obtain ⟨since, seen, c0, h1, _⟩ := h
    subst hg
    exact (Array.getElem?_eq_some_iff.1 h1).1
  loc := fun w w' h hl => by
    obtain ⟨since, seen, c0, h1, h3⟩ := h
    exact ⟨since, seen, c0, by rw [hl r rfl]; exact h1, h3⟩
theorem rgo_own {K V : Type} {M : MK K V} {m r : Nat} {l td : List (K × V)} {es : Array MapEntry} {clock : Nat} {c : Option (K × V)} : (rgo M m r l es clock td c).own = true := rfl
theorem Prov.mp {K V : Type} {M : MK K V} {Γ : List Asn} {g : Nat} {l : List (K × V)} (h : Go.Proofs.Ytncgponcedkihaa.mp M g l ∈ Γ) : Prov Γ (rmp M g l) := ⟨rfl, fun w hw => hw (Go.Proofs.Ytncgponcedkihaa.mp M g l) h⟩
theorem Prov.rmp {K V : Type} {M : MK K V} {Γ : List Asn} {g : Nat} {l : List (K × V)} (h : Go.Proofs.Ytncgponcedkihaa.rmp M g l ∈ Γ) : Prov Γ (Go.Proofs.Ytncgponcedkihaa.rmp M g l) := ⟨rfl, fun w hw => hw _ h⟩
theorem provsM {Γ Δ : List Asn} (h : Provs Γ Δ := by ((repeat' (first | exact Provs.nil | apply Provs.cons | exact Prov.bx memA | exact Prov.mp memA | exact Prov.rbx memA | exact Prov.rmp memA | exact provA | fail)) <;> fail)) : Provs Γ Δ := h
section
variable {P : Program} {n : Nat} {W : World} {S : Nat → Prop} {Γ : List Asn} {F : List (Nat × Value)} {Q : Exit → Act → World → Prop} {ops : Array Oper} {os : List Oper}
variable {ty : TypeId} {pos : String} {af : Array Edge} {gd : Option (Nat × Bool)}
variable {K V : Type} {T : TypeId} {M : MK K V}
theorem ReadR.mlenO [h : MapI P T M] {d : Option Tmp} {x : Operand} {g : Nat} {l : List (K × V)} (hx : evF F x = some (.map (some g))) (hm : rmp M g l ∈ Γ) :
    ReadR P n Γ F ⟨d, .call { callee := .builtin .len, args := #[x], argTypes := #[T] }, ty, pos, af, gd⟩ (.int .i64 (l.length : Int)) := fun ρ w hf hw => by
  obtain ⟨kT, eT, hu, _⟩ := h.law
  obtain ⟨es, clock, hb, he, _⟩ := hw _ hm
  have hl : es.size = l.length := by have := congrArg List.length he; simpa using this
  simp [execOp, resolve, invoke, builtin, Builtin.len_, hf.eval hx, run_underlying hu, MapKept.run_getObj_map hb, Result.andThen, goInt, hl]
/-- What follows, at one world, of something that is only read, told beside it. -/
theorem Good.moreW {A B : Asn} {w : World} (hA : A ∈ Γ) (hAo : A.own = false) (hBo : B.own = false) (hfp : ∀ g, B.fp g → A.fp g) (hh : A.holds w → B.holds w) (h : Good W S Γ w) : Good W S (B :: Γ) w := by
  have h2 := h.dup hA hAo
  have ha := h2.apart
  rw [List.pairwise_cons] at ha
  refine ⟨h.mod, fun C hC => ?_, List.pairwise_cons.2 ⟨fun C hC hor g hg hg' => ?_, h.apart⟩, fun C hC => ?_⟩
  · rcases List.mem_cons.1 hC with rfl | hC
    · exact hh (h.all _ hA)
    · exact h.all C hC
  · refine ha.1 C hC ?_ g (hfp g hg) hg'
    rcases hor with hor | hor
    · rw [hBo] at hor; cases hor
    · exact .inr hor
  · rcases List.mem_cons.1 hC with rfl | hC
    · intro h'; rw [hBo] at h'; cases h'
    · exact h.mine C hC
theorem WPc.openR {cd : Code} {m : Nat} {l : List (K × V)} (hm : rmp M m l ∈ Γ) (k : ∀ es clock, WPc P n W S (rme M m l es clock :: Γ) F cd Q) : WPc P n W S Γ F cd Q := fun a w hf hg => by
  obtain ⟨es, clock, hb⟩ := hg.all _ hm
  exact k es clock a w hf (hg.moreW hm rfl rfl (fun g hg => hg) (fun _ => hb))
def RRgo (M : MK K V) (m : Nat) (l : List (K × V)) (es : Array MapEntry) (clock : Nat) : Value → List Asn → Prop := fun v Γ => ∃ r, v = .pointer (some ⟨r, 0, none⟩) ∧ Γ = [rgo M m r l es clock l none]
theorem OpT.mrangeO [h : MapI P T M] {d : Option Tmp} {x : Operand} {m : Nat} {l : List (K × V)} {es : Array MapEntry} {clock : Nat} (hx : evF F x = some (.map (some m))) (hm : rme M m l es clock ∈ Γ) :
    OpT P n Γ F ⟨d, .range T x, ty, pos, af, gd⟩ [] (RRgo M m l es clock) := fun ρ w hf hw _ => by
  obtain ⟨kT, eT, hu, _⟩ := h.law
  obtain ⟨hb, h1, h2, h3, h4, h5⟩ := hw _ hm
  have hrun : (execOp ρ.eval ⟨d, .range T x, ty, pos, af, gd⟩).run P w = .ok (.value (.pointer (some ⟨w.heap.size, 0, none⟩))) (w.alloc (.mapIter (some m) clock #[] clock)) := by
    simp [execOp, hf.eval hx, Instr.range, Sem.run_bind, run_underlying hu, MapKept.run_getObj_map hb, Result.andThen, newObj, Sem.run]
  unfold DoesW
  rw [hrun]
  refine ⟨_, ⟨_, rfl, rfl⟩, .one (Mod.alloc _ _ _) ⟨clock, #[], clock, alloc_new _ _, ⟨Nat.le_refl _, Nat.le_refl _⟩, h3, ?_, List.Sublist.refl _, fun x hx => by cases hx⟩ fun g hg => ?_⟩
  · rw [← h1]
    congr 1
    rw [leftOf_sub', List.filter_eq_self]
    intro a _
    simp
  · cases hg
    exact .inl (Nat.le_refl _)
def RNxtO (M : MK K V) (m r : Nat) (l : List (K × V)) (es : Array MapEntry) (clock : Nat) (td : List (K × V)) (c : Option (K × V)) : Value → List Asn → Prop := fun v Γ =>
  (td = [] ∧ v = .tuple #[.bool false] ∧ Γ = [rgo M m r l es clock td c]) ∨ ∃ A x B, td = A ++ x :: B ∧ v = .tuple #[.bool true, M.kc x.1, M.vc x.2] ∧ Γ = [rgo M m r l es clock (A ++ B) (some x)]
theorem OpT.nextO {d : Option Tmp} {x : Operand} {m r : Nat} {l td : List (K × V)} {es : Array MapEntry} {clock : Nat} {c : Option (K × V)} {Γf : List Asn} (hx : evF F x = some (.pointer (some ⟨r, 0, none⟩))) (hme : rme M m l es clock ∈ Γ) (hp : Takes Γ [rgo M m r l es clock td c] Γf) :
    OpT P n Γ F ⟨d, .next x false, ty, pos, af, gd⟩ [rgo M m r l es clock td c] (RNxtO M m r l es clock td c) := fun ρ w hf hw _ => by
  have hb0 : (rgo M m r l es clock td c).holds w := hw _ (hp.mem_iff.2 (List.mem_cons_self ..))
  have hb1 := hb0
  obtain ⟨hm, hmp⟩ := hw _ hme
  obtain ⟨since, seen, c0, hr, hsc, hold, hleft, hsub, hcur⟩ := hb0
  have hown : ownFp [rgo M m r l es clock td c] r := ⟨_, List.mem_singleton.2 rfl, rfl, rfl⟩
  rcases run_next_at (P := P) w ty r m since c0 seen es clock hr hm hold hsc.1 with ⟨hz, hrun⟩ | ⟨e, he, w1, hw1, hrun⟩
  · have hex : (execOp ρ.eval ⟨d, .next x false, ty, pos, af, gd⟩).run P w = .ok (.value (.tuple #[.bool false])) w := by
      simp [execOp, hf.eval hx, Sem.run_bind, hrun]
    have htd : td = [] := by
      have h1 := congrArg List.length hleft
      rw [List.length_map, List.length_map, Array.length_toList, hz] at h1
      exact List.eq_nil_of_length_eq_zero h1.symm
    unfold DoesW
    rw [hex]
    exact ⟨_, .inl ⟨htd, rfl, rfl⟩, .one (Mod.refl _ _) hb1 fun g hg => .inr (by cases hg; exact hown)⟩
  · have hex : (execOp ρ.eval ⟨d, .next x false, ty, pos, af, gd⟩).run P w = .ok (.value (.tuple #[.bool true, e.key, e.val])) (ChangeMaps.setBlock w1 r (.mapIter (some m) since (seen.push e.born) clock)) := by
      simp [execOp, hf.eval hx, Sem.run_bind, hrun]
    have hmem : e ∈ es.toList := by
      have he2 := he
      rw [leftOf_sub'] at he2
      exact (List.mem_filter.1 he2).1
    obtain ⟨A, B, hAB⟩ := List.append_of_mem he
    have hmap := hleft
    rw [hAB] at hmap
    obtain ⟨A', y, B', htd, hey, hmap2⟩ := map_split hmap
    simp only [Prod.mk.injEq] at hey
    unfold DoesW
    rw [hex]
    have hw1h : w1.heap = w.heap := by rcases hw1 with rfl | rfl <;> rfl
    have hmod : Mod (ownFp [rgo M m r l es clock td c]) w w1 := by
      rcases hw1 with rfl | rfl
      · exact Mod.refl _ _
      · exact ⟨rfl, rfl, rfl, Nat.le_refl _, Nat.le_succ _, fun _ _ _ => rfl⟩
    refine ⟨_, .inr ⟨A', y, B', htd, by rw [hey.1, hey.2], rfl⟩, .one (hmod.trans (mod_block hown _ _)) ⟨since, seen.push e.born, clock, block_set (by rw [hw1h]; exact hr), ⟨hsc.2, hsc.2⟩, hold, ?_, ?_, fun x' hx' => ⟨rfl, e, hmem, Array.back?_push, by cases hx'; exact hey.1, by cases hx'; exact hey.2⟩⟩ fun g hg => .inr (by cases hg; exact hown)⟩
    · rw [left_push, born_inj ?_ hAB]
      · exact hmap2
      · unfold leftOf
        rw [Array.toList_filter]
        exact hmp.2.1.sublist (List.Sublist.map _ List.filter_sublist)
    · refine List.Sublist.trans ?_ hsub
      rw [htd]
      exact List.Sublist.append (List.Sublist.refl _) (List.sublist_cons_self ..)
theorem ReadR.entryO {d : Option Tmp} {x : Operand} {m r : Nat} {l td : List (K × V)} {es : Array MapEntry} {clock : Nat} {y : K × V} {kv vv : Value} (hk : M.kc y.1 = kv) (hv : M.vc y.2 = vv) (hme : rme M m l es clock ∈ Γ) (hm : rgo M m r l es clock td (some y) ∈ Γ) (hx : evF F x = some (.pointer (some ⟨r, 0, none⟩))) :
    ReadR P n Γ F ⟨d, .entry x, ty, pos, af, gd⟩ (.tuple #[kv, vv]) := fun ρ w hf hw => by
  subst hk hv
  obtain ⟨hb, he, h1, h2, hn, hwf⟩ := hw _ hme
  obtain ⟨since, seen, c0, hr, hsc, hold, hleft, hsub, hcur⟩ := hw _ hm
  obtain ⟨rfl, e, hem, hbk, hke, hve⟩ := hcur y rfl
  have hnd : (es.toList.map (·.born)).Nodup := h1.imp (fun h => Nat.ne_of_lt h)
  have hfd : es.find? (·.born == e.born) = some e := by rw [← Array.find?_toList]; exact Go.find_born e es.toList hnd hem
  have : (Instr.entry (.pointer (some ⟨r, 0, none⟩))).run P w = .ok (.tuple #[e.key, e.val]) w := by
    simp only [Instr.entry, getObj, Sem.run_bind, Sem.run, hr, hb, Result.andThen, hbk, bne_self_eq_false, Bool.false_eq_true, if_false, hfd]
    rfl
  simp [execOp, hf.eval hx, Sem.run_bind, this, hke, hve]
theorem WPl.mrangeO [h : MapI P T M] {d : Nat} {x : Operand} {m : Nat} {l : List (K × V)} {es : Array MapEntry} {clock : Nat} (hm : rme M m l es clock ∈ Γ) (k : ∀ r, WPl P n W S (rgo M m r l es clock l none :: Γ) ((d, .pointer (some ⟨r, 0, none⟩)) :: F) ops os Q) (hx : evF F x = some (.map (some m)) := by first | rfl | fail) (hlt : Nat.blt d n = true := by first | rfl | fail) (hw : wantG F ops gd = some true := by first | rfl | fail) :
    WPl P n W S Γ F ops (⟨some d, .range T x, ty, pos, af, gd⟩ :: os) Q :=
  WPl.op .nil hlt hw (OpT.mrangeO (h := h) hx hm) (by rintro v Γ' ⟨r, rfl, rfl⟩; exact k r)
theorem WPl.mnextO {d : Nat} {x : Operand} {m r : Nat} {l td : List (K × V)} {es : Array MapEntry} {clock : Nat} {c : Option (K × V)} {Γf : List Asn} (hme : rme M m l es clock ∈ Γ) (kf : K → Value) (vf : V → Value) (k0 : td = [] → WPl P n W S (rgo M m r l es clock td c :: Γf) ((d, .tuple #[.bool false]) :: F) ops os Q)
    (k1 : ∀ A y B, td = A ++ y :: B → WPl P n W S (rgo M m r l es clock (A ++ B) (some y) :: Γf) ((d, .tuple #[.bool true, kf y.1, vf y.2]) :: F) ops os Q) (hk : ∀ z, M.kc z = kf z := by first | exact fun _ => rfl | fail) (hv : ∀ z, M.vc z = vf z := by first | exact fun _ => rfl | fail)
    (hx : evF F x = some (.pointer (some ⟨r, 0, none⟩)) := by first | rfl | fail) (hp : Take Γ (rgo M m r l es clock td c) Γf := by first | exact takeA | fail) (hlt : Nat.blt d n = true := by first | rfl | fail) (hw : wantG F ops gd = some true := by first | rfl | fail) :
    WPl P n W S Γ F ops (⟨some d, .next x false, ty, pos, af, gd⟩ :: os) Q :=
  WPl.op (.cons hp .nil) hlt hw (OpT.nextO hx hme (.cons hp .nil)) (by
    rintro v Γ' (⟨h0, rfl, rfl⟩ | ⟨A, y, B, h0, rfl, rfl⟩)
    · exact k0 h0
    · have := k1 A y B h0
      rw [← hk, ← hv] at this
      exact this)
end
end
section
open Go.RowKit
set_option linter.unusedSimpArgs false
set_option linter.unusedVariables false
set_option maxRecDepth 20000
set_option maxHeartbeats 4000000
attribute [local irreducible] WPc WPl WPq ReadR OpT BinR HasS bx rdN rowN Take Takes Prov Triple ResF BuildP Done ag Int.decLt Int.decLe Int.instDecidableEq
instance enDec' : DecidableEq En := fun a b => decidable_of_iff (a.sv = b.sv ∧ a.bk = b.bk ∧ a.ad = b.ad ∧ a.port = b.port ∧ a.st = b.st ∧ a.til = b.til)
  ⟨fun ⟨h1, h2, h3, h4, h5, h6⟩ => by cases a; cases b; simp_all, fun h => by subst h; exact ⟨rfl, rfl, rfl, rfl, rfl, rfl⟩⟩
theorem hd_eqb (a b : Fl × En) : (a.1.src.six == b.1.src.six && (decide (a.1.src.b = b.1.src.b) && (a.1.dst.six == b.1.dst.six && (decide (a.1.dst.b = b.1.dst.b) && (decide ((a.1.sp : Int) = (b.1.sp : Int)) && (decide ((a.1.dp : Int) = (b.1.dp : Int)) && (decide ((a.1.proto.toNat : Int) = (b.1.proto.toNat : Int)) && (decide (a.2.sv = b.2.sv) && (decide (a.2.bk = b.2.bk) && (a.2.ad.six == b.2.ad.six && (decide (a.2.ad.b = b.2.ad.b) && (decide ((a.2.port : Int) = (b.2.port : Int)) && (decide (a.2.st = b.2.st) && (decide (a.2.til = b.2.til) && true)))))))))))))) = decide (a = b) := by
  rw [Bool.eq_iff_iff]
  simp only [Bool.and_true, Bool.and_eq_true, beq_iff_eq, decide_eq_true_eq]
  constructor
  · rintro ⟨h1, h2, h3, h4, h5, h6, h7, h8, h9, h10, h11, h12, h13, h14⟩
    obtain ⟨⟨s1, s2, s3, s4, s5⟩, ⟨u1, u2, u3, u4, u5, u6⟩⟩ := a
    obtain ⟨⟨t1, t2, t3, t4, t5⟩, ⟨v1, v2, v3, v4, v5, v6⟩⟩ := b
    dsimp only at *
    have e1 : s1 = t1 := Adr.ext h1 h2
    have e2 : s2 = t2 := Adr.ext h3 h4
    have e3 : s3 = t3 := by omega
    have e4 : s4 = t4 := by omega
    have e5 : s5 = t5 := UInt8.toNat_inj.1 (by omega)
    have e6 : u3 = v3 := Adr.ext h10 h11
    have e7 : u4 = v4 := by omega
    subst e1 e2 e3 e4 e5 e6 e7 h8 h9 h13 h14
    rfl
  · rintro rfl; exact ⟨rfl, rfl, rfl, rfl, rfl, rfl, rfl, rfl, rfl, rfl, rfl, rfl, rfl, rfl⟩
theorem BinR.hdN {a b : Fl × En} : BinR Try.prog .neq 75 (ag (hdE a)) (ag (hdE b)) (.bool (!decide (a = b))) := by
  have l1 := a.1.src.len
  have l2 := b.1.src.len
  have l3 := a.1.dst.len
  have l4 := b.1.dst.len
  have l5 := a.2.ad.len
  have l6 := b.2.ad.len
  rw [← hd_eqb]
  exact BinR.neqA eqcA
section
attribute [local irreducible] fds
theorem same_t (v1 v2 : Value) (D : LL) (hD : D.length ≤ 50000) : Triple Try.prog 32 #[v1, v2] [rdN v1 D.length (fds D), rdN v2 D.length (fds D)] (RVal (.bool true)) := by
  have hcl := fds_len (l := D)
  refine Triple.enter Try.func32 rfl Try.ntmps32 rfl (fun W => ?_)
  dsimp only [argsF, Nat.reduceAdd]
  repeat' (first
   | refine WPl.nil ?_ | refine WPq.then ?_ | refine WPq.thenR ?_ | refine WPq.thenE ?_ | refine WPq.blockN ?_ | refine WPq.blockR ?_ | refine WPq.blockE ?_ | refine WPq.blockO rfl ?_ | refine WPc.seq ?_ | refine WPc.block ?_ | refine WPc.ret ?_ | refine WPc.exit ?_ | refine WPc.skip ?_ | refine WPc.region ?_
   | (refine isReg 6 ?_; refine WPc.drA [([], [18, 21, 22, 23, 24]), ([], [17, 21, 22, 23, 24]), ([0, 1], [17, 18, 21, 22, 23, 24]), ([0, 1, 2], [17, 18, 19, 21, 22, 23, 24]), ([], [17, 18, 19, 20, 22]), ([], [17, 18, 19, 20, 21]), ([4, 5], [17, 18, 19, 20, 21, 22]), ([4, 5, 6], [17, 18, 19, 20, 21, 22, 23]), ([0, 1, 2, 3, 4, 5, 6, 7], [17, 18, 19, 20, 21, 22, 23, 24])] [] (Γx := []) ?_; dsimp only [prev0, List.length_nil, List.length_cons])
   | (refine gAny ?_; first | (refine gD 10 ?_; refine RGl.rdX (fun e hk => by (try dsimp only [bndR, ensR, oksR, fcutR, List.append_nil, List.nil_append, List.cons_append, List.append_assoc] at hk ⊢); exact ReadR.binE rfl rfl BinR.neq (congrArg (fun q => Value.bool (!q)) (decide_eq_true rfl))) ?_) | (refine gOp ?_; first | refine RGl.rdA ?_ | refine RGl.rdX (fun e hk => by (try dsimp only [bndR, ensR, oksR, fcutR, List.append_nil, List.nil_append, List.cons_append, List.append_assoc] at hk ⊢); exact readB) ?_) | (refine RGl.fin (fun e hk => ?_); (try dsimp only [bndA, ensAR, oksA, List.append_nil, List.nil_append, List.cons_append, List.append_assoc] at hk ⊢); (repeat (obtain ⟨hk1, hk⟩ := hk))) | fail)
   | (refine isCond ?_; first | refine WPc.cT ?_ | refine WPc.cF ?_ | (refine WPc.cQ (fun hc => ?_) (fun hc => ?_) <;> try exact prA))
   | (refine isD 10 ?_; refine WPl.rdX (ReadR.binE rfl rfl BinR.neq (congrArg (fun q => Value.bool (!q)) (decide_eq_true rfl))) ?_)
   | (refine isOp ?_; first | refine WPl.rd ?_ | refine WPl.sk ?_ | refine WPl.rdB ?_)
   | (show WPl _ _ _ _ _ _ _ (⟨_, .indexAddr _ _ _, _, _, _, _⟩ :: _) _; refine WPl.rdX (ReadR.indexE rfl rfl hasA (by first | assumption | omega)) ?_)
   | (show WPl _ _ _ _ _ _ _ (⟨_, .fieldAddr _ _ _, _, _, _, _⟩ :: _) _; refine WPl.rdX (ReadR.fieldE rfl hasA (by first | assumption | omega)) ?_)
   | (show WPl _ _ _ _ _ _ _ (⟨_, .load _ _, _, _, _, _⟩ :: _) _; first | refine WPl.rdX (ReadR.loadE rfl hasA (by assumption)) ?_ | refine WPl.rdX (ReadR.loadES (by assumption) (by first | assumption | omega) rfl hasA) ?_)
   | (show WPl _ _ _ _ _ _ _ (⟨_, .slice _ _ _ _ _, _, _, _, _⟩ :: _) _; first | refine WPl.rdX (ReadR.sliceH rfl rfl hasA (by omega)) ?_ | refine WPl.rdX (ReadR.sliceL rfl rfl hasA (by omega)) ?_ | refine WPl.rdX (ReadR.sliceLH rfl rfl rfl hasA (by omega) (by omega)) ?_)
   | (refine WPl.spQ (fun hc => ?_) (fun hc => ?_) <;> try exact prA)
   | fail)
  first | refine WPc.loop (σ := Nat) (fun st => st ≤ D.length) (fun st => [rdN v1 D.length (fds D), rdN v2 D.length (fds D)]) (fun st => [(0, v1), (1, v2), (5, .int .i64 (st : Int))]) (fun st => D.length - st) (0) ?_ takesA frsA (fun st km hx hk => ?_)
  · exact Nat.zero_le _
  obtain ⟨i, rfl⟩ : ∃ i, i = st := ⟨_, rfl⟩
  have hi : i ≤ D.length := hx
  have hkm : km = D.length - i := hk
  clear hk
  by_cases hlt : i < D.length
  · obtain ⟨xc, hcD⟩ : ∃ xc, D[i]? = some xc := ⟨_, List.getElem?_eq_getElem hlt⟩
    have hcp := fds_drop hcD
    have l3 := xc.1.src.len
    have l4 := xc.1.dst.len
    have l5 := xc.2.ad.len
    have hlt' : (i : Int) < (D.length : Int) := by omega
    repeat' (first
     | refine WPl.nil ?_ | refine WPq.then ?_ | refine WPq.thenR ?_ | refine WPq.thenE ?_ | refine WPq.blockN ?_ | refine WPq.blockR ?_ | refine WPq.blockE ?_ | refine WPq.blockO rfl ?_ | refine WPc.seq ?_ | refine WPc.block ?_ | refine WPc.ret ?_ | refine WPc.exit ?_ | refine WPc.skip ?_ | refine WPc.region ?_
     | (refine isReg 6 ?_; refine WPc.drA [([], [18, 21, 22, 23, 24]), ([], [17, 21, 22, 23, 24]), ([0, 1], [17, 18, 21, 22, 23, 24]), ([0, 1, 2], [17, 18, 19, 21, 22, 23, 24]), ([], [17, 18, 19, 20, 22]), ([], [17, 18, 19, 20, 21]), ([4, 5], [17, 18, 19, 20, 21, 22]), ([4, 5, 6], [17, 18, 19, 20, 21, 22, 23]), ([0, 1, 2, 3, 4, 5, 6, 7], [17, 18, 19, 20, 21, 22, 23, 24])] [] (Γx := []) ?_; dsimp only [prev0, List.length_nil, List.length_cons])
     | (refine gAny ?_; first | (refine gD 14 ?_; refine RGl.rdX (fun e hk => by (try dsimp only [bndR, ensR, oksR, fcutR, List.append_nil, List.nil_append, List.cons_append, List.append_assoc] at hk ⊢); exact ReadR.binE rfl rfl BinR.lss (congrArg Value.bool (decide_eq_true hlt'))) ?_) | (refine gD 19 ?_; refine RGl.rdX (fun e hk => by (try dsimp only [bndR, ensR, oksR, fcutR, List.append_nil, List.nil_append, List.cons_append, List.append_assoc] at hk ⊢); exact ReadR.indexE (i := i) rfl rfl hasA hlt) ?_) | (refine gD 20 ?_; refine RGl.rdX (fun e hk => by (try dsimp only [bndR, ensR, oksR, fcutR, List.append_nil, List.nil_append, List.cons_append, List.append_assoc] at hk ⊢); exact ReadR.loadES (cs := hdE xc) hcp (by omega) rfl hasA) ?_) | (refine gD 23 ?_; refine RGl.rdX (fun e hk => by (try dsimp only [bndR, ensR, oksR, fcutR, List.append_nil, List.nil_append, List.cons_append, List.append_assoc] at hk ⊢); exact ReadR.indexE (i := i) (m := D.length) (xs := fds D) rfl rfl hasA hlt) ?_) | (refine gD 24 ?_; refine RGl.rdX (fun e hk => by (try dsimp only [bndR, ensR, oksR, fcutR, List.append_nil, List.nil_append, List.cons_append, List.append_assoc] at hk ⊢); exact ReadR.loadES (m := D.length) (xs := fds D) (cs := hdE xc) hcp (by omega) rfl hasA) ?_) | (refine gD 25 ?_; refine RGl.rdX (fun e hk => by (try dsimp only [bndR, ensR, oksR, fcutR, List.append_nil, List.nil_append, List.cons_append, List.append_assoc] at hk ⊢); exact ReadR.binE rfl rfl BinR.hdN (congrArg (fun q => Value.bool (!q)) (decide_eq_true rfl))) ?_) | (refine gOp ?_; first | refine RGl.rdA ?_ | refine RGl.rdX (fun e hk => by (try dsimp only [bndR, ensR, oksR, fcutR, List.append_nil, List.nil_append, List.cons_append, List.append_assoc] at hk ⊢); exact readB) ?_) | (refine RGl.fin (fun e hk => ?_); (try dsimp only [bndA, ensAR, oksA, List.append_nil, List.nil_append, List.cons_append, List.append_assoc] at hk ⊢); (repeat (obtain ⟨hk1, hk⟩ := hk))) | fail)
     | (refine isCond ?_; first | refine WPc.cT ?_ | refine WPc.cF ?_ | (refine WPc.cQ (fun hc => ?_) (fun hc => ?_) <;> try exact prA))
     | (refine isD 14 ?_; refine WPl.rdX (ReadR.binE rfl rfl BinR.lss (congrArg Value.bool (decide_eq_true hlt'))) ?_)
     | (refine isD 19 ?_; refine WPl.rdX (ReadR.indexE (i := i) rfl rfl hasA hlt) ?_)
     | (refine isD 20 ?_; refine WPl.rdX (ReadR.loadES (cs := hdE xc) hcp (by omega) rfl hasA) ?_)
     | (refine isD 23 ?_; refine WPl.rdX (ReadR.indexE (i := i) (m := D.length) (xs := fds D) rfl rfl hasA hlt) ?_)
     | (refine isD 24 ?_; refine WPl.rdX (ReadR.loadES (m := D.length) (xs := fds D) (cs := hdE xc) hcp (by omega) rfl hasA) ?_)
     | (refine isD 25 ?_; refine WPl.rdX (ReadR.binE rfl rfl BinR.hdN (congrArg (fun q => Value.bool (!q)) (decide_eq_true rfl))) ?_)
     | (refine isOp ?_; first | refine WPl.rd ?_ | refine WPl.sk ?_ | refine WPl.rdB ?_)
     | (show WPl _ _ _ _ _ _ _ (⟨_, .indexAddr _ _ _, _, _, _, _⟩ :: _) _; refine WPl.rdX (ReadR.indexE rfl rfl hasA (by first | assumption | omega)) ?_)
     | (show WPl _ _ _ _ _ _ _ (⟨_, .fieldAddr _ _ _, _, _, _, _⟩ :: _) _; refine WPl.rdX (ReadR.fieldE rfl hasA (by first | assumption | omega)) ?_)
     | (show WPl _ _ _ _ _ _ _ (⟨_, .load _ _, _, _, _, _⟩ :: _) _; first | refine WPl.rdX (ReadR.loadE rfl hasA (by assumption)) ?_ | refine WPl.rdX (ReadR.loadES (by assumption) (by first | assumption | omega) rfl hasA) ?_)
     | (show WPl _ _ _ _ _ _ _ (⟨_, .slice _ _ _ _ _, _, _, _, _⟩ :: _) _; first | refine WPl.rdX (ReadR.sliceH rfl rfl hasA (by omega)) ?_ | refine WPl.rdX (ReadR.sliceL rfl rfl hasA (by omega)) ?_ | refine WPl.rdX (ReadR.sliceLH rfl rfl rfl hasA (by omega) (by omega)) ?_)
     | (refine WPl.spQ (fun hc => ?_) (fun hc => ?_) <;> try exact prA)
     | fail)
    exact WPq.rnd (i + 1) (by omega) (by omega)
  · have hlt' : ¬ (i : Int) < (D.length : Int) := by omega
    repeat' (first
     | refine WPl.nil ?_ | refine WPq.then ?_ | refine WPq.thenR ?_ | refine WPq.thenE ?_ | refine WPq.blockN ?_ | refine WPq.blockR ?_ | refine WPq.blockE ?_ | refine WPq.blockO rfl ?_ | refine WPc.seq ?_ | refine WPc.block ?_ | refine WPc.ret ?_ | refine WPc.exit ?_ | refine WPc.skip ?_ | refine WPc.region ?_
     | (refine isReg 6 ?_; refine WPc.drA [([], [18, 21, 22, 23, 24]), ([], [17, 21, 22, 23, 24]), ([0, 1], [17, 18, 21, 22, 23, 24]), ([0, 1, 2], [17, 18, 19, 21, 22, 23, 24]), ([], [17, 18, 19, 20, 22]), ([], [17, 18, 19, 20, 21]), ([4, 5], [17, 18, 19, 20, 21, 22]), ([4, 5, 6], [17, 18, 19, 20, 21, 22, 23]), ([0, 1, 2, 3, 4, 5, 6, 7], [17, 18, 19, 20, 21, 22, 23, 24])] [] (Γx := []) ?_; dsimp only [prev0, List.length_nil, List.length_cons])
     | (refine gAny ?_; first | (refine gD 14 ?_; refine RGl.rdX (fun e hk => by (try dsimp only [bndR, ensR, oksR, fcutR, List.append_nil, List.nil_append, List.cons_append, List.append_assoc] at hk ⊢); exact ReadR.binE rfl rfl BinR.lss (congrArg Value.bool (decide_eq_false hlt'))) ?_) | (refine gOp ?_; first | refine RGl.rdA ?_ | refine RGl.rdX (fun e hk => by (try dsimp only [bndR, ensR, oksR, fcutR, List.append_nil, List.nil_append, List.cons_append, List.append_assoc] at hk ⊢); exact readB) ?_) | (refine RGl.fin (fun e hk => ?_); (try dsimp only [bndA, ensAR, oksA, List.append_nil, List.nil_append, List.cons_append, List.append_assoc] at hk ⊢); (repeat (obtain ⟨hk1, hk⟩ := hk))) | fail)
     | (refine isCond ?_; first | refine WPc.cT ?_ | refine WPc.cF ?_ | (refine WPc.cQ (fun hc => ?_) (fun hc => ?_) <;> try exact prA))
     | (refine isD 14 ?_; refine WPl.rdX (ReadR.binE rfl rfl BinR.lss (congrArg Value.bool (decide_eq_false hlt'))) ?_)
     | (refine isOp ?_; first | refine WPl.rd ?_ | refine WPl.sk ?_ | refine WPl.rdB ?_)
     | (show WPl _ _ _ _ _ _ _ (⟨_, .indexAddr _ _ _, _, _, _, _⟩ :: _) _; refine WPl.rdX (ReadR.indexE rfl rfl hasA (by first | assumption | omega)) ?_)
     | (show WPl _ _ _ _ _ _ _ (⟨_, .fieldAddr _ _ _, _, _, _, _⟩ :: _) _; refine WPl.rdX (ReadR.fieldE rfl hasA (by first | assumption | omega)) ?_)
     | (show WPl _ _ _ _ _ _ _ (⟨_, .load _ _, _, _, _, _⟩ :: _) _; first | refine WPl.rdX (ReadR.loadE rfl hasA (by assumption)) ?_ | refine WPl.rdX (ReadR.loadES (by assumption) (by first | assumption | omega) rfl hasA) ?_)
     | (show WPl _ _ _ _ _ _ _ (⟨_, .slice _ _ _ _ _, _, _, _, _⟩ :: _) _; first | refine WPl.rdX (ReadR.sliceH rfl rfl hasA (by omega)) ?_ | refine WPl.rdX (ReadR.sliceL rfl rfl hasA (by omega)) ?_ | refine WPl.rdX (ReadR.sliceLH rfl rfl rfl hasA (by omega) (by omega)) ?_)
     | (refine WPl.spQ (fun hc => ?_) (fun hc => ?_) <;> try exact prA)
     | fail)
    exact WPq.dV
end
attribute [local irreducible] mp rg rgo rme rmp mpe mget mfind mput mdel
section
variable (gT m1 m2 : Nat) (most : Int) (L : LL)
theorem flenO_t : Triple Try.prog 26 #[hPf gT] [(rbx gT 141 (fxc most m1 m2)), rmp flM m1 L] (RVal (.int .i64 (L.length : Int))) := by
  refine Triple.enter Try.func26 rfl Try.ntmps26 rfl (fun W => ?_)
  dsimp only [argsF, Nat.reduceAdd]
  repeat' (first
   | refine WPl.nil ?_ | refine WPq.then ?_ | refine WPq.thenR ?_ | refine WPq.thenE ?_ | refine WPq.blockN ?_ | refine WPq.blockR ?_ | refine WPq.blockE ?_ | refine WPq.blockO rfl ?_ | refine WPc.seq ?_ | refine WPc.block ?_ | refine WPc.ret ?_ | refine WPc.exit ?_ | refine WPc.skip ?_ | refine WPc.region ?_
   | (refine isCond ?_; first | refine WPc.cT ?_ | refine WPc.cF ?_ | (refine WPc.cQ (fun hc => ?_) (fun hc => ?_) <;> try exact prA))
   | (refine isD 4 ?_; refine WPl.rdX (readP) ?_)
   | (refine isD 8 ?_; refine WPl.rdX (ReadR.loadO memA rfl rfl) ?_)
   | (refine isD 9 ?_; refine WPl.rdX (ReadR.mlenO rfl memA) ?_)
   | (refine isOp ?_; first | refine WPl.rd ?_ | refine WPl.sk ?_ | refine WPl.rdB ?_)
   | (show WPl _ _ _ _ _ _ _ (⟨_, .indexAddr _ _ _, _, _, _, _⟩ :: _) _; refine WPl.rdX (ReadR.indexE rfl rfl hasA (by first | assumption | omega)) ?_)
   | (show WPl _ _ _ _ _ _ _ (⟨_, .fieldAddr _ _ _, _, _, _, _⟩ :: _) _; refine WPl.rdX (ReadR.fieldE rfl hasA (by first | assumption | omega)) ?_)
   | (show WPl _ _ _ _ _ _ _ (⟨_, .load _ _, _, _, _, _⟩ :: _) _; first | refine WPl.rdX (ReadR.loadE rfl hasA (by assumption)) ?_ | refine WPl.rdX (ReadR.loadES (by assumption) (by first | assumption | omega) rfl hasA) ?_)
   | (show WPl _ _ _ _ _ _ _ (⟨_, .slice _ _ _ _ _, _, _, _, _⟩ :: _) _; first | refine WPl.rdX (ReadR.sliceH rfl rfl hasA (by omega)) ?_ | refine WPl.rdX (ReadR.sliceL rfl rfl hasA (by omega)) ?_ | refine WPl.rdX (ReadR.sliceLH rfl rfl rfl hasA (by omega) (by omega)) ?_)
   | (refine WPl.spQ (fun hc => ?_) (fun hc => ?_) <;> try exact prA)
   | fail)
  exact WPq.dV
def RFO (L : LL) : Value → List Asn → Prop := fun v Γ => ∃ o : LL, v.oneCell' = true ∧ Γ = [rowN 75 59 v o.length (fds o)] ∧ o.Perm L ∧ o.Pairwise (fun a b => ltOf hdC b a = false)
theorem flistO_t (hL : L.length ≤ 4096) : Triple Try.prog 29 #[hPf gT] [(rbx gT 141 (fxc most m1 m2)), rmp flM m1 L] (RFO L) := by
  refine Triple.enter Try.func29 rfl Try.ntmps29 rfl (fun W => ?_)
  dsimp only [argsF, Nat.reduceAdd]
  refine WPc.openR (M := flM) (m := m1) (l := L) memA fun es clk => ?_
  refine WPc.nilRowN 75 59 ?_
  repeat' (first
   | refine WPl.nil ?_ | refine WPq.then ?_ | refine WPq.thenR ?_ | refine WPq.thenE ?_ | refine WPq.blockN ?_ | refine WPq.blockR ?_ | refine WPq.blockE ?_ | refine WPq.blockO rfl ?_ | refine WPc.seq ?_ | refine WPc.block ?_ | refine WPc.ret ?_ | refine WPc.exit ?_ | refine WPc.skip ?_ | refine WPc.region ?_
   | (refine isCond ?_; first | refine WPc.cT ?_ | refine WPc.cF ?_ | (refine WPc.cQ (fun hc => ?_) (fun hc => ?_) <;> try exact prA))
   | (refine isD 7 ?_; refine WPl.rdX (readP) ?_)
   | (refine isD 11 ?_; refine WPl.rdX (ReadR.loadO memA rfl rfl) ?_)
   | (refine isD 12 ?_; refine WPl.mrangeO (M := flM) (m := m1) (l := L) (es := es) (clock := clk) memA fun r => ?_)
   | (refine isOp ?_; first | refine WPl.rd ?_ | refine WPl.sk ?_ | refine WPl.rdB ?_)
   | (refine isAl ?_; refine WPl.nw fun g => ?_)
   | (refine isSt ?_; first | refine WPl.st1 ?_ | refine WPl.stA ?_ | refine WPl.stEB ?_ | refine WPl.stRB ?_)
   | (show WPl _ _ _ _ _ _ _ (⟨_, .indexAddr _ _ _, _, _, _, _⟩ :: _) _; refine WPl.rdX (ReadR.indexE rfl rfl hasA (by first | assumption | omega)) ?_)
   | (show WPl _ _ _ _ _ _ _ (⟨_, .fieldAddr _ _ _, _, _, _, _⟩ :: _) _; refine WPl.rdX (ReadR.fieldE rfl hasA (by first | assumption | omega)) ?_)
   | (show WPl _ _ _ _ _ _ _ (⟨_, .load _ _, _, _, _, _⟩ :: _) _; first | refine WPl.rdX (ReadR.loadE rfl hasA (by assumption)) ?_ | refine WPl.rdX (ReadR.loadES (by assumption) (by first | assumption | omega) rfl hasA) ?_)
   | (show WPl _ _ _ _ _ _ _ (⟨_, .slice _ _ _ _ _, _, _, _, _⟩ :: _) _; first | refine WPl.rdX (ReadR.sliceH rfl rfl hasA (by omega)) ?_ | refine WPl.rdX (ReadR.sliceL rfl rfl hasA (by omega)) ?_ | refine WPl.rdX (ReadR.sliceLH rfl rfl rfl hasA (by omega) (by omega)) ?_)
   | (refine WPl.spQ (fun hc => ?_) (fun hc => ?_) <;> try exact prA)
   | fail)
  first | refine WPc.loop (σ := FlSt) (fun st => (st.dn ++ st.td).Perm L ∧ st.vo.oneCell' = true) (fun st => [rowN 75 59 st.vo st.dn.length (fds st.dn), rme flM m1 L es clk, rgo flM m1 r L es clk st.td st.cu]) (fun st => [(3, st.vo), (12, .pointer (some ⟨r, 0, none⟩))]) (fun st => st.td.length) (⟨L, [], none, .slice none 0 0⟩) ?_ takesA frsA (fun st km hx hk => ?_)
  · exact ⟨.refl _, rfl⟩
  obtain ⟨td, dn, cu, vo⟩ := st
  obtain ⟨hp, hone⟩ := hx
  dsimp only at hp hone hk ⊢
  have hkm : km = td.length := hk
  have hol : dn.length ≤ 100000 := by
    have h1 := hp.length_eq
    simp at h1; omega
  repeat' (first
   | refine WPl.nil ?_ | refine WPq.then ?_ | refine WPq.thenR ?_ | refine WPq.thenE ?_ | refine WPq.blockN ?_ | refine WPq.blockR ?_ | refine WPq.blockE ?_ | refine WPq.blockO rfl ?_ | refine WPc.seq ?_ | refine WPc.block ?_ | refine WPc.ret ?_ | refine WPc.exit ?_ | refine WPc.skip ?_ | refine WPc.region ?_
   | (refine isCond ?_; first | refine WPc.cT ?_ | refine WPc.cF ?_ | (refine WPc.cQ (fun hc => ?_) (fun hc => ?_) <;> try exact prA))
   | (refine isD 13 ?_; refine WPl.mnextO (M := flM) (l := L) (es := es) (clock := clk) memA (fun k => ag (flc k)) (fun s => ag (enC s)) (fun h0 => ?_) (fun A y B hAB => ?_); rotate_left; have l1 := y.1.src.len; have l2 := y.1.dst.len; have l3 := y.2.ad.len; rotate_left)
   | (refine isD 15 ?_; refine WPl.rdX (ReadR.entryO (M := flM) (l := L) (es := es) (clock := clk) (kv := ag (flc y.1)) (vv := ag (enC y.2)) rfl rfl memA memA rfl) ?_)
   | (refine isC 25 ?_; refine WPl.cXs (sortHd_t vo dn hol) fun v Γ1 hR => ?_; obtain ⟨o', rfl, rfl, hpo, hso⟩ := hR; (try dsimp only [putF, List.cons_append, List.nil_append]))
   | (refine isD 22 ?_; refine WPl.litS1 fun wv hwv => ?_)
   | (refine isD 23 ?_; refine WPl.appN (m := dn.length) (m2 := 1) (xs := fds dn) (ys := flat (hdE y)) (by rw [hdE_len]) (hdE_fok y).one (by omega) fun v2 hv2 => ?_)
   | (refine isOp ?_; first | refine WPl.rd ?_ | refine WPl.sk ?_ | refine WPl.rdB ?_)
   | (refine isAl ?_; refine WPl.nw fun g => ?_)
   | (refine isSt ?_; first | refine WPl.st1 ?_ | refine WPl.stA ?_ | refine WPl.stEB ?_ | refine WPl.stRB ?_)
   | (show WPl _ _ _ _ _ _ _ (⟨_, .indexAddr _ _ _, _, _, _, _⟩ :: _) _; refine WPl.rdX (ReadR.indexE rfl rfl hasA (by first | assumption | omega)) ?_)
   | (show WPl _ _ _ _ _ _ _ (⟨_, .fieldAddr _ _ _, _, _, _, _⟩ :: _) _; refine WPl.rdX (ReadR.fieldE rfl hasA (by first | assumption | omega)) ?_)
   | (show WPl _ _ _ _ _ _ _ (⟨_, .load _ _, _, _, _, _⟩ :: _) _; first | refine WPl.rdX (ReadR.loadE rfl hasA (by assumption)) ?_ | refine WPl.rdX (ReadR.loadES (by assumption) (by first | assumption | omega) rfl hasA) ?_)
   | (show WPl _ _ _ _ _ _ _ (⟨_, .slice _ _ _ _ _, _, _, _, _⟩ :: _) _; first | refine WPl.rdX (ReadR.sliceH rfl rfl hasA (by omega)) ?_ | refine WPl.rdX (ReadR.sliceL rfl rfl hasA (by omega)) ?_ | refine WPl.rdX (ReadR.sliceLH rfl rfl rfl hasA (by omega) (by omega)) ?_)
   | (refine WPl.spQ (fun hc => ?_) (fun hc => ?_) <;> try exact prA)
   | fail)
  · subst h0
    rw [List.append_nil] at hp
    exact WPq.dX (vs := [_]) [rowN 75 59 vo o'.length (fds o')] ⟨o', hone, rfl, hpo.trans hp, hso⟩
  · have e1 : fds dn ++ flat (hdE y) = fds (dn ++ [y]) := by rw [← fds_app, fds_one]
    have e2 : dn.length + 1 = (dn ++ [y]).length := by simp
    rw [e1, e2]
    exact WPq.rnd ⟨A ++ B, dn ++ [y], some y, v2⟩ ⟨by
      refine List.Perm.trans ?_ hp
      dsimp only
      rw [hAB, List.append_assoc]
      exact List.Perm.append_left dn perm_mid3, hv2⟩ (by dsimp only; rw [hkm, hAB]; simp)
end
end
section
open Go.RowKit
set_option linter.unusedSimpArgs false
set_option linter.unusedVariables false
set_option maxRecDepth 20000
set_option maxHeartbeats 4000000
attribute [local irreducible] WPc WPl WPq ReadR OpT BinR HasS bx rdN rowN Take Takes Prov Triple ResF BuildP Done ag Int.decLt Int.decLe Int.instDecidableEq
abbrev FSt := LL × RR × Value × LL
def okS (most : Int) (s : FSt) : Prop := s.2.2.1.oneCell' = true ∧ lkd s.1 s.2.1 ∧ (s.1.length : Int) ≤ most ∧ frel s.1 s.2.2.2
theorem okS_eq {most : Int} {s : FSt} (h : okS most s) : (s.1.length : Int) = (s.2.2.2.length : Int) := by
  have := h.2.2.2.pm.length_eq
  omega
theorem okS_len {most : Int} {s : FSt} (h : okS most s) (hm : most ≤ 4096) : s.2.2.2.length ≤ 50000 := by
  have := okS_eq h
  have := h.2.2.1
  omega
attribute [local irreducible] fds mp rg rgo rme rmp mpe mget mfind mput mdel pickG fcs getV getE okS
noncomputable abbrev SE (gT m1 m2 gX : Nat) (most : Int) (e : Env) : FSt := pickG (fun s : FSt => [bx gT 141 (fxc most m1 m2), mp flM m1 s.1, mp rpM m2 s.2.1, bx gX 69 (rfx most s.2.2.1), rowN 75 59 s.2.2.1 s.2.2.2.length (fds s.2.2.2)]) (fun s => okS most s) (e 6).2
theorem flistD_t (gT m1 m2 : Nat) (most : Int) (s : FSt) (h : okS most s) (hm : most ≤ 4096) : Triple Try.prog 29 #[hPf gT] [rbx gT 141 (fxc most m1 m2), rmp flM m1 s.1] (RRow 75 59 s.2.2.2.length (fds s.2.2.2)) := by
  unfold okS at h
  obtain ⟨h1, h2, h3, h4⟩ := h
  refine Triple.mono (flistO_t gT m1 m2 most s.1 (by omega)) ?_
  rintro v Γ' ⟨o, g1, g2, g3, g4⟩
  have := h4.uniq h2 g3 g4
  subst this
  exact ⟨g1, g2⟩
theorem fnew0_t (most : Int) (h : ¬ (1 ≤ most ∧ most ≤ 4096)) : Triple Try.prog 24 #[.int .i64 most] [] (RVal (.tuple #[.pointer none, .int .i64 1])) := by
  refine Triple.enter Try.func24 rfl Try.ntmps24 rfl (fun W => ?_)
  dsimp only [argsF, Nat.reduceAdd]
  repeat' (first
   | refine WPl.nil ?_ | refine WPq.then ?_ | refine WPq.thenR ?_ | refine WPq.thenE ?_ | refine WPq.blockN ?_ | refine WPq.blockR ?_ | refine WPq.blockE ?_ | refine WPq.blockO rfl ?_ | refine WPc.seq ?_ | refine WPc.block ?_ | refine WPc.ret ?_ | refine WPc.exit ?_ | refine WPc.skip ?_ | refine WPc.region ?_
   | (refine isCond ?_; first | refine WPc.cT ?_ | refine WPc.cF ?_ | (refine WPc.cQ (fun hc => ?_) (fun hc => ?_) <;> try exact prA))
   | (refine isD 11 ?_; refine WPl.mnew flM fun m1 => ?_)
   | (refine isD 12 ?_; refine WPl.mnew rpM fun m2 => ?_)
   | (refine isOp ?_; first | refine WPl.rd ?_ | refine WPl.sk ?_ | refine WPl.rdB ?_)
   | (refine isBx ?_; refine WPl.nw fun g => ?_)
   | (show WPl _ _ _ _ _ _ _ (⟨_, .indexAddr _ _ _, _, _, _, _⟩ :: _) _; refine WPl.rdX (ReadR.indexE rfl rfl hasA (by first | assumption | omega)) ?_)
   | (show WPl _ _ _ _ _ _ _ (⟨_, .fieldAddr _ _ _, _, _, _, _⟩ :: _) _; refine WPl.rdX (ReadR.fieldE rfl hasA (by first | assumption | omega)) ?_)
   | (show WPl _ _ _ _ _ _ _ (⟨_, .load _ _, _, _, _, _⟩ :: _) _; first | refine WPl.rdX (ReadR.loadE rfl hasA (by assumption)) ?_ | refine WPl.rdX (ReadR.loadES (by assumption) (by first | assumption | omega) rfl hasA) ?_)
   | (show WPl _ _ _ _ _ _ _ (⟨_, .slice _ _ _ _ _, _, _, _, _⟩ :: _) _; first | refine WPl.rdX (ReadR.sliceH rfl rfl hasA (by omega)) ?_ | refine WPl.rdX (ReadR.sliceL rfl rfl hasA (by omega)) ?_ | refine WPl.rdX (ReadR.sliceLH rfl rfl rfl hasA (by omega) (by omega)) ?_)
   | (refine WPl.spQ (fun hc => ?_) (fun hc => ?_) <;> try exact prA)
   | fail)
  all_goals first | exact WPq.dV | (exfalso; omega)
theorem flowsPlays_t (most : Int) (vr : Value) (l : List Fc) (hl : ∀ x ∈ l, fcW x) :
    Triple Try.prog 9 #[.int .i64 most, vr] [rdN vr l.length (l.map fun x => flat (fcC x)).flatten] (RVal (.bool true)) := by
  have e0 : (l.map fun x => flat (fcC x)).flatten = fcs l := by unfold fcs; rfl
  rw [e0]
  have hlive := flives_t
  by_cases hm : 1 ≤ most ∧ most ≤ 4096
  · obtain ⟨hm1, hm2⟩ := hm
    have c0 := fnew_t most hm1 hm2
    have hcl := fcs_len (l := l)
    have q1 : ¬ most < 1 := by omega
    have q2 : ¬ most > 4096 := by omega
    have ef : fds ([] : LL) = [] := by unfold fds; rfl
    clear e0
    refine Triple.enter Try.func9 rfl Try.ntmps9 rfl (fun W => ?_)
    dsimp only [argsF, Nat.reduceAdd]
    refine WPc.nilRowN 75 59 ?_
    repeat' (first
     | refine WPl.nil ?_ | refine WPq.then ?_ | refine WPq.thenR ?_ | refine WPq.thenE ?_ | refine WPq.blockN ?_ | refine WPq.blockR ?_ | refine WPq.blockE ?_ | refine WPq.blockO rfl ?_ | refine WPc.seq ?_ | refine WPc.block ?_ | refine WPc.ret ?_ | refine WPc.exit ?_ | refine WPc.skip ?_ | refine WPc.region ?_
     | (refine isCond ?_; first | refine WPc.cT ?_ | refine WPc.cF ?_ | (refine WPc.cQ (fun hc => ?_) (fun hc => ?_) <;> try exact prA))
     | (refine isC 11 ?_; refine WPl.cXs (c0) fun v Γ1 hR => ?_; obtain ⟨gT, m1, m2, rfl, rfl⟩ := hR; (try dsimp only [putF, List.cons_append, List.nil_append]))
     | (refine isD 15 ?_; refine WPl.rdX (ReadR.binE rfl rfl BinR.lss (congrArg Value.bool (decide_eq_false q1))) ?_)
     | (refine isD 18 ?_; refine WPl.rdX (ReadR.binE rfl rfl BinR.gtr (congrArg Value.bool (decide_eq_false q2))) ?_)
     | (refine isD 30 ?_; refine WPl.rdX (readP) ?_)
     | (refine isD 37 ?_; first | (refine isAl ?_; refine WPl.nw fun gX => ?_) | (refine isBx ?_; refine WPl.nw fun gX => ?_))
     | (refine isOp ?_; first | refine WPl.rd ?_ | refine WPl.sk ?_ | refine WPl.rdB ?_)
     | (refine isBx ?_; refine WPl.nw fun g => ?_)
     | (show WPl _ _ _ _ _ _ _ (⟨_, .indexAddr _ _ _, _, _, _, _⟩ :: _) _; refine WPl.rdX (ReadR.indexE rfl rfl hasA (by first | assumption | omega)) ?_)
     | (show WPl _ _ _ _ _ _ _ (⟨_, .fieldAddr _ _ _, _, _, _, _⟩ :: _) _; refine WPl.rdX (ReadR.fieldE rfl hasA (by first | assumption | omega)) ?_)
     | (show WPl _ _ _ _ _ _ _ (⟨_, .load _ _, _, _, _, _⟩ :: _) _; first | refine WPl.rdX (ReadR.loadE rfl hasA (by assumption)) ?_ | refine WPl.rdX (ReadR.loadES (by assumption) (by first | assumption | omega) rfl hasA) ?_)
     | (show WPl _ _ _ _ _ _ _ (⟨_, .slice _ _ _ _ _, _, _, _, _⟩ :: _) _; first | refine WPl.rdX (ReadR.sliceH rfl rfl hasA (by omega)) ?_ | refine WPl.rdX (ReadR.sliceL rfl rfl hasA (by omega)) ?_ | refine WPl.rdX (ReadR.sliceLH rfl rfl rfl hasA (by omega) (by omega)) ?_)
     | (refine WPl.spQ (fun hc => ?_) (fun hc => ?_) <;> try exact prA)
     | fail)
    first | refine WPc.loop (σ := Nat × FSt × List Value) (fun st => st.1 ≤ 60 ∧ okS most st.2.1 ∧ st.2.2 = fds st.2.1.2.2.2) (fun st => [rdN vr l.length (fcs l), bx gT 141 (fxc most m1 m2), mp flM m1 st.2.1.1, mp rpM m2 st.2.1.2.1, bx gX 69 (rfx most st.2.1.2.2.1), rowN 75 59 st.2.1.2.2.1 st.2.1.2.2.2.length st.2.2]) (fun st => [(0, .int .i64 most), (1, vr), (5, hPf gT), (7, hPr gX), (8, .int .i64 (st.1 : Int))]) (fun st => 60 - st.1) ((0, ([], [], .slice none 0 0, []), [])) ?_ takesA frsA (fun st km hx hk => ?_)
    · exact ⟨Nat.zero_le _, by unfold okS; exact ⟨rfl, lkd.nil, by dsimp only [List.length_nil]; omega, frel.nil⟩, ef.symm⟩
    obtain ⟨i, ⟨L, R, vl, D⟩, xo⟩ := st
    obtain ⟨hi, hok, hxo⟩ := hx
    dsimp only at hi hok hxo hk ⊢
    subst hxo
    have hkm : km = 60 - i := hk
    clear hk
    by_cases hin : i < l.length ∧ i < 60
    · obtain ⟨hil, hi60⟩ := hin
      obtain ⟨x, hx⟩ : ∃ x, l[i]? = some x := ⟨_, List.getElem?_eq_getElem hil⟩
      have hxw := hl x (List.mem_of_getElem? hx)
      have hxp := fcs_at hx
      have lx1 := x.f.src.len
      have lx2 := x.f.dst.len
      have lx3 := x.a.ad.len
      have hil' : (i : Int) < (l.length : Int) := by omega
      have hi60' : (i : Int) < 60 := by omega
      have hDl := okS_len hok hm2
      dsimp only at hDl
      have hok2 := hok
      unfold okS at hok2
      obtain ⟨hvl, hk0, hLn, hfr⟩ := hok2
      dsimp only at hvl hk0 hLn hfr
      have c54 := do_t gT m1 m2 gX most vl L D R hk0 (by omega) hDl hvl x hxw (fun y hy => hk0.w1 _ (hfr.pm.mem_iff.1 hy)) hm1 (.inl hfr)
      have hv54 : ∀ v Γ', RDo gT m1 m2 gX most L D v Γ' → v = .bool true ∧ ∃ s : FSt, Γ' = [bx gT 141 (fxc most m1 m2), mp flM m1 s.1, mp rpM m2 s.2.1, bx gX 69 (rfx most s.2.2.1), rowN 75 59 s.2.2.1 s.2.2.2.length (fds s.2.2.2)] ∧ okS most s := fun v Γ' h => by
        obtain ⟨b, L', R', v', D', h1, h2, h3, h4, h5, h6⟩ := h
        obtain ⟨g1, g2⟩ := h6 hfr
        subst g1
        exact ⟨h1, (L', R', v', D'), h3, by unfold okS; exact ⟨h2, h4, h5 hLn, g2⟩⟩
      have hxlen : i * 61 + 61 ≤ (fcs l).length := by omega
      repeat' (first
       | refine WPl.nil ?_ | refine WPq.then ?_ | refine WPq.thenR ?_ | refine WPq.thenE ?_ | refine WPq.blockN ?_ | refine WPq.blockR ?_ | refine WPq.blockE ?_ | refine WPq.blockO rfl ?_ | refine WPc.seq ?_ | refine WPc.block ?_ | refine WPc.ret ?_ | refine WPc.exit ?_ | refine WPc.skip ?_ | refine WPc.region ?_
       | (refine isReg 10 ?_; refine WPc.drA [([28, 29, 30, 31, 32], [49, 50, 51, 52, 53]), ([28, 29, 30, 31, 32], [48, 50, 51, 52, 53]), ([28, 29, 30, 31, 32], [48, 49, 51]), ([28, 29, 30, 31, 32], [48, 49, 50]), ([2, 3, 28, 29, 30, 31, 32], [48, 49, 50, 51]), ([2, 3, 4, 28, 29, 30, 31, 32], [48, 49, 50, 51, 52]), ([0, 1, 2, 3, 4, 5, 28, 29, 30, 31, 32], [48, 49, 50, 51, 52, 53]), ([0, 1, 2, 3, 4, 5, 6, 28, 29, 30, 31, 32], [48, 49, 50, 51, 52, 53, 54]), ([0, 1, 2, 3, 4, 5, 6, 7, 28, 29, 30, 31, 32], [48, 49, 50, 51, 52, 53, 54, 55]), ([0, 1, 2, 3, 4, 5, 6, 7, 8, 28, 29, 30, 31, 32], [48, 49, 50, 51, 52, 53, 54, 55, 56, 59, 60, 61, 62]), ([0, 1, 2, 3, 4, 5, 6, 7, 8, 9, 28, 29, 30, 31, 32], [48, 49, 50, 51, 52, 53, 54, 55, 56, 57, 59, 60, 61, 62]), ([0, 1, 2, 3, 4, 5, 6, 7, 8, 28, 29, 30, 31, 32], [48, 49, 50, 51, 52, 53, 54, 55, 56, 57, 58]), ([0, 1, 2, 3, 4, 5, 6, 7, 8, 11, 28, 29, 30, 31, 32], [48, 49, 50, 51, 52, 53, 54, 55, 56, 57, 58, 59]), ([0, 1, 2, 3, 4, 5, 6, 7, 8, 11, 12, 28, 29, 30, 31, 32], [48, 49, 50, 51, 52, 53, 54, 55, 56, 57, 58, 59, 60]), ([0, 1, 2, 3, 4, 5, 6, 7, 8, 11, 12, 13, 28, 29, 30, 31, 32], [48, 49, 50, 51, 52, 53, 54, 55, 56, 57, 58, 59, 60, 61]), ([0, 1, 2, 3, 4, 5, 6, 7, 8, 9, 10, 11, 12, 13, 14, 28, 29, 30, 31, 32], [48, 49, 50, 51, 52, 53, 54, 55, 56, 57, 58, 59, 60, 61, 62]), ([0, 1, 2, 3, 4, 5, 6, 7, 8, 9, 10, 11, 12, 13, 14, 15, 28, 29, 30, 31, 32], [48, 49, 50, 51, 52, 53, 54, 55, 56, 57, 58, 59, 60, 61, 62, 63]), ([0, 1, 2, 3, 4, 5, 6, 7, 8, 9, 10, 11, 12, 13, 14, 15, 16, 28, 29, 30, 31, 32], [48, 49, 50, 51, 52, 53, 54, 55, 56, 57, 58, 59, 60, 61, 62, 63, 64]), ([0, 1, 2, 3, 4, 5, 6, 7, 8, 9, 10, 11, 12, 13, 14, 15, 16, 17, 28, 29, 30, 31, 32], [48, 49, 50, 51, 52, 53, 54, 55, 56, 57, 58, 59, 60, 61, 62, 63, 64, 65]), ([0, 1, 2, 3, 4, 5, 6, 7, 8, 9, 10, 11, 12, 13, 14, 15, 16, 17, 18, 28, 29, 30, 31, 32], [48, 49, 50, 51, 52, 53, 54, 55, 56, 57, 58, 59, 60, 61, 62, 63, 64, 65, 66, 69, 70, 71, 72, 73]), ([0, 1, 2, 3, 4, 5, 6, 7, 8, 9, 10, 11, 12, 13, 14, 15, 16, 17, 18, 19, 28, 29, 30, 31, 32], [48, 49, 50, 51, 52, 53, 54, 55, 56, 57, 58, 59, 60, 61, 62, 63, 64, 65, 66, 67, 69, 70, 71, 72, 73]), ([0, 1, 2, 3, 4, 5, 6, 7, 8, 9, 10, 11, 12, 13, 14, 15, 16, 17, 18, 28, 29, 30, 31, 32], [48, 49, 50, 51, 52, 53, 54, 55, 56, 57, 58, 59, 60, 61, 62, 63, 64, 65, 66, 67, 68]), ([0, 1, 2, 3, 4, 5, 6, 7, 8, 9, 10, 11, 12, 13, 14, 15, 16, 17, 18, 21, 28, 29, 30, 31, 32], [48, 49, 50, 51, 52, 53, 54, 55, 56, 57, 58, 59, 60, 61, 62, 63, 64, 65, 66, 67, 68, 69]), ([0, 1, 2, 3, 4, 5, 6, 7, 8, 9, 10, 11, 12, 13, 14, 15, 16, 17, 18, 21, 22, 28, 29, 30, 31, 32], [48, 49, 50, 51, 52, 53, 54, 55, 56, 57, 58, 59, 60, 61, 62, 63, 64, 65, 66, 67, 68, 69, 70]), ([0, 1, 2, 3, 4, 5, 6, 7, 8, 9, 10, 11, 12, 13, 14, 15, 16, 17, 18, 21, 22, 23, 28, 29, 30, 31, 32], [48, 49, 50, 51, 52, 53, 54, 55, 56, 57, 58, 59, 60, 61, 62, 63, 64, 65, 66, 67, 68, 69, 70, 71]), ([0, 1, 2, 3, 4, 5, 6, 7, 8, 9, 10, 11, 12, 13, 14, 15, 16, 17, 18, 21, 22, 23, 24, 28, 29, 30, 31, 32], [48, 49, 50, 51, 52, 53, 54, 55, 56, 57, 58, 59, 60, 61, 62, 63, 64, 65, 66, 67, 68, 69, 70, 71, 72]), ([0, 1, 2, 3, 4, 5, 6, 7, 8, 9, 10, 11, 12, 13, 14, 15, 16, 17, 18, 19, 20, 21, 22, 23, 24, 25, 28, 29, 30, 31, 32], [48, 49, 50, 51, 52, 53, 54, 55, 56, 57, 58, 59, 60, 61, 62, 63, 64, 65, 66, 67, 68, 69, 70, 71, 72, 73]), ([0, 1, 2, 3, 4, 5, 6, 7, 8, 9, 10, 11, 12, 13, 14, 15, 16, 17, 18, 19, 20, 21, 22, 23, 24, 25, 26, 28, 29, 30, 31, 32], [48, 49, 50, 51, 52, 53, 54, 55, 56, 57, 58, 59, 60, 61, 62, 63, 64, 65, 66, 67, 68, 69, 70, 71, 72, 73, 74])] [(28, 6), (29, 6), (30, 6), (31, 6), (32, 6), (28, 0), (28, 1), (28, 2), (28, 3), (28, 4), (28, 5), (29, 0), (29, 1), (29, 2), (29, 3), (29, 4), (29, 5), (30, 0), (30, 1), (30, 2), (30, 3), (30, 4), (30, 5), (31, 0), (31, 1), (31, 2), (31, 3), (31, 4), (31, 5), (32, 0), (32, 1), (32, 2), (32, 3), (32, 4), (32, 5)] (Γx := [bx gT 141 (fxc most m1 m2), mp flM m1 L, mp rpM m2 R, bx gX 69 (rfx most vl), rowN 75 59 vl D.length (fds D)]) (hox := ownsA) ?_; dsimp only [prev0, List.length_nil, List.length_cons])
       | (refine gAny ?_; first | (refine gGd ?_; refine RGl.skp ?_) | (refine gC 54 ?_; refine RGl.relG (.bool true) (fun s : FSt => [bx gT 141 (fxc most m1 m2), mp flM m1 s.1, mp rpM m2 s.2.1, bx gX 69 (rfx most s.2.2.1), rowN 75 59 s.2.2.1 s.2.2.2.length (fds s.2.2.2)]) (fun s => okS most s) (hv54) (fun e hk => by (try dsimp only [bndR, ensR, oksR, fcutR, List.append_nil, List.nil_append, List.cons_append, List.append_assoc] at hk ⊢); exact OpT.callTs (c54)) ?_) | (refine gD 41 ?_; refine RGl.rdX (fun e hk => by (try dsimp only [bndR, ensR, oksR, fcutR, List.append_nil, List.nil_append, List.cons_append, List.append_assoc] at hk ⊢); exact ReadR.binE rfl rfl BinR.lss (congrArg Value.bool (decide_eq_true hil'))) ?_) | (refine gD 44 ?_; refine RGl.rdX (fun e hk => by (try dsimp only [bndR, ensR, oksR, fcutR, List.append_nil, List.nil_append, List.cons_append, List.append_assoc] at hk ⊢); exact ReadR.binE rfl rfl BinR.lss (congrArg Value.bool (decide_eq_true hi60'))) ?_) | (refine gD 52 ?_; refine RGl.rdX (fun e hk => by (try dsimp only [bndR, ensR, oksR, fcutR, List.append_nil, List.nil_append, List.cons_append, List.append_assoc] at hk ⊢); exact ReadR.indexE (i := i) rfl rfl hasA hil) ?_) | (refine gD 53 ?_; refine RGl.rdX (fun e hk => by (try dsimp only [bndR, ensR, oksR, fcutR, List.append_nil, List.nil_append, List.cons_append, List.append_assoc] at hk ⊢); exact ReadR.loadES (cs := fcC x) hxp hxlen rfl hasA) ?_) | (refine gOp ?_; (refine gC 58 ?_; refine RGl.row (ety := fun _ => 75) (sz := fun _ => 59) (m := fun e => (SE gT m1 m2 gX most e).2.2.2.length) (xs := fun e => fds (SE gT m1 m2 gX most e).2.2.2) (Γ1 := fun _ => []) (fun e hk => by (try dsimp only [bndR, ensR, oksR, fcutR, List.append_nil, List.nil_append, List.cons_append, List.append_assoc] at hk ⊢); exact OpT.callN (flistD_t gT m1 m2 most (SE gT m1 m2 gX most e) (by (repeat (obtain ⟨hk1, hk⟩ := hk)) <;> assumption) hm2) (hΔ := provsM)) ?_)) | (refine gOp ?_; (refine gC 63 ?_; refine RGl.vl (fun e hk => by (try dsimp only [bndR, ensR, oksR, fcutR, List.append_nil, List.nil_append, List.cons_append, List.append_assoc] at hk ⊢); exact OpT.callN (same_t (e 10).1 (SE gT m1 m2 gX most e).2.2.1 (SE gT m1 m2 gX most e).2.2.2 (okS_len (by (repeat (obtain ⟨hk1, hk⟩ := hk)) <;> assumption) hm2)) (hΔ := provsM)) ?_)) | (refine gOp ?_; (refine gC 68 ?_; refine RGl.vl (fun e hk => by (try dsimp only [bndR, ensR, oksR, fcutR, List.append_nil, List.nil_append, List.cons_append, List.append_assoc] at hk ⊢); exact OpT.callN (flenO_t gT m1 m2 most (SE gT m1 m2 gX most e).1) (hΔ := provsM)) ?_)) | (refine gD 74 ?_; refine RGl.rdX (fun e hk => by (try dsimp only [bndR, ensR, oksR, fcutR, List.append_nil, List.nil_append, List.cons_append, List.append_assoc] at hk ⊢); exact ReadR.binE rfl rfl BinR.neq (congrArg (fun q => Value.bool (!q)) (decide_eq_true (okS_eq (s := (SE gT m1 m2 gX most e)) (by (repeat (obtain ⟨hk1, hk⟩ := hk)) <;> assumption))))) ?_) | (refine gOp ?_; first | refine RGl.rdA ?_ | refine RGl.rdX (fun e hk => by (try dsimp only [bndR, ensR, oksR, fcutR, List.append_nil, List.nil_append, List.cons_append, List.append_assoc] at hk ⊢); exact readB) ?_) | (refine RGl.fin (fun e hk => ?_); (try dsimp only [bndA, ensAR, oksA, List.append_nil, List.nil_append, List.cons_append, List.append_assoc] at hk ⊢); (repeat (obtain ⟨hk1, hk⟩ := hk))) | fail)
       | (refine isCond ?_; first | refine WPc.cT ?_ | refine WPc.cF ?_ | (refine WPc.cQ (fun hc => ?_) (fun hc => ?_) <;> try exact prA))
       | (refine isD 41 ?_; refine WPl.rdX (ReadR.binE rfl rfl BinR.lss (congrArg Value.bool (decide_eq_true hil'))) ?_)
       | (refine isD 44 ?_; refine WPl.rdX (ReadR.binE rfl rfl BinR.lss (congrArg Value.bool (decide_eq_true hi60'))) ?_)
       | (refine isD 52 ?_; refine WPl.rdX (ReadR.indexE (i := i) rfl rfl hasA hil) ?_)
       | (refine isD 53 ?_; refine WPl.rdX (ReadR.loadES (cs := fcC x) hxp hxlen rfl hasA) ?_)
       | (refine isD 74 ?_; refine WPl.rdX (ReadR.binE rfl rfl BinR.neq (congrArg (fun q => Value.bool (!q)) (decide_eq_true (okS_eq (s := (SE gT m1 m2 gX most e)) (by (repeat (obtain ⟨hk1, hk⟩ := hk)) <;> assumption))))) ?_)
       | (refine isOp ?_; first | refine WPl.rd ?_ | refine WPl.sk ?_ | refine WPl.rdB ?_)
       | (refine isBx ?_; refine WPl.nw fun g => ?_)
       | (show WPl _ _ _ _ _ _ _ (⟨_, .indexAddr _ _ _, _, _, _, _⟩ :: _) _; refine WPl.rdX (ReadR.indexE rfl rfl hasA (by first | assumption | omega)) ?_)
       | (show WPl _ _ _ _ _ _ _ (⟨_, .fieldAddr _ _ _, _, _, _, _⟩ :: _) _; refine WPl.rdX (ReadR.fieldE rfl hasA (by first | assumption | omega)) ?_)
       | (show WPl _ _ _ _ _ _ _ (⟨_, .load _ _, _, _, _, _⟩ :: _) _; first | refine WPl.rdX (ReadR.loadE rfl hasA (by assumption)) ?_ | refine WPl.rdX (ReadR.loadES (by assumption) (by first | assumption | omega) rfl hasA) ?_)
       | (show WPl _ _ _ _ _ _ _ (⟨_, .slice _ _ _ _ _, _, _, _, _⟩ :: _) _; first | refine WPl.rdX (ReadR.sliceH rfl rfl hasA (by omega)) ?_ | refine WPl.rdX (ReadR.sliceL rfl rfl hasA (by omega)) ?_ | refine WPl.rdX (ReadR.sliceLH rfl rfl rfl hasA (by omega) (by omega)) ?_)
       | (refine WPl.spQ (fun hc => ?_) (fun hc => ?_) <;> try exact prA)
       | fail)
      have hS : okS most (SE gT m1 m2 gX most e) := by assumption
      exact WPq.rnd (i + 1, SE gT m1 m2 gX most e, fds (SE gT m1 m2 gX most e).2.2.2) ⟨by dsimp only; omega, hS, rfl⟩ (by dsimp only; omega)
    · by_cases hil : i < l.length
      · have hil' : (i : Int) < (l.length : Int) := by omega
        have hi60' : ¬ (i : Int) < 60 := by omega
        repeat' (first
         | refine WPl.nil ?_ | refine WPq.then ?_ | refine WPq.thenR ?_ | refine WPq.thenE ?_ | refine WPq.blockN ?_ | refine WPq.blockR ?_ | refine WPq.blockE ?_ | refine WPq.blockO rfl ?_ | refine WPc.seq ?_ | refine WPc.block ?_ | refine WPc.ret ?_ | refine WPc.exit ?_ | refine WPc.skip ?_ | refine WPc.region ?_
         | (refine isCond ?_; first | refine WPc.cT ?_ | refine WPc.cF ?_ | (refine WPc.cQ (fun hc => ?_) (fun hc => ?_) <;> try exact prA))
         | (refine isD 41 ?_; refine WPl.rdX (ReadR.binE rfl rfl BinR.lss (congrArg Value.bool (decide_eq_true hil'))) ?_)
         | (refine isD 44 ?_; refine WPl.rdX (ReadR.binE rfl rfl BinR.lss (congrArg Value.bool (decide_eq_false hi60'))) ?_)
         | (refine isC 76 ?_; refine WPl.cV (hlive) ?_)
         | (refine isOp ?_; first | refine WPl.rd ?_ | refine WPl.sk ?_ | refine WPl.rdB ?_)
         | (refine isBx ?_; refine WPl.nw fun g => ?_)
         | (show WPl _ _ _ _ _ _ _ (⟨_, .indexAddr _ _ _, _, _, _, _⟩ :: _) _; refine WPl.rdX (ReadR.indexE rfl rfl hasA (by first | assumption | omega)) ?_)
         | (show WPl _ _ _ _ _ _ _ (⟨_, .fieldAddr _ _ _, _, _, _, _⟩ :: _) _; refine WPl.rdX (ReadR.fieldE rfl hasA (by first | assumption | omega)) ?_)
         | (show WPl _ _ _ _ _ _ _ (⟨_, .load _ _, _, _, _, _⟩ :: _) _; first | refine WPl.rdX (ReadR.loadE rfl hasA (by assumption)) ?_ | refine WPl.rdX (ReadR.loadES (by assumption) (by first | assumption | omega) rfl hasA) ?_)
         | (show WPl _ _ _ _ _ _ _ (⟨_, .slice _ _ _ _ _, _, _, _, _⟩ :: _) _; first | refine WPl.rdX (ReadR.sliceH rfl rfl hasA (by omega)) ?_ | refine WPl.rdX (ReadR.sliceL rfl rfl hasA (by omega)) ?_ | refine WPl.rdX (ReadR.sliceLH rfl rfl rfl hasA (by omega) (by omega)) ?_)
         | (refine WPl.spQ (fun hc => ?_) (fun hc => ?_) <;> try exact prA)
         | fail)
        exact WPq.dV
      · have hil' : ¬ (i : Int) < (l.length : Int) := by omega
        repeat' (first
         | refine WPl.nil ?_ | refine WPq.then ?_ | refine WPq.thenR ?_ | refine WPq.thenE ?_ | refine WPq.blockN ?_ | refine WPq.blockR ?_ | refine WPq.blockE ?_ | refine WPq.blockO rfl ?_ | refine WPc.seq ?_ | refine WPc.block ?_ | refine WPc.ret ?_ | refine WPc.exit ?_ | refine WPc.skip ?_ | refine WPc.region ?_
         | (refine isCond ?_; first | refine WPc.cT ?_ | refine WPc.cF ?_ | (refine WPc.cQ (fun hc => ?_) (fun hc => ?_) <;> try exact prA))
         | (refine isD 41 ?_; refine WPl.rdX (ReadR.binE rfl rfl BinR.lss (congrArg Value.bool (decide_eq_false hil'))) ?_)
         | (refine isC 76 ?_; refine WPl.cV (hlive) ?_)
         | (refine isOp ?_; first | refine WPl.rd ?_ | refine WPl.sk ?_ | refine WPl.rdB ?_)
         | (refine isBx ?_; refine WPl.nw fun g => ?_)
         | (show WPl _ _ _ _ _ _ _ (⟨_, .indexAddr _ _ _, _, _, _, _⟩ :: _) _; refine WPl.rdX (ReadR.indexE rfl rfl hasA (by first | assumption | omega)) ?_)
         | (show WPl _ _ _ _ _ _ _ (⟨_, .fieldAddr _ _ _, _, _, _, _⟩ :: _) _; refine WPl.rdX (ReadR.fieldE rfl hasA (by first | assumption | omega)) ?_)
         | (show WPl _ _ _ _ _ _ _ (⟨_, .load _ _, _, _, _, _⟩ :: _) _; first | refine WPl.rdX (ReadR.loadE rfl hasA (by assumption)) ?_ | refine WPl.rdX (ReadR.loadES (by assumption) (by first | assumption | omega) rfl hasA) ?_)
         | (show WPl _ _ _ _ _ _ _ (⟨_, .slice _ _ _ _ _, _, _, _, _⟩ :: _) _; first | refine WPl.rdX (ReadR.sliceH rfl rfl hasA (by omega)) ?_ | refine WPl.rdX (ReadR.sliceL rfl rfl hasA (by omega)) ?_ | refine WPl.rdX (ReadR.sliceLH rfl rfl rfl hasA (by omega) (by omega)) ?_)
         | (refine WPl.spQ (fun hc => ?_) (fun hc => ?_) <;> try exact prA)
         | fail)
        exact WPq.dV
  · have c0 := fnew0_t most hm
    by_cases q1 : most < 1
    · skip
      refine Triple.enter Try.func9 rfl Try.ntmps9 rfl (fun W => ?_)
      dsimp only [argsF, Nat.reduceAdd]
      repeat' (first
       | refine WPl.nil ?_ | refine WPq.then ?_ | refine WPq.thenR ?_ | refine WPq.thenE ?_ | refine WPq.blockN ?_ | refine WPq.blockR ?_ | refine WPq.blockE ?_ | refine WPq.blockO rfl ?_ | refine WPc.seq ?_ | refine WPc.block ?_ | refine WPc.ret ?_ | refine WPc.exit ?_ | refine WPc.skip ?_ | refine WPc.region ?_
       | (refine isCond ?_; first | refine WPc.cT ?_ | refine WPc.cF ?_ | (refine WPc.cQ (fun hc => ?_) (fun hc => ?_) <;> try exact prA))
       | (refine isC 11 ?_; refine WPl.cV (c0) ?_)
       | (refine isD 15 ?_; refine WPl.rdX (ReadR.binE rfl rfl BinR.lss (congrArg Value.bool (decide_eq_true q1))) ?_)
       | (refine isD 21 ?_; refine WPl.rdX (readP) ?_)
       | (refine isC 27 ?_; refine WPl.cV (hlive) ?_)
       | (refine isOp ?_; first | refine WPl.rd ?_ | refine WPl.sk ?_ | refine WPl.rdB ?_)
       | (refine isBx ?_; refine WPl.nw fun g => ?_)
       | (show WPl _ _ _ _ _ _ _ (⟨_, .indexAddr _ _ _, _, _, _, _⟩ :: _) _; refine WPl.rdX (ReadR.indexE rfl rfl hasA (by first | assumption | omega)) ?_)
       | (show WPl _ _ _ _ _ _ _ (⟨_, .fieldAddr _ _ _, _, _, _, _⟩ :: _) _; refine WPl.rdX (ReadR.fieldE rfl hasA (by first | assumption | omega)) ?_)
       | (show WPl _ _ _ _ _ _ _ (⟨_, .load _ _, _, _, _, _⟩ :: _) _; first | refine WPl.rdX (ReadR.loadE rfl hasA (by assumption)) ?_ | refine WPl.rdX (ReadR.loadES (by assumption) (by first | assumption | omega) rfl hasA) ?_)
       | (show WPl _ _ _ _ _ _ _ (⟨_, .slice _ _ _ _ _, _, _, _, _⟩ :: _) _; first | refine WPl.rdX (ReadR.sliceH rfl rfl hasA (by omega)) ?_ | refine WPl.rdX (ReadR.sliceL rfl rfl hasA (by omega)) ?_ | refine WPl.rdX (ReadR.sliceLH rfl rfl rfl hasA (by omega) (by omega)) ?_)
       | (refine WPl.spQ (fun hc => ?_) (fun hc => ?_) <;> try exact prA)
       | fail)
      exact WPq.dV
    · have q2 : most > 4096 := by omega
      refine Triple.enter Try.func9 rfl Try.ntmps9 rfl (fun W => ?_)
      dsimp only [argsF, Nat.reduceAdd]
      repeat' (first
       | refine WPl.nil ?_ | refine WPq.then ?_ | refine WPq.thenR ?_ | refine WPq.thenE ?_ | refine WPq.blockN ?_ | refine WPq.blockR ?_ | refine WPq.blockE ?_ | refine WPq.blockO rfl ?_ | refine WPc.seq ?_ | refine WPc.block ?_ | refine WPc.ret ?_ | refine WPc.exit ?_ | refine WPc.skip ?_ | refine WPc.region ?_
       | (refine isCond ?_; first | refine WPc.cT ?_ | refine WPc.cF ?_ | (refine WPc.cQ (fun hc => ?_) (fun hc => ?_) <;> try exact prA))
       | (refine isC 11 ?_; refine WPl.cV (c0) ?_)
       | (refine isD 15 ?_; refine WPl.rdX (ReadR.binE rfl rfl BinR.lss (congrArg Value.bool (decide_eq_false q1))) ?_)
       | (refine isD 18 ?_; refine WPl.rdX (ReadR.binE rfl rfl BinR.gtr (congrArg Value.bool (decide_eq_true q2))) ?_)
       | (refine isD 21 ?_; refine WPl.rdX (readP) ?_)
       | (refine isC 27 ?_; refine WPl.cV (hlive) ?_)
       | (refine isOp ?_; first | refine WPl.rd ?_ | refine WPl.sk ?_ | refine WPl.rdB ?_)
       | (refine isBx ?_; refine WPl.nw fun g => ?_)
       | (show WPl _ _ _ _ _ _ _ (⟨_, .indexAddr _ _ _, _, _, _, _⟩ :: _) _; refine WPl.rdX (ReadR.indexE rfl rfl hasA (by first | assumption | omega)) ?_)
       | (show WPl _ _ _ _ _ _ _ (⟨_, .fieldAddr _ _ _, _, _, _, _⟩ :: _) _; refine WPl.rdX (ReadR.fieldE rfl hasA (by first | assumption | omega)) ?_)
       | (show WPl _ _ _ _ _ _ _ (⟨_, .load _ _, _, _, _, _⟩ :: _) _; first | refine WPl.rdX (ReadR.loadE rfl hasA (by assumption)) ?_ | refine WPl.rdX (ReadR.loadES (by assumption) (by first | assumption | omega) rfl hasA) ?_)
       | (show WPl _ _ _ _ _ _ _ (⟨_, .slice _ _ _ _ _, _, _, _, _⟩ :: _) _; first | refine WPl.rdX (ReadR.sliceH rfl rfl hasA (by omega)) ?_ | refine WPl.rdX (ReadR.sliceL rfl rfl hasA (by omega)) ?_ | refine WPl.rdX (ReadR.sliceLH rfl rfl rfl hasA (by omega) (by omega)) ?_)
       | (refine WPl.spQ (fun hc => ?_) (fun hc => ?_) <;> try exact prA)
       | fail)
      exact WPq.dV
end
end Go.Proofs.Ytncgponcedkihaa
