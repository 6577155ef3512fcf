/- Layer 21 (health): what it holds; contracts. -/
import Derived.Test.YtncgponcedkihaaMr
namespace Go.Proofs.Ytncgponcedkihaa
open Go.RowKit
set_option linter.unusedSimpArgs false
set_option linter.unusedVariables false
set_option maxRecDepth 20000
set_option maxHeartbeats 4000000
attribute [local irreducible] WPc WPl WPq ReadR OpT BinR HasS bx rdN rowN Take Takes Prov Triple ResF BuildP Done ag Int.decLt Int.decLe Int.instDecidableEq
attribute [local irreducible] mp mput mget mfind
abbrev whoC (k : Int × Int) : Ch := [(1, [.int .i64 k.1]), (1, [.int .i64 k.2])]
abbrev staC (s : Bool × Int) : Ch := [(1, [.bool s.1]), (1, [.int .i64 s.2])]
def whoM : MK (Int × Int) (Bool × Int) := ⟨fun k => ag (whoC k), fun s => ag (staC s), (false, 0), fun k => in64 k.1 ∧ in64 k.2⟩
instance whoI : MapI Try.prog 162 whoM :=
  mapI_of (kT := 166) (eT := 169) (ks := [some .i64, some .i64]) whoC (fun _ => rfl) (by kernel_rfl) inferInstance (by kernel_rfl) (by kernel_rfl) (by kernel_rfl) (by kernel_rfl) (of_decide_eq_true (by kernel_rfl)) (by kernel_rfl) (by kernel_rfl)
    (fun k hk => ⟨⟨⟨_, rfl⟩, ⟨_, rfl⟩, trivial⟩, fun vd hv => by
      simp only [whoC, flat, List.append_nil, List.cons_append, List.nil_append, List.mem_cons, List.not_mem_nil, or_false] at hv
      rcases hv with rfl | rfl
      · exact in64_wf hk.1
      · exact in64_wf hk.2⟩) (by kernel_rfl) (fun a b h => by
      obtain ⟨a1, a2⟩ := a
      obtain ⟨b1, b2⟩ := b
      simpa [whoC, flat] using h)
abbrev hbc (r f : Int) (m : Nat) : Ch := [(1, [.int .i64 r]), (1, [.int .i64 f]), (1, [.map (some m)])]
abbrev hP (g : Nat) : Value := .pointer (some ⟨g, 0, none⟩)
abbrev HL := List ((Int × Int) × (Bool × Int))
def stepS (rise fall : Int) (ok : Bool) (s : Bool × Int) : (Bool × Int) × Bool :=
  if ok ≠ s.1 then ((s.1, 0), false)
  else if (if s.1 then rise else fall) ≤ IntKind.i64.wrap (s.2 + 1) then ((!s.1, 0), true)
  else ((s.1, IntKind.i64.wrap (s.2 + 1)), false)
theorem hgood_t (a : Int) : Triple Try.prog 81 #[.int .i64 a] [] (RVal (.bool (decide (1 ≤ a ∧ a ≤ 100)))) := by
  refine Triple.enter Try.func81 rfl Try.ntmps81 rfl (fun W => ?_)
  dsimp only [argsF, Nat.reduceAdd]
  repeat' (first
   | refine WPl.nil ?_ | refine WPq.then ?_ | refine WPq.thenR ?_ | refine WPq.thenE ?_ | refine WPq.blockN ?_ | refine WPq.blockR ?_ | refine WPq.blockE ?_ | refine WPq.blockO rfl ?_ | refine WPc.seq ?_ | refine WPc.block ?_ | refine WPc.ret ?_ | refine WPc.exit ?_ | refine WPc.skip ?_ | refine WPc.region ?_
   | (refine isCond ?_; first | refine WPc.cT ?_ | refine WPc.cF ?_ | (refine WPc.cQ (fun hc => ?_) (fun hc => ?_) <;> try exact prA))
   | (refine isOp ?_; first | refine WPl.rd ?_ | refine WPl.sk ?_ | refine WPl.rdB ?_)
   | (show WPl _ _ _ _ _ _ _ (⟨_, .indexAddr _ _ _, _, _, _, _⟩ :: _) _; refine WPl.rdX (ReadR.indexE rfl rfl hasA (by first | assumption | omega)) ?_)
   | (show WPl _ _ _ _ _ _ _ (⟨_, .fieldAddr _ _ _, _, _, _, _⟩ :: _) _; refine WPl.rdX (ReadR.fieldE rfl hasA (by first | assumption | omega)) ?_)
   | (show WPl _ _ _ _ _ _ _ (⟨_, .load _ _, _, _, _, _⟩ :: _) _; first | refine WPl.rdX (ReadR.loadE rfl hasA (by assumption)) ?_ | refine WPl.rdX (ReadR.loadES (by assumption) (by first | assumption | omega) rfl hasA) ?_)
   | (show WPl _ _ _ _ _ _ _ (⟨_, .slice _ _ _ _ _, _, _, _, _⟩ :: _) _; first | refine WPl.rdX (ReadR.sliceH rfl rfl hasA (by omega)) ?_ | refine WPl.rdX (ReadR.sliceL rfl rfl hasA (by omega)) ?_ | refine WPl.rdX (ReadR.sliceLH rfl rfl rfl hasA (by omega) (by omega)) ?_)
   | (refine WPl.spQ (fun hc => ?_) (fun hc => ?_) <;> try exact prA)
   | fail)
  all_goals exact WPq.dV (hc := by simp only [resV]; congr 1; simp; omega)
/-- A new one. -/
def RHealth (rise fall : Int) : Value → List Asn → Prop := fun vd Γ => ∃ gh m, vd = .tuple #[hP gh, .int .i64 0] ∧ Γ = [bx gh 164 (hbc rise fall m), mp whoM m []]
theorem WPq.dHe {P : Program} {n : Nat} {W : World} {S : Nat → Prop} {Γ : List Asn} {F : List (Nat × Value)} {fn : Func} {rs : List ResultVar} {gh m : Nat} {r f : Int} {Γx : List Asn} {e : Exit} (he : e = .ret ∨ e = .normal := by first | exact .inl rfl | exact .inr rfl | fail) (hr : fn.results = rs.toArray := by first | rfl | fail) (h : ResF P Γ F rs [hP gh, .int .i64 0] := by first | exact resA | fail) (hp : Takes Γ [bx gh 164 (hbc r f m), mp whoM m []] Γx := by first | exact takesA | fail) :
    WPq n W S Γ F (Done P fn W S (RHealth r f)) e := WPq.done he hr h hp ownsA ⟨gh, m, rfl, rfl⟩
theorem hnew_t (r f : Int) (h1 : 1 ≤ r ∧ r ≤ 100) (h2 : 1 ≤ f ∧ f ≤ 100) : Triple Try.prog 48 #[.int .i64 r, .int .i64 f] [] (RHealth r f) := by
  have c1 := hgood_t r
  have c2 := hgood_t f
  rw [decide_eq_true h1] at c1
  rw [decide_eq_true h2] at c2
  refine Triple.enter Try.func48 rfl Try.ntmps48 rfl (fun W => ?_)
  dsimp only [argsF, Nat.reduceAdd]
  repeat' (first
   | refine WPl.nil ?_ | refine WPq.then ?_ | refine WPq.thenR ?_ | refine WPq.thenE ?_ | refine WPq.blockN ?_ | refine WPq.blockR ?_ | refine WPq.blockE ?_ | refine WPq.blockO rfl ?_ | refine WPc.seq ?_ | refine WPc.block ?_ | refine WPc.ret ?_ | refine WPc.exit ?_ | refine WPc.skip ?_ | refine WPc.region ?_
   | (refine isCond ?_; first | refine WPc.cT ?_ | refine WPc.cF ?_ | (refine WPc.cQ (fun hc => ?_) (fun hc => ?_) <;> try exact prA))
   | (refine isC 7 ?_; refine WPl.cV (c1) ?_)
   | (refine isC 11 ?_; refine WPl.cV (c2) ?_)
   | (refine isD 16 ?_; refine WPl.mnew whoM fun m => ?_)
   | (refine isOp ?_; first | refine WPl.rd ?_ | refine WPl.sk ?_ | refine WPl.rdB ?_)
   | (refine isBx ?_; refine WPl.nw fun g => ?_)
   | (show WPl _ _ _ _ _ _ _ (⟨_, .indexAddr _ _ _, _, _, _, _⟩ :: _) _; refine WPl.rdX (ReadR.indexE rfl rfl hasA (by first | assumption | omega)) ?_)
   | (show WPl _ _ _ _ _ _ _ (⟨_, .fieldAddr _ _ _, _, _, _, _⟩ :: _) _; refine WPl.rdX (ReadR.fieldE rfl hasA (by first | assumption | omega)) ?_)
   | (show WPl _ _ _ _ _ _ _ (⟨_, .load _ _, _, _, _, _⟩ :: _) _; first | refine WPl.rdX (ReadR.loadE rfl hasA (by assumption)) ?_ | refine WPl.rdX (ReadR.loadES (by assumption) (by first | assumption | omega) rfl hasA) ?_)
   | (show WPl _ _ _ _ _ _ _ (⟨_, .slice _ _ _ _ _, _, _, _, _⟩ :: _) _; first | refine WPl.rdX (ReadR.sliceH rfl rfl hasA (by omega)) ?_ | refine WPl.rdX (ReadR.sliceL rfl rfl hasA (by omega)) ?_ | refine WPl.rdX (ReadR.sliceLH rfl rfl rfl hasA (by omega) (by omega)) ?_)
   | (refine WPl.spQ (fun hc => ?_) (fun hc => ?_) <;> try exact prA)
   | fail)
  exact WPq.dHe
theorem hup_t (gh m : Nat) (rise fall s b : Int) (L : HL) (hs : in64 s) (hb : in64 b) :
    Triple Try.prog 54 #[hP gh, .int .i64 s, .int .i64 b] [bx gh 164 (hbc rise fall m), mp whoM m L] (RTurns (.bool (!(mget whoM L (s, b)).1)) [bx gh 164 (hbc rise fall m), mp whoM m L]) := by
  obtain ⟨st, hst⟩ : ∃ st, st = mget whoM L (s, b) := ⟨_, rfl⟩
  rw [← hst]
  obtain ⟨dn, row⟩ := st
  have hget : whoM.vc (mget whoM L (s, b)) = ag [(1, [.bool dn]), (1, [.int .i64 row])] := by rw [← hst]; rfl
  refine Triple.enter Try.func54 rfl Try.ntmps54 rfl (fun W => ?_)
  dsimp only [argsF, Nat.reduceAdd]
  repeat' (first
   | refine WPl.nil ?_ | refine WPq.then ?_ | refine WPq.thenR ?_ | refine WPq.thenE ?_ | refine WPq.blockN ?_ | refine WPq.blockR ?_ | refine WPq.blockE ?_ | refine WPq.blockO rfl ?_ | refine WPc.seq ?_ | refine WPc.block ?_ | refine WPc.ret ?_ | refine WPc.exit ?_ | refine WPc.skip ?_ | refine WPc.region ?_
   | (refine isCond ?_; first | refine WPc.cT ?_ | refine WPc.cF ?_ | (refine WPc.cQ (fun hc => ?_) (fun hc => ?_) <;> try exact prA))
   | (refine isD 8 ?_; refine WPl.rdX (readP) ?_)
   | (refine isD 17 ?_; refine WPl.rdX (ReadR.look (M := whoM) (k := (s, b)) ⟨hs, hb⟩ rfl rfl memA hget) ?_)
   | (refine isD 18 ?_; refine WPl.rdX (ReadR.fieldN (off := 0) rfl (by kernel_rfl) rfl) ?_)
   | (refine isOp ?_; first | refine WPl.rd ?_ | refine WPl.sk ?_ | refine WPl.rdB ?_)
   | (show WPl _ _ _ _ _ _ _ (⟨_, .indexAddr _ _ _, _, _, _, _⟩ :: _) _; refine WPl.rdX (ReadR.indexE rfl rfl hasA (by first | assumption | omega)) ?_)
   | (show WPl _ _ _ _ _ _ _ (⟨_, .fieldAddr _ _ _, _, _, _, _⟩ :: _) _; refine WPl.rdX (ReadR.fieldE rfl hasA (by first | assumption | omega)) ?_)
   | (show WPl _ _ _ _ _ _ _ (⟨_, .load _ _, _, _, _, _⟩ :: _) _; first | refine WPl.rdX (ReadR.loadE rfl hasA (by assumption)) ?_ | refine WPl.rdX (ReadR.loadES (by assumption) (by first | assumption | omega) rfl hasA) ?_)
   | (show WPl _ _ _ _ _ _ _ (⟨_, .slice _ _ _ _ _, _, _, _, _⟩ :: _) _; first | refine WPl.rdX (ReadR.sliceH rfl rfl hasA (by omega)) ?_ | refine WPl.rdX (ReadR.sliceL rfl rfl hasA (by omega)) ?_ | refine WPl.rdX (ReadR.sliceLH rfl rfl rfl hasA (by omega) (by omega)) ?_)
   | (refine WPl.spQ (fun hc => ?_) (fun hc => ?_) <;> try exact prA)
   | fail)
  exact WPq.dTs
end Go.Proofs.Ytncgponcedkihaa
