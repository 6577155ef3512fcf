/- Layer 33 (bucket): the order of clients: contract. -/
import Derived.Test.YtncgponcedkihaaPy
import Derived.Test.YtncgponcedkihaaBa
import Derived.Test.YtncgponcedkihaaRw
namespace Go.Proofs.Ytncgponcedkihaa
open Go.RowKit
set_option linter.unusedSimpArgs false
set_option linter.unusedVariables false
set_option maxRecDepth 20000
set_option maxHeartbeats 4000000
attribute [local irreducible] WPc WPl WPq ReadR OpT BinR HasS bx rdN rowN Take Takes Prov Triple ResF BuildP Done ag Int.decLt Int.decLe Int.instDecidableEq
instance pfElt : EltN Try.prog 34 18 := ⟨by kernel_rfl⟩
theorem pfc_len (p : Pf) : (flat (pfc p)).length = 18 := by simp [flat_eq, p.1.len, u8s_length]
theorem pfc_fok (p : Pf) : FOk (pfc p) := by
  have := p.1.len
  exact fokA
def pfs (L : List Nd) : List Value := (L.map fun c => flat (pfc c.2.p)).flatten
theorem pfs_snoc {A : List Nd} {c : Nd} : pfs (A ++ [c]) = pfs A ++ flat (pfc c.2.p) := by simp [pfs]
theorem pfs_len {A : List Nd} : (pfs A).length = A.length * 18 := rows_len (c := fun c : Nd => pfc c.2.p) fun c => pfc_len c.2.p
attribute [local irreducible] pool fset lnk mp mget mfind mput mdel pfs
structure OSt where
  A : List Nd
  B : List Nd
  v : Value
  xs : List Value
  k : Nat
section
variable (gB m : Nat) (per burst : Int) (clients : Nat) (f : Nat → Option Ch)
def ROrd (L : List Nd) (M : List (Pf × Option Nat)) : Value → List Asn → Prop := fun v Γ => v.oneCell' = true ∧ Γ = [rowN 34 18 v L.length (pfs L), (bx gB 131 (bkc (hdO none L) (lsO none L) per burst (clients : Int) m)), mp prM m M, (pool 135 f)]
theorem order_t (L : List Nd) (M : List (Pf × Option Nat)) (hl : lnk f none L none) (hL : L.length ≤ 1000) :
    Triple Try.prog 18 #[hP' gB] [(bx gB 131 (bkc (hdO none L) (lsO none L) per burst (clients : Int) m)), mp prM m M, (pool 135 f)] (ROrd gB m per burst clients f L M) := by
  obtain ⟨la, hla⟩ : ∃ la, la = lsO none L := ⟨_, rfl⟩
  unfold ROrd
  rw [← hla]
  refine Triple.enter Try.func18 rfl Try.ntmps18 rfl (fun W => ?_)
  dsimp only [argsF, Nat.reduceAdd]
  refine WPc.nilRowN 34 18 ?_
  repeat' (first
   | refine WPl.nil ?_ | refine WPq.then ?_ | refine WPq.thenR ?_ | refine WPq.thenE ?_ | refine WPq.blockN ?_ | refine WPq.blockR ?_ | refine WPq.blockE ?_ | refine WPq.blockO rfl ?_ | refine WPc.seq ?_ | refine WPc.block ?_ | refine WPc.ret ?_ | refine WPc.exit ?_ | refine WPc.skip ?_ | refine WPc.region ?_
   | (refine isCond ?_; first | refine WPc.cT ?_ | refine WPc.cF ?_ | (refine WPc.cQ (fun hc => ?_) (fun hc => ?_) <;> try exact prA))
   | (refine isD 6 ?_; refine WPl.rdX (readP) ?_)
   | (refine isOp ?_; first | refine WPl.rd ?_ | refine WPl.sk ?_ | refine WPl.rdB ?_)
   | (show WPl _ _ _ _ _ _ _ (⟨_, .indexAddr _ _ _, _, _, _, _⟩ :: _) _; refine WPl.rdX (ReadR.indexE rfl rfl hasA (by first | assumption | omega)) ?_)
   | (show WPl _ _ _ _ _ _ _ (⟨_, .fieldAddr _ _ _, _, _, _, _⟩ :: _) _; refine WPl.rdX (ReadR.fieldE rfl hasA (by first | assumption | omega)) ?_)
   | (show WPl _ _ _ _ _ _ _ (⟨_, .load _ _, _, _, _, _⟩ :: _) _; first | refine WPl.rdX (ReadR.loadE rfl hasA (by assumption)) ?_ | refine WPl.rdX (ReadR.loadES (by assumption) (by first | assumption | omega) rfl hasA) ?_)
   | (show WPl _ _ _ _ _ _ _ (⟨_, .slice _ _ _ _ _, _, _, _, _⟩ :: _) _; first | refine WPl.rdX (ReadR.sliceH rfl rfl hasA (by omega)) ?_ | refine WPl.rdX (ReadR.sliceL rfl rfl hasA (by omega)) ?_ | refine WPl.rdX (ReadR.sliceLH rfl rfl rfl hasA (by omega) (by omega)) ?_)
   | (refine WPl.spQ (fun hc => ?_) (fun hc => ?_) <;> try exact prA)
   | fail)
  first | refine WPc.loop (σ := OSt) (fun st => L = st.A ++ st.B ∧ st.v.oneCell' = true ∧ st.xs = pfs st.A ∧ st.k = st.A.length) (fun st => [rowN 34 18 st.v st.k st.xs, (bx gB 131 (bkc (hdO none L) la per burst (clients : Int) m)), mp prM m M, (pool 135 f)]) (fun st => [(3, st.v), (4, ptrO (hdO none st.B))]) (fun st => st.B.length) (⟨[], L, .slice none 0 0, [], 0⟩) ?_ takesA frsA (fun st km hx hk => ?_)
  · exact ⟨rfl, rfl, by unfold pfs; rfl, rfl⟩
  obtain ⟨A, B, vo, xs, k⟩ := st
  obtain ⟨hAB, hone, hxs, hk2⟩ := hx
  dsimp only at hAB hone hxs hk2 hk ⊢
  cases B with
  | nil =>
    rw [List.append_nil] at hAB
    repeat' (first
     | refine WPl.nil ?_ | refine WPq.then ?_ | refine WPq.thenR ?_ | refine WPq.thenE ?_ | refine WPq.blockN ?_ | refine WPq.blockR ?_ | refine WPq.blockE ?_ | refine WPq.blockO rfl ?_ | refine WPc.seq ?_ | refine WPc.block ?_ | refine WPc.ret ?_ | refine WPc.exit ?_ | refine WPc.skip ?_ | refine WPc.region ?_
     | (refine isCond ?_; first | refine WPc.cT ?_ | refine WPc.cF ?_ | (refine WPc.cQ (fun hc => ?_) (fun hc => ?_) <;> try exact prA))
     | (refine isD 13 ?_; refine WPl.rdX (readP) ?_)
     | (refine isOp ?_; first | refine WPl.rd ?_ | refine WPl.sk ?_ | refine WPl.rdB ?_)
     | (show WPl _ _ _ _ _ _ _ (⟨_, .indexAddr _ _ _, _, _, _, _⟩ :: _) _; refine WPl.rdX (ReadR.indexE rfl rfl hasA (by first | assumption | omega)) ?_)
     | (show WPl _ _ _ _ _ _ _ (⟨_, .fieldAddr _ _ _, _, _, _, _⟩ :: _) _; refine WPl.rdX (ReadR.fieldE rfl hasA (by first | assumption | omega)) ?_)
     | (show WPl _ _ _ _ _ _ _ (⟨_, .load _ _, _, _, _, _⟩ :: _) _; first | refine WPl.rdX (ReadR.loadE rfl hasA (by assumption)) ?_ | refine WPl.rdX (ReadR.loadES (by assumption) (by first | assumption | omega) rfl hasA) ?_)
     | (show WPl _ _ _ _ _ _ _ (⟨_, .slice _ _ _ _ _, _, _, _, _⟩ :: _) _; first | refine WPl.rdX (ReadR.sliceH rfl rfl hasA (by omega)) ?_ | refine WPl.rdX (ReadR.sliceL rfl rfl hasA (by omega)) ?_ | refine WPl.rdX (ReadR.sliceLH rfl rfl rfl hasA (by omega) (by omega)) ?_)
     | (refine WPl.spQ (fun hc => ?_) (fun hc => ?_) <;> try exact prA)
     | fail)
    exact WPq.dX (vs := [_]) [rowN 34 18 vo k xs, (bx gB 131 (bkc (hdO none L) la per burst (clients : Int) m)), mp prM m M, (pool 135 f)] ⟨hone, by rw [hxs, hk2, ← hAB]; rfl⟩
  | cons c B' =>
    have hc : f c.1 = some (clc c.2 (lsO none A) (hdO none B')) := by
      have h1 : lnk f none (A ++ c :: B') none := by rw [← hAB]; exact hl
      have h2 := (lnk_append.1 h1).2
      unfold lnk at h2
      exact h2.1
    have hlen : A.length + (B'.length + 1) ≤ 1000 := by have := congrArg List.length hAB; simp at this; omega
    have l1 := c.2.p.1.len
    have hm2 : (flat (pfc c.2.p)).length = 1 * 18 := by rw [pfc_len]
    have h1 := (pfc_fok c.2.p).one
    repeat' (first
     | refine WPl.nil ?_ | refine WPq.then ?_ | refine WPq.thenR ?_ | refine WPq.thenE ?_ | refine WPq.blockN ?_ | refine WPq.blockR ?_ | refine WPq.blockE ?_ | refine WPq.blockO rfl ?_ | refine WPc.seq ?_ | refine WPc.block ?_ | refine WPc.ret ?_ | refine WPc.exit ?_ | refine WPc.skip ?_ | refine WPc.region ?_
     | (refine isCond ?_; first | refine WPc.cT ?_ | refine WPc.cF ?_ | (refine WPc.cQ (fun hc => ?_) (fun hc => ?_) <;> try exact prA))
     | (refine isD 13 ?_; refine WPl.rdX (readP) ?_)
     | (refine isD 22 ?_; refine WPl.rdX (ReadR.loadPA (ds := pfc c.2.p) memA hc rfl rfl) ?_)
     | (refine isD 23 ?_; refine WPl.litS1 fun wv hwv => ?_)
     | (refine isD 24 ?_; refine WPl.appN (m := k) (m2 := 1) (xs := xs) (ys := flat (pfc c.2.p)) hm2 h1 (by omega) fun v2 hv2 => ?_)
     | (refine isD 17 ?_; refine WPl.rdX (ReadR.loadP memA hc rfl rfl) ?_)
     | (refine isOp ?_; first | refine WPl.rd ?_ | refine WPl.sk ?_ | refine WPl.rdB ?_)
     | (show WPl _ _ _ _ _ _ _ (⟨_, .indexAddr _ _ _, _, _, _, _⟩ :: _) _; refine WPl.rdX (ReadR.indexE rfl rfl hasA (by first | assumption | omega)) ?_)
     | (show WPl _ _ _ _ _ _ _ (⟨_, .fieldAddr _ _ _, _, _, _, _⟩ :: _) _; refine WPl.rdX (ReadR.fieldE rfl hasA (by first | assumption | omega)) ?_)
     | (show WPl _ _ _ _ _ _ _ (⟨_, .load _ _, _, _, _, _⟩ :: _) _; first | refine WPl.rdX (ReadR.loadE rfl hasA (by assumption)) ?_ | refine WPl.rdX (ReadR.loadES (by assumption) (by first | assumption | omega) rfl hasA) ?_)
     | (show WPl _ _ _ _ _ _ _ (⟨_, .slice _ _ _ _ _, _, _, _, _⟩ :: _) _; first | refine WPl.rdX (ReadR.sliceH rfl rfl hasA (by omega)) ?_ | refine WPl.rdX (ReadR.sliceL rfl rfl hasA (by omega)) ?_ | refine WPl.rdX (ReadR.sliceLH rfl rfl rfl hasA (by omega) (by omega)) ?_)
     | (refine WPl.spQ (fun hc => ?_) (fun hc => ?_) <;> try exact prA)
     | fail)
    exact WPq.rnd ⟨A ++ [c], B', v2, xs ++ flat (pfc c.2.p), k + 1⟩ ⟨by rw [hAB]; simp, hv2, by rw [hxs, pfs_snoc], by rw [hk2]; simp⟩ (by rw [hk]; simp)
end
end Go.Proofs.Ytncgponcedkihaa
