/- BucketPlays: what is told of any calls, and which clients are kept. -/
import Derived.Test.YtncgponcedkihaaRt
import Derived.Test.YtncgponcedkihaaOpB
namespace Go.Proofs.Ytncgponcedkihaa
abbrev ordBucketPlays1 : List (List Nat × List Nat) := [([13, 14, 15], [53, 54, 55, 56, 58, 59, 60, 61, 62]), ([13, 14, 15], [52, 55, 56, 58, 59, 60, 61, 62]), ([1, 13, 14, 15], [52, 53, 55, 56, 58, 59, 60, 61, 62]), ([13, 14, 15], [52, 53, 54, 58, 59, 60, 61, 62]), ([3, 13, 14, 15], [52, 53, 54, 55, 58, 59, 60, 61, 62]), ([0, 1, 2, 3, 4, 13, 14, 15], [52, 53, 54, 55, 56, 58, 59, 60, 61, 62]), ([13, 14, 15], [52, 53, 54, 55, 56, 57, 59, 60, 61, 62]), ([13, 14, 15], [52, 53, 54, 55, 56, 57, 58, 61, 62]), ([7, 13, 14, 15], [52, 53, 54, 55, 56, 57, 58, 59, 61, 62]), ([13, 14, 15], [52, 53, 54, 55, 56, 57, 58, 59, 60]), ([9, 13, 14, 15], [52, 53, 54, 55, 56, 57, 58, 59, 60, 61]), ([0, 1, 2, 3, 4, 5, 6, 7, 8, 9, 10, 13, 14, 15], [52, 53, 54, 55, 56, 57, 58, 59, 60, 61, 62]), ([0, 1, 2, 3, 4, 5, 6, 7, 8, 9, 10, 11, 13, 14, 15], [52, 53, 54, 55, 56, 57, 58, 59, 60, 61, 62, 63])]
abbrev ordBucketPlays2 : List (List Nat × List Nat) := [([], []), ([0], [65]), ([0, 1], [65, 66]), ([0, 1, 2], [65, 66, 67]), ([0, 1, 2, 3], [65, 66, 67, 68, 70, 71, 72, 73, 74, 75, 77, 78, 79, 80, 81, 82, 83]), ([0, 1, 2, 3], [65, 66, 67, 68, 69, 72, 73, 74, 75, 77, 78, 79, 80, 81, 82, 83]), ([0, 1, 2, 3, 5], [65, 66, 67, 68, 69, 70, 72, 73, 74, 75, 77, 78, 79, 80, 81, 82, 83]), ([0, 1, 2, 3], [65, 66, 67, 68, 69, 70, 71, 74, 75, 77, 78, 79, 80, 81, 82, 83]), ([0, 1, 2, 3, 7], [65, 66, 67, 68, 69, 70, 71, 72, 74, 75, 77, 78, 79, 80, 81, 82, 83]), ([0, 1, 2, 3], [65, 66, 67, 68, 69, 70, 71, 72, 73, 77, 78, 79, 80, 81, 82, 83]), ([0, 1, 2, 3, 9], [65, 66, 67, 68, 69, 70, 71, 72, 73, 74, 77, 78, 79, 80, 81, 82, 83]), ([0, 1, 2, 3, 4, 5, 6, 7, 8, 9, 10], [65, 66, 67, 68, 69, 70, 71, 72, 73, 74, 75, 77, 78, 79, 80, 81, 82, 83]), ([0, 1, 2, 3], [65, 66, 67, 68, 69, 70, 71, 72, 73, 74, 75, 76, 78, 79, 80, 81, 82, 83]), ([0, 1, 2, 3], [65, 66, 67, 68, 69, 70, 71, 72, 73, 74, 75, 76, 77, 80, 81, 82, 83]), ([0, 1, 2, 3, 13], [65, 66, 67, 68, 69, 70, 71, 72, 73, 74, 75, 76, 77, 78, 80, 81, 82, 83]), ([0, 1, 2, 3], [65, 66, 67, 68, 69, 70, 71, 72, 73, 74, 75, 76, 77, 78, 79, 82, 83]), ([0, 1, 2, 3, 15], [65, 66, 67, 68, 69, 70, 71, 72, 73, 74, 75, 76, 77, 78, 79, 80, 82, 83]), ([0, 1, 2, 3], [65, 66, 67, 68, 69, 70, 71, 72, 73, 74, 75, 76, 77, 78, 79, 80, 81]), ([0, 1, 2, 3, 17], [65, 66, 67, 68, 69, 70, 71, 72, 73, 74, 75, 76, 77, 78, 79, 80, 81, 82]), ([0, 1, 2, 3, 4, 5, 6, 7, 8, 9, 10, 11, 12, 13, 14, 15, 16, 17, 18], [65, 66, 67, 68, 69, 70, 71, 72, 73, 74, 75, 76, 77, 78, 79, 80, 81, 82, 83]), ([0, 1, 2, 3, 4, 5, 6, 7, 8, 9, 10, 11, 12, 13, 14, 15, 16, 17, 18, 19], [65, 66, 67, 68, 69, 70, 71, 72, 73, 74, 75, 76, 77, 78, 79, 80, 81, 82, 83, 84]), ([0, 1, 2, 3, 4, 5, 6, 7, 8, 9, 10, 11, 12, 13, 14, 15, 16, 17, 18, 19, 20], [65, 66, 67, 68, 69, 70, 71, 72, 73, 74, 75, 76, 77, 78, 79, 80, 81, 82, 83, 84, 85])]
abbrev ordBucketPlays3 : List (List Nat × List Nat) := [([22, 23, 24, 25, 26], []), ([0, 22, 23, 24, 25, 26], [65]), ([0, 1, 22, 23, 24, 25, 26], [65, 66]), ([0, 1, 2, 22, 23, 24, 25, 26], [65, 66, 67]), ([0, 1, 2, 3, 22, 23, 24, 25, 26], [65, 66, 67, 68, 70, 71, 72, 73, 74, 75, 77, 78, 79, 80, 81, 82, 83]), ([0, 1, 2, 3, 22, 23, 24, 25, 26], [65, 66, 67, 68, 69, 72, 73, 74, 75, 77, 78, 79, 80, 81, 82, 83]), ([0, 1, 2, 3, 5, 22, 23, 24, 25, 26], [65, 66, 67, 68, 69, 70, 72, 73, 74, 75, 77, 78, 79, 80, 81, 82, 83]), ([0, 1, 2, 3, 22, 23, 24, 25, 26], [65, 66, 67, 68, 69, 70, 71, 74, 75, 77, 78, 79, 80, 81, 82, 83]), ([0, 1, 2, 3, 7, 22, 23, 24, 25, 26], [65, 66, 67, 68, 69, 70, 71, 72, 74, 75, 77, 78, 79, 80, 81, 82, 83]), ([0, 1, 2, 3, 22, 23, 24, 25, 26], [65, 66, 67, 68, 69, 70, 71, 72, 73, 77, 78, 79, 80, 81, 82, 83]), ([0, 1, 2, 3, 9, 22, 23, 24, 25, 26], [65, 66, 67, 68, 69, 70, 71, 72, 73, 74, 77, 78, 79, 80, 81, 82, 83]), ([0, 1, 2, 3, 4, 5, 6, 7, 8, 9, 10, 22, 23, 24, 25, 26], [65, 66, 67, 68, 69, 70, 71, 72, 73, 74, 75, 77, 78, 79, 80, 81, 82, 83]), ([0, 1, 2, 3, 22, 23, 24, 25, 26], [65, 66, 67, 68, 69, 70, 71, 72, 73, 74, 75, 76, 78, 79, 80, 81, 82, 83]), ([0, 1, 2, 3, 22, 23, 24, 25, 26], [65, 66, 67, 68, 69, 70, 71, 72, 73, 74, 75, 76, 77, 80, 81, 82, 83]), ([0, 1, 2, 3, 13, 22, 23, 24, 25, 26], [65, 66, 67, 68, 69, 70, 71, 72, 73, 74, 75, 76, 77, 78, 80, 81, 82, 83]), ([0, 1, 2, 3, 22, 23, 24, 25, 26], [65, 66, 67, 68, 69, 70, 71, 72, 73, 74, 75, 76, 77, 78, 79, 82, 83]), ([0, 1, 2, 3, 15, 22, 23, 24, 25, 26], [65, 66, 67, 68, 69, 70, 71, 72, 73, 74, 75, 76, 77, 78, 79, 80, 82, 83]), ([0, 1, 2, 3, 22, 23, 24, 25, 26], [65, 66, 67, 68, 69, 70, 71, 72, 73, 74, 75, 76, 77, 78, 79, 80, 81]), ([0, 1, 2, 3, 17, 22, 23, 24, 25, 26], [65, 66, 67, 68, 69, 70, 71, 72, 73, 74, 75, 76, 77, 78, 79, 80, 81, 82]), ([0, 1, 2, 3, 4, 5, 6, 7, 8, 9, 10, 11, 12, 13, 14, 15, 16, 17, 18, 22, 23, 24, 25, 26], [65, 66, 67, 68, 69, 70, 71, 72, 73, 74, 75, 76, 77, 78, 79, 80, 81, 82, 83]), ([0, 1, 2, 3, 4, 5, 6, 7, 8, 9, 10, 11, 12, 13, 14, 15, 16, 17, 18, 19, 22, 23, 24, 25, 26], [65, 66, 67, 68, 69, 70, 71, 72, 73, 74, 75, 76, 77, 78, 79, 80, 81, 82, 83, 84]), ([0, 1, 2, 3, 4, 5, 6, 7, 8, 9, 10, 11, 12, 13, 14, 15, 16, 17, 18, 19, 20, 22, 23, 24, 25, 26], [65, 66, 67, 68, 69, 70, 71, 72, 73, 74, 75, 76, 77, 78, 79, 80, 81, 82, 83, 84, 85])]
abbrev ordBucketPlays4 : List (List Nat × List Nat) := [([18, 19, 20], [91, 92, 93, 94, 95]), ([0, 18, 19, 20], [89, 91, 92, 93, 94, 95]), ([18, 19, 20], [89, 90]), ([2, 18, 19, 20], [89, 90, 91]), ([2, 3, 18, 19, 20], [89, 90, 91, 92]), ([2, 3, 4, 18, 19, 20], [89, 90, 91, 92, 93]), ([2, 3, 4, 5, 18, 19, 20], [89, 90, 91, 92, 93, 94]), ([0, 1, 2, 3, 4, 5, 6, 18, 19, 20], [89, 90, 91, 92, 93, 94, 95]), ([0, 1, 2, 3, 4, 5, 6, 7, 18, 19, 20], [89, 90, 91, 92, 93, 94, 95, 96]), ([0, 1, 2, 3, 4, 5, 6, 7, 8, 18, 19, 20], [89, 90, 91, 92, 93, 94, 95, 96, 97, 100, 101, 102, 103, 104]), ([0, 1, 2, 3, 4, 5, 6, 7, 8, 9, 18, 19, 20], [89, 90, 91, 92, 93, 94, 95, 96, 97, 98, 100, 101, 102, 103, 104]), ([0, 1, 2, 3, 4, 5, 6, 7, 8, 18, 19, 20], [89, 90, 91, 92, 93, 94, 95, 96, 97, 98, 99]), ([0, 1, 2, 3, 4, 5, 6, 7, 8, 11, 18, 19, 20], [89, 90, 91, 92, 93, 94, 95, 96, 97, 98, 99, 100]), ([0, 1, 2, 3, 4, 5, 6, 7, 8, 11, 12, 18, 19, 20], [89, 90, 91, 92, 93, 94, 95, 96, 97, 98, 99, 100, 101]), ([0, 1, 2, 3, 4, 5, 6, 7, 8, 11, 12, 13, 18, 19, 20], [89, 90, 91, 92, 93, 94, 95, 96, 97, 98, 99, 100, 101, 102]), ([0, 1, 2, 3, 4, 5, 6, 7, 8, 11, 12, 13, 14, 18, 19, 20], [89, 90, 91, 92, 93, 94, 95, 96, 97, 98, 99, 100, 101, 102, 103]), ([0, 1, 2, 3, 4, 5, 6, 7, 8, 9, 10, 11, 12, 13, 14, 15, 18, 19, 20], [89, 90, 91, 92, 93, 94, 95, 96, 97, 98, 99, 100, 101, 102, 103, 104]), ([0, 1, 2, 3, 4, 5, 6, 7, 8, 9, 10, 11, 12, 13, 14, 15, 16, 18, 19, 20], [89, 90, 91, 92, 93, 94, 95, 96, 97, 98, 99, 100, 101, 102, 103, 104, 105])]
open Go.RowKit
set_option linter.unusedSimpArgs false
set_option linter.unusedVariables false
set_option maxRecDepth 20000
set_option maxHeartbeats 4000000
attribute [local irreducible] WPc WPl WPq ReadR OpT BinR HasS bx rdN rowN Take Takes Prov Triple ResF BuildP Done ag Int.decLt Int.decLe Int.instDecidableEq
def acs (l : List Ac) : List Value := (l.map fun a => flat (acC a)).flatten
theorem acC_len' (a : Ac) : (flat (acC a)).length = 21 := by simp [flat_eq, a.p.1.len, u8s_length]
theorem acs_len {l : List Ac} : (acs l).length = l.length * 21 := rows_len acC_len'
theorem acs_at {l : List Ac} {i : Nat} {a : Ac} (h : l[i]? = some a) : ((acs l).drop (i * 21)).take 21 = flat (acC a) := by unfold acs; exact rows_drop (c := acC) acC_len' h
theorem pfs_at {L : List Nd} {i : Nat} {c : Nd} (h : L[i]? = some c) : ((pfs L).drop (i * 18)).take 18 = flat (pfc c.2.p) := by unfold pfs; exact rows_drop (c := fun c : Nd => pfc c.2.p) (fun c => pfc_len c.2.p) h
attribute [local irreducible] pool fset lnk mp mget mfind mput mdel pfs crs acs pickG
section
variable (gB m : Nat) (per burst : Int) (clients : Nat) (f : Nat → Option Ch)
theorem bHas_t (L : List Nd) (M : List (Pf × Option Nat)) (hI : BkI burst clients L M f) (hb : BOk per burst clients) (p : Pf) (now : Int) (hp : in64 p.2) (n1 : 0 ≤ now) (n2 : now < 18446744073709551616) :
    Triple Try.prog 21 #[hP' gB, ag (pfc p), .int .u64 now] [bx gB 131 (bkc (hdO none L) (lsO none L) per burst (clients : Int) m), mp prM m M, pool 135 f] (RTurns (.int .i64 (hasD per burst (L.map (·.2)) p now)) [bx gB 131 (bkc (hdO none L) (lsO none L) per burst (clients : Int) m), mp prM m M, pool 135 f]) := by
  have hwf : prM.wf p := hp
  have l1 := p.1.len
  rcases Classical.em (∃ c ∈ L, c.2.p = p) with hex | hno
  · obtain ⟨x, hx, hxp⟩ := hex
    obtain ⟨A, B, rfl⟩ := List.append_of_mem hx
    have hA : ∀ y ∈ A, y.2.p ≠ p := fun y hy => by rw [← hxp]; exact (List.pairwise_append.1 hI.keys).2.2 y hy x (List.mem_cons_self ..)
    have hfind : mfind M p = some (some x.1) := (hI.key _ _).2 ⟨x, hx, hxp, rfl⟩
    have hget : prM.vc (mget prM M p) = hP' x.1 := by unfold mget; rw [hfind]; rfl
    have hhas : mhas M p = true := by unfold mhas; rw [hfind]; rfl
    have hcell : f x.1 = some (clc x.2 (lsO none A) (hdO none B)) := by
      have h2 := (lnk_append.1 hI.lk).2
      unfold lnk at h2
      exact h2.1
    obtain ⟨_, q1, q2, q3, q4⟩ := hI.ok x hx
    have hfd : ((A ++ x :: B).map (·.2)).find? (fun c => decide (c.p = p)) = some x.2 := by
      rw [List.map_append, List.find?_append, List.find?_eq_none.2 (fun c hc => by obtain ⟨y', hy, rfl⟩ := List.mem_map.1 hc; simpa using hA y' hy)]
      simp [hxp]
    have hr : hasD per burst ((A ++ x :: B).map (·.2)) p now = full per burst x.2 now := by unfold hasD; rw [hfd]
    rw [hr]
    have c2 := fun fi la => bhas_t gB m per burst (clients : Int) f x.1 x.2 fi la (lsO none A) (hdO none B) now hcell hb.p1 hb.p2 hb.b2 q1 q2 q3 q4 n1 n2
    have c3 := c2 (hdO none (A ++ x :: B)) (lsO none (A ++ x :: B))
    clear hI hfd hr hx hfind c2
    generalize hdO none (A ++ x :: B) = fi at c3 ⊢
    generalize lsO none (A ++ x :: B) = la at c3 ⊢
    refine Triple.enter Try.func21 rfl Try.ntmps21 rfl (fun W => ?_)
    dsimp only [argsF, Nat.reduceAdd]
    repeat' (first
     | refine WPl.nil ?_ | refine WPq.then ?_ | refine WPq.thenR ?_ | refine WPq.thenE ?_ | refine WPq.blockN ?_ | refine WPq.blockR ?_ | refine WPq.blockE ?_ | refine WPq.blockO rfl ?_ | refine WPc.seq ?_ | refine WPc.block ?_ | refine WPc.ret ?_ | refine WPc.exit ?_ | refine WPc.skip ?_ | refine WPc.region ?_
     | (refine isReg 3 ?_; refine WPc.drA [([], [16]), ([0], [12, 16]), ([0, 1], [12, 13, 16]), ([0, 1, 2], [12, 13, 14, 16]), ([], [12, 13, 14, 15]), ([0, 1, 2, 3, 4], [12, 13, 14, 15, 16]), ([0, 1, 2, 3, 4, 5], [12, 13, 14, 15, 16, 17]), ([0, 1, 2, 3, 4, 5, 6], [11, 12, 13, 14, 15, 16, 17, 19]), ([0, 1, 2, 3, 4, 5, 6], [7, 11, 12, 13, 14, 15, 16, 17, 18]), ([0, 1, 2, 3, 4, 5, 6, 7], [11, 12, 13, 14, 15, 16, 17, 18, 19]), ([0, 1, 2, 3, 4, 5, 6, 7, 8, 9], [7, 11, 12, 13, 14, 15, 16, 17, 18, 19])] [] (Γx := []) ?_; dsimp only [prev0, List.length_nil, List.length_cons])
     | (refine gAny ?_; first | (refine gC 30 ?_; refine RGl.turns (fun e hk => by (try dsimp only [bndR, ensR, oksR, fcutR, List.append_nil, List.nil_append, List.cons_append, List.append_assoc] at hk ⊢); exact OpT.callTs (c3)) ?_) | (refine gD 10 ?_; refine RGl.rdX (fun e hk => by (try dsimp only [bndR, ensR, oksR, fcutR, List.append_nil, List.nil_append, List.cons_append, List.append_assoc] at hk ⊢); exact readP) ?_) | (refine gD 17 ?_; refine RGl.rdX (fun e hk => by (try dsimp only [bndR, ensR, oksR, fcutR, List.append_nil, List.nil_append, List.cons_append, List.append_assoc] at hk ⊢); exact ReadR.lookOk (M := prM) (k := p) hwf rfl rfl memA hget hhas) ?_) | (refine gOp ?_; first | refine RGl.rdA ?_ | refine RGl.rdX (fun e hk => by (try dsimp only [bndR, ensR, oksR, fcutR, List.append_nil, List.nil_append, List.cons_append, List.append_assoc] at hk ⊢); exact readB) ?_) | (refine RGl.fin (fun e hk => ?_); (try dsimp only [bndA, ensAR, oksA, List.append_nil, List.nil_append, List.cons_append, List.append_assoc] at hk ⊢); (repeat (obtain ⟨hk1, hk⟩ := hk))) | fail)
     | (refine isCond ?_; first | refine WPc.cT ?_ | refine WPc.cF ?_ | (refine WPc.cQ (fun hc => ?_) (fun hc => ?_) <;> try exact prA))
     | (refine isD 10 ?_; refine WPl.rdX (readP) ?_)
     | (refine isD 17 ?_; refine WPl.rdX (ReadR.lookOk (M := prM) (k := p) hwf rfl rfl memA hget hhas) ?_)
     | (refine isC 30 ?_; refine WPl.cTs (c3) ?_; (try dsimp only [putF, List.cons_append, List.nil_append]))
     | (refine isOp ?_; first | refine WPl.rd ?_ | refine WPl.sk ?_ | refine WPl.rdB ?_)
     | (refine isBx ?_; refine WPl.nw fun g => ?_)
     | (show WPl _ _ _ _ _ _ _ (⟨_, .indexAddr _ _ _, _, _, _, _⟩ :: _) _; refine WPl.rdX (ReadR.indexE rfl rfl hasA (by first | assumption | omega)) ?_)
     | (show WPl _ _ _ _ _ _ _ (⟨_, .fieldAddr _ _ _, _, _, _, _⟩ :: _) _; refine WPl.rdX (ReadR.fieldE rfl hasA (by first | assumption | omega)) ?_)
     | (show WPl _ _ _ _ _ _ _ (⟨_, .load _ _, _, _, _, _⟩ :: _) _; first | refine WPl.rdX (ReadR.loadE rfl hasA (by assumption)) ?_ | refine WPl.rdX (ReadR.loadES (by assumption) (by first | assumption | omega) rfl hasA) ?_)
     | (show WPl _ _ _ _ _ _ _ (⟨_, .slice _ _ _ _ _, _, _, _, _⟩ :: _) _; first | refine WPl.rdX (ReadR.sliceH rfl rfl hasA (by omega)) ?_ | refine WPl.rdX (ReadR.sliceL rfl rfl hasA (by omega)) ?_ | refine WPl.rdX (ReadR.sliceLH rfl rfl rfl hasA (by omega) (by omega)) ?_)
     | (refine WPl.spQ (fun hc => ?_) (fun hc => ?_) <;> try exact prA)
     | fail)
    all_goals (show WPq _ _ _ _ _ _ _; exact WPq.dTp)
  · have hno' : ∀ c ∈ L, c.2.p ≠ p := fun c hc e => hno ⟨c, hc, e⟩
    have hfind := hI.none' hno'
    have hget : prM.vc (mget prM M p) = .pointer none := by unfold mget; rw [hfind]; rfl
    have hhas : mhas M p = false := by unfold mhas; rw [hfind]; rfl
    have hr : hasD per burst (L.map (·.2)) p now = burst := by
      unfold hasD
      rw [List.find?_eq_none.2 (fun c hc => by obtain ⟨y', hy, rfl⟩ := List.mem_map.1 hc; simpa using hno' y' hy)]
    rw [hr]
    clear hI hfind hno hno' hr
    generalize hdO none L = fi
    generalize lsO none L = la
    refine Triple.enter Try.func21 rfl Try.ntmps21 rfl (fun W => ?_)
    dsimp only [argsF, Nat.reduceAdd]
    repeat' (first
     | refine WPl.nil ?_ | refine WPq.then ?_ | refine WPq.thenR ?_ | refine WPq.thenE ?_ | refine WPq.blockN ?_ | refine WPq.blockR ?_ | refine WPq.blockE ?_ | refine WPq.blockO rfl ?_ | refine WPc.seq ?_ | refine WPc.block ?_ | refine WPc.ret ?_ | refine WPc.exit ?_ | refine WPc.skip ?_ | refine WPc.region ?_
     | (refine isReg 3 ?_; refine WPc.drA [([], [16]), ([0], [12, 16]), ([0, 1], [12, 13, 16]), ([0, 1, 2], [12, 13, 14, 16]), ([], [12, 13, 14, 15]), ([0, 1, 2, 3, 4], [12, 13, 14, 15, 16]), ([0, 1, 2, 3, 4, 5], [12, 13, 14, 15, 16, 17]), ([0, 1, 2, 3, 4, 5, 6], [11, 12, 13, 14, 15, 16, 17, 19]), ([0, 1, 2, 3, 4, 5, 6], [7, 11, 12, 13, 14, 15, 16, 17, 18]), ([0, 1, 2, 3, 4, 5, 6, 7], [11, 12, 13, 14, 15, 16, 17, 18, 19]), ([0, 1, 2, 3, 4, 5, 6, 7, 8, 9], [7, 11, 12, 13, 14, 15, 16, 17, 18, 19])] [] (Γx := []) ?_; dsimp only [prev0, List.length_nil, List.length_cons])
     | (refine gAny ?_; first | (refine gD 10 ?_; refine RGl.rdX (fun e hk => by (try dsimp only [bndR, ensR, oksR, fcutR, List.append_nil, List.nil_append, List.cons_append, List.append_assoc] at hk ⊢); exact readP) ?_) | (refine gD 17 ?_; refine RGl.rdX (fun e hk => by (try dsimp only [bndR, ensR, oksR, fcutR, List.append_nil, List.nil_append, List.cons_append, List.append_assoc] at hk ⊢); exact ReadR.lookOk (M := prM) (k := p) hwf rfl rfl memA hget hhas) ?_) | (refine gOp ?_; first | refine RGl.rdA ?_ | refine RGl.rdX (fun e hk => by (try dsimp only [bndR, ensR, oksR, fcutR, List.append_nil, List.nil_append, List.cons_append, List.append_assoc] at hk ⊢); exact readB) ?_) | (refine RGl.fin (fun e hk => ?_); (try dsimp only [bndA, ensAR, oksA, List.append_nil, List.nil_append, List.cons_append, List.append_assoc] at hk ⊢); (repeat (obtain ⟨hk1, hk⟩ := hk))) | fail)
     | (refine isCond ?_; first | refine WPc.cT ?_ | refine WPc.cF ?_ | (refine WPc.cQ (fun hc => ?_) (fun hc => ?_) <;> try exact prA))
     | (refine isD 10 ?_; refine WPl.rdX (readP) ?_)
     | (refine isD 17 ?_; refine WPl.rdX (ReadR.lookOk (M := prM) (k := p) hwf rfl rfl memA hget hhas) ?_)
     | (refine isOp ?_; first | refine WPl.rd ?_ | refine WPl.sk ?_ | refine WPl.rdB ?_)
     | (refine isBx ?_; refine WPl.nw fun g => ?_)
     | (show WPl _ _ _ _ _ _ _ (⟨_, .indexAddr _ _ _, _, _, _, _⟩ :: _) _; refine WPl.rdX (ReadR.indexE rfl rfl hasA (by first | assumption | omega)) ?_)
     | (show WPl _ _ _ _ _ _ _ (⟨_, .fieldAddr _ _ _, _, _, _, _⟩ :: _) _; refine WPl.rdX (ReadR.fieldE rfl hasA (by first | assumption | omega)) ?_)
     | (show WPl _ _ _ _ _ _ _ (⟨_, .load _ _, _, _, _, _⟩ :: _) _; first | refine WPl.rdX (ReadR.loadE rfl hasA (by assumption)) ?_ | refine WPl.rdX (ReadR.loadES (by assumption) (by first | assumption | omega) rfl hasA) ?_)
     | (show WPl _ _ _ _ _ _ _ (⟨_, .slice _ _ _ _ _, _, _, _, _⟩ :: _) _; first | refine WPl.rdX (ReadR.sliceH rfl rfl hasA (by omega)) ?_ | refine WPl.rdX (ReadR.sliceL rfl rfl hasA (by omega)) ?_ | refine WPl.rdX (ReadR.sliceLH rfl rfl rfl hasA (by omega) (by omega)) ?_)
     | (refine WPl.spQ (fun hc => ?_) (fun hc => ?_) <;> try exact prA)
     | fail)
    all_goals (show WPq _ _ _ _ _ _ _; exact WPq.dTp)
theorem rgood1_t (hb : BOk per burst clients) : Triple Try.prog 20 #[ag (rtc per burst (clients : Int))] [] (RVal (.bool true)) := by
  obtain ⟨p1, p2, b1, b2, c1, c2⟩ := hb
  have c1' : 1 ≤ (clients : Int) := by omega
  have c2' : (clients : Int) ≤ 1000 := by omega
  refine Triple.enter Try.func20 rfl Try.ntmps20 rfl (fun W => ?_)
  dsimp only [argsF, Nat.reduceAdd]
  repeat' (first
   | refine WPl.nil ?_ | refine WPq.then ?_ | refine WPq.thenR ?_ | refine WPq.thenE ?_ | refine WPq.blockN ?_ | refine WPq.blockR ?_ | refine WPq.blockE ?_ | refine WPq.blockO rfl ?_ | refine WPc.seq ?_ | refine WPc.block ?_ | refine WPc.ret ?_ | refine WPc.exit ?_ | refine WPc.skip ?_ | refine WPc.region ?_
   | (refine isCond ?_; first | refine WPc.cT ?_ | refine WPc.cF ?_ | (refine WPc.cQ (fun hc => ?_) (fun hc => ?_) <;> try exact prA))
   | (refine isD 5 ?_; refine WPl.rdX (ReadR.binE rfl rfl BinR.geq (congrArg Value.bool (decide_eq_true p1))) ?_)
   | (refine isD 9 ?_; refine WPl.rdX (ReadR.binE rfl rfl BinR.leq (congrArg Value.bool (decide_eq_true p2))) ?_)
   | (refine isD 14 ?_; refine WPl.rdX (ReadR.binE rfl rfl BinR.geq (congrArg Value.bool (decide_eq_true b1))) ?_)
   | (refine isD 19 ?_; refine WPl.rdX (ReadR.binE rfl rfl BinR.leq (congrArg Value.bool (decide_eq_true b2))) ?_)
   | (refine isD 24 ?_; refine WPl.rdX (ReadR.binE rfl rfl BinR.geq (congrArg Value.bool (decide_eq_true c1'))) ?_)
   | (refine isD 29 ?_; refine WPl.rdX (ReadR.binE rfl rfl BinR.leq (congrArg Value.bool (decide_eq_true c2'))) ?_)
   | (refine isOp ?_; first | refine WPl.rd ?_ | refine WPl.sk ?_ | refine WPl.rdB ?_)
   | (refine isBx ?_; refine WPl.nw fun g => ?_)
   | (show WPl _ _ _ _ _ _ _ (⟨_, .indexAddr _ _ _, _, _, _, _⟩ :: _) _; refine WPl.rdX (ReadR.indexE rfl rfl hasA (by first | assumption | omega)) ?_)
   | (show WPl _ _ _ _ _ _ _ (⟨_, .fieldAddr _ _ _, _, _, _, _⟩ :: _) _; refine WPl.rdX (ReadR.fieldE rfl hasA (by first | assumption | omega)) ?_)
   | (show WPl _ _ _ _ _ _ _ (⟨_, .load _ _, _, _, _, _⟩ :: _) _; first | refine WPl.rdX (ReadR.loadE rfl hasA (by assumption)) ?_ | refine WPl.rdX (ReadR.loadES (by assumption) (by first | assumption | omega) rfl hasA) ?_)
   | (show WPl _ _ _ _ _ _ _ (⟨_, .slice _ _ _ _ _, _, _, _, _⟩ :: _) _; first | refine WPl.rdX (ReadR.sliceH rfl rfl hasA (by omega)) ?_ | refine WPl.rdX (ReadR.sliceL rfl rfl hasA (by omega)) ?_ | refine WPl.rdX (ReadR.sliceLH rfl rfl rfl hasA (by omega) (by omega)) ?_)
   | (refine WPl.spQ (fun hc => ?_) (fun hc => ?_) <;> try exact prA)
   | fail)
  exact WPq.dV
end
theorem rgood0_t (per burst cl : Int) (h : ¬ (0 ≤ per ∧ per ≤ 1048576 ∧ 1 ≤ burst ∧ burst ≤ 1073741824 ∧ 1 ≤ cl ∧ cl ≤ 1000)) : Triple Try.prog 20 #[ag (rtc per burst cl)] [] (RVal (.bool false)) := by
  by_cases p1 : 0 ≤ per
  · by_cases p2 : per ≤ 1048576
    · by_cases b1 : 1 ≤ burst
      · by_cases b2 : burst ≤ 1073741824
        · by_cases c1 : 1 ≤ cl
          · have c2 : ¬ cl ≤ 1000 := fun q => h ⟨p1, p2, b1, b2, c1, q⟩
            refine Triple.enter Try.func20 rfl Try.ntmps20 rfl (fun W => ?_)
            dsimp only [argsF, Nat.reduceAdd]
            repeat' (first
             | refine WPl.nil ?_ | refine WPq.then ?_ | refine WPq.thenR ?_ | refine WPq.thenE ?_ | refine WPq.blockN ?_ | refine WPq.blockR ?_ | refine WPq.blockE ?_ | refine WPq.blockO rfl ?_ | refine WPc.seq ?_ | refine WPc.block ?_ | refine WPc.ret ?_ | refine WPc.exit ?_ | refine WPc.skip ?_ | refine WPc.region ?_
             | (refine isCond ?_; first | refine WPc.cT ?_ | refine WPc.cF ?_ | (refine WPc.cQ (fun hc => ?_) (fun hc => ?_) <;> try exact prA))
             | (refine isD 5 ?_; refine WPl.rdX (ReadR.binE rfl rfl BinR.geq (congrArg Value.bool (decide_eq_true p1))) ?_)
             | (refine isD 9 ?_; refine WPl.rdX (ReadR.binE rfl rfl BinR.leq (congrArg Value.bool (decide_eq_true p2))) ?_)
             | (refine isD 14 ?_; refine WPl.rdX (ReadR.binE rfl rfl BinR.geq (congrArg Value.bool (decide_eq_true b1))) ?_)
             | (refine isD 19 ?_; refine WPl.rdX (ReadR.binE rfl rfl BinR.leq (congrArg Value.bool (decide_eq_true b2))) ?_)
             | (refine isD 24 ?_; refine WPl.rdX (ReadR.binE rfl rfl BinR.geq (congrArg Value.bool (decide_eq_true c1))) ?_)
             | (refine isD 29 ?_; refine WPl.rdX (ReadR.binE rfl rfl BinR.leq (congrArg Value.bool (decide_eq_false c2))) ?_)
             | (refine isOp ?_; first | refine WPl.rd ?_ | refine WPl.sk ?_ | refine WPl.rdB ?_)
             | (refine isBx ?_; refine WPl.nw fun g => ?_)
             | (show WPl _ _ _ _ _ _ _ (⟨_, .indexAddr _ _ _, _, _, _, _⟩ :: _) _; refine WPl.rdX (ReadR.indexE rfl rfl hasA (by first | assumption | omega)) ?_)
             | (show WPl _ _ _ _ _ _ _ (⟨_, .fieldAddr _ _ _, _, _, _, _⟩ :: _) _; refine WPl.rdX (ReadR.fieldE rfl hasA (by first | assumption | omega)) ?_)
             | (show WPl _ _ _ _ _ _ _ (⟨_, .load _ _, _, _, _, _⟩ :: _) _; first | refine WPl.rdX (ReadR.loadE rfl hasA (by assumption)) ?_ | refine WPl.rdX (ReadR.loadES (by assumption) (by first | assumption | omega) rfl hasA) ?_)
             | (show WPl _ _ _ _ _ _ _ (⟨_, .slice _ _ _ _ _, _, _, _, _⟩ :: _) _; first | refine WPl.rdX (ReadR.sliceH rfl rfl hasA (by omega)) ?_ | refine WPl.rdX (ReadR.sliceL rfl rfl hasA (by omega)) ?_ | refine WPl.rdX (ReadR.sliceLH rfl rfl rfl hasA (by omega) (by omega)) ?_)
             | (refine WPl.spQ (fun hc => ?_) (fun hc => ?_) <;> try exact prA)
             | fail)
            exact WPq.dV
          · skip
            refine Triple.enter Try.func20 rfl Try.ntmps20 rfl (fun W => ?_)
            dsimp only [argsF, Nat.reduceAdd]
            repeat' (first
             | refine WPl.nil ?_ | refine WPq.then ?_ | refine WPq.thenR ?_ | refine WPq.thenE ?_ | refine WPq.blockN ?_ | refine WPq.blockR ?_ | refine WPq.blockE ?_ | refine WPq.blockO rfl ?_ | refine WPc.seq ?_ | refine WPc.block ?_ | refine WPc.ret ?_ | refine WPc.exit ?_ | refine WPc.skip ?_ | refine WPc.region ?_
             | (refine isCond ?_; first | refine WPc.cT ?_ | refine WPc.cF ?_ | (refine WPc.cQ (fun hc => ?_) (fun hc => ?_) <;> try exact prA))
             | (refine isD 5 ?_; refine WPl.rdX (ReadR.binE rfl rfl BinR.geq (congrArg Value.bool (decide_eq_true p1))) ?_)
             | (refine isD 9 ?_; refine WPl.rdX (ReadR.binE rfl rfl BinR.leq (congrArg Value.bool (decide_eq_true p2))) ?_)
             | (refine isD 14 ?_; refine WPl.rdX (ReadR.binE rfl rfl BinR.geq (congrArg Value.bool (decide_eq_true b1))) ?_)
             | (refine isD 19 ?_; refine WPl.rdX (ReadR.binE rfl rfl BinR.leq (congrArg Value.bool (decide_eq_true b2))) ?_)
             | (refine isD 24 ?_; refine WPl.rdX (ReadR.binE rfl rfl BinR.geq (congrArg Value.bool (decide_eq_false c1))) ?_)
             | (refine isOp ?_; first | refine WPl.rd ?_ | refine WPl.sk ?_ | refine WPl.rdB ?_)
             | (refine isBx ?_; refine WPl.nw fun g => ?_)
             | (show WPl _ _ _ _ _ _ _ (⟨_, .indexAddr _ _ _, _, _, _, _⟩ :: _) _; refine WPl.rdX (ReadR.indexE rfl rfl hasA (by first | assumption | omega)) ?_)
             | (show WPl _ _ _ _ _ _ _ (⟨_, .fieldAddr _ _ _, _, _, _, _⟩ :: _) _; refine WPl.rdX (ReadR.fieldE rfl hasA (by first | assumption | omega)) ?_)
             | (show WPl _ _ _ _ _ _ _ (⟨_, .load _ _, _, _, _, _⟩ :: _) _; first | refine WPl.rdX (ReadR.loadE rfl hasA (by assumption)) ?_ | refine WPl.rdX (ReadR.loadES (by assumption) (by first | assumption | omega) rfl hasA) ?_)
             | (show WPl _ _ _ _ _ _ _ (⟨_, .slice _ _ _ _ _, _, _, _, _⟩ :: _) _; first | refine WPl.rdX (ReadR.sliceH rfl rfl hasA (by omega)) ?_ | refine WPl.rdX (ReadR.sliceL rfl rfl hasA (by omega)) ?_ | refine WPl.rdX (ReadR.sliceLH rfl rfl rfl hasA (by omega) (by omega)) ?_)
             | (refine WPl.spQ (fun hc => ?_) (fun hc => ?_) <;> try exact prA)
             | fail)
            exact WPq.dV
        · skip
          refine Triple.enter Try.func20 rfl Try.ntmps20 rfl (fun W => ?_)
          dsimp only [argsF, Nat.reduceAdd]
          repeat' (first
           | refine WPl.nil ?_ | refine WPq.then ?_ | refine WPq.thenR ?_ | refine WPq.thenE ?_ | refine WPq.blockN ?_ | refine WPq.blockR ?_ | refine WPq.blockE ?_ | refine WPq.blockO rfl ?_ | refine WPc.seq ?_ | refine WPc.block ?_ | refine WPc.ret ?_ | refine WPc.exit ?_ | refine WPc.skip ?_ | refine WPc.region ?_
           | (refine isCond ?_; first | refine WPc.cT ?_ | refine WPc.cF ?_ | (refine WPc.cQ (fun hc => ?_) (fun hc => ?_) <;> try exact prA))
           | (refine isD 5 ?_; refine WPl.rdX (ReadR.binE rfl rfl BinR.geq (congrArg Value.bool (decide_eq_true p1))) ?_)
           | (refine isD 9 ?_; refine WPl.rdX (ReadR.binE rfl rfl BinR.leq (congrArg Value.bool (decide_eq_true p2))) ?_)
           | (refine isD 14 ?_; refine WPl.rdX (ReadR.binE rfl rfl BinR.geq (congrArg Value.bool (decide_eq_true b1))) ?_)
           | (refine isD 19 ?_; refine WPl.rdX (ReadR.binE rfl rfl BinR.leq (congrArg Value.bool (decide_eq_false b2))) ?_)
           | (refine isOp ?_; first | refine WPl.rd ?_ | refine WPl.sk ?_ | refine WPl.rdB ?_)
           | (refine isBx ?_; refine WPl.nw fun g => ?_)
           | (show WPl _ _ _ _ _ _ _ (⟨_, .indexAddr _ _ _, _, _, _, _⟩ :: _) _; refine WPl.rdX (ReadR.indexE rfl rfl hasA (by first | assumption | omega)) ?_)
           | (show WPl _ _ _ _ _ _ _ (⟨_, .fieldAddr _ _ _, _, _, _, _⟩ :: _) _; refine WPl.rdX (ReadR.fieldE rfl hasA (by first | assumption | omega)) ?_)
           | (show WPl _ _ _ _ _ _ _ (⟨_, .load _ _, _, _, _, _⟩ :: _) _; first | refine WPl.rdX (ReadR.loadE rfl hasA (by assumption)) ?_ | refine WPl.rdX (ReadR.loadES (by assumption) (by first | assumption | omega) rfl hasA) ?_)
           | (show WPl _ _ _ _ _ _ _ (⟨_, .slice _ _ _ _ _, _, _, _, _⟩ :: _) _; first | refine WPl.rdX (ReadR.sliceH rfl rfl hasA (by omega)) ?_ | refine WPl.rdX (ReadR.sliceL rfl rfl hasA (by omega)) ?_ | refine WPl.rdX (ReadR.sliceLH rfl rfl rfl hasA (by omega) (by omega)) ?_)
           | (refine WPl.spQ (fun hc => ?_) (fun hc => ?_) <;> try exact prA)
           | fail)
          exact WPq.dV
      · skip
        refine Triple.enter Try.func20 rfl Try.ntmps20 rfl (fun W => ?_)
        dsimp only [argsF, Nat.reduceAdd]
        repeat' (first
         | refine WPl.nil ?_ | refine WPq.then ?_ | refine WPq.thenR ?_ | refine WPq.thenE ?_ | refine WPq.blockN ?_ | refine WPq.blockR ?_ | refine WPq.blockE ?_ | refine WPq.blockO rfl ?_ | refine WPc.seq ?_ | refine WPc.block ?_ | refine WPc.ret ?_ | refine WPc.exit ?_ | refine WPc.skip ?_ | refine WPc.region ?_
         | (refine isCond ?_; first | refine WPc.cT ?_ | refine WPc.cF ?_ | (refine WPc.cQ (fun hc => ?_) (fun hc => ?_) <;> try exact prA))
         | (refine isD 5 ?_; refine WPl.rdX (ReadR.binE rfl rfl BinR.geq (congrArg Value.bool (decide_eq_true p1))) ?_)
         | (refine isD 9 ?_; refine WPl.rdX (ReadR.binE rfl rfl BinR.leq (congrArg Value.bool (decide_eq_true p2))) ?_)
         | (refine isD 14 ?_; refine WPl.rdX (ReadR.binE rfl rfl BinR.geq (congrArg Value.bool (decide_eq_false b1))) ?_)
         | (refine isOp ?_; first | refine WPl.rd ?_ | refine WPl.sk ?_ | refine WPl.rdB ?_)
         | (refine isBx ?_; refine WPl.nw fun g => ?_)
         | (show WPl _ _ _ _ _ _ _ (⟨_, .indexAddr _ _ _, _, _, _, _⟩ :: _) _; refine WPl.rdX (ReadR.indexE rfl rfl hasA (by first | assumption | omega)) ?_)
         | (show WPl _ _ _ _ _ _ _ (⟨_, .fieldAddr _ _ _, _, _, _, _⟩ :: _) _; refine WPl.rdX (ReadR.fieldE rfl hasA (by first | assumption | omega)) ?_)
         | (show WPl _ _ _ _ _ _ _ (⟨_, .load _ _, _, _, _, _⟩ :: _) _; first | refine WPl.rdX (ReadR.loadE rfl hasA (by assumption)) ?_ | refine WPl.rdX (ReadR.loadES (by assumption) (by first | assumption | omega) rfl hasA) ?_)
         | (show WPl _ _ _ _ _ _ _ (⟨_, .slice _ _ _ _ _, _, _, _, _⟩ :: _) _; first | refine WPl.rdX (ReadR.sliceH rfl rfl hasA (by omega)) ?_ | refine WPl.rdX (ReadR.sliceL rfl rfl hasA (by omega)) ?_ | refine WPl.rdX (ReadR.sliceLH rfl rfl rfl hasA (by omega) (by omega)) ?_)
         | (refine WPl.spQ (fun hc => ?_) (fun hc => ?_) <;> try exact prA)
         | fail)
        exact WPq.dV
    · skip
      refine Triple.enter Try.func20 rfl Try.ntmps20 rfl (fun W => ?_)
      dsimp only [argsF, Nat.reduceAdd]
      repeat' (first
       | refine WPl.nil ?_ | refine WPq.then ?_ | refine WPq.thenR ?_ | refine WPq.thenE ?_ | refine WPq.blockN ?_ | refine WPq.blockR ?_ | refine WPq.blockE ?_ | refine WPq.blockO rfl ?_ | refine WPc.seq ?_ | refine WPc.block ?_ | refine WPc.ret ?_ | refine WPc.exit ?_ | refine WPc.skip ?_ | refine WPc.region ?_
       | (refine isCond ?_; first | refine WPc.cT ?_ | refine WPc.cF ?_ | (refine WPc.cQ (fun hc => ?_) (fun hc => ?_) <;> try exact prA))
       | (refine isD 5 ?_; refine WPl.rdX (ReadR.binE rfl rfl BinR.geq (congrArg Value.bool (decide_eq_true p1))) ?_)
       | (refine isD 9 ?_; refine WPl.rdX (ReadR.binE rfl rfl BinR.leq (congrArg Value.bool (decide_eq_false p2))) ?_)
       | (refine isOp ?_; first | refine WPl.rd ?_ | refine WPl.sk ?_ | refine WPl.rdB ?_)
       | (refine isBx ?_; refine WPl.nw fun g => ?_)
       | (show WPl _ _ _ _ _ _ _ (⟨_, .indexAddr _ _ _, _, _, _, _⟩ :: _) _; refine WPl.rdX (ReadR.indexE rfl rfl hasA (by first | assumption | omega)) ?_)
       | (show WPl _ _ _ _ _ _ _ (⟨_, .fieldAddr _ _ _, _, _, _, _⟩ :: _) _; refine WPl.rdX (ReadR.fieldE rfl hasA (by first | assumption | omega)) ?_)
       | (show WPl _ _ _ _ _ _ _ (⟨_, .load _ _, _, _, _, _⟩ :: _) _; first | refine WPl.rdX (ReadR.loadE rfl hasA (by assumption)) ?_ | refine WPl.rdX (ReadR.loadES (by assumption) (by first | assumption | omega) rfl hasA) ?_)
       | (show WPl _ _ _ _ _ _ _ (⟨_, .slice _ _ _ _ _, _, _, _, _⟩ :: _) _; first | refine WPl.rdX (ReadR.sliceH rfl rfl hasA (by omega)) ?_ | refine WPl.rdX (ReadR.sliceL rfl rfl hasA (by omega)) ?_ | refine WPl.rdX (ReadR.sliceLH rfl rfl rfl hasA (by omega) (by omega)) ?_)
       | (refine WPl.spQ (fun hc => ?_) (fun hc => ?_) <;> try exact prA)
       | fail)
      exact WPq.dV
  · skip
    refine Triple.enter Try.func20 rfl Try.ntmps20 rfl (fun W => ?_)
    dsimp only [argsF, Nat.reduceAdd]
    repeat' (first
     | refine WPl.nil ?_ | refine WPq.then ?_ | refine WPq.thenR ?_ | refine WPq.thenE ?_ | refine WPq.blockN ?_ | refine WPq.blockR ?_ | refine WPq.blockE ?_ | refine WPq.blockO rfl ?_ | refine WPc.seq ?_ | refine WPc.block ?_ | refine WPc.ret ?_ | refine WPc.exit ?_ | refine WPc.skip ?_ | refine WPc.region ?_
     | (refine isCond ?_; first | refine WPc.cT ?_ | refine WPc.cF ?_ | (refine WPc.cQ (fun hc => ?_) (fun hc => ?_) <;> try exact prA))
     | (refine isD 5 ?_; refine WPl.rdX (ReadR.binE rfl rfl BinR.geq (congrArg Value.bool (decide_eq_false p1))) ?_)
     | (refine isOp ?_; first | refine WPl.rd ?_ | refine WPl.sk ?_ | refine WPl.rdB ?_)
     | (refine isBx ?_; refine WPl.nw fun g => ?_)
     | (show WPl _ _ _ _ _ _ _ (⟨_, .indexAddr _ _ _, _, _, _, _⟩ :: _) _; refine WPl.rdX (ReadR.indexE rfl rfl hasA (by first | assumption | omega)) ?_)
     | (show WPl _ _ _ _ _ _ _ (⟨_, .fieldAddr _ _ _, _, _, _, _⟩ :: _) _; refine WPl.rdX (ReadR.fieldE rfl hasA (by first | assumption | omega)) ?_)
     | (show WPl _ _ _ _ _ _ _ (⟨_, .load _ _, _, _, _, _⟩ :: _) _; first | refine WPl.rdX (ReadR.loadE rfl hasA (by assumption)) ?_ | refine WPl.rdX (ReadR.loadES (by assumption) (by first | assumption | omega) rfl hasA) ?_)
     | (show WPl _ _ _ _ _ _ _ (⟨_, .slice _ _ _ _ _, _, _, _, _⟩ :: _) _; first | refine WPl.rdX (ReadR.sliceH rfl rfl hasA (by omega)) ?_ | refine WPl.rdX (ReadR.sliceL rfl rfl hasA (by omega)) ?_ | refine WPl.rdX (ReadR.sliceLH rfl rfl rfl hasA (by omega) (by omega)) ?_)
     | (refine WPl.spQ (fun hc => ?_) (fun hc => ?_) <;> try exact prA)
     | fail)
    exact WPq.dV
theorem bnew0_t (per burst cl : Int) (h : ¬ (0 ≤ per ∧ per ≤ 1048576 ∧ 1 ≤ burst ∧ burst ≤ 1073741824 ∧ 1 ≤ cl ∧ cl ≤ 1000)) : Triple Try.prog 15 #[ag (rtc per burst cl)] [] (RVal (.tuple #[.pointer none, .int .i64 1])) := by
  refine Triple.enter Try.func15 rfl Try.ntmps15 rfl (fun W => ?_)
  dsimp only [argsF, Nat.reduceAdd]
  refine WPc.pool0 135 ?_
  repeat' (first
   | refine WPl.nil ?_ | refine WPq.then ?_ | refine WPq.thenR ?_ | refine WPq.thenE ?_ | refine WPq.blockN ?_ | refine WPq.blockR ?_ | refine WPq.blockE ?_ | refine WPq.blockO rfl ?_ | refine WPc.seq ?_ | refine WPc.block ?_ | refine WPc.ret ?_ | refine WPc.exit ?_ | refine WPc.skip ?_ | refine WPc.region ?_
   | (refine isCond ?_; first | refine WPc.cT ?_ | refine WPc.cF ?_ | (refine WPc.cQ (fun hc => ?_) (fun hc => ?_) <;> try exact prA))
   | (refine isD 33 ?_; refine WPl.mnew prM fun m => ?_)
   | (refine isOp ?_; first | refine WPl.rd ?_ | refine WPl.sk ?_ | refine WPl.rdB ?_)
   | (refine isBx ?_; refine WPl.nw fun g => ?_)
   | (show WPl _ _ _ _ _ _ _ (⟨_, .indexAddr _ _ _, _, _, _, _⟩ :: _) _; refine WPl.rdX (ReadR.indexE rfl rfl hasA (by first | assumption | omega)) ?_)
   | (show WPl _ _ _ _ _ _ _ (⟨_, .fieldAddr _ _ _, _, _, _, _⟩ :: _) _; refine WPl.rdX (ReadR.fieldE rfl hasA (by first | assumption | omega)) ?_)
   | (show WPl _ _ _ _ _ _ _ (⟨_, .load _ _, _, _, _, _⟩ :: _) _; first | refine WPl.rdX (ReadR.loadE rfl hasA (by assumption)) ?_ | refine WPl.rdX (ReadR.loadES (by assumption) (by first | assumption | omega) rfl hasA) ?_)
   | (show WPl _ _ _ _ _ _ _ (⟨_, .slice _ _ _ _ _, _, _, _, _⟩ :: _) _; first | refine WPl.rdX (ReadR.sliceH rfl rfl hasA (by omega)) ?_ | refine WPl.rdX (ReadR.sliceL rfl rfl hasA (by omega)) ?_ | refine WPl.rdX (ReadR.sliceLH rfl rfl rfl hasA (by omega) (by omega)) ?_)
   | (refine WPl.spQ (fun hc => ?_) (fun hc => ?_) <;> try exact prA)
   | fail)
  all_goals first | exact WPq.dV | (exfalso; omega)
abbrev BS1 := List Nd × List (Pf × Option Nat) × (Nat → Option Ch)
abbrev BS2 := List Nd × List (Pf × Option Nat) × (Nat → Option Ch) × Value × List Cl
def bpOk (burst : Int) (clients : Nat) (s : BS2) : Prop := BkI burst clients s.1 s.2.1 s.2.2.1 ∧ s.2.2.2.1.oneCell' = true ∧ s.1.map (·.2) = s.2.2.2.2
theorem bpOk_ok {burst : Int} {clients : Nat} {s : BS2} (h : bpOk burst clients s) : ∀ c ∈ s.2.2.2.2, 0 ≤ c.tok ∧ c.tok ≤ burst ∧ 0 ≤ c.at' ∧ c.at' < 18446744073709551616 := fun c hc => by
  rw [← h.2.2] at hc
  obtain ⟨x, hx, rfl⟩ := List.mem_map.1 hc
  exact (h.1.ok x hx).2
theorem bpOk_len {burst : Int} {clients : Nat} {s : BS2} (h : bpOk burst clients s) : s.1.length = s.2.2.2.2.length ∧ s.1.length ≤ clients := by
  rw [← h.2.2, List.length_map]
  exact ⟨rfl, h.1.few⟩
theorem bucketPlays_t (per burst cl : Int) (vr : Value) (l : List Ac) (hcl0 : in64 cl) (hl : ∀ a ∈ l, acOk a) :
    Triple Try.prog 5 #[ag (rtc per burst cl), vr] [rdN vr l.length (l.map fun a => flat (acC a)).flatten] (RVal (.bool true)) := by
  have e0 : (l.map fun a => flat (acC a)).flatten = acs l := by unfold acs; rfl
  rw [e0]
  have hlive := blives_t
  have hal := acs_len (l := l)
  by_cases hg : 0 ≤ per ∧ per ≤ 1048576 ∧ 1 ≤ burst ∧ burst ≤ 1073741824 ∧ 1 ≤ cl ∧ cl ≤ 1000
  · obtain ⟨p1, p2, b1, b2, k1, k2⟩ := hg
    obtain ⟨clients, rfl⟩ := Int.eq_ofNat_of_zero_le (show 0 ≤ cl by omega)
    have hb : BOk per burst clients := ⟨p1, p2, b1, b2, by omega, by omega⟩
    have hc1 := hb.c1
    have hc2 := hb.c2
    have c0 := bnew_c per burst clients hb
    have cg := rgood1_t per burst clients hb
    have ec : crs ([] : List Cl) = [] := by unfold crs; rfl
    clear e0
    refine Triple.enter Try.func5 rfl Try.ntmps5 rfl (fun W => ?_)
    dsimp only [argsF, Nat.reduceAdd]
    refine WPc.nilRowN 51 20 ?_
    repeat' (first
     | refine WPl.nil ?_ | refine WPq.then ?_ | refine WPq.thenR ?_ | refine WPq.thenE ?_ | refine WPq.blockN ?_ | refine WPq.blockR ?_ | refine WPq.blockE ?_ | refine WPq.blockO rfl ?_ | refine WPc.seq ?_ | refine WPc.block ?_ | refine WPc.ret ?_ | refine WPc.exit ?_ | refine WPc.skip ?_ | refine WPc.region ?_
     | (refine isCond ?_; first | refine WPc.cT ?_ | refine WPc.cF ?_ | (refine WPc.cQ (fun hc => ?_) (fun hc => ?_) <;> try exact prA))
     | (refine isD 2 ?_; first | (refine isAl ?_; refine WPl.nw fun g2 => ?_) | (refine isBx ?_; refine WPl.nw fun g2 => ?_))
     | (refine isC 14 ?_; refine WPl.cXs (c0) fun v Γ1 hR => ?_; obtain ⟨gB, m, f0, rfl, rfl, hI0⟩ := hR; (try dsimp only [putF, List.cons_append, List.nil_append]))
     | (refine isC 18 ?_; refine WPl.cV (cg) ?_)
     | (refine isD 30 ?_; refine WPl.rdX (readP) ?_)
     | (refine isD 37 ?_; first | (refine isAl ?_; refine WPl.nw fun gX => ?_) | (refine isBx ?_; refine WPl.nw fun gX => ?_))
     | (refine isOp ?_; first | refine WPl.rd ?_ | refine WPl.sk ?_ | refine WPl.rdB ?_)
     | (refine isAl ?_; refine WPl.nw fun g => ?_)
     | (refine isBx ?_; refine WPl.nw fun g => ?_)
     | (refine isSt ?_; first | refine WPl.st1 ?_ | refine WPl.stA ?_ | refine WPl.stEB ?_ | refine WPl.stRB ?_)
     | (show WPl _ _ _ _ _ _ _ (⟨_, .indexAddr _ _ _, _, _, _, _⟩ :: _) _; refine WPl.rdX (ReadR.indexE rfl rfl hasA (by first | assumption | omega)) ?_)
     | (show WPl _ _ _ _ _ _ _ (⟨_, .fieldAddr _ _ _, _, _, _, _⟩ :: _) _; refine WPl.rdX (ReadR.fieldE rfl hasA (by first | assumption | omega)) ?_)
     | (show WPl _ _ _ _ _ _ _ (⟨_, .load _ _, _, _, _, _⟩ :: _) _; first | refine WPl.rdX (ReadR.loadE rfl hasA (by assumption)) ?_ | refine WPl.rdX (ReadR.loadES (by assumption) (by first | assumption | omega) rfl hasA) ?_)
     | (show WPl _ _ _ _ _ _ _ (⟨_, .slice _ _ _ _ _, _, _, _, _⟩ :: _) _; first | refine WPl.rdX (ReadR.sliceH rfl rfl hasA (by omega)) ?_ | refine WPl.rdX (ReadR.sliceL rfl rfl hasA (by omega)) ?_ | refine WPl.rdX (ReadR.sliceLH rfl rfl rfl hasA (by omega) (by omega)) ?_)
     | (refine WPl.spQ (fun hc => ?_) (fun hc => ?_) <;> try exact prA)
     | fail)
    first | refine WPc.loop (σ := Nat × BS2 × List Value) (fun st => st.1 ≤ 60 ∧ bpOk burst clients st.2.1 ∧ st.2.2 = crs st.2.1.2.2.2.2) (fun st => [rdN vr l.length (acs l), bx gB 131 (bkc (hdO none st.2.1.1) (lsO none st.2.1.1) per burst (clients : Int) m), mp prM m st.2.1.2.1, pool 135 st.2.1.2.2.1, bx gX 48 (xcc per burst (clients : Int) st.2.1.2.2.2.1), rowN 51 20 st.2.1.2.2.2.1 st.2.1.2.2.2.2.length st.2.2]) (fun st => [(1, vr), (5, hP' gB), (7, hP' gX), (8, .int .i64 (st.1 : Int))]) (fun st => 60 - st.1) ((0, ([], [], f0, .slice none 0 0, []), [])) ?_ takesA frsA (fun st km hx hk => ?_)
    · exact ⟨Nat.zero_le _, ⟨hI0, rfl, rfl⟩, ec.symm⟩
    obtain ⟨i, ⟨L, M, f, vX, D⟩, xo⟩ := st
    obtain ⟨hi, hok, hxo⟩ := hx
    dsimp only at hi hok hxo hk ⊢
    subst hxo
    have hkm : km = 60 - i := hk
    clear hk
    by_cases hin : i < l.length ∧ i < 60
    · obtain ⟨hil, hi60⟩ := hin
      obtain ⟨a, ha⟩ : ∃ x, l[i]? = some x := ⟨_, List.getElem?_eq_getElem hil⟩
      obtain ⟨w1, w2, w3, w4, w5⟩ := hl a (List.mem_of_getElem? ha)
      have hxp := acs_at ha
      have hil' : (i : Int) < (l.length : Int) := by omega
      have hi60' : (i : Int) < 60 := by omega
      have hxlen : i * 21 + 21 ≤ (acs l).length := by omega
      have hDk := bpOk_ok hok
      have hDl := bpOk_len hok
      obtain ⟨hI, hvX, hLD⟩ := hok
      dsimp only at hI hvX hLD hDk hDl
      obtain ⟨ak, ap, an, anow⟩ := a
      dsimp only at w1 w2 w3 w4 w5 hxp
      have lp := ap.1.len
      have c57 := bHas_t gB m per burst clients f L M hI hb ap anow w2 w4 w5
      rw [hLD] at c57
      have c63 := rhas_t gX per burst (clients : Int) vX D ap anow (by omega) hDk p1 p2 b2 w4 w5
      obtain ⟨hv, hhv⟩ : ∃ hv, hv = hasD per burst D ap anow := ⟨_, rfl⟩
      rw [← hhv] at c57 c63
      clear hhv
      repeat' (first
       | (refine isSeqR 13 ?_; refine WPc.join (σ := BS2) (fun st => bpOk burst clients st) (fun st => [rdN vr l.length (acs l), bx gB 131 (bkc (hdO none st.1) (lsO none st.1) per burst (clients : Int) m), mp prM m st.2.1, pool 135 st.2.2.1, bx gX 48 (xcc per burst (clients : Int) st.2.2.2.1), rowN 51 20 st.2.2.2.1 st.2.2.2.2.length (crs st.2.2.2.2)]) (fun st => [(1, vr), (5, hP' gB), (7, hP' gX), (8, .int .i64 (i : Int))]) ?_ (fun st hx => ?_))
       | (refine isSeq1 13 ?_; refine Held.it ?_)
       | (refine isSeq1 15 ?_; refine Held.it ?_)
       | refine WPl.nil ?_ | refine WPq.then ?_ | refine WPq.thenR ?_ | refine WPq.thenE ?_ | refine WPq.blockN ?_ | refine WPq.blockR ?_ | refine WPq.blockE ?_ | refine WPq.blockO rfl ?_ | refine WPc.seq ?_ | refine WPc.block ?_ | refine WPc.ret ?_ | refine WPc.exit ?_ | refine WPc.skip ?_ | refine WPc.region ?_
       | (refine isReg 11 ?_; refine WPc.drA ordBucketPlays1 [(13, 5), (14, 5), (15, 5), (13, 0), (13, 1), (13, 2), (13, 3), (13, 4), (14, 0), (14, 1), (14, 2), (14, 3), (14, 4), (15, 0), (15, 1), (15, 2), (15, 3), (15, 4)] (Γx := [bx gB 131 (bkc (hdO none L) (lsO none L) per burst (clients : Int) m), mp prM m M, pool 135 f]) (hox := ownsP) ?_; dsimp only [prev0, List.length_nil, List.length_cons])
       | (refine gAny ?_; first | (refine gC 57 ?_; refine RGl.turns (fun e hk => by (try dsimp only [bndR, ensR, oksR, fcutR, List.append_nil, List.nil_append, List.cons_append, List.append_assoc] at hk ⊢); exact OpT.callTs (c57)) ?_) | (refine gC 63 ?_; refine RGl.vl (fun e hk => OpT.callN (c63) (hΔ := by (try dsimp only [bndR, ensR, oksR, fcutR, List.append_nil, List.nil_append, List.cons_append, List.append_assoc] at hk ⊢); exact provsX)) ?_) | (refine gD 41 ?_; refine RGl.rdX (fun e hk => by (try dsimp only [bndR, ensR, oksR, fcutR, List.append_nil, List.nil_append, List.cons_append, List.append_assoc] at hk ⊢); exact ReadR.binE rfl rfl BinR.lss (congrArg Value.bool (decide_eq_true hil'))) ?_) | (refine gD 44 ?_; refine RGl.rdX (fun e hk => by (try dsimp only [bndR, ensR, oksR, fcutR, List.append_nil, List.nil_append, List.cons_append, List.append_assoc] at hk ⊢); exact ReadR.binE rfl rfl BinR.lss (congrArg Value.bool (decide_eq_true hi60'))) ?_) | (refine gD 50 ?_; refine RGl.rdX (fun e hk => by (try dsimp only [bndR, ensR, oksR, fcutR, List.append_nil, List.nil_append, List.cons_append, List.append_assoc] at hk ⊢); exact ReadR.indexE (i := i) rfl rfl hasA hil) ?_) | (refine gD 51 ?_; refine RGl.rdX (fun e hk => by (try dsimp only [bndR, ensR, oksR, fcutR, List.append_nil, List.nil_append, List.cons_append, List.append_assoc] at hk ⊢); exact ReadR.loadES (cs := acC ⟨ak, ap, an, anow⟩) hxp hxlen rfl hasA) ?_) | (refine gD 64 ?_; refine RGl.rdX (fun e hk => by (try dsimp only [bndR, ensR, oksR, fcutR, List.append_nil, List.nil_append, List.cons_append, List.append_assoc] at hk ⊢); exact ReadR.binE rfl rfl BinR.neq (congrArg (fun q => Value.bool (!q)) (decide_eq_true rfl))) ?_) | (refine gOp ?_; first | refine RGl.rdA ?_ | refine RGl.rdX (fun e hk => by (try dsimp only [bndR, ensR, oksR, fcutR, List.append_nil, List.nil_append, List.cons_append, List.append_assoc] at hk ⊢); exact readB) ?_) | (refine RGl.fin (fun e hk => ?_); (try dsimp only [bndA, ensAR, oksA, List.append_nil, List.nil_append, List.cons_append, List.append_assoc] at hk ⊢); (repeat (obtain ⟨hk1, hk⟩ := hk))) | fail)
       | (refine isCond ?_; first | refine WPc.cT ?_ | refine WPc.cF ?_ | (refine WPc.cQ (fun hc => ?_) (fun hc => ?_) <;> try exact prA))
       | (refine isD 41 ?_; refine WPl.rdX (ReadR.binE rfl rfl BinR.lss (congrArg Value.bool (decide_eq_true hil'))) ?_)
       | (refine isD 44 ?_; refine WPl.rdX (ReadR.binE rfl rfl BinR.lss (congrArg Value.bool (decide_eq_true hi60'))) ?_)
       | (refine isD 50 ?_; refine WPl.rdX (ReadR.indexE (i := i) rfl rfl hasA hil) ?_)
       | (refine isD 51 ?_; refine WPl.rdX (ReadR.loadES (cs := acC ⟨ak, ap, an, anow⟩) hxp hxlen rfl hasA) ?_)
       | (refine isD 9 ?_; first | (refine isAl ?_; refine WPl.nw fun g9 => ?_) | (refine isBx ?_; refine WPl.nw fun g9 => ?_))
       | (refine isC 57 ?_; refine WPl.cTs (c57) ?_; (try dsimp only [putF, List.cons_append, List.nil_append]))
       | (refine isC 63 ?_; refine WPl.cV (c63) ?_ (hΔ := provsX))
       | (refine isD 64 ?_; refine WPl.rdX (ReadR.binE rfl rfl BinR.neq (congrArg (fun q => Value.bool (!q)) (decide_eq_true rfl))) ?_)
       | (refine isOp ?_; first | refine WPl.rd ?_ | refine WPl.sk ?_ | refine WPl.rdB ?_)
       | (refine isAl ?_; refine WPl.nw fun g => ?_)
       | (refine isBx ?_; refine WPl.nw fun g => ?_)
       | (refine isSt ?_; first | refine WPl.st1 ?_ | refine WPl.stA ?_ | refine WPl.stEB ?_ | refine WPl.stRB ?_)
       | (show WPl _ _ _ _ _ _ _ (⟨_, .indexAddr _ _ _, _, _, _, _⟩ :: _) _; refine WPl.rdX (ReadR.indexE rfl rfl hasA (by first | assumption | omega)) ?_)
       | (show WPl _ _ _ _ _ _ _ (⟨_, .fieldAddr _ _ _, _, _, _, _⟩ :: _) _; refine WPl.rdX (ReadR.fieldE rfl hasA (by first | assumption | omega)) ?_)
       | (show WPl _ _ _ _ _ _ _ (⟨_, .load _ _, _, _, _, _⟩ :: _) _; first | refine WPl.rdX (ReadR.loadE rfl hasA (by assumption)) ?_ | refine WPl.rdX (ReadR.loadES (by assumption) (by first | assumption | omega) rfl hasA) ?_)
       | (show WPl _ _ _ _ _ _ _ (⟨_, .slice _ _ _ _ _, _, _, _, _⟩ :: _) _; first | refine WPl.rdX (ReadR.sliceH rfl rfl hasA (by omega)) ?_ | refine WPl.rdX (ReadR.sliceL rfl rfl hasA (by omega)) ?_ | refine WPl.rdX (ReadR.sliceLH rfl rfl rfl hasA (by omega) (by omega)) ?_)
       | (refine WPl.spQ (fun hc => ?_) (fun hc => ?_) <;> try exact prA)
       | fail)
      · refine ⟨?_⟩
        by_cases hk1' : ak = 1
        · skip
          repeat' (first
           | refine WPl.nil ?_ | refine WPq.then ?_ | refine WPq.thenR ?_ | refine WPq.thenE ?_ | refine WPq.blockN ?_ | refine WPq.blockR ?_ | refine WPq.blockE ?_ | refine WPq.blockO rfl ?_ | refine WPc.seq ?_ | refine WPc.block ?_ | refine WPc.ret ?_ | refine WPc.exit ?_ | refine WPc.skip ?_ | refine WPc.region ?_
           | (refine isReg 13 ?_; refine WPc.drA ordBucketPlays2 [] (Γx := []) ?_; dsimp only [prev0, List.length_nil, List.length_cons])
           | (refine gAny ?_; first | (refine gGd ?_; refine RGl.skp ?_) | (refine gD 67 ?_; refine RGl.rdX (fun e hk => by (try dsimp only [bndR, ensR, oksR, fcutR, List.append_nil, List.nil_append, List.cons_append, List.append_assoc] at hk ⊢); exact ReadR.binE rfl rfl BinR.neq (congrArg (fun q => Value.bool (!q)) (decide_eq_true hk1'))) ?_) | (refine gOp ?_; first | refine RGl.rdA ?_ | refine RGl.rdX (fun e hk => by (try dsimp only [bndR, ensR, oksR, fcutR, List.append_nil, List.nil_append, List.cons_append, List.append_assoc] at hk ⊢); exact readB) ?_) | (refine RGl.fin (fun e hk => ?_); (try dsimp only [bndA, ensAR, oksA, List.append_nil, List.nil_append, List.cons_append, List.append_assoc] at hk ⊢); (repeat (obtain ⟨hk1, hk⟩ := hk))) | fail)
           | (refine isCond ?_; first | refine WPc.cT ?_ | refine WPc.cF ?_ | (refine WPc.cQ (fun hc => ?_) (fun hc => ?_) <;> try exact prA))
           | (refine isD 67 ?_; refine WPl.rdX (ReadR.binE rfl rfl BinR.neq (congrArg (fun q => Value.bool (!q)) (decide_eq_true hk1'))) ?_)
           | (refine isOp ?_; first | refine WPl.rd ?_ | refine WPl.sk ?_ | refine WPl.rdB ?_)
           | (refine isAl ?_; refine WPl.nw fun g => ?_)
           | (refine isBx ?_; refine WPl.nw fun g => ?_)
           | (refine isSt ?_; first | refine WPl.st1 ?_ | refine WPl.stA ?_ | refine WPl.stEB ?_ | refine WPl.stRB ?_)
           | (show WPl _ _ _ _ _ _ _ (⟨_, .indexAddr _ _ _, _, _, _, _⟩ :: _) _; refine WPl.rdX (ReadR.indexE rfl rfl hasA (by first | assumption | omega)) ?_)
           | (show WPl _ _ _ _ _ _ _ (⟨_, .fieldAddr _ _ _, _, _, _, _⟩ :: _) _; refine WPl.rdX (ReadR.fieldE rfl hasA (by first | assumption | omega)) ?_)
           | (show WPl _ _ _ _ _ _ _ (⟨_, .load _ _, _, _, _, _⟩ :: _) _; first | refine WPl.rdX (ReadR.loadE rfl hasA (by assumption)) ?_ | refine WPl.rdX (ReadR.loadES (by assumption) (by first | assumption | omega) rfl hasA) ?_)
           | (show WPl _ _ _ _ _ _ _ (⟨_, .slice _ _ _ _ _, _, _, _, _⟩ :: _) _; first | refine WPl.rdX (ReadR.sliceH rfl rfl hasA (by omega)) ?_ | refine WPl.rdX (ReadR.sliceL rfl rfl hasA (by omega)) ?_ | refine WPl.rdX (ReadR.sliceLH rfl rfl rfl hasA (by omega) (by omega)) ?_)
           | (refine WPl.spQ (fun hc => ?_) (fun hc => ?_) <;> try exact prA)
           | fail)
          exact WPq.join (L, M, f, vX, D) ⟨hI, hvX, hLD⟩
        · obtain ⟨D', r, ht⟩ : ∃ D' r, takeD per burst clients D ap an anow = (D', r) := ⟨_, _, rfl⟩
          have c76 := take_c per burst clients hb gB m hI hLD ap an anow w2 w4 w5 ht
          have c84 := rtake_t gX per burst clients vX D hvX ap an anow (by omega) hDk p1 p2 (by omega) b2 hc1 hc2 w4 w5 w3
          rw [ht] at c84
          dsimp only at c84
          have hv76 : ∀ v Γ', RBk gB m per burst clients D' (.bool r) v Γ' → v = .bool r ∧ ∃ s : BS1, Γ' = [bx gB 131 (bkc (hdO none s.1) (lsO none s.1) per burst (clients : Int) m), mp prM m s.2.1, pool 135 s.2.2] ∧ (BkI burst clients s.1 s.2.1 s.2.2 ∧ s.1.map (·.2) = D') := fun v Γ' h => by
            obtain ⟨L', M', f', h1, h2, h3, h4⟩ := h
            exact ⟨h1, (L', M', f'), h2, h3, h4⟩
          have hv84 : ∀ v Γ', RTk gX per burst clients D' r v Γ' → v = .bool r ∧ ∃ vx : Value, Γ' = [bx gX 48 (xcc per burst (clients : Int) vx), rowN 51 20 vx D'.length (crs D')] ∧ vx.oneCell' = true := fun v Γ' h => by
            obtain ⟨h1, vx, h2, h3⟩ := h
            exact ⟨h1, vx, h3, h2⟩
          repeat' (first
           | refine WPl.nil ?_ | refine WPq.then ?_ | refine WPq.thenR ?_ | refine WPq.thenE ?_ | refine WPq.blockN ?_ | refine WPq.blockR ?_ | refine WPq.blockE ?_ | refine WPq.blockO rfl ?_ | refine WPc.seq ?_ | refine WPc.block ?_ | refine WPc.ret ?_ | refine WPc.exit ?_ | refine WPc.skip ?_ | refine WPc.region ?_
           | (refine isReg 13 ?_; refine WPc.drA ordBucketPlays3 [(22, 11), (23, 11), (24, 11), (25, 19), (26, 19), (22, 0), (22, 1), (22, 2), (22, 3), (22, 4), (22, 5), (22, 6), (22, 7), (22, 8), (22, 9), (22, 10), (23, 0), (23, 1), (23, 2), (23, 3), (23, 4), (23, 5), (23, 6), (23, 7), (23, 8), (23, 9), (23, 10), (24, 0), (24, 1), (24, 2), (24, 3), (24, 4), (24, 5), (24, 6), (24, 7), (24, 8), (24, 9), (24, 10), (25, 0), (25, 1), (25, 2), (25, 3), (25, 4), (25, 5), (25, 6), (25, 7), (25, 8), (25, 9), (25, 10), (25, 11), (25, 12), (25, 13), (25, 14), (25, 15), (25, 16), (25, 17), (25, 18), (26, 0), (26, 1), (26, 2), (26, 3), (26, 4), (26, 5), (26, 6), (26, 7), (26, 8), (26, 9), (26, 10), (26, 11), (26, 12), (26, 13), (26, 14), (26, 15), (26, 16), (26, 17), (26, 18)] (Γx := [bx gB 131 (bkc (hdO none L) (lsO none L) per burst (clients : Int) m), mp prM m M, pool 135 f, bx gX 48 (xcc per burst (clients : Int) vX), rowN 51 20 vX D.length (crs D)]) (hox := ownsP) ?_; dsimp only [prev0, List.length_nil, List.length_cons])
           | (refine gAny ?_; first | (refine gGd ?_; refine RGl.skp ?_) | (refine gC 76 ?_; refine RGl.relG (.bool r) (fun s : BS1 => [bx gB 131 (bkc (hdO none s.1) (lsO none s.1) per burst (clients : Int) m), mp prM m s.2.1, pool 135 s.2.2]) (fun s => BkI burst clients s.1 s.2.1 s.2.2 ∧ s.1.map (·.2) = D') (hv76) (fun e hk => by (try dsimp only [bndR, ensR, oksR, fcutR, List.append_nil, List.nil_append, List.cons_append, List.append_assoc] at hk ⊢); exact OpT.callTs (c76)) ?_) | (refine gC 84 ?_; refine RGl.relG (.bool r) (fun vx : Value => [bx gX 48 (xcc per burst (clients : Int) vx), rowN 51 20 vx D'.length (crs D')]) (fun vx => vx.oneCell' = true) (hv84) (fun e hk => by (try dsimp only [bndR, ensR, oksR, fcutR, List.append_nil, List.nil_append, List.cons_append, List.append_assoc] at hk ⊢); exact OpT.callTs (c84)) ?_) | (refine gD 67 ?_; refine RGl.rdX (fun e hk => by (try dsimp only [bndR, ensR, oksR, fcutR, List.append_nil, List.nil_append, List.cons_append, List.append_assoc] at hk ⊢); exact ReadR.binE rfl rfl BinR.neq (congrArg (fun q => Value.bool (!q)) (decide_eq_false hk1'))) ?_) | (refine gD 85 ?_; refine RGl.rdX (fun e hk => by (try dsimp only [bndR, ensR, oksR, fcutR, List.append_nil, List.nil_append, List.cons_append, List.append_assoc] at hk ⊢); exact ReadR.binE rfl rfl (BinR.neqB (by kernel_rfl)) (show Value.bool (!(r == r)) = Value.bool false by rw [beq_self_eq_true]; rfl)) ?_) | (refine gOp ?_; first | refine RGl.rdA ?_ | refine RGl.rdX (fun e hk => by (try dsimp only [bndR, ensR, oksR, fcutR, List.append_nil, List.nil_append, List.cons_append, List.append_assoc] at hk ⊢); exact readB) ?_) | (refine RGl.fin (fun e hk => ?_); (try dsimp only [bndA, ensAR, oksA, List.append_nil, List.nil_append, List.cons_append, List.append_assoc] at hk ⊢); (repeat (obtain ⟨hk1, hk⟩ := hk))) | fail)
           | (refine isCond ?_; first | refine WPc.cT ?_ | refine WPc.cF ?_ | (refine WPc.cQ (fun hc => ?_) (fun hc => ?_) <;> try exact prA))
           | (refine isD 67 ?_; refine WPl.rdX (ReadR.binE rfl rfl BinR.neq (congrArg (fun q => Value.bool (!q)) (decide_eq_false hk1'))) ?_)
           | (refine isD 85 ?_; refine WPl.rdX (ReadR.binE rfl rfl (BinR.neqB (by kernel_rfl)) (show Value.bool (!(r == r)) = Value.bool false by rw [beq_self_eq_true]; rfl)) ?_)
           | (refine isOp ?_; first | refine WPl.rd ?_ | refine WPl.sk ?_ | refine WPl.rdB ?_)
           | (refine isAl ?_; refine WPl.nw fun g => ?_)
           | (refine isBx ?_; refine WPl.nw fun g => ?_)
           | (refine isSt ?_; first | refine WPl.st1 ?_ | refine WPl.stA ?_ | refine WPl.stEB ?_ | refine WPl.stRB ?_)
           | (show WPl _ _ _ _ _ _ _ (⟨_, .indexAddr _ _ _, _, _, _, _⟩ :: _) _; refine WPl.rdX (ReadR.indexE rfl rfl hasA (by first | assumption | omega)) ?_)
           | (show WPl _ _ _ _ _ _ _ (⟨_, .fieldAddr _ _ _, _, _, _, _⟩ :: _) _; refine WPl.rdX (ReadR.fieldE rfl hasA (by first | assumption | omega)) ?_)
           | (show WPl _ _ _ _ _ _ _ (⟨_, .load _ _, _, _, _, _⟩ :: _) _; first | refine WPl.rdX (ReadR.loadE rfl hasA (by assumption)) ?_ | refine WPl.rdX (ReadR.loadES (by assumption) (by first | assumption | omega) rfl hasA) ?_)
           | (show WPl _ _ _ _ _ _ _ (⟨_, .slice _ _ _ _ _, _, _, _, _⟩ :: _) _; first | refine WPl.rdX (ReadR.sliceH rfl rfl hasA (by omega)) ?_ | refine WPl.rdX (ReadR.sliceL rfl rfl hasA (by omega)) ?_ | refine WPl.rdX (ReadR.sliceLH rfl rfl rfl hasA (by omega) (by omega)) ?_)
           | (refine WPl.spQ (fun hc => ?_) (fun hc => ?_) <;> try exact prA)
           | fail)
          have hA : (fun s => BkI burst clients s.1 s.2.1 s.2.2 ∧ s.1.map (·.2) = D') (pickG (fun s : BS1 => [bx gB 131 (bkc (hdO none s.1) (lsO none s.1) per burst (clients : Int) m), mp prM m s.2.1, pool 135 s.2.2]) (fun s => BkI burst clients s.1 s.2.1 s.2.2 ∧ s.1.map (·.2) = D') (e 11).2) := by assumption
          have hB : (fun vx => vx.oneCell' = true) (pickG (fun vx : Value => [bx gX 48 (xcc per burst (clients : Int) vx), rowN 51 20 vx D'.length (crs D')]) (fun vx => vx.oneCell' = true) (e 19).2) := by assumption
          exact WPq.join ((pickG (fun s : BS1 => [bx gB 131 (bkc (hdO none s.1) (lsO none s.1) per burst (clients : Int) m), mp prM m s.2.1, pool 135 s.2.2]) (fun s => BkI burst clients s.1 s.2.1 s.2.2 ∧ s.1.map (·.2) = D') (e 11).2).1, (pickG (fun s : BS1 => [bx gB 131 (bkc (hdO none s.1) (lsO none s.1) per burst (clients : Int) m), mp prM m s.2.1, pool 135 s.2.2]) (fun s => BkI burst clients s.1 s.2.1 s.2.2 ∧ s.1.map (·.2) = D') (e 11).2).2.1, (pickG (fun s : BS1 => [bx gB 131 (bkc (hdO none s.1) (lsO none s.1) per burst (clients : Int) m), mp prM m s.2.1, pool 135 s.2.2]) (fun s => BkI burst clients s.1 s.2.1 s.2.2 ∧ s.1.map (·.2) = D') (e 11).2).2.2, (pickG (fun vx : Value => [bx gX 48 (xcc per burst (clients : Int) vx), rowN 51 20 vx D'.length (crs D')]) (fun vx => vx.oneCell' = true) (e 19).2), D') ⟨hA.1, hB, hA.2⟩
      refine ⟨?_⟩
      obtain ⟨L', M', f', vX', D'⟩ := st
      have hDl2 := bpOk_len hx
      obtain ⟨hI', hvX', hLD'⟩ := hx
      dsimp only at hI' hvX' hLD' hDl2 ⊢
      have c88 := order_t gB m per burst clients f' L' M' hI'.lk (by omega)
      have c99 := blen_t gB m per burst clients f' L' M' hI' (hdO none L') (lsO none L')
      have hLD2 : (L'.length : Int) = (D'.length : Int) := by omega
      repeat' (first
       | refine WPl.nil ?_ | refine WPq.then ?_ | refine WPq.thenR ?_ | refine WPq.thenE ?_ | refine WPq.blockN ?_ | refine WPq.blockR ?_ | refine WPq.blockE ?_ | refine WPq.blockO rfl ?_ | refine WPc.seq ?_ | refine WPc.block ?_ | refine WPc.ret ?_ | refine WPc.exit ?_ | refine WPc.skip ?_ | refine WPc.region ?_
       | (refine isReg 16 ?_; refine WPc.drA ordBucketPlays4 [(18, 10), (19, 10), (20, 10), (18, 0), (18, 1), (18, 2), (18, 3), (18, 4), (18, 5), (18, 6), (18, 7), (18, 8), (18, 9), (19, 0), (19, 1), (19, 2), (19, 3), (19, 4), (19, 5), (19, 6), (19, 7), (19, 8), (19, 9), (20, 0), (20, 1), (20, 2), (20, 3), (20, 4), (20, 5), (20, 6), (20, 7), (20, 8), (20, 9)] (Γx := [bx gB 131 (bkc (hdO none L') (lsO none L') per burst (clients : Int) m), mp prM m M', pool 135 f']) (hox := ownsP) ?_; dsimp only [prev0, List.length_nil, List.length_cons])
       | (refine gAny ?_; first | (refine gGd ?_; refine RGl.skp ?_) | (refine gC 99 ?_; refine RGl.turns (fun e hk => by (try dsimp only [bndR, ensR, oksR, fcutR, List.append_nil, List.nil_append, List.cons_append, List.append_assoc] at hk ⊢); exact OpT.callTs (c99)) ?_) | (refine gD 96 ?_; refine RGl.rdX (fun e hk => by (try dsimp only [bndR, ensR, oksR, fcutR, List.append_nil, List.nil_append, List.cons_append, List.append_assoc] at hk ⊢); exact ReadR.binE rfl rfl BinR.neq (congrArg (fun q => Value.bool (!q)) (decide_eq_true hLD2))) ?_) | (refine gD 105 ?_; refine RGl.rdX (fun e hk => by (try dsimp only [bndR, ensR, oksR, fcutR, List.append_nil, List.nil_append, List.cons_append, List.append_assoc] at hk ⊢); exact ReadR.binE rfl rfl BinR.neq (congrArg (fun q => Value.bool (!q)) (decide_eq_true hLD2))) ?_) | (refine gOp ?_; first | refine RGl.rdA ?_ | refine RGl.rdX (fun e hk => by (try dsimp only [bndR, ensR, oksR, fcutR, List.append_nil, List.nil_append, List.cons_append, List.append_assoc] at hk ⊢); exact readB) ?_) | (refine RGl.fin (fun e hk => ?_); (try dsimp only [bndA, ensAR, oksA, List.append_nil, List.nil_append, List.cons_append, List.append_assoc] at hk ⊢); (repeat (obtain ⟨hk1, hk⟩ := hk))) | fail)
       | (refine isCond ?_; first | refine WPc.cT ?_ | refine WPc.cF ?_ | (refine WPc.cQ (fun hc => ?_) (fun hc => ?_) <;> try exact prA))
       | (refine isC 88 ?_; refine WPl.cXs (c88) fun w10 Γ1 hR => ?_; obtain ⟨hw10, rfl⟩ := hR; (try dsimp only [putF, List.cons_append, List.nil_append]))
       | (refine isD 96 ?_; refine WPl.rdX (ReadR.binE rfl rfl BinR.neq (congrArg (fun q => Value.bool (!q)) (decide_eq_true hLD2))) ?_)
       | (refine isC 99 ?_; refine WPl.cTs (c99) ?_; (try dsimp only [putF, List.cons_append, List.nil_append]))
       | (refine isD 105 ?_; refine WPl.rdX (ReadR.binE rfl rfl BinR.neq (congrArg (fun q => Value.bool (!q)) (decide_eq_true hLD2))) ?_)
       | (refine isOp ?_; first | refine WPl.rd ?_ | refine WPl.sk ?_ | refine WPl.rdB ?_)
       | (refine isAl ?_; refine WPl.nw fun g => ?_)
       | (refine isBx ?_; refine WPl.nw fun g => ?_)
       | (refine isSt ?_; first | refine WPl.st1 ?_ | refine WPl.stA ?_ | refine WPl.stEB ?_ | refine WPl.stRB ?_)
       | (show WPl _ _ _ _ _ _ _ (⟨_, .indexAddr _ _ _, _, _, _, _⟩ :: _) _; refine WPl.rdX (ReadR.indexE rfl rfl hasA (by first | assumption | omega)) ?_)
       | (show WPl _ _ _ _ _ _ _ (⟨_, .fieldAddr _ _ _, _, _, _, _⟩ :: _) _; refine WPl.rdX (ReadR.fieldE rfl hasA (by first | assumption | omega)) ?_)
       | (show WPl _ _ _ _ _ _ _ (⟨_, .load _ _, _, _, _, _⟩ :: _) _; first | refine WPl.rdX (ReadR.loadE rfl hasA (by assumption)) ?_ | refine WPl.rdX (ReadR.loadES (by assumption) (by first | assumption | omega) rfl hasA) ?_)
       | (show WPl _ _ _ _ _ _ _ (⟨_, .slice _ _ _ _ _, _, _, _, _⟩ :: _) _; first | refine WPl.rdX (ReadR.sliceH rfl rfl hasA (by omega)) ?_ | refine WPl.rdX (ReadR.sliceL rfl rfl hasA (by omega)) ?_ | refine WPl.rdX (ReadR.sliceLH rfl rfl rfl hasA (by omega) (by omega)) ?_)
       | (refine WPl.spQ (fun hc => ?_) (fun hc => ?_) <;> try exact prA)
       | fail)
      have hpl := pfs_len (A := L')
      have hcl2 := crs_len (D := D')
      first | refine WPc.loop (σ := Nat) (fun st => st ≤ L'.length) (fun st => [bx gB 131 (bkc (hdO none L') (lsO none L') per burst (clients : Int) m), mp prM m M', pool 135 f', rowN 34 18 w10 L'.length (pfs L'), rdN vr l.length (acs l), bx gX 48 (xcc per burst (clients : Int) vX'), rowN 51 20 vX' D'.length (crs D')]) (fun st => [(1, vr), (5, hP' gB), (7, hP' gX), (8, .int .i64 (i : Int)), (10, w10), (11, .int .i64 (st : Int))]) (fun st => L'.length - st) (0) ?_ takesA frsA (fun st km hx hk => ?_)
      · exact Nat.zero_le _
      obtain ⟨k, rfl⟩ : ∃ k, k = st := ⟨_, rfl⟩
      have hkl : k ≤ L'.length := hx
      have hkm2 : km = L'.length - k := hk
      clear hk
      by_cases hlt : k < L'.length
      · obtain ⟨x, hxk⟩ : ∃ x, L'[k]? = some x := ⟨_, List.getElem?_eq_getElem hlt⟩
        have hxD : D'[k]? = some x.2 := by rw [← hLD', List.getElem?_map, hxk]; rfl
        have hp1 := pfs_at hxk
        have hp2 := crs_p hxD
        have lx := x.2.p.1.len
        have hlt' : (k : Int) < (L'.length : Int) := by omega
        have hltD : k < D'.length := by omega
        repeat' (first
         | refine WPl.nil ?_ | refine WPq.then ?_ | refine WPq.thenR ?_ | refine WPq.thenE ?_ | refine WPq.blockN ?_ | refine WPq.blockR ?_ | refine WPq.blockE ?_ | refine WPq.blockO rfl ?_ | refine WPc.seq ?_ | refine WPc.block ?_ | refine WPc.ret ?_ | refine WPc.exit ?_ | refine WPc.skip ?_ | refine WPc.region ?_
         | (refine isReg 21 ?_; refine WPc.drA [([], [114, 117, 118, 119, 120, 121, 122, 123, 124]), ([], [113, 117, 118, 119, 120, 121, 122, 123, 124]), ([0, 1], [113, 114, 117, 118, 119, 120, 121, 122, 123, 124]), ([0, 1, 2], [113, 114, 115, 117, 118, 119, 120, 121, 122, 123, 124]), ([], [113, 114, 115, 116, 121]), ([4], [113, 114, 115, 116, 117, 121]), ([4, 5], [113, 114, 115, 116, 117, 118, 121]), ([4, 5, 6], [113, 114, 115, 116, 117, 118, 119, 121]), ([], [113, 114, 115, 116, 117, 118, 119, 120]), ([4, 5, 6, 7, 8], [113, 114, 115, 116, 117, 118, 119, 120, 121]), ([4, 5, 6, 7, 8, 9], [113, 114, 115, 116, 117, 118, 119, 120, 121, 122]), ([4, 5, 6, 7, 8, 9, 10], [113, 114, 115, 116, 117, 118, 119, 120, 121, 122, 123]), ([0, 1, 2, 3, 4, 5, 6, 7, 8, 9, 10, 11], [113, 114, 115, 116, 117, 118, 119, 120, 121, 122, 123, 124])] [] (Γx := []) ?_; dsimp only [prev0, List.length_nil, List.length_cons])
         | (refine gAny ?_; first | (refine gD 110 ?_; refine RGl.rdX (fun e hk => by (try dsimp only [bndR, ensR, oksR, fcutR, List.append_nil, List.nil_append, List.cons_append, List.append_assoc] at hk ⊢); exact ReadR.binE rfl rfl BinR.lss (congrArg Value.bool (decide_eq_true hlt'))) ?_) | (refine gD 115 ?_; refine RGl.rdX (fun e hk => by (try dsimp only [bndR, ensR, oksR, fcutR, List.append_nil, List.nil_append, List.cons_append, List.append_assoc] at hk ⊢); exact ReadR.indexE (i := k) rfl rfl hasA hlt) ?_) | (refine gD 116 ?_; refine RGl.rdX (fun e hk => by (try dsimp only [bndR, ensR, oksR, fcutR, List.append_nil, List.nil_append, List.cons_append, List.append_assoc] at hk ⊢); exact ReadR.loadES (cs := pfc x.2.p) hp1 (by omega) rfl hasA) ?_) | (refine gD 122 ?_; refine RGl.rdX (fun e hk => by (try dsimp only [bndR, ensR, oksR, fcutR, List.append_nil, List.nil_append, List.cons_append, List.append_assoc] at hk ⊢); exact ReadR.indexE (i := k) rfl rfl hasA hltD) ?_) | (refine gD 123 ?_; refine RGl.rdX (fun e hk => by (try dsimp only [bndR, ensR, oksR, fcutR, List.append_nil, List.nil_append, List.cons_append, List.append_assoc] at hk ⊢); exact ReadR.fieldE rfl hasA (by omega)) ?_) | (refine gD 124 ?_; refine RGl.rdX (fun e hk => by (try dsimp only [bndR, ensR, oksR, fcutR, List.append_nil, List.nil_append, List.cons_append, List.append_assoc] at hk ⊢); exact ReadR.loadES (cs := pfc x.2.p) hp2 (by omega) rfl hasA) ?_) | (refine gD 125 ?_; refine RGl.rdX (fun e hk => by (try dsimp only [bndR, ensR, oksR, fcutR, List.append_nil, List.nil_append, List.cons_append, List.append_assoc] at hk ⊢); exact ReadR.binE rfl rfl BinR.pfN (congrArg (fun q => Value.bool (!q)) (decide_eq_true rfl))) ?_) | (refine gOp ?_; first | refine RGl.rdA ?_ | refine RGl.rdX (fun e hk => by (try dsimp only [bndR, ensR, oksR, fcutR, List.append_nil, List.nil_append, List.cons_append, List.append_assoc] at hk ⊢); exact readB) ?_) | (refine RGl.fin (fun e hk => ?_); (try dsimp only [bndA, ensAR, oksA, List.append_nil, List.nil_append, List.cons_append, List.append_assoc] at hk ⊢); (repeat (obtain ⟨hk1, hk⟩ := hk))) | fail)
         | (refine isCond ?_; first | refine WPc.cT ?_ | refine WPc.cF ?_ | (refine WPc.cQ (fun hc => ?_) (fun hc => ?_) <;> try exact prA))
         | (refine isD 110 ?_; refine WPl.rdX (ReadR.binE rfl rfl BinR.lss (congrArg Value.bool (decide_eq_true hlt'))) ?_)
         | (refine isD 115 ?_; refine WPl.rdX (ReadR.indexE (i := k) rfl rfl hasA hlt) ?_)
         | (refine isD 116 ?_; refine WPl.rdX (ReadR.loadES (cs := pfc x.2.p) hp1 (by omega) rfl hasA) ?_)
         | (refine isD 122 ?_; refine WPl.rdX (ReadR.indexE (i := k) rfl rfl hasA hltD) ?_)
         | (refine isD 123 ?_; refine WPl.rdX (ReadR.fieldE rfl hasA (by omega)) ?_)
         | (refine isD 124 ?_; refine WPl.rdX (ReadR.loadES (cs := pfc x.2.p) hp2 (by omega) rfl hasA) ?_)
         | (refine isD 125 ?_; refine WPl.rdX (ReadR.binE rfl rfl BinR.pfN (congrArg (fun q => Value.bool (!q)) (decide_eq_true rfl))) ?_)
         | (refine isOp ?_; first | refine WPl.rd ?_ | refine WPl.sk ?_ | refine WPl.rdB ?_)
         | (refine isAl ?_; refine WPl.nw fun g => ?_)
         | (refine isBx ?_; refine WPl.nw fun g => ?_)
         | (refine isSt ?_; first | refine WPl.st1 ?_ | refine WPl.stA ?_ | refine WPl.stEB ?_ | refine WPl.stRB ?_)
         | (show WPl _ _ _ _ _ _ _ (⟨_, .indexAddr _ _ _, _, _, _, _⟩ :: _) _; refine WPl.rdX (ReadR.indexE rfl rfl hasA (by first | assumption | omega)) ?_)
         | (show WPl _ _ _ _ _ _ _ (⟨_, .fieldAddr _ _ _, _, _, _, _⟩ :: _) _; refine WPl.rdX (ReadR.fieldE rfl hasA (by first | assumption | omega)) ?_)
         | (show WPl _ _ _ _ _ _ _ (⟨_, .load _ _, _, _, _, _⟩ :: _) _; first | refine WPl.rdX (ReadR.loadE rfl hasA (by assumption)) ?_ | refine WPl.rdX (ReadR.loadES (by assumption) (by first | assumption | omega) rfl hasA) ?_)
         | (show WPl _ _ _ _ _ _ _ (⟨_, .slice _ _ _ _ _, _, _, _, _⟩ :: _) _; first | refine WPl.rdX (ReadR.sliceH rfl rfl hasA (by omega)) ?_ | refine WPl.rdX (ReadR.sliceL rfl rfl hasA (by omega)) ?_ | refine WPl.rdX (ReadR.sliceLH rfl rfl rfl hasA (by omega) (by omega)) ?_)
         | (refine WPl.spQ (fun hc => ?_) (fun hc => ?_) <;> try exact prA)
         | fail)
        exact WPq.rnd (k + 1) (by omega) (by omega)
      · have hlt' : ¬ (k : Int) < (L'.length : Int) := by omega
        repeat' (first
         | refine WPl.nil ?_ | refine WPq.then ?_ | refine WPq.thenR ?_ | refine WPq.thenE ?_ | refine WPq.blockN ?_ | refine WPq.blockR ?_ | refine WPq.blockE ?_ | refine WPq.blockO rfl ?_ | refine WPc.seq ?_ | refine WPc.block ?_ | refine WPc.ret ?_ | refine WPc.exit ?_ | refine WPc.skip ?_ | refine WPc.region ?_
         | (refine isCond ?_; first | refine WPc.cT ?_ | refine WPc.cF ?_ | (refine WPc.cQ (fun hc => ?_) (fun hc => ?_) <;> try exact prA))
         | (refine isD 110 ?_; refine WPl.rdX (ReadR.binE rfl rfl BinR.lss (congrArg Value.bool (decide_eq_false hlt'))) ?_)
         | (refine isOp ?_; first | refine WPl.rd ?_ | refine WPl.sk ?_ | refine WPl.rdB ?_)
         | (refine isAl ?_; refine WPl.nw fun g => ?_)
         | (refine isBx ?_; refine WPl.nw fun g => ?_)
         | (refine isSt ?_; first | refine WPl.st1 ?_ | refine WPl.stA ?_ | refine WPl.stEB ?_ | refine WPl.stRB ?_)
         | (show WPl _ _ _ _ _ _ _ (⟨_, .indexAddr _ _ _, _, _, _, _⟩ :: _) _; refine WPl.rdX (ReadR.indexE rfl rfl hasA (by first | assumption | omega)) ?_)
         | (show WPl _ _ _ _ _ _ _ (⟨_, .fieldAddr _ _ _, _, _, _, _⟩ :: _) _; refine WPl.rdX (ReadR.fieldE rfl hasA (by first | assumption | omega)) ?_)
         | (show WPl _ _ _ _ _ _ _ (⟨_, .load _ _, _, _, _, _⟩ :: _) _; first | refine WPl.rdX (ReadR.loadE rfl hasA (by assumption)) ?_ | refine WPl.rdX (ReadR.loadES (by assumption) (by first | assumption | omega) rfl hasA) ?_)
         | (show WPl _ _ _ _ _ _ _ (⟨_, .slice _ _ _ _ _, _, _, _, _⟩ :: _) _; first | refine WPl.rdX (ReadR.sliceH rfl rfl hasA (by omega)) ?_ | refine WPl.rdX (ReadR.sliceL rfl rfl hasA (by omega)) ?_ | refine WPl.rdX (ReadR.sliceLH rfl rfl rfl hasA (by omega) (by omega)) ?_)
         | (refine WPl.spQ (fun hc => ?_) (fun hc => ?_) <;> try exact prA)
         | fail)
        exact WPq.rnd (i + 1, (L', M', f', vX', D'), crs D') ⟨by dsimp only; omega, ⟨hI', hvX', hLD'⟩, rfl⟩ (by dsimp only; omega)
    · by_cases hil : i < l.length
      · have hil' : (i : Int) < (l.length : Int) := by omega
        have hi60' : ¬ (i : Int) < 60 := by omega
        repeat' (first
         | refine WPl.nil ?_ | refine WPq.then ?_ | refine WPq.thenR ?_ | refine WPq.thenE ?_ | refine WPq.blockN ?_ | refine WPq.blockR ?_ | refine WPq.blockE ?_ | refine WPq.blockO rfl ?_ | refine WPc.seq ?_ | refine WPc.block ?_ | refine WPc.ret ?_ | refine WPc.exit ?_ | refine WPc.skip ?_ | refine WPc.region ?_
         | (refine isCond ?_; first | refine WPc.cT ?_ | refine WPc.cF ?_ | (refine WPc.cQ (fun hc => ?_) (fun hc => ?_) <;> try exact prA))
         | (refine isD 41 ?_; refine WPl.rdX (ReadR.binE rfl rfl BinR.lss (congrArg Value.bool (decide_eq_true hil'))) ?_)
         | (refine isD 44 ?_; refine WPl.rdX (ReadR.binE rfl rfl BinR.lss (congrArg Value.bool (decide_eq_false hi60'))) ?_)
         | (refine isC 126 ?_; refine WPl.cV (hlive) ?_)
         | (refine isOp ?_; first | refine WPl.rd ?_ | refine WPl.sk ?_ | refine WPl.rdB ?_)
         | (refine isAl ?_; refine WPl.nw fun g => ?_)
         | (refine isBx ?_; refine WPl.nw fun g => ?_)
         | (refine isSt ?_; first | refine WPl.st1 ?_ | refine WPl.stA ?_ | refine WPl.stEB ?_ | refine WPl.stRB ?_)
         | (show WPl _ _ _ _ _ _ _ (⟨_, .indexAddr _ _ _, _, _, _, _⟩ :: _) _; refine WPl.rdX (ReadR.indexE rfl rfl hasA (by first | assumption | omega)) ?_)
         | (show WPl _ _ _ _ _ _ _ (⟨_, .fieldAddr _ _ _, _, _, _, _⟩ :: _) _; refine WPl.rdX (ReadR.fieldE rfl hasA (by first | assumption | omega)) ?_)
         | (show WPl _ _ _ _ _ _ _ (⟨_, .load _ _, _, _, _, _⟩ :: _) _; first | refine WPl.rdX (ReadR.loadE rfl hasA (by assumption)) ?_ | refine WPl.rdX (ReadR.loadES (by assumption) (by first | assumption | omega) rfl hasA) ?_)
         | (show WPl _ _ _ _ _ _ _ (⟨_, .slice _ _ _ _ _, _, _, _, _⟩ :: _) _; first | refine WPl.rdX (ReadR.sliceH rfl rfl hasA (by omega)) ?_ | refine WPl.rdX (ReadR.sliceL rfl rfl hasA (by omega)) ?_ | refine WPl.rdX (ReadR.sliceLH rfl rfl rfl hasA (by omega) (by omega)) ?_)
         | (refine WPl.spQ (fun hc => ?_) (fun hc => ?_) <;> try exact prA)
         | fail)
        exact WPq.dV
      · have hil' : ¬ (i : Int) < (l.length : Int) := by omega
        repeat' (first
         | refine WPl.nil ?_ | refine WPq.then ?_ | refine WPq.thenR ?_ | refine WPq.thenE ?_ | refine WPq.blockN ?_ | refine WPq.blockR ?_ | refine WPq.blockE ?_ | refine WPq.blockO rfl ?_ | refine WPc.seq ?_ | refine WPc.block ?_ | refine WPc.ret ?_ | refine WPc.exit ?_ | refine WPc.skip ?_ | refine WPc.region ?_
         | (refine isCond ?_; first | refine WPc.cT ?_ | refine WPc.cF ?_ | (refine WPc.cQ (fun hc => ?_) (fun hc => ?_) <;> try exact prA))
         | (refine isD 41 ?_; refine WPl.rdX (ReadR.binE rfl rfl BinR.lss (congrArg Value.bool (decide_eq_false hil'))) ?_)
         | (refine isC 126 ?_; refine WPl.cV (hlive) ?_)
         | (refine isOp ?_; first | refine WPl.rd ?_ | refine WPl.sk ?_ | refine WPl.rdB ?_)
         | (refine isAl ?_; refine WPl.nw fun g => ?_)
         | (refine isBx ?_; refine WPl.nw fun g => ?_)
         | (refine isSt ?_; first | refine WPl.st1 ?_ | refine WPl.stA ?_ | refine WPl.stEB ?_ | refine WPl.stRB ?_)
         | (show WPl _ _ _ _ _ _ _ (⟨_, .indexAddr _ _ _, _, _, _, _⟩ :: _) _; refine WPl.rdX (ReadR.indexE rfl rfl hasA (by first | assumption | omega)) ?_)
         | (show WPl _ _ _ _ _ _ _ (⟨_, .fieldAddr _ _ _, _, _, _, _⟩ :: _) _; refine WPl.rdX (ReadR.fieldE rfl hasA (by first | assumption | omega)) ?_)
         | (show WPl _ _ _ _ _ _ _ (⟨_, .load _ _, _, _, _, _⟩ :: _) _; first | refine WPl.rdX (ReadR.loadE rfl hasA (by assumption)) ?_ | refine WPl.rdX (ReadR.loadES (by assumption) (by first | assumption | omega) rfl hasA) ?_)
         | (show WPl _ _ _ _ _ _ _ (⟨_, .slice _ _ _ _ _, _, _, _, _⟩ :: _) _; first | refine WPl.rdX (ReadR.sliceH rfl rfl hasA (by omega)) ?_ | refine WPl.rdX (ReadR.sliceL rfl rfl hasA (by omega)) ?_ | refine WPl.rdX (ReadR.sliceLH rfl rfl rfl hasA (by omega) (by omega)) ?_)
         | (refine WPl.spQ (fun hc => ?_) (fun hc => ?_) <;> try exact prA)
         | fail)
        exact WPq.dV
  · have c0 := bnew0_t per burst cl hg
    have cg := rgood0_t per burst cl hg
    refine Triple.enter Try.func5 rfl Try.ntmps5 rfl (fun W => ?_)
    dsimp only [argsF, Nat.reduceAdd]
    repeat' (first
     | refine WPl.nil ?_ | refine WPq.then ?_ | refine WPq.thenR ?_ | refine WPq.thenE ?_ | refine WPq.blockN ?_ | refine WPq.blockR ?_ | refine WPq.blockE ?_ | refine WPq.blockO rfl ?_ | refine WPc.seq ?_ | refine WPc.block ?_ | refine WPc.ret ?_ | refine WPc.exit ?_ | refine WPc.skip ?_ | refine WPc.region ?_
     | (refine isCond ?_; first | refine WPc.cT ?_ | refine WPc.cF ?_ | (refine WPc.cQ (fun hc => ?_) (fun hc => ?_) <;> try exact prA))
     | (refine isD 2 ?_; first | (refine isAl ?_; refine WPl.nw fun g2 => ?_) | (refine isBx ?_; refine WPl.nw fun g2 => ?_))
     | (refine isC 14 ?_; refine WPl.cV (c0) ?_)
     | (refine isC 18 ?_; refine WPl.cV (cg) ?_)
     | (refine isD 21 ?_; refine WPl.rdX (readP) ?_)
     | (refine isC 27 ?_; refine WPl.cV (hlive) ?_)
     | (refine isOp ?_; first | refine WPl.rd ?_ | refine WPl.sk ?_ | refine WPl.rdB ?_)
     | (refine isAl ?_; refine WPl.nw fun g => ?_)
     | (refine isBx ?_; refine WPl.nw fun g => ?_)
     | (refine isSt ?_; first | refine WPl.st1 ?_ | refine WPl.stA ?_ | refine WPl.stEB ?_ | refine WPl.stRB ?_)
     | (show WPl _ _ _ _ _ _ _ (⟨_, .indexAddr _ _ _, _, _, _, _⟩ :: _) _; refine WPl.rdX (ReadR.indexE rfl rfl hasA (by first | assumption | omega)) ?_)
     | (show WPl _ _ _ _ _ _ _ (⟨_, .fieldAddr _ _ _, _, _, _, _⟩ :: _) _; refine WPl.rdX (ReadR.fieldE rfl hasA (by first | assumption | omega)) ?_)
     | (show WPl _ _ _ _ _ _ _ (⟨_, .load _ _, _, _, _, _⟩ :: _) _; first | refine WPl.rdX (ReadR.loadE rfl hasA (by assumption)) ?_ | refine WPl.rdX (ReadR.loadES (by assumption) (by first | assumption | omega) rfl hasA) ?_)
     | (show WPl _ _ _ _ _ _ _ (⟨_, .slice _ _ _ _ _, _, _, _, _⟩ :: _) _; first | refine WPl.rdX (ReadR.sliceH rfl rfl hasA (by omega)) ?_ | refine WPl.rdX (ReadR.sliceL rfl rfl hasA (by omega)) ?_ | refine WPl.rdX (ReadR.sliceLH rfl rfl rfl hasA (by omega) (by omega)) ?_)
     | (refine WPl.spQ (fun hc => ?_) (fun hc => ?_) <;> try exact prA)
     | fail)
    exact WPq.dV
end Go.Proofs.Ytncgponcedkihaa
