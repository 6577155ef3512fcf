/- Layer 3 (dev): a device as a state: its calls, told by plain functions. -/
import Derived.Test.YtepmikgjnmjheaaDf
namespace Go.Proofs.Ytepmikgjnmjheaa
open Go.RowKit
set_option linter.unusedSimpArgs false
set_option linter.unusedVariables false
set_option maxRecDepth 20000
set_option maxHeartbeats 4000000
attribute [local irreducible] WPc WPl WPq ReadR OpT BinR HasS bx rdN rowN Take Takes Prov Triple ResF BuildP Done ag Int.decLt Int.decLe Int.instDecidableEq
attribute [local irreducible] mp rmp rg rgo bag vrow secs mput mget mfind mdel intsV skeys crashT nowAll fburn fb1
structure DS where
  fu : List Int
  ls : List Sec
  es : List (Int × Vs)
  cn : Int
/-- What a device tells of itself. -/
structure Dv where
  fu : List Int
  ls : List Sec
  ws : Nat → List Sec
  cn : Int
def DS.vw (S : DS) : Dv := ⟨S.fu, S.ls, fun j => (mget secM S.es (j : Int)).ws, S.cn⟩
structure DInv (n k : Nat) (S : DS) : Prop where
  f4 : S.fu.length = 4
  fb : ∀ j, j < 4 → -1 ≤ S.fu.getD j 0 ∧ S.fu.getD j 0 ≤ 9223372036854775807
  nl : S.ls.length = n
  ok : DOk n k S.es S.cn
abbrev dvA (gV mD : Nat) (vd : Value) (S : DS) : List Asn := [bx gV 79 (dvc S.fu vd mD S.cn), rowN 81 256 vd S.ls.length (secs S.ls), mp secM mD S.es, bag S.es]
def RD (gV mD : Nat) (vd : Value) (n k : Nat) (c : Value) (D : Dv) : Value → List Asn → Prop := fun v Γ => ∃ S, v = c ∧ S.vw = D ∧ DInv n k S ∧ Γ = dvA gV mD vd S
def RDr (gV mD : Nat) (vd : Value) (n k : Nat) (b : List UInt8) (er : Int) (D : Dv) : Value → List Asn → Prop := fun v Γ => ∃ S s, v = .tuple #[s, .int .i64 er] ∧ s.oneCell' = true ∧ S.vw = D ∧ DInv n k S ∧ Γ = hdN s b.length (u8s b) :: dvA gV mD vd S
def updW (f : Nat → List Sec) (j : Nat) (l : List Sec) : Nat → List Sec := fun i => if i = j then l else f i
def Dv.fails (D : Dv) (k : Nat) : Bool := decide (D.fu.getD k 0 = 0)
def Dv.burn (D : Dv) (k : Nat) : Dv := { D with fu := fburn D.fu k (D.fu.getD k 0) }
def Dv.now (D : Dv) (j : Nat) : Sec := (D.ws j).getLastD (D.ls.getD j (secF 0))
def Dv.wr (D : Dv) (j : Nat) (s : Sec) : Dv × Int := if D.fails 2 then (D.burn 2, 3) else ({ D.burn 2 with ws := updW D.ws j (D.ws j ++ [s]), cn := D.cn + 1 }, 0)
def Dv.rd (D : Dv) (j : Nat) : Dv × List UInt8 × Int := if D.fails 1 then (D.burn 1, [], 3) else (D.burn 1, (D.now j).b, 0)
def Dv.nows (D : Dv) : List Sec := D.ls.mapIdx fun j _ => D.now j
def Dv.flush (D : Dv) : Dv × Int := if D.fails 3 then (D.burn 3, 3) else ({ D.burn 3 with ls := D.nows, ws := fun _ => [] }, 0)
def fgood (w a : Int) : Bool := decide (1 ≤ w) && decide (w ≤ 3) && decide (0 ≤ a)
def Dv.fail (D : Dv) (w a : Int) : Dv × Int := if fgood w a then ({ D with fu := D.fu.set w.toNat a }, 0) else (D, 1)
def Dv.crash0 (D : Dv) : Dv := { D with fu := f4, ws := fun _ => [] }
theorem getD_some {fu : List Int} {k : Nat} (h : k < fu.length) : fu[k]? = some (fu.getD k 0) := by
  rw [List.getD_eq_getElem?_getD, List.getElem?_eq_getElem h]; rfl
theorem f4_in (j : Nat) (hj : j < 4) : -1 ≤ f4.getD j 0 ∧ f4.getD j 0 ≤ 9223372036854775807 := by
  match j, hj with
  | 0, _ => show (-1 : Int) ≤ -1 ∧ (-1 : Int) ≤ 9223372036854775807; omega
  | 1, _ => show (-1 : Int) ≤ -1 ∧ (-1 : Int) ≤ 9223372036854775807; omega
  | 2, _ => show (-1 : Int) ≤ -1 ∧ (-1 : Int) ≤ 9223372036854775807; omega
  | 3, _ => show (-1 : Int) ≤ -1 ∧ (-1 : Int) ≤ 9223372036854775807; omega
theorem fb1_in {a : Int} (h1 : -1 ≤ a) (h2 : a ≤ 9223372036854775807) : -1 ≤ fb1 a ∧ fb1 a ≤ 9223372036854775807 := by
  with_unfolding_all (unfold fb1; (repeat' split) <;> omega)
theorem set_in {fu : List Int} {k : Nat} {a : Int} (hf : ∀ j, j < 4 → -1 ≤ fu.getD j 0 ∧ fu.getD j 0 ≤ 9223372036854775807) (h4 : fu.length = 4) (ha : -1 ≤ a ∧ a ≤ 9223372036854775807) (j : Nat) (hj : j < 4) : -1 ≤ (fu.set k a).getD j 0 ∧ (fu.set k a).getD j 0 ≤ 9223372036854775807 := by
  rw [List.getD_eq_getElem?_getD, List.getElem?_set]
  split
  · split
    · exact ha
    · rename_i h1 h2; omega
  · rw [← List.getD_eq_getElem?_getD]; exact hf j hj
theorem fburn_len {fu : List Int} {k : Nat} {a : Int} : (fburn fu k a).length = fu.length := by with_unfolding_all (unfold fburn; simp)
theorem DInv.burn {n k : Nat} {S : DS} (h : DInv n k S) {j : Nat} (hj : j < 4) : DInv n k { S with fu := fburn S.fu j (S.fu.getD j 0) } := by
  refine ⟨by rw [fburn_len]; exact h.f4, fun i hi => ?_, h.nl, h.ok⟩
  have := set_in (k := j) h.fb h.f4 (fb1_in (h.fb j hj).1 (h.fb j hj).2) i hi
  with_unfolding_all exact this
theorem DOk.mono {n k k' : Nat} {es : List (Int × Vs)} {cn : Int} (h : DOk n k es cn) (hk : k ≤ k') : DOk n k' es cn := ⟨fun z hz => ⟨(h.key z hz).1, (h.key z hz).2.1, Nat.le_trans (h.key z hz).2.2 hk⟩, Nat.le_trans h.len hk, h.c0, by have := h.c1; omega⟩
theorem DInv.mono {n k k' : Nat} {S : DS} (h : DInv n k S) (hk : k ≤ k') : DInv n k' S := ⟨h.f4, h.fb, h.nl, h.ok.mono hk⟩
theorem DOk.put {n k : Nat} {es : List (Int × Vs)} {cn : Int} (h : DOk n k es cn) {j : Nat} (hj : j < n) (wv : Value) (s : Sec) : DOk n (k + 1) (mput es (j : Int) ⟨wv, (mget secM es (j : Int)).ws ++ [s]⟩) (cn + 1) := by
  refine ⟨fun z hz => ?_, ?_, by have := h.c0; omega, by have := h.c1; omega⟩
  · rcases mem_mput hz with rfl | hz
    · refine ⟨⟨j, rfl, hj⟩, by show _ ++ _ ≠ []; simp, ?_⟩
      have := h.mget_len (j : Int)
      show ((mget secM es (j : Int)).ws ++ [s]).length ≤ _
      rw [List.length_append]
      simpa using this
    · exact ⟨(h.key z hz).1, (h.key z hz).2.1, Nat.le_succ_of_le (h.key z hz).2.2⟩
  · have := h.len
    rw [mput_len]
    split <;> omega
theorem mget_ws {es : List (Int × Vs)} {i : Int} : (mget secM es i).ws = match mfind es i with | some y => y.ws | none => [] := by
  cases h : mfind es i with
  | none => with_unfolding_all (unfold mget; rw [h]; rfl)
  | some y => rw [mget_of_find h]
theorem mgetw_put {es : List (Int × Vs)} {i j : Int} {y : Vs} : (mget secM (mput es i y) j).ws = if i = j then y.ws else (mget secM es j).ws := by
  by_cases h : i = j
  · rw [mget_ws, mfind_put, if_pos h, if_pos h]
  · rw [mget_ws, mfind_put, if_neg h, if_neg h, mget_ws]
theorem nowS_get {es : List (Int × Vs)} {j : Nat} {s : Sec} : nowS s es j = ((mget secM es (j : Int)).ws).getLastD s := by
  rw [mget_ws]
  with_unfolding_all (unfold nowS; cases mfind es (j : Int) <;> rfl)
theorem nowS_vw {S : DS} {j : Nat} {s : Sec} (hs : S.ls[j]? = some s) : nowS s S.es j = S.vw.now j := by
  rw [nowS_get]
  show _ = ((mget secM S.es (j : Int)).ws).getLastD (S.ls.getD j (secF 0))
  rw [List.getD_eq_getElem?_getD, hs]; rfl
theorem nowAll_vw {S : DS} : nowAll S.ls S.es = S.vw.nows := by
  apply List.ext_getElem?
  intro j
  rw [nowAll_at]
  show _ = (List.mapIdx (fun j _ => S.vw.now j) S.ls)[j]?
  rw [List.getElem?_mapIdx]
  cases h : S.ls[j]? with
  | none => rfl
  | some s => show some (nowS s S.es j) = some (S.vw.now j); rw [nowS_vw h]
section
variable (gV mD : Nat) (vd : Value) (n k : Nat) (S : DS)
theorem dnew_t (hn : 16 ≤ n) (hn2 : n ≤ 1600) : Triple Try.prog 12 #[.int .i64 (n : Int)] [] (fun v Γ => ∃ gV mD vd S, v = .tuple #[hD gV, .int .i64 0] ∧ vd.oneCell' = true ∧ S.vw = ⟨f4, List.replicate n (secF 0), fun _ => [], 0⟩ ∧ DInv n 0 S ∧ Γ = dvA gV mD vd S) := by
  refine (new_t n hn hn2).mono ?_
  rintro v Γ ⟨gV, mD, vd, rfl, hv, rfl⟩
  refine ⟨gV, mD, vd, ⟨f4, List.replicate n (secF 0), [], 0⟩, rfl, hv, by with_unfolding_all rfl, ⟨rfl, f4_in, List.length_replicate, .nil (by dsimp only; omega) (by dsimp only; omega)⟩, rfl⟩
theorem dwr_t (j : Nat) (bv : Value) (s : Sec) (h : DInv n k S) (hn : n ≤ 100000) (hk : k ≤ 90000) (hj : j < n) :
    Triple Try.prog 13 #[hD gV, .int .i64 (j : Int), bv] ([rb bv s.b] ++ dvA gV mD vd S) (RD gV mD vd n (k + 1) (.int .i64 (S.vw.wr j s).2) (S.vw.wr j s).1) := by
  have h2 := h.fb 2 (by omega)
  have hg := getD_some (fu := S.fu) (k := 2) (by rw [h.f4]; omega)
  have hnl := h.nl
  refine Triple.permΓ (List.perm_append_comm (l₁ := [rb bv s.b])) ?_
  by_cases h0 : S.fu.getD 2 0 = 0
  · have hf : S.vw.fails 2 = true := by show decide (S.fu.getD 2 0 = 0) = true; rw [decide_eq_true h0]
    have hw : S.vw.wr j s = (S.vw.burn 2, 3) := by unfold Dv.wr; rw [if_pos hf]
    rw [hw]
    have c := writeF_t gV mD vd S.fu S.cn S.ls j bv s.b (by omega) s.len (by omega) h.f4 (by rw [hg, h0])
    refine Triple.mono (Triple.permΓ ?_ (Triple.frameT (Γf := [mp secM mD S.es, bag S.es]) c ownsV)) ?_
    · exact (List.Perm.append_left [bx gV 79 (dvc S.fu vd mD S.cn), rowN 81 256 vd S.ls.length (secs S.ls)] (List.perm_append_comm (l₁ := [mp secM mD S.es, bag S.es]) (l₂ := [rb bv s.b])))
    · rintro v Γ' ⟨Γ1, ⟨rfl, rfl⟩, rfl⟩
      have := h.burn (j := 2) (by omega)
      rw [h0] at this
      exact ⟨_, rfl, by show _ = Dv.mk (fburn S.fu 2 (S.fu.getD 2 0)) S.ls S.vw.ws S.cn; rw [h0]; rfl, this.mono (Nat.le_succ _), rfl⟩
  · have hf : S.vw.fails 2 = false := by show decide (S.fu.getD 2 0 = 0) = false; rw [decide_eq_false h0]
    have hw : S.vw.wr j s = ({ S.vw.burn 2 with ws := updW S.vw.ws j (S.vw.ws j ++ [s]), cn := S.vw.cn + 1 }, 0) := by unfold Dv.wr; rw [if_neg (by rw [hf]; simp)]
    rw [hw]
    have hc0 := h.ok.c0
    have hc1 := h.ok.c1
    have c := write_t gV mD vd S.fu S.cn S.ls S.es j (S.fu.getD 2 0) bv s (by omega) (by omega) h.f4 hg h2.1 h2.2 h0 ⟨hc0, by omega⟩ (Nat.le_trans (h.ok.mget_len _) (by omega))
    refine Triple.mono c ?_
    rintro v Γ' ⟨wv, rfl, rfl⟩
    refine ⟨⟨fburn S.fu 2 (S.fu.getD 2 0), S.ls, mput S.es (j : Int) ⟨wv, (mget secM S.es (j : Int)).ws ++ [s]⟩, S.cn + 1⟩, rfl, ?_, ⟨(h.burn (j := 2) (by omega)).f4, (h.burn (j := 2) (by omega)).fb, h.nl, h.ok.put hj wv s⟩, rfl⟩
    show Dv.mk _ _ _ _ = Dv.mk _ _ _ _
    congr 1
    funext i
    show (mget secM (mput S.es (j : Int) _) (i : Int)).ws = updW _ j _ i
    rw [mgetw_put]
    unfold updW
    by_cases hij : i = j
    · subst hij; rw [if_pos rfl, if_pos rfl]; rfl
    · rw [if_neg (by omega), if_neg hij]; rfl
theorem dwrNo_t (i : Int) (bv : Value) (l : List UInt8) (h : DInv n k S) (hn : n ≤ 100000) (hl : l.length ≤ 100000) (hi : i < 0 ∨ (n : Int) ≤ i ∨ l.length ≠ 256) :
    Triple Try.prog 13 #[hD gV, .int .i64 i, bv] ([rb bv l] ++ dvA gV mD vd S) (RTurns (.int .i64 1) (dvA gV mD vd S)) := by
  have hnl := h.nl
  refine Triple.permΓ (List.perm_append_comm (l₁ := [rb bv l])) ?_
  have c1 := writeNo_t gV mD vd S.fu S.cn S.ls i bv l (by omega) (by omega) (by omega)
  exact Triple.keep (Γk := dvA gV mD vd S) (Γr := [rb bv l]) c1 provsG ownsV
theorem drd_t (j : Nat) (h : DInv n k S) (hn : n ≤ 100000) (hk : k ≤ 100000) (hj : j < n) :
    Triple Try.prog 16 #[hD gV, .int .i64 (j : Int)] (dvA gV mD vd S) (RDr gV mD vd n k (S.vw.rd j).2.1 (S.vw.rd j).2.2 (S.vw.rd j).1) := by
  have h2 := h.fb 1 (by omega)
  have hg := getD_some (fu := S.fu) (k := 1) (by rw [h.f4]; omega)
  have hnl := h.nl
  have hjl : j < S.ls.length := by omega
  have c := read_t gV mD vd S.fu S.cn S.ls S.es j (S.fu.getD 1 0) hjl (by omega) h.f4 hg h2.1 h2.2 (by rw [hnl]; exact h.ok.eok hk)
  rw [nowS_vw (List.getElem?_eq_getElem hjl)] at c
  refine c.mono ?_
  rintro v Γ' ⟨s, rfl, hs, rfl⟩
  have hi := h.burn (j := 1) (by omega)
  by_cases h0 : S.fu.getD 1 0 = 0
  · have hf : S.vw.fails 1 = true := by show decide (S.fu.getD 1 0 = 0) = true; rw [decide_eq_true h0]
    have hw : S.vw.rd j = (S.vw.burn 1, [], 3) := by unfold Dv.rd; rw [if_pos hf]
    rw [hw, if_pos h0, if_pos h0]
    exact ⟨_, s, rfl, hs, rfl, hi, rfl⟩
  · have hf : S.vw.fails 1 = false := by show decide (S.fu.getD 1 0 = 0) = false; rw [decide_eq_false h0]
    have hw : S.vw.rd j = (S.vw.burn 1, (S.vw.now j).b, 0) := by unfold Dv.rd; rw [if_neg (by rw [hf]; simp)]
    rw [hw, if_neg h0, if_neg h0]
    exact ⟨_, s, rfl, hs, rfl, hi, rfl⟩
theorem drdNo_t (i : Int) (h : DInv n k S) (hn : n ≤ 100000) (hi : i < 0 ∨ (n : Int) ≤ i) :
    Triple Try.prog 16 #[hD gV, .int .i64 i] (dvA gV mD vd S) (RDr gV mD vd n k [] 1 S.vw) := by
  have hnl := h.nl
  have c := readNo_t gV mD vd S.fu S.cn S.ls i (by omega) (by omega)
  refine Triple.mono (Triple.frameT (Γf := [mp secM mD S.es, bag S.es]) c ownsV) ?_
  rintro v Γ' ⟨Γ1, ⟨s, rfl, hs, rfl⟩, rfl⟩
  exact ⟨S, s, rfl, hs, rfl, h, rfl⟩
theorem dfl_t (h : DInv n k S) (hn : n ≤ 100000) (hk : k ≤ 100000) :
    Triple Try.prog 15 #[hD gV] (dvA gV mD vd S) (RD gV mD vd n k (.int .i64 S.vw.flush.2) S.vw.flush.1) := by
  have h2 := h.fb 3 (by omega)
  have hg := getD_some (fu := S.fu) (k := 3) (by rw [h.f4]; omega)
  have hnl := h.nl
  have hi := h.burn (j := 3) (by omega)
  by_cases h0 : S.fu.getD 3 0 = 0
  · have hf : S.vw.fails 3 = true := by show decide (S.fu.getD 3 0 = 0) = true; rw [decide_eq_true h0]
    have hw : S.vw.flush = (S.vw.burn 3, 3) := by unfold Dv.flush; rw [if_pos hf]
    rw [hw]
    have c := flushF_t gV mD vd S.fu S.cn h.f4 (by rw [hg, h0])
    refine Triple.mono (Triple.frameT (Γf := [rowN 81 256 vd S.ls.length (secs S.ls), mp secM mD S.es, bag S.es]) c ownsV) ?_
    rintro v Γ' ⟨Γ1, ⟨rfl, rfl⟩, rfl⟩
    rw [h0] at hi
    exact ⟨_, rfl, by show _ = Dv.mk (fburn S.fu 3 (S.fu.getD 3 0)) S.ls S.vw.ws S.cn; rw [h0]; rfl, hi, rfl⟩
  · have hf : S.vw.fails 3 = false := by show decide (S.fu.getD 3 0 = 0) = false; rw [decide_eq_false h0]
    have hw : S.vw.flush = ({ S.vw.burn 3 with ls := S.vw.nows, ws := fun _ => [] }, 0) := by unfold Dv.flush; rw [if_neg (by rw [hf]; simp)]
    rw [hw]
    have c := flush_t gV mD vd S.fu S.cn S.ls S.es (S.fu.getD 3 0) (by omega) h.f4 hg h2.1 h2.2 h0 (by rw [hnl]; exact h.ok.eok hk)
    rw [nowAll_vw] at c
    refine c.mono ?_
    rintro v Γ' ⟨rfl, rfl⟩
    have hl : S.vw.nows.length = S.ls.length := by unfold Dv.nows; rw [List.length_mapIdx]; rfl
    refine ⟨⟨fburn S.fu 3 (S.fu.getD 3 0), S.vw.nows, [], S.cn⟩, rfl, ?_, ⟨hi.f4, hi.fb, by show S.vw.nows.length = n; rw [hl, hnl], ⟨(fun y hy => by cases hy), Nat.zero_le _, h.ok.c0, h.ok.c1⟩⟩, ?_⟩
    · show Dv.mk _ _ _ _ = Dv.mk _ _ _ _
      congr 1
      with_unfolding_all rfl
    · show _ = [_, rowN _ 256 vd S.vw.nows.length _, _, _]
      rw [hl]
theorem dcrash0_t (h : DInv n k S) (hn : n ≤ 100000) (hk : k ≤ 100000) :
    Triple Try.prog 17 #[hD gV, .slice none 0 0] (dvA gV mD vd S) (RD gV mD vd n k (resV []) S.vw.crash0) := by
  have hnl := h.nl
  have hle := h.ok.len
  have c := crash_t gV mD vd S.fu S.cn S.ls S.es (.slice none 0 0) [] (by simp) (fun a h => by cases h) (by omega) (by omega) h.f4 (by rw [hnl]; exact h.ok.eok hk)
  have h0 : intsV [] = [] := by with_unfolding_all rfl
  have hcr : ∀ m, crashT S.es [] (skeys S.es) m S.ls = S.ls := by
    intro m
    induction m with
    | zero => with_unfolding_all rfl
    | succ m ih => with_unfolding_all (show crash1 S.es [] (crashT S.es [] (skeys S.es) m S.ls) m _ = _; unfold crash1; exact ih)
  rw [h0, hcr] at c
  refine Triple.mono (Triple.noArg (Γo := dvA gV mD vd S) c) ?_
  rintro v Γ' ⟨rfl, rfl⟩
  refine ⟨⟨f4, S.ls, [], S.cn⟩, rfl, by with_unfolding_all rfl, ⟨rfl, f4_in, hnl, ⟨(fun y hy => by cases hy), Nat.zero_le _, h.ok.c0, h.ok.c1⟩⟩, rfl⟩
theorem dfail_t (w a : Int) (h : DInv n k S) (ha : in64 a) :
    Triple Try.prog 28 #[hD gV, .int .i64 w, .int .i64 a] (dvA gV mD vd S) (RD gV mD vd n k (.int .i64 (S.vw.fail w a).2) (S.vw.fail w a).1) := by
  by_cases hg : fgood w a = true
  · have hw : S.vw.fail w a = ({ S.vw with fu := S.vw.fu.set w.toNat a }, 0) := by unfold Dv.fail; rw [if_pos hg]
    rw [hw]
    unfold fgood at hg
    rw [Bool.and_eq_true, Bool.and_eq_true, decide_eq_true_eq, decide_eq_true_eq, decide_eq_true_eq] at hg
    obtain ⟨⟨g1, g2⟩, g3⟩ := hg
    obtain ⟨j, rfl⟩ : ∃ j : Nat, w = (j : Int) := ⟨w.toNat, by omega⟩
    have hjl : j < (intsV S.fu).length := by rw [intsV_len, h.f4]; omega
    have hj4 : j < 4 := by omega
    refine Triple.enter Try.func28 rfl Try.ntmps28 rfl (fun W => ?_)
    dsimp only [argsF, Nat.reduceAdd]
    repeat' (first
     | refine WPl.nil ?_ | refine WPq.then ?_ | refine WPq.thenR ?_ | refine WPq.thenE ?_ | refine WPq.blockN ?_ | refine WPq.blockR ?_ | refine WPq.blockE ?_ | refine WPq.blockO rfl ?_ | refine WPc.seq ?_ | refine WPc.block ?_ | refine WPc.ret ?_ | refine WPc.exit ?_ | refine WPc.skip ?_ | refine WPc.region ?_
     | (refine isCond ?_; first | refine WPc.cT ?_ | refine WPc.cF ?_ | (refine WPc.cQ (fun hc => ?_) (fun hc => ?_) <;> try exact prA))
     | (refine isD 8 ?_; refine WPl.rdX (readP) ?_)
     | (refine isD 11 ?_; refine WPl.rdX (ReadR.binE rfl rfl BinR.lss (congrArg Value.bool (decide_eq_false (by omega)))) ?_)
     | (refine isD 15 ?_; refine WPl.rdX (ReadR.binE rfl rfl BinR.gtr (congrArg Value.bool (decide_eq_false (by omega)))) ?_)
     | (refine isD 19 ?_; refine WPl.rdX (ReadR.binE rfl rfl BinR.lss (congrArg Value.bool (decide_eq_false (by omega)))) ?_)
     | (show WPl _ _ _ _ _ _ _ (⟨none, .store _ (.tmp 26) _, _, _, _, _⟩ :: _) _; refine WPl.turn (.cons takeA .nil) rfl rfl (OpT.storeR (i := j) rfl rfl (.cons takeA .nil) rfl rfl hjl rfl) ?_)
     | (refine isOp ?_; first | refine WPl.rd ?_ | refine WPl.sk ?_ | refine WPl.rdB ?_)
     | (refine isSt ?_; first | refine WPl.st1 ?_ | refine WPl.stA ?_ | refine WPl.stEB ?_ | refine WPl.stRB ?_)
     | (show WPl _ _ _ _ _ _ _ (⟨_, .indexAddr _ _ _, _, _, _, _⟩ :: _) _; refine WPl.rdX (ReadR.indexE rfl rfl hasA (by first | assumption | omega)) ?_)
     | (show WPl _ _ _ _ _ _ _ (⟨_, .fieldAddr _ _ _, _, _, _, _⟩ :: _) _; refine WPl.rdX (ReadR.fieldE rfl hasA (by first | assumption | omega)) ?_)
     | (show WPl _ _ _ _ _ _ _ (⟨_, .load _ _, _, _, _, _⟩ :: _) _; first | refine WPl.rdX (ReadR.loadE rfl hasA (by assumption)) ?_ | refine WPl.rdX (ReadR.loadES (by assumption) (by first | assumption | omega) rfl hasA) ?_)
     | (show WPl _ _ _ _ _ _ _ (⟨_, .slice _ _ _ _ _, _, _, _, _⟩ :: _) _; first | refine WPl.rdX (ReadR.sliceH rfl rfl hasA (by omega)) ?_ | refine WPl.rdX (ReadR.sliceL rfl rfl hasA (by omega)) ?_ | refine WPl.rdX (ReadR.sliceLH rfl rfl rfl hasA (by omega) (by omega)) ?_)
     | (refine WPl.spQ (fun hc => ?_) (fun hc => ?_) <;> try exact prA)
     | fail)
    have h2 : dvc (S.fu.set j a) vd mD S.cn = [(4, (intsV S.fu).set j (.int .i64 a)), (1, [vd]), (1, [.map (some mD)]), (1, [.int .i64 S.cn])] := by rw [intsV_set]
    exact WPq.dX (ho := ownsV) (vs := [.int .i64 0]) [bx gV 79 [(4, (intsV S.fu).set j (.int .i64 a)), (1, [vd]), (1, [.map (some mD)]), (1, [.int .i64 S.cn])], rowN 81 256 vd S.ls.length (secs S.ls), mp secM mD S.es, bag S.es] ⟨{ S with fu := S.fu.set j a }, rfl, rfl, ⟨by show (S.fu.set j a).length = 4; rw [List.length_set]; exact h.f4, fun i hi => set_in h.fb h.f4 ⟨by omega, ha.2⟩ i hi, h.nl, h.ok⟩, by show _ = [bx gV _ (dvc (S.fu.set j a) vd mD S.cn), _, _, _]; rw [h2]⟩
  · have hw : S.vw.fail w a = (S.vw, 1) := by unfold Dv.fail; rw [if_neg hg]
    rw [hw]
    unfold fgood at hg
    rw [Bool.and_eq_true, Bool.and_eq_true, decide_eq_true_eq, decide_eq_true_eq, decide_eq_true_eq] at hg
    refine Triple.enter Try.func28 rfl Try.ntmps28 rfl (fun W => ?_)
    dsimp only [argsF, Nat.reduceAdd]
    by_cases g1 : w < 1
    · skip
      repeat' (first
       | refine WPl.nil ?_ | refine WPq.then ?_ | refine WPq.thenR ?_ | refine WPq.thenE ?_ | refine WPq.blockN ?_ | refine WPq.blockR ?_ | refine WPq.blockE ?_ | refine WPq.blockO rfl ?_ | refine WPc.seq ?_ | refine WPc.block ?_ | refine WPc.ret ?_ | refine WPc.exit ?_ | refine WPc.skip ?_ | refine WPc.region ?_
       | (refine isCond ?_; first | refine WPc.cT ?_ | refine WPc.cF ?_ | (refine WPc.cQ (fun hc => ?_) (fun hc => ?_) <;> try exact prA))
       | (refine isD 8 ?_; refine WPl.rdX (readP) ?_)
       | (refine isD 11 ?_; refine WPl.rdX (ReadR.binE rfl rfl BinR.lss (congrArg Value.bool (decide_eq_true g1))) ?_)
       | (refine isOp ?_; first | refine WPl.rd ?_ | refine WPl.sk ?_ | refine WPl.rdB ?_)
       | (refine isSt ?_; first | refine WPl.st1 ?_ | refine WPl.stA ?_ | refine WPl.stEB ?_ | refine WPl.stRB ?_)
       | (show WPl _ _ _ _ _ _ _ (⟨_, .indexAddr _ _ _, _, _, _, _⟩ :: _) _; refine WPl.rdX (ReadR.indexE rfl rfl hasA (by first | assumption | omega)) ?_)
       | (show WPl _ _ _ _ _ _ _ (⟨_, .fieldAddr _ _ _, _, _, _, _⟩ :: _) _; refine WPl.rdX (ReadR.fieldE rfl hasA (by first | assumption | omega)) ?_)
       | (show WPl _ _ _ _ _ _ _ (⟨_, .load _ _, _, _, _, _⟩ :: _) _; first | refine WPl.rdX (ReadR.loadE rfl hasA (by assumption)) ?_ | refine WPl.rdX (ReadR.loadES (by assumption) (by first | assumption | omega) rfl hasA) ?_)
       | (show WPl _ _ _ _ _ _ _ (⟨_, .slice _ _ _ _ _, _, _, _, _⟩ :: _) _; first | refine WPl.rdX (ReadR.sliceH rfl rfl hasA (by omega)) ?_ | refine WPl.rdX (ReadR.sliceL rfl rfl hasA (by omega)) ?_ | refine WPl.rdX (ReadR.sliceLH rfl rfl rfl hasA (by omega) (by omega)) ?_)
       | (refine WPl.spQ (fun hc => ?_) (fun hc => ?_) <;> try exact prA)
       | fail)
      exact WPq.dX (ho := ownsV) (vs := [.int .i64 1]) (dvA gV mD vd S) ⟨S, rfl, rfl, h, rfl⟩
    by_cases g2 : w > 3
    · skip
      repeat' (first
       | refine WPl.nil ?_ | refine WPq.then ?_ | refine WPq.thenR ?_ | refine WPq.thenE ?_ | refine WPq.blockN ?_ | refine WPq.blockR ?_ | refine WPq.blockE ?_ | refine WPq.blockO rfl ?_ | refine WPc.seq ?_ | refine WPc.block ?_ | refine WPc.ret ?_ | refine WPc.exit ?_ | refine WPc.skip ?_ | refine WPc.region ?_
       | (refine isCond ?_; first | refine WPc.cT ?_ | refine WPc.cF ?_ | (refine WPc.cQ (fun hc => ?_) (fun hc => ?_) <;> try exact prA))
       | (refine isD 8 ?_; refine WPl.rdX (readP) ?_)
       | (refine isD 11 ?_; refine WPl.rdX (ReadR.binE rfl rfl BinR.lss (congrArg Value.bool (decide_eq_false g1))) ?_)
       | (refine isD 15 ?_; refine WPl.rdX (ReadR.binE rfl rfl BinR.gtr (congrArg Value.bool (decide_eq_true g2))) ?_)
       | (refine isOp ?_; first | refine WPl.rd ?_ | refine WPl.sk ?_ | refine WPl.rdB ?_)
       | (refine isSt ?_; first | refine WPl.st1 ?_ | refine WPl.stA ?_ | refine WPl.stEB ?_ | refine WPl.stRB ?_)
       | (show WPl _ _ _ _ _ _ _ (⟨_, .indexAddr _ _ _, _, _, _, _⟩ :: _) _; refine WPl.rdX (ReadR.indexE rfl rfl hasA (by first | assumption | omega)) ?_)
       | (show WPl _ _ _ _ _ _ _ (⟨_, .fieldAddr _ _ _, _, _, _, _⟩ :: _) _; refine WPl.rdX (ReadR.fieldE rfl hasA (by first | assumption | omega)) ?_)
       | (show WPl _ _ _ _ _ _ _ (⟨_, .load _ _, _, _, _, _⟩ :: _) _; first | refine WPl.rdX (ReadR.loadE rfl hasA (by assumption)) ?_ | refine WPl.rdX (ReadR.loadES (by assumption) (by first | assumption | omega) rfl hasA) ?_)
       | (show WPl _ _ _ _ _ _ _ (⟨_, .slice _ _ _ _ _, _, _, _, _⟩ :: _) _; first | refine WPl.rdX (ReadR.sliceH rfl rfl hasA (by omega)) ?_ | refine WPl.rdX (ReadR.sliceL rfl rfl hasA (by omega)) ?_ | refine WPl.rdX (ReadR.sliceLH rfl rfl rfl hasA (by omega) (by omega)) ?_)
       | (refine WPl.spQ (fun hc => ?_) (fun hc => ?_) <;> try exact prA)
       | fail)
      exact WPq.dX (ho := ownsV) (vs := [.int .i64 1]) (dvA gV mD vd S) ⟨S, rfl, rfl, h, rfl⟩
    · have g3 : a < 0 := by omega
      repeat' (first
       | refine WPl.nil ?_ | refine WPq.then ?_ | refine WPq.thenR ?_ | refine WPq.thenE ?_ | refine WPq.blockN ?_ | refine WPq.blockR ?_ | refine WPq.blockE ?_ | refine WPq.blockO rfl ?_ | refine WPc.seq ?_ | refine WPc.block ?_ | refine WPc.ret ?_ | refine WPc.exit ?_ | refine WPc.skip ?_ | refine WPc.region ?_
       | (refine isCond ?_; first | refine WPc.cT ?_ | refine WPc.cF ?_ | (refine WPc.cQ (fun hc => ?_) (fun hc => ?_) <;> try exact prA))
       | (refine isD 8 ?_; refine WPl.rdX (readP) ?_)
       | (refine isD 11 ?_; refine WPl.rdX (ReadR.binE rfl rfl BinR.lss (congrArg Value.bool (decide_eq_false g1))) ?_)
       | (refine isD 15 ?_; refine WPl.rdX (ReadR.binE rfl rfl BinR.gtr (congrArg Value.bool (decide_eq_false g2))) ?_)
       | (refine isD 19 ?_; refine WPl.rdX (ReadR.binE rfl rfl BinR.lss (congrArg Value.bool (decide_eq_true g3))) ?_)
       | (refine isOp ?_; first | refine WPl.rd ?_ | refine WPl.sk ?_ | refine WPl.rdB ?_)
       | (refine isSt ?_; first | refine WPl.st1 ?_ | refine WPl.stA ?_ | refine WPl.stEB ?_ | refine WPl.stRB ?_)
       | (show WPl _ _ _ _ _ _ _ (⟨_, .indexAddr _ _ _, _, _, _, _⟩ :: _) _; refine WPl.rdX (ReadR.indexE rfl rfl hasA (by first | assumption | omega)) ?_)
       | (show WPl _ _ _ _ _ _ _ (⟨_, .fieldAddr _ _ _, _, _, _, _⟩ :: _) _; refine WPl.rdX (ReadR.fieldE rfl hasA (by first | assumption | omega)) ?_)
       | (show WPl _ _ _ _ _ _ _ (⟨_, .load _ _, _, _, _, _⟩ :: _) _; first | refine WPl.rdX (ReadR.loadE rfl hasA (by assumption)) ?_ | refine WPl.rdX (ReadR.loadES (by assumption) (by first | assumption | omega) rfl hasA) ?_)
       | (show WPl _ _ _ _ _ _ _ (⟨_, .slice _ _ _ _ _, _, _, _, _⟩ :: _) _; first | refine WPl.rdX (ReadR.sliceH rfl rfl hasA (by omega)) ?_ | refine WPl.rdX (ReadR.sliceL rfl rfl hasA (by omega)) ?_ | refine WPl.rdX (ReadR.sliceLH rfl rfl rfl hasA (by omega) (by omega)) ?_)
       | (refine WPl.spQ (fun hc => ?_) (fun hc => ?_) <;> try exact prA)
       | fail)
      exact WPq.dX (ho := ownsV) (vs := [.int .i64 1]) (dvA gV mD vd S) ⟨S, rfl, rfl, h, rfl⟩
end
end Go.Proofs.Ytepmikgjnmjheaa
