/- Separation: copy, make, min and max; what is read of blocks that go with it. -/
import Derived.Test.YtpjfkomicehinaaBit
import Derived.Laws.CopyOwn
import Derived.Deep.OwnRows
namespace Go.Proofs.Ytpjfkomicehinaa
open Go.RowKit
set_option linter.unusedSimpArgs false
set_option linter.unusedVariables false

/-- A row that is read, whose block goes with it. -/
def hdN (v : Value) (n : Nat) (xs : List Value) : Asn where
  own := true
  fp := (rdN v n xs).fp
  holds := (rdN v n xs).holds
  lt := (rdN v n xs).lt
  loc := (rdN v n xs).loc
theorem HasS.hd {Γ : List Asn} {v : Value} {n : Nat} {xs : List Value} (h : hdN v n xs ∈ Γ) : HasS Γ v n xs := fun w hw => hw _ h
def RHd (n : Nat) (xs : List Value) : Value → List Asn → Prop := fun v Γ => v.oneCell' = true ∧ Γ = [hdN v n xs]
/-- A slice of one's own, and another value. -/
def RRow2 (e : TypeId) (sz m : Nat) (xs : List Value) (c : Value) : Value → List Asn → Prop := fun v Γ => ∃ s, v = .tuple #[s, c] ∧ s.oneCell' = true ∧ Γ = [rowN e sz s m xs]
/-- A value with another one that is said to be so. -/
def tup (v : Value) (i : Nat) : Value := match v with | .tuple vs => vs.getD i undef | _ => undef

section
variable {P : Program} {n : Nat} {W : World} {S : Nat → Prop} {Γ : List Asn} {F : List (Nat × Value)} {Q : Exit → Act → World → Prop}
variable {d : Option Tmp} {ty : TypeId} {pos : String} {af : Array Edge} {gd : Option (Nat × Bool)}

theorem WPq.asHd {e : Exit} {g : Nat} {T : TypeId} {cs : Ch} {v : Value} {m : Nat} {xs : List Value} {Γf : List Asn} (hp : Take Γ (bx g T cs) Γf) (hv : HasS [bx g T cs] v m xs) (hb : v.ownBlock = some g) (k : WPq n W S (hdN v m xs :: Γf) F Q e) : WPq n W S Γ F Q e := by
  intro a w hf hg
  have hg' := hg.perm (Takes.cons hp .nil : Takes Γ [bx g T cs] Γf)
  refine k a w hf (hg'.step (Post.one (Mod.refl _ _) ?_ ?_))
  · exact hv w fun A hA => hg'.all A (List.mem_append_left _ hA)
  · rintro g' ⟨_, h⟩
    rw [hb] at h; cases h
    exact .inr ⟨_, List.mem_singleton.2 rfl, rfl, rfl⟩

theorem WPq.doneH {fn : Func} {rs : List ResultVar} {v : Value} {m : Nat} {us : List Value} {Γx : List Asn} {ex : Exit} (he : ex = .ret ∨ ex = .normal) (hr : fn.results = rs.toArray) (h : ResF P Γ F rs [v]) (hp : Take Γ (hdN v m us) Γx) (h1 : v.oneCell' = true) :
    WPq n W S Γ F (Done P fn W S (RHd m us)) ex :=
  WPq.done he hr h (.cons hp .nil) (fun A hA => by rw [List.mem_singleton.1 hA]; rfl) ⟨h1, rfl⟩
theorem WPq.doneR2 {fn : Func} {rs : List ResultVar} {v c : Value} {e : TypeId} {sz m : Nat} {us : List Value} {Γx : List Asn} {ex : Exit} (he : ex = .ret ∨ ex = .normal) (hr : fn.results = rs.toArray) (h : ResF P Γ F rs [v, c]) (hp : Take Γ (rowN e sz v m us) Γx) (h1 : v.oneCell' = true) :
    WPq n W S Γ F (Done P fn W S (RRow2 e sz m us c)) ex :=
  WPq.done he hr h (.cons hp .nil) (fun A hA => by rw [List.mem_singleton.1 hA]; rfl) ⟨v, rfl, h1, rfl⟩

/-! ### min, max -/

theorem ReadR.min {x y : Operand} {ts : Array TypeId} {k : IntKind} {a b : Int} (hx : evF F x = some (.int k a)) (hy : evF F y = some (.int k b)) :
    ReadR P n Γ F ⟨d, .call { callee := .builtin .min, args := #[x, y], argTypes := ts }, ty, pos, af, gd⟩ (.int k (if b < a then b else a)) := fun ρ w hf hw => by
  simp [execOp, resolve, invoke, builtin, hf.eval hx, hf.eval hy, run_min_int2]
theorem ReadR.max {x y : Operand} {ts : Array TypeId} {k : IntKind} {a b : Int} (hx : evF F x = some (.int k a)) (hy : evF F y = some (.int k b)) :
    ReadR P n Γ F ⟨d, .call { callee := .builtin .max, args := #[x, y], argTypes := ts }, ty, pos, af, gd⟩ (.int k (if b > a then b else a)) := fun ρ w hf hw => by
  simp [execOp, resolve, invoke, builtin, hf.eval hx, hf.eval hy, run_max_int2]

/-! ### make -/

theorem OpT.make {T e : TypeId} {z : Value} {bytes : Nat} [hT : SliI P T e] [he : EltI P e z bytes] {x y : Operand} {k1 k2 : IntKind} {m : Nat} (hx : evF F x = some (.int k1 (Int.ofNat m))) (hy : evF F y = some (.int k2 (Int.ofNat m))) (hm : m ≤ 1099511627776) (hby : bytes ≤ 128) (hz1 : z.cells = #[z]) :
    OpT P n Γ F ⟨d, .makeSlice T x y, ty, pos, af, gd⟩ [] (RRow e 1 m (List.replicate m z)) := fun ρ w hf hw _ => by
  have hb : bytes * m ≤ 281474976710656 := by
    have : bytes * m ≤ 128 * 1099511627776 := Nat.mul_le_mul hby hm
    omega
  have hrun := run_make_row' (P := P) T e z bytes hT.und he.info hz1 k1 k2 m hb (by omega) w
  have : (execOp ρ.eval ⟨d, .makeSlice T x y, ty, pos, af, gd⟩).run P w = .ok (.value (.slice (some ⟨w.heap.size, 0, none⟩) m m)) (w.alloc (.cells (madeCells #[z] m) e)) := by
    simp only [execOp, hf.eval hx, hf.eval hy]
    simp only [Int.ofNat_eq_natCast, Sem.run_bind, hrun, Result.andThen_ok, Sem.run_pure]
  unfold DoesW
  rw [this]
  have hl : (madeCells #[z] m).toList = List.replicate m z := by
    have : ∀ m, (List.map (fun x => [z][x % 1]?.getD default) (List.range m)) = List.replicate m z := by
      intro m
      induction m with
      | zero => rfl
      | succ m ih => rw [List.range_succ, List.map_append, ih, List.replicate_succ']; simp [Nat.mod_one]
    rw [← this]
    simp [madeCells]
  refine ⟨_, ⟨rfl, rfl⟩, .one (Mod.alloc _ _ _) ⟨by simp, .inr ⟨w.heap.size, m, madeCells #[z] m, rfl, Nat.zero_le _, alloc_new _ _, Nat.le_refl _, by unfold maxLen; omega, ?_, ?_⟩⟩ fun g hg => .inl ?_⟩
  · rw [← Array.length_toList, hl]; simp
  · rw [hl]; simp
  · cases hg; exact Nat.le_refl _
theorem OpT.makeB {T : TypeId} {bytes : Nat} [hT : SliI P T 5] [he : EltI P 5 (.int .u8 0) bytes] {x y : Operand} {k1 k2 : IntKind} {m : Nat} (hx : evF F x = some (.int k1 (Int.ofNat m))) (hy : evF F y = some (.int k2 (Int.ofNat m))) (hm : m ≤ 1099511627776) (hby : Nat.ble bytes 128 = true) :
    OpT P n Γ F ⟨d, .makeSlice T x y, ty, pos, af, gd⟩ [] (ROb (List.replicate m 0)) := by
  have := OpT.make (P := P) (n := n) (Γ := Γ) (d := d) (ty := ty) (pos := pos) (af := af) (gd := gd) (T := T) hx hy hm (Nat.le_of_ble_eq_true hby) rfl
  have e : List.replicate m (Value.int .u8 0) = u8s (List.replicate m 0) := by simp [u8s]
  rw [e] at this
  unfold ROb
  rw [List.length_replicate]
  exact this

/-! ### copy -/

/-- Bytes laid over others, from a place on. -/
def over (l : List UInt8) (k : Nat) (new : List UInt8) : List UInt8 := l.take k ++ (new ++ l.drop (k + new.length))
@[simp] theorem over_length {l new : List UInt8} {k : Nat} (h : k + new.length ≤ l.length) : (over l k new).length = l.length := by simp [over]; omega
theorem over_u8s (l new : List UInt8) (k : Nat) : u8s (over l k new) = (u8s l).take k ++ (u8s new ++ (u8s l).drop (k + (u8s new).length)) := by
  simp [over, u8s_append, u8s_take, u8s_drop, u8s_length]

inductive OvC (new : List UInt8) : Ch → Nat → Ch → Prop
  | here {m k : Nat} {l : List UInt8} {cs : Ch} (hk : Nat.blt k m = true) (h : k + new.length ≤ l.length) : OvC new ((m, u8s l) :: cs) k ((m, u8s (over l k new)) :: cs)
  | there {c : Nat × List Value} {cs cs' : Ch} {o : Nat} (hc : Nat.ble c.1 o = true) (h : OvC new cs (o - c.1) cs') : OvC new (c :: cs) o (c :: cs')
theorem OvC.run {new : List UInt8} {cs cs' : Ch} {o : Nat} (h : OvC new cs o cs') (hk : FOk cs) : FOk cs' ∧ flat cs' = (flat cs).take o ++ (u8s new ++ (flat cs).drop (o + (u8s new).length)) ∧ o + new.length ≤ (flat cs).length := by
  induction h with
  | @here m k l cs hm h =>
    have hl : l.length = m := by have := hk.len _ (List.mem_cons_self ..); simpa [u8s_length] using this
    have hfc : ∀ x : List Value, flat ((m, x) :: cs) = x ++ flat cs := fun x => flat_cons _ _
    refine ⟨.bytes (by rw [over_length h]; exact hl) ⟨fun c hc => hk.len c (List.mem_cons_of_mem _ hc), fun v hv => hk.one v (by rw [hfc]; exact List.mem_append_right _ hv)⟩, ?_, ?_⟩
    · rw [hfc, hfc, over_u8s, List.take_append_of_le_length (by rw [u8s_length]; omega), List.drop_append_of_le_length (by rw [u8s_length, u8s_length]; omega)]
      simp
    · rw [hfc, List.length_append, u8s_length]; omega
  | @there c cs cs' o hc h ih =>
    have hc' : c.1 ≤ o := Nat.le_of_ble_eq_true hc
    have hk' : FOk cs := ⟨fun c hc => hk.len c (List.mem_cons_of_mem _ hc), fun v hv => hk.one v (by rw [flat_cons]; exact List.mem_append_right _ hv)⟩
    obtain ⟨h1, h2, h3⟩ := ih hk'
    have hcl : c.2.length = c.1 := hk.len _ (List.mem_cons_self ..)
    refine ⟨.seg hcl (fun v hv => hk.one v (by rw [flat_cons]; exact List.mem_append_left _ hv)) h1, ?_, ?_⟩
    · rw [flat_cons, flat_cons, h2, List.take_append, List.drop_append, List.take_of_length_le (l := c.2) (by omega), List.drop_of_length_le (l := c.2) (by omega), hcl, List.append_assoc, List.nil_append, show o + (u8s new).length - c.1 = o - c.1 + (u8s new).length by omega]
    · rw [flat_cons, List.length_append]; omega

theorem run_copyU {P : Program} {dT sT e : TypeId} {ag : Bool} [hT : SliI P dT e] [he : TyI P e ag 1] {g o dLen dCap sLen sCap : Nat} {sp : Option Addr} {cur : List Value} {t : TypeId} {w : World} {l2 new : List UInt8} (ty : TypeId)
    (hg : w.heap[g]? = some (.cells cur.toArray t (0, 0))) (hr : Reads w (.slice sp sLen sCap) l2.length (u8s l2)) (hnew : l2.take dLen = new) (hfit : o + new.length ≤ cur.length) :
    (Builtin.copy_ #[dT, sT] ty #[.slice (some ⟨g, o, none⟩) dLen dCap, .slice sp sLen sCap]).run P w = .ok (goInt new.length) (if new.length = 0 then w else w.setRow g (cur.take o ++ (u8s new ++ cur.drop (o + (u8s new).length))).toArray) := by
  have hsz : (P.info? e).map (·.size) = some 1 := he.size
  obtain ⟨a, cap, hv, h1, h2, h3, h4⟩ := hr.at
  cases hv
  have hnl : new.length = Nat.min l2.length dLen := by rw [← hnew, List.length_take]; exact Nat.min_comm _ _
  by_cases h0 : new.length = 0
  · rw [if_pos h0, h0]
    exact run_copy_none w dT sT ty e _ _ dLen dCap _ _ hT.und hsz (by rw [← hnl, h0])
  · rw [if_neg h0]
    have hln : 0 < l2.length := by
      rcases Nat.eq_zero_or_pos l2.length with h | h
      · rw [h] at hnl; simp at hnl; exact absurd (by rw [hnl]; rfl) h0
      · exact h
    obtain ⟨ad, rfl, _⟩ := h4 0 _ (List.getElem?_eq_getElem (by rw [u8s_length]; exact hln))
    have hc : ∀ j v, (u8s new)[j]? = some v → w.cell? (ad.add j) = some v := by
      intro j v hj
      have hj' : (u8s l2)[j]? = some v := by
        rw [← hnew, ← u8s_take, List.getElem?_take] at hj
        split at hj
        · exact hj
        · cases hj
      obtain ⟨ad', e1, e2⟩ := h4 j v hj'
      cases e1; exact e2
    have := run_copy_row (P := P) w dT sT ty e g o dLen dCap ad l2.length sCap cur.toArray t (u8s new) hT.und hsz hg (by rw [u8s_length, hnl]) hc (by rw [u8s_length]; simpa using hfit) (u8s_one new)
    rw [this, u8s_length]
    simp

theorem run_copyOp {a : Act} {x y : Operand} {ts : Array TypeId} {u v : Value} (hx : a.eval x = u) (hy : a.eval y = v) {w w' : World} {r : Value} (h : (Builtin.copy_ ts ty #[u, v]).run P w = .ok r w') :
    (execOp a.eval ⟨d, .call { callee := .builtin .copy, args := #[x, y], argTypes := ts }, ty, pos, af, gd⟩).run P w = .ok (.value r) w' := by
  simp only [execOp, resolve, invoke, builtin, Sem.run_bind, Sem.run_pure, Result.andThen_ok, List.map_toArray, List.map_cons, List.map_nil, hx, hy, h]

/-- copy into an array of a block. -/
theorem OpT.copyA {dT sT e : TypeId} {ag : Bool} [hT : SliI P dT e] [he : TyI P e ag 1] {x y : Operand} {g o dLen dCap : Nat} {T' : TypeId} {cs cs' : Ch} {v2 : Value} {l2 new : List UInt8} {Γf : List Asn} (hx : evF F x = some (.slice (some ⟨g, o, none⟩) dLen dCap)) (hy : evF F y = some v2) (hp : Takes Γ [bx g T' cs] Γf) (h2 : HasS Γ v2 l2.length (u8s l2)) (hnew : l2.take dLen = new) (ho : OvC new cs o cs') :
    OpT P n Γ F ⟨d, .call { callee := .builtin .copy, args := #[x, y], argTypes := #[dT, sT] }, ty, pos, af, gd⟩ [bx g T' cs] (RLeave [bx g T' cs']) := fun ρ w hf hw _ => by
  have hb : (bx g T' cs).holds w := hw _ (hp.mem_iff.2 (List.mem_cons_self ..))
  obtain ⟨o1, o2, o3⟩ := ho.run hb.2
  have hr := h2 w hw
  obtain ⟨a, cap, hv, _⟩ := hr.at
  subst hv
  have hrun := run_copyU (P := P) (dT := dT) (sT := sT) ty hb.1 hr (dCap := dCap) hnew o3
  rw [← o2] at hrun
  unfold DoesW
  rw [run_copyOp (hf.eval hx) (hf.eval hy) hrun]
  have hg : ownFp [bx g T' cs] g := ⟨_, List.mem_singleton.2 rfl, rfl, rfl⟩
  by_cases h0 : new.length = 0
  · rw [if_pos h0]
    have : flat cs' = flat cs := by rw [o2, List.length_eq_zero_iff.1 h0]; simp [u8s]
    exact ⟨_, rfl, .one (Mod.refl _ _) ⟨by rw [this]; exact hb.1, o1⟩ fun g' hg' => .inr (by rw [show g' = g from hg']; exact hg)⟩
  · rw [if_neg h0]
    exact ⟨_, rfl, .one (Mod.setRow hg _ _) ⟨setRow_heap w g _ _ T' (0, 0) hb.1, o1⟩ fun g' hg' => .inr (by rw [show g' = g from hg']; exact hg)⟩

/-- copy into bytes of one's own, from a place on. -/
theorem OpT.copyE {dT sT : TypeId} [hT : SliI P dT 5] [he : TyI P 5 false 1] {x y : Operand} {s v2 : Value} {k dLen : Nat} {l l2 new : List UInt8} {Γf : List Asn} (hx : evF F x = some (subv 1 s k dLen)) (hy : evF F y = some v2) (hp : Takes Γ [ob s l] Γf) (h2 : HasS Γ v2 l2.length (u8s l2)) (hk : k + dLen ≤ l.length) (hnew : l2.take dLen = new) :
    OpT P n Γ F ⟨d, .call { callee := .builtin .copy, args := #[x, y], argTypes := #[dT, sT] }, ty, pos, af, gd⟩ [ob s l] (RLeave [ob s (over l k new)]) := fun ρ w hf hw _ => by
  have hb : (ob s l).holds w := hw _ (hp.mem_iff.2 (List.mem_cons_self ..))
  have hr := h2 w hw
  obtain ⟨a, cap2, hv, _⟩ := hr.at
  subst hv
  have hnl : new.length ≤ dLen := by rw [← hnew, List.length_take]; omega
  have hov : ob s (over l k new) = rowN 5 1 s l.length (u8s (over l k new)) := by unfold ob; rw [over_length (by omega)]
  rw [hov]
  have hstay : new.length = 0 → (rowN 5 1 s l.length (u8s (over l k new))).holds w := fun h0 => by
    have : over l k new = l := by rw [List.length_eq_zero_iff.1 h0]; simp [over]
    rw [this]; exact hb
  rcases hb.2 with ⟨hs, h0⟩ | ⟨g, cap, cur, hs, hB, hg, hnc, hcm, hcs, ht⟩
  · subst hs
    have hd0 : dLen = 0 := by omega
    subst hd0
    have hn0 : new.length = 0 := by omega
    have hrun : (Builtin.copy_ #[dT, sT] ty #[.slice none 0 0, .slice a l2.length cap2]).run P w = .ok (goInt 0) w := run_copy_none w dT sT ty 5 _ _ 0 0 _ _ hT.und he.size (Nat.min_zero _)
    unfold DoesW
    rw [run_copyOp (u := .slice none 0 0) (hf.eval hx) (hf.eval hy) hrun]
    exact ⟨_, rfl, .one (Mod.refl _ _) (hstay hn0) fun g' hg' => by cases hg'⟩
  · subst hs
    have hg' : ownFp [ob (.slice (some ⟨g, 0, none⟩) l.length cap) l] g := ⟨_, List.mem_singleton.2 rfl, rfl, rfl⟩
    by_cases hkc : cap = k
    · have hd0 : dLen = 0 := by omega
      have hn0 : new.length = 0 := by omega
      have hrun : (Builtin.copy_ #[dT, sT] ty #[.slice (some ⟨g, 0, none⟩) dLen (cap - k), .slice a l2.length cap2]).run P w = .ok (goInt 0) w := run_copy_none w dT sT ty 5 _ _ dLen _ _ _ hT.und he.size (by rw [hd0]; exact Nat.min_zero _)
      unfold DoesW
      rw [run_copyOp (u := .slice (some ⟨g, 0, none⟩) dLen (cap - k)) (by rw [hf.eval hx]; simp [subv, hkc]) (hf.eval hy) hrun]
      exact ⟨_, rfl, .one (Mod.refl _ _) (hstay hn0) fun k' hk' => .inr (by cases hk'; exact hg')⟩
    · have hrun := run_copyU (P := P) (dT := dT) (sT := sT) (e := 5) (o := k) (dCap := cap - k) (cur := cur.toList) (t := 5) (g := g) ty (by simpa using hg) hr hnew (by have : cur.toList.length = cap * 1 := by { simpa using hcs }; omega)
      unfold DoesW
      rw [run_copyOp (u := .slice (some ⟨g, k, none⟩) dLen (cap - k)) (by rw [hf.eval hx]; simp [subv, hkc, add_mk]) (hf.eval hy) hrun]
      by_cases hn0 : new.length = 0
      · rw [if_pos hn0]
        exact ⟨_, rfl, .one (Mod.refl _ _) (hstay hn0) fun k' hk' => .inr (by cases hk'; exact hg')⟩
      · rw [if_neg hn0]
        have hcl : cur.toList.length = cap := by simpa using hcs
        have hll := u8s_length l
        have hnl2 := u8s_length new
        refine ⟨_, rfl, .one (Mod.setRow hg' _ _) ⟨by rw [u8s_length, over_length (by omega)]; omega, .inr ⟨g, cap, _, rfl, hB, setRow_heap w g _ _ 5 (0, 0) hg, hnc, hcm, ?_, ?_⟩⟩ fun k' hk' => .inr (by cases hk'; exact hg')⟩
        · simp only [List.size_toArray, List.length_append, List.length_take, List.length_drop]; omega
        · rw [over_u8s, ← ht]
          simp only [Nat.mul_one, List.toList_toArray]
          rw [List.take_append, List.take_append, List.take_take, List.drop_take, List.take_take, List.length_take]
          congr 1
          · congr 1; omega
          · congr 1
            · rw [List.take_of_length_le (by omega)]
            · congr 1; omega


/-- Bytes of a block's array, as a slice sees them. -/
inductive BoxC : Ch → Nat → Nat → List UInt8 → Prop
  | all {m : Nat} {l : List UInt8} {cs : Ch} : BoxC ((m, u8s l) :: cs) 0 m l
  | part {m k n : Nat} {l : List UInt8} {cs : Ch} (hk : Nat.blt k m = true) (h : Nat.ble (k + n) m = true) : BoxC ((m, u8s l) :: cs) k n (seg l k n)
  | there {c : Nat × List Value} {cs : Ch} {o n : Nat} {l : List UInt8} (hc : Nat.ble c.1 o = true) (h : BoxC cs (o - c.1) n l) : BoxC (c :: cs) o n l
theorem BoxC.run {cs : Ch} {o n : Nat} {l : List UInt8} (h : BoxC cs o n l) (hk : chOk cs) : l.length = n ∧ ∀ i u, (u8s l)[i]? = some u → (flat cs)[o + i]? = some u := by
  induction h with
  | @all m l cs =>
    have hl : l.length = m := by have := hk _ (List.mem_cons_self ..); simpa [u8s_length] using this
    refine ⟨hl, fun i u hu => ?_⟩
    have hi := (List.getElem?_eq_some_iff.1 hu).1
    rw [flat_cons, Nat.zero_add, List.getElem?_append_left hi, hu]
  | @part m k n l cs hkm h =>
    have hl : l.length = m := by have := hk _ (List.mem_cons_self ..); simpa [u8s_length] using this
    have h' : k + n ≤ m := Nat.le_of_ble_eq_true h
    refine ⟨seg_length (by omega), fun i u hu => ?_⟩
    have hi := (List.getElem?_eq_some_iff.1 hu).1
    rw [u8s_length, seg_length (by omega)] at hi
    unfold seg at hu
    rw [← u8s_take, ← u8s_drop, List.getElem?_take, if_pos hi, List.getElem?_drop] at hu
    rw [flat_cons, List.getElem?_append_left (by rw [u8s_length]; omega), hu]
  | @there c cs o n l hc h ih =>
    have hc' : c.1 ≤ o := Nat.le_of_ble_eq_true hc
    obtain ⟨h1, h2⟩ := ih fun d hd => hk d (List.mem_cons_of_mem _ hd)
    refine ⟨h1, fun i u hu => ?_⟩
    have hcl : c.2.length = c.1 := hk _ (List.mem_cons_self ..)
    rw [flat_cons, List.getElem?_append_right (by omega), show o + i - c.2.length = o - c.1 + i by omega]
    exact h2 i u hu
theorem HasS.boxB {g : Nat} {T : TypeId} {cs : Ch} {o m c : Nat} {l : List UInt8} (h : bx g T cs ∈ Γ) (hb : BoxC cs o m l) (hc : Nat.ble m c = true) (hcm : Nat.ble c 1000000 = true) : HasS Γ (.slice (some ⟨g, o, none⟩) m c) l.length (u8s l) := fun w hw => by
  have hg := hw _ h
  obtain ⟨h1, h2⟩ := hb.run hg.2.len
  subst h1
  refine .inr ⟨_, c, rfl, Nat.le_of_ble_eq_true hc, by have := Nat.le_of_ble_eq_true hcm; unfold maxLen; omega, fun i u hu => ?_⟩
  rw [add_mk, bx_cell hg]
  exact h2 i u hu

theorem WPq.doneBH {fn : Func} {rs : List ResultVar} {g : Nat} {T : TypeId} {cs : Ch} {o c m : Nat} {l : List UInt8} {Γx : List Asn} {ex : Exit} (he : ex = .ret ∨ ex = .normal) (hr : fn.results = rs.toArray) (h : ResF P (hdN (.slice (some ⟨g, o, none⟩) m c) l.length (u8s l) :: Γx) F rs [.slice (some ⟨g, o, none⟩) m c]) (hp : Take Γ (bx g T cs) Γx) (hv : HasS [bx g T cs] (.slice (some ⟨g, o, none⟩) m c) l.length (u8s l)) :
    WPq n W S Γ F (Done P fn W S (RHd l.length (u8s l))) ex :=
  WPq.asHd hp hv rfl (WPq.doneH he hr h .here rfl)

/-! ### Arrays -/

theorem ReadR.toArrS {T e : TypeId} {m : Nat} [hT : ArrI P T m e] {x : Operand} {ad : Addr} {k c : Nat} (hx : evF F x = some (.slice (some ad) k c)) (hle : Nat.ble m k = true) :
    ReadR P n Γ F ⟨d, .sliceToArrayPointer T x, ty, pos, af, gd⟩ (.pointer (some ad)) := fun ρ w hf hw => by
  have : ¬ k < m := by have := Nat.le_of_ble_eq_true hle; omega
  simp [execOp, hf.eval hx, Instr.arrayAt, run_underlying hT.und, Sem.run_bind, this]
theorem ReadR.loadBx {T T' : TypeId} {sz : Nat} [hT : TyI P T true sz] {x : Operand} {g o : Nat} {cs : Ch} {l : List UInt8} (hx : evF F x = some (.pointer (some ⟨g, o, none⟩))) (hm : bx g T' cs ∈ Γ) (hb : BoxC cs o sz l) :
    ReadR P n Γ F ⟨d, .load T x, ty, pos, af, gd⟩ (ag [(sz, u8s l)]) := fun ρ w hf hw => by
  have hg := hw _ hm
  obtain ⟨h1, h2⟩ := hb.run hg.2.len
  have := run_loadCells_list (P := P) w ⟨g, o, none⟩ (u8s l) fun j v hv => by
    rw [add_mk, bx_cell hg]; exact h2 j v hv
  rw [u8s_length, h1] at this
  simp [execOp, hf.eval hx, Instr.loadAt, Instr.sureAddr, loadVar, Sem.run_bind, hT.run_isAgg, hT.run_sizeOf, this, ag, flat]
theorem ReadR.loadEA0 {T : TypeId} {sz : Nat} [hT : TyI P T true sz] {x : Operand} {s : Value} {l : List UInt8} (hx : evF F x = some (.pointer (some (ela s 0)))) (h : HasS Γ s l.length (u8s l)) (hi : l.length = sz) :
    ReadR P n Γ F ⟨d, .load T x, ty, pos, af, gd⟩ (ag [(sz, u8s l)]) := by
  have := ReadR.loadEAB (P := P) (n := n) (d := d) (ty := ty) (pos := pos) (af := af) (gd := gd) (T := T) hx h (by omega)
  rwa [List.drop_zero, List.take_of_length_le (by omega)] at this
theorem ReadR.buildZ {T : TypeId} {cs : Ch} {m : Nat} {e : TypeId} [hT : ArrI P T m e] [hz : ZeroI P T cs] [he : TyI P e false 1] :
    ReadR P n Γ F ⟨d, .build T #[], ty, pos, af, gd⟩ (ag cs) := fun ρ w hf hw => by
  obtain ⟨z, h1, h2⟩ := hz.run w
  simp [execOp, Instr.build, Sem.run_bind, h1, run_underlying hT.und, he.run_sizeOf, Instr.fill, h2, ag]

def setsB (l : List UInt8) : List (Nat × Int) → List UInt8
  | [] => l
  | (i, e) :: qs => setsB (l.set i (UInt8.ofNat e.toNat)) qs
def evAs (F : List (Nat × Value)) (m : Nat) : List (Nat × Operand) → List (Nat × Int) → Prop
  | [], [] => True
  | (j, x) :: ps, (i, e) :: qs => Nat.beq i j = true ∧ Nat.blt i m = true ∧ evF F x = some (.int .u8 e) ∧ 0 ≤ e ∧ e < 256 ∧ evAs F m ps qs
  | _, _ => False
theorem evAs.nil {m : Nat} : evAs F m [] [] := trivial
theorem evAs.cons {m j : Nat} {x : Operand} {ps : List (Nat × Operand)} {e : Int} {qs : List (Nat × Int)} (h0 : Nat.blt j m = true) (h2 : evF F x = some (.int .u8 e)) (h3 : 0 ≤ e) (h4 : e < 256) (k : evAs F m ps qs) : evAs F m ((j, x) :: ps) ((j, e) :: qs) := ⟨Nat.beq_refl j, h0, h2, h3, h4, k⟩
theorem fill_arr {a : Act} {m : Nat} (hf : Fr n F a) : ∀ (ps : List (Nat × Operand)) (qs : List (Nat × Int)) (l : List UInt8), evAs F m ps qs → l.length = m →
    Instr.fill (fun i => some (i * 1, 1)) (u8s l).toArray (ps.map fun q => (q.1, a.eval q.2)) = some (u8s (setsB l qs)).toArray ∧ (setsB l qs).length = m
  | [], [], l, _, h => by simp [Instr.fill, setsB, h]
  | (j, x) :: ps, (i, e) :: qs, l, h, hl => by
    obtain ⟨h1, h0, h2, h3, h4, h5⟩ := h
    obtain rfl := beq_true h1
    have hlt : i < m := Nat.le_of_ble_eq_true h0
    have ih := fill_arr hf ps qs (l.set i (UInt8.ofNat e.toNat)) h5 (by simp [hl])
    refine ⟨?_, ih.2⟩
    have e1 : ((UInt8.ofNat e.toNat).toNat : Int) = e := by
      rw [UInt8.toNat_ofNat']; omega
    have hc := cells_one (v := Value.int .u8 e) rfl
    simp only [List.map_cons, hf.eval h2, Instr.fill, hc, Nat.mul_one]
    have hno : ¬ ((#[Value.int .u8 e] : Array Value).size ≠ 1 || decide (i + (#[Value.int .u8 e] : Array Value).size > (u8s l).toArray.size)) = true := by simp [u8s_length]; omega
    rw [if_neg hno]
    have e2 : (((#[Value.int .u8 e] : Array Value).zipIdx).foldl (fun cs (c, j) => cs.setIfInBounds (i + j) c) (u8s l).toArray) = (u8s (l.set i (UInt8.ofNat e.toNat))).toArray := by
      rw [← u8s_set, e1]; simp
    rw [e2]
    have ih1 := ih.1
    simp only [Nat.mul_one] at ih1
    exact ih1
  | [], _ :: _, _, h, _ => h.elim
  | _ :: _, [], _, h, _ => h.elim
theorem ReadR.buildArr {T : TypeId} {m : Nat} [hT : ArrI P T m 5] [hz : ZeroI P T [(m, u8s (List.replicate m 0))]] [he : TyI P 5 false 1] {ps : List (Nat × Operand)} {qs : List (Nat × Int)} (h : evAs F m ps qs) :
    ReadR P n Γ F ⟨d, .build T ps.toArray, ty, pos, af, gd⟩ (ag [(m, u8s (setsB (List.replicate m 0) qs))]) := fun ρ w hf hw => by
  obtain ⟨z, h1, h2⟩ := hz.run w
  have h3 := (fill_arr hf ps qs (List.replicate m 0) h (by simp)).1
  have hl : (ps.toArray.map fun (i, x) => (i, ρ.eval x)).toList = ps.map fun x => (x.1, ρ.eval x.2) := by simp
  simp only [flat] at h2
  simp only [execOp, Instr.build, Sem.run_bind, h1, Result.andThen_ok, run_underlying hT.und, he.run_sizeOf, hl, h2, h3, Sem.run_pure, ag, flat]

theorem WPl.turnD {ops : Array Oper} {os : List Oper} {o : Oper} {d : Tmp} {Γo Γf Γ' : List Asn} (hp : Takes Γ Γo Γf) (hd : o.dst = some d) (hlt : Nat.blt d n = true) (hw : wantG F ops o.guard = some true) (h : OpT P n Γ F o Γo (RLeave Γ'))
    (k : ∀ v, WPl P n W S (Γ' ++ Γf) ((d, v) :: F) ops os Q) : WPl P n W S Γ F ops (o :: os) Q := by
  refine WPl.op hp (by rw [hd]; exact hlt) hw h ?_
  rintro v Γ'' rfl
  rw [hd]
  exact k v
theorem WPl.hd {ops : Array Oper} {os : List Oper} {o : Oper} {d : Tmp} {m : Nat} {us : List Value} (hd : o.dst = some d) (hlt : Nat.blt d n = true) (hw : wantG F ops o.guard = some true) (h : OpT P n Γ F o [] (RHd m us))
    (k : ∀ v, v.oneCell' = true → WPl P n W S (hdN v m us :: Γ) ((d, v) :: F) ops os Q) : WPl P n W S Γ F ops (o :: os) Q := by
  refine WPl.op (Γo := []) (Γf := Γ) .nil (by rw [hd]; exact hlt) hw h ?_
  rintro v Γ' ⟨h1, rfl⟩
  rw [hd]
  exact k v h1
theorem WPl.row2 {ops : Array Oper} {os : List Oper} {o : Oper} {d : Tmp} {e : TypeId} {sz m : Nat} {us : List Value} {c : Value} (hd : o.dst = some d) (hlt : Nat.blt d n = true) (hw : wantG F ops o.guard = some true) (h : OpT P n Γ F o [] (RRow2 e sz m us c))
    (k : ∀ v, v.oneCell' = true → WPl P n W S (rowN e sz v m us :: Γ) ((d, .tuple #[v, c]) :: F) ops os Q) : WPl P n W S Γ F ops (o :: os) Q := by
  refine WPl.op (Γo := []) (Γf := Γ) .nil (by rw [hd]; exact hlt) hw h ?_
  rintro v Γ' ⟨s, rfl, h1, rfl⟩
  rw [hd]
  exact k s h1

variable {ops : Array Oper} {o : Oper} {eats : List (Nat × Nat)} {K : Prev → Prop} {j : Nat} {os : List Oper} {D bad : List Nat} {Ds : List (List Nat × List Nat)} {prev : Prev}
theorem RGl.hd {m : Env → Nat} {xs : Env → List Value} (h : ∀ e, oksR D e prev → OpT P n (ensR eats D j e prev ++ Γ) (bndR D e prev ++ fcutR bad F) o [] (RHd (m e) (xs e)))
    (k : RGl P n Γ F ops eats K (j + 1) os Ds ((j, o.dst, ⟨fun _ r => r.1, fun e r => [hdN r.1 (m e) (xs e)], fun _ r => r.1.oneCell' = true⟩) :: prev)) (hw : ∀ e, wantG (bndR D e prev ++ fcutR bad F) ops o.guard = some true := by intro e; first | rfl | fail) (hi : ∀ e, m (mask D e) = m e ∧ xs (mask D e) = xs e := by intro e; first | exact ⟨rfl, rfl⟩ | fail) :
    RGl P n Γ F ops eats K j (o :: os) ((D, bad) :: Ds) prev :=
  RGl.stepR (fun e he => .op (hw e) (h e he) (fun A hA => by cases hA) (by rintro v Γ' ⟨h1, rfl⟩; exact ⟨rfl, rfl, h1⟩)) (fun e _ => ⟨rfl, by show [_] = [_]; rw [(hi e).1, (hi e).2], rfl⟩) k
theorem RGl.row2 {ety : Env → TypeId} {sz : Env → Nat} {m : Env → Nat} {xs : Env → List Value} {c : Env → Value} (h : ∀ e, oksR D e prev → OpT P n (ensR eats D j e prev ++ Γ) (bndR D e prev ++ fcutR bad F) o [] (RRow2 (ety e) (sz e) (m e) (xs e) (c e)))
    (k : RGl P n Γ F ops eats K (j + 1) os Ds ((j, o.dst, ⟨fun e r => .tuple #[tup r.1 0, c e], fun e r => [rowN (ety e) (sz e) (tup r.1 0) (m e) (xs e)], fun _ r => (tup r.1 0).oneCell' = true⟩) :: prev)) (hw : ∀ e, wantG (bndR D e prev ++ fcutR bad F) ops o.guard = some true := by intro e; first | rfl | fail)
    (hi : ∀ e, ety (mask D e) = ety e ∧ sz (mask D e) = sz e ∧ m (mask D e) = m e ∧ xs (mask D e) = xs e ∧ c (mask D e) = c e := by intro e; first | exact ⟨rfl, rfl, rfl, rfl, rfl⟩ | fail) :
    RGl P n Γ F ops eats K j (o :: os) ((D, bad) :: Ds) prev :=
  RGl.stepR (fun e he => .op (hw e) (h e he) (fun A hA => by cases hA) (by rintro v Γ' ⟨s, rfl, h1, rfl⟩; exact ⟨rfl, rfl, h1⟩)) (fun e r => ⟨by show Value.tuple _ = Value.tuple _; rw [(hi e).2.2.2.2], by show [_] = [_]; rw [(hi e).1, (hi e).2.1, (hi e).2.2.1, (hi e).2.2.2.1], rfl⟩) k

end
end Go.Proofs.Ytpjfkomicehinaa
