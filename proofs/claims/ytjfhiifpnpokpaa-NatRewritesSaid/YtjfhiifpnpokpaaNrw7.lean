/- What the row of natRewrites_holds needs: part 7. -/
import Derived.Test.YtjfhiifpnpokpaaNrw6
import Derived.Test.YtjfhiifpnpokpaaNrw5
/- Layer 17 (nat): a rewriter's steps: contracts. -/
namespace Go.Proofs.Ytjfhiifpnpokpaa
open Go.RowKit
set_option linter.unusedSimpArgs false
set_option linter.unusedVariables false
set_option maxRecDepth 20000
set_option maxHeartbeats 4000000
attribute [local irreducible] WPc WPl WPq ReadR OpT BinR HasS bx rdN rowN Take Takes Prov Triple ResF BuildP Done ag Int.decLt Int.decLe Int.instDecidableEq

theorem twoB_be (n : Nat) : twoB n = be n 2 := by
  rw [be2]
  unfold twoB
  rw [show UInt8.ofNat (n % 256) = UInt8.ofNat n by apply UInt8.toNat_inj.mp; rw [u8_of, u8_of]; omega]
theorem lay_over (l : List UInt8) (k : Nat) (y : List UInt8) : over l k y = lay l k y := by unfold lay over; rw [List.append_assoc]
theorem csteps_app (p q r s : UInt8) : ∀ (a b : List UInt8), a.length = b.length → a.length % 2 = 0 →
    csteps (a ++ [p, q]) (b ++ [r, s]) = csteps a b + ((65535 - (256 * p.toNat + q.toNat)) + (256 * r.toNat + s.toNat))
  | [], [], _, _ => by simp [csteps]
  | [_], [_], _, h => by simp at h
  | x :: x2 :: l, z :: z2 :: m, h, h2 => by
    have ih := csteps_app p q r s l m (by simpa using h) (by simp only [List.length_cons] at h2; omega)
    simp only [List.cons_append, csteps, ih]
    omega
  | [], _ :: _, h, _ => by simp at h
  | _ :: _, [], h, _ => by simp at h
  | [_], _ :: _ :: _, h, _ => by simp at h
  | _ :: _ :: _, [_], h, _ => by simp at h
theorem take_two (l : List UInt8) {i : Nat} (h : i + 1 < l.length) : l.take (i + 2) = l.take i ++ [l.getD i 0, l.getD (i + 1) 0] := by
  rw [take_snoc l h, take_snoc l (by omega : i < l.length), List.append_assoc]; rfl
theorem csteps_take {o y : List UInt8} (hl : o.length = y.length) {i : Nat} (h : i + 1 < o.length) (he : i % 2 = 0) :
    csteps (o.take (i + 2)) (y.take (i + 2)) = csteps (o.take i) (y.take i) + ((65535 - (256 * (o.getD i 0).toNat + (o.getD (i + 1) 0).toNat)) + (256 * (y.getD i 0).toNat + (y.getD (i + 1) 0).toNat)) := by
  rw [take_two o h, take_two y (by omega), csteps_app _ _ _ _ _ _ (by simp; omega) (by rw [List.length_take]; omega)]
theorem csteps_le : ∀ (o y : List UInt8), csteps o y ≤ 131070 * o.length
  | [], _ => by simp [csteps]
  | [_], _ => by simp [csteps]
  | _ :: _ :: _, [] => by simp [csteps]
  | _ :: _ :: _, [_] => by simp [csteps]
  | a :: b :: l, c :: d :: m => by
    have ih := csteps_le l m
    have := c.toNat_lt; have := d.toNat_lt
    simp only [csteps, List.length_cons]
    omega
theorem BinR.shl16 {P : Program} {T : TypeId} {k2 : IntKind} {c : Nat} (h : c < 256) : BinR P .shl T (.int .u16 (c : Int)) (.int k2 8) (.int .u16 ((c * 256 : Nat) : Int)) := by
  have := BinR.shlN (P := P) (T := T) (k := .u16) (k2 := k2) (a := c) (s := 8) rfl (by decide)
  rw [show c * 2 ^ 8 % 2 ^ kw .u16 = c * 256 by show c * 256 % 65536 = _; omega] at this
  exact this
theorem BinR.or16 {P : Program} {T : TypeId} {m c : Nat} (h : m < 256) (hc : c < 256) : BinR P .or T (.int .u16 ((m * 256 : Nat) : Int)) (.int .u16 (c : Int)) (.int .u16 ((256 * m + c : Nat) : Int)) := by
  have := BinR.orN (P := P) (T := T) (k := .u16) (a := m * 256) (b := c) rfl (by show m * 256 < 2 ^ 16; omega) (by show c < 2 ^ 16; omega)
  rw [show m * 256 ||| c = 256 * m + c by rw [show m * 256 = m * 2 ^ 8 from rfl, or_add (by omega)]; omega] at this
  exact this
theorem conv16 {c : UInt8} : IntKind.u16.wrap ((c.toNat : Nat) : Int) = ((c.toNat : Nat) : Int) := by have := c.toNat_lt; rw [IntKind.wrap_u16]; omega
theorem change_t (s : Nat) (vo vy : Value) (o y : List UInt8) (hs : s ≤ 65535) (hl : o.length = y.length) (he : o.length % 2 = 0) (hb : o.length ≤ 1000) :
    Triple Try.prog 44 #[.int .u16 (s : Int), vo, vy] [rb vo o, rb vy y] (RVal (.int .u16 ((chg s o y : Nat) : Int))) := by
  have hcv : IntKind.u64.wrap (kmax .u16 - (s : Int)) = ((65535 - s : Nat) : Int) := by rw [IntKind.wrap_u64]; simp only [kmax]; omega
  refine Triple.enter Try.func44 rfl Try.ntmps44 rfl (fun W => ?_)
  dsimp only [argsF, Nat.reduceAdd]
  repeat' (first
   | refine WPl.nil ?_ | refine WPq.then ?_ | refine WPq.thenR ?_ | refine WPq.thenE ?_ | refine WPq.blockN ?_ | refine WPq.blockR ?_ | refine WPq.blockE ?_ | refine WPq.blockO rfl ?_ | refine WPc.seq ?_ | refine WPc.block ?_ | refine WPc.ret ?_ | refine WPc.exit ?_ | refine WPc.skip ?_ | refine WPc.region ?_
   | (refine isReg 7 ?_; refine WPc.drA [([], [33, 38, 39, 40, 41, 42, 43, 45, 46, 47, 48, 49, 50, 51, 52, 53, 54, 55, 56, 57]), ([], [32, 38, 39, 40, 41, 42, 43, 45, 46, 47, 48, 49, 50, 51, 52, 53, 54, 55, 56, 57]), ([0, 1], [32, 33, 38, 39, 40, 41, 42, 43, 45, 46, 47, 48, 49, 50, 51, 52, 53, 54, 55, 56, 57]), ([0, 1, 2], [32, 33, 34, 38, 39, 40, 41, 42, 43, 45, 46, 47, 48, 49, 50, 51, 52, 53, 54, 55, 56, 57]), ([0, 1, 2, 3], [32, 33, 34, 35, 38, 39, 40, 41, 42, 43, 45, 46, 47, 48, 49, 50, 51, 52, 53, 54, 55, 56, 57]), ([0, 1, 2, 3, 4], [32, 33, 34, 35, 36, 38, 39, 40, 41, 42, 43, 45, 46, 47, 48, 49, 50, 51, 52, 53, 54, 55, 56, 57]), ([], [32, 33, 34, 35, 36, 37, 39, 40, 45, 46, 47, 48, 49, 50, 51, 52, 53, 54, 55, 56, 57]), ([], [32, 33, 34, 35, 36, 37, 38, 45, 46, 47, 48, 49, 50, 51, 52, 53, 54, 55, 56, 57]), ([7], [32, 33, 34, 35, 36, 37, 38, 39, 45, 46, 47, 48, 49, 50, 51, 52, 53, 54, 55, 56, 57]), ([6, 7, 8], [32, 33, 34, 35, 36, 37, 38, 39, 40, 45, 46, 47, 48, 49, 50, 51, 52, 53, 54, 55, 56, 57]), ([6, 7, 8, 9], [32, 33, 34, 35, 36, 37, 38, 39, 40, 41, 45, 46, 47, 48, 49, 50, 51, 52, 53, 54, 55, 56, 57]), ([6, 7, 8, 9, 10], [32, 33, 34, 35, 36, 37, 38, 39, 40, 41, 42, 45, 46, 47, 48, 49, 50, 51, 52, 53, 54, 55, 56, 57]), ([0, 1, 2, 3, 4, 5, 6, 7, 8, 9, 10, 11], [32, 33, 34, 35, 36, 37, 38, 39, 40, 41, 42, 43, 45, 46, 47, 48, 49, 50, 51, 52, 53, 54, 55, 56, 57]), ([], [9, 32, 33, 34, 35, 36, 37, 38, 39, 40, 41, 42, 43, 44, 46, 51, 52, 53, 54, 55, 56]), ([], [9, 32, 33, 34, 35, 36, 37, 38, 39, 40, 41, 42, 43, 44, 45, 51, 52, 53, 54, 55, 56]), ([13, 14], [9, 32, 33, 34, 35, 36, 37, 38, 39, 40, 41, 42, 43, 44, 45, 46, 51, 52, 53, 54, 55, 56]), ([13, 14, 15], [9, 32, 33, 34, 35, 36, 37, 38, 39, 40, 41, 42, 43, 44, 45, 46, 47, 51, 52, 53, 54, 55, 56]), ([13, 14, 15, 16], [9, 32, 33, 34, 35, 36, 37, 38, 39, 40, 41, 42, 43, 44, 45, 46, 47, 48, 51, 52, 53, 54, 55, 56]), ([13, 14, 15, 16, 17], [9, 32, 33, 34, 35, 36, 37, 38, 39, 40, 41, 42, 43, 44, 45, 46, 47, 48, 49, 51, 52, 53, 54, 55, 56]), ([], [9, 32, 33, 34, 35, 36, 37, 38, 39, 40, 41, 42, 43, 44, 45, 46, 47, 48, 49, 50, 52, 53]), ([], [9, 32, 33, 34, 35, 36, 37, 38, 39, 40, 41, 42, 43, 44, 45, 46, 47, 48, 49, 50, 51]), ([20], [9, 32, 33, 34, 35, 36, 37, 38, 39, 40, 41, 42, 43, 44, 45, 46, 47, 48, 49, 50, 51, 52]), ([19, 20, 21], [9, 32, 33, 34, 35, 36, 37, 38, 39, 40, 41, 42, 43, 44, 45, 46, 47, 48, 49, 50, 51, 52, 53]), ([19, 20, 21, 22], [9, 32, 33, 34, 35, 36, 37, 38, 39, 40, 41, 42, 43, 44, 45, 46, 47, 48, 49, 50, 51, 52, 53, 54]), ([19, 20, 21, 22, 23], [9, 32, 33, 34, 35, 36, 37, 38, 39, 40, 41, 42, 43, 44, 45, 46, 47, 48, 49, 50, 51, 52, 53, 54, 55]), ([13, 14, 15, 16, 17, 18, 19, 20, 21, 22, 23, 24], [9, 32, 33, 34, 35, 36, 37, 38, 39, 40, 41, 42, 43, 44, 45, 46, 47, 48, 49, 50, 51, 52, 53, 54, 55, 56]), ([0, 1, 2, 3, 4, 5, 6, 7, 8, 9, 10, 11, 12], [32, 33, 34, 35, 36, 37, 38, 39, 40, 41, 42, 43, 44, 45, 46, 47, 48, 49, 50, 51, 52, 53, 54, 55, 56, 57]), ([0, 1, 2, 3, 4, 5, 6, 7, 8, 9, 10, 11, 12, 13, 14, 15, 16, 17, 18, 19, 20, 21, 22, 23, 24, 25, 26], [9, 32, 33, 34, 35, 36, 37, 38, 39, 40, 41, 42, 43, 44, 45, 46, 47, 48, 49, 50, 51, 52, 53, 54, 55, 56, 57])] [] (Γx := []) ?_; dsimp only [prev0, List.length_nil, List.length_cons])
   | (refine gAny ?_; first | (refine gD 25 ?_; refine RGl.rdX (fun e hk => by (try dsimp only [bndR, ensR, oksR, fcutR, List.append_nil, List.nil_append, List.cons_append, List.append_assoc] at hk ⊢); exact ReadR.convT hcv rfl rfl) ?_) | (refine gOp ?_; first | refine RGl.rdA ?_ | refine RGl.rdX (fun e hk => by (try dsimp only [bndR, ensR, oksR, fcutR, List.append_nil, List.nil_append, List.cons_append, List.append_assoc] at hk ⊢); exact readB) ?_) | (refine RGl.fin (fun e hk => ?_); (try dsimp only [bndA, ensAR, oksA, List.append_nil, List.nil_append, List.cons_append, List.append_assoc] at hk ⊢); (repeat (obtain ⟨hk1, hk⟩ := hk))) | fail)
   | (refine isCond ?_; first | refine WPc.cT ?_ | refine WPc.cF ?_ | (refine WPc.cQ (fun hc => ?_) (fun hc => ?_) <;> try exact prA))
   | (refine isD 25 ?_; refine WPl.rdX (ReadR.convT hcv rfl rfl) ?_)
   | (refine isOp ?_; first | refine WPl.rd ?_ | refine WPl.sk ?_ | refine WPl.rdB ?_)
   | (show WPl _ _ _ _ _ _ _ (⟨_, .indexAddr _ _ _, _, _, _, _⟩ :: _) _; refine WPl.rdX (ReadR.indexE rfl rfl hasA (by first | assumption | omega)) ?_)
   | (show WPl _ _ _ _ _ _ _ (⟨_, .fieldAddr _ _ _, _, _, _, _⟩ :: _) _; refine WPl.rdX (ReadR.fieldE rfl hasA (by first | assumption | omega)) ?_)
   | (show WPl _ _ _ _ _ _ _ (⟨_, .load _ _, _, _, _, _⟩ :: _) _; first | refine WPl.rdX (ReadR.loadE rfl hasA (by assumption)) ?_ | refine WPl.rdX (ReadR.loadES (by assumption) (by first | assumption | omega) rfl hasA) ?_)
   | (show WPl _ _ _ _ _ _ _ (⟨_, .slice _ _ _ _ _, _, _, _, _⟩ :: _) _; first | refine WPl.rdX (ReadR.sliceH rfl rfl hasA (by omega)) ?_ | refine WPl.rdX (ReadR.sliceL rfl rfl hasA (by omega)) ?_ | refine WPl.rdX (ReadR.sliceLH rfl rfl rfl hasA (by omega) (by omega)) ?_)
   | (refine WPl.spQ (fun hc => ?_) (fun hc => ?_) <;> try exact prA)
   | fail)
  first | refine WPc.loop (σ := Nat × Nat) (fun p => p.1 ≤ o.length ∧ p.1 % 2 = 0 ∧ p.2 = 65535 - s + csteps (o.take p.1) (y.take p.1)) (fun p => [rb vo o, rb vy y]) (fun p => [(1, vo), (2, vy), (7, .int .u64 (p.2 : Int)), (8, .int .i64 (p.1 : Int))]) (fun p => o.length - p.1) ((0, 65535 - s)) ?_ takesA frsA (fun st km hx hk => ?_)
  · simp [csteps]
  obtain ⟨i, c⟩ := st
  dsimp only at hx hk ⊢
  obtain ⟨hi, hev, hcc⟩ := hx
  by_cases hlt : i < o.length
  · have hlt2 : i + 1 < o.length := by omega
    have e := csteps_take hl hlt2 hev
    have hle := csteps_le (o.take i) (y.take i)
    have hL : (o.take i).length ≤ 1000 := by rw [List.length_take]; omega
    have b1 := (o.getD i 0).toNat_lt
    have b2 := (o.getD (i + 1) 0).toNat_lt
    have b3 := (y.getD i 0).toNat_lt
    have b4 := (y.getD (i + 1) 0).toNat_lt
    have hcb : c ≤ 1000000000 := by omega
    have h61 : IntKind.u64.wrap (kmax .u16 - ((256 * (o.getD i 0).toNat + (o.getD (i + 1) 0).toNat : Nat) : Int)) = ((65535 - (256 * (o.getD i 0).toNat + (o.getD (i + 1) 0).toNat) : Nat) : Int) := by rw [IntKind.wrap_u64]; simp only [kmax]; omega
    repeat' (first
     | refine WPl.nil ?_ | refine WPq.then ?_ | refine WPq.thenR ?_ | refine WPq.thenE ?_ | refine WPq.blockN ?_ | refine WPq.blockR ?_ | refine WPq.blockE ?_ | refine WPq.blockO rfl ?_ | refine WPc.seq ?_ | refine WPc.block ?_ | refine WPc.ret ?_ | refine WPc.exit ?_ | refine WPc.skip ?_ | refine WPc.region ?_
     | (refine isReg 7 ?_; refine WPc.drA [([], [33, 38, 39, 40, 41, 42, 43, 45, 46, 47, 48, 49, 50, 51, 52, 53, 54, 55, 56, 57]), ([], [32, 38, 39, 40, 41, 42, 43, 45, 46, 47, 48, 49, 50, 51, 52, 53, 54, 55, 56, 57]), ([0, 1], [32, 33, 38, 39, 40, 41, 42, 43, 45, 46, 47, 48, 49, 50, 51, 52, 53, 54, 55, 56, 57]), ([0, 1, 2], [32, 33, 34, 38, 39, 40, 41, 42, 43, 45, 46, 47, 48, 49, 50, 51, 52, 53, 54, 55, 56, 57]), ([0, 1, 2, 3], [32, 33, 34, 35, 38, 39, 40, 41, 42, 43, 45, 46, 47, 48, 49, 50, 51, 52, 53, 54, 55, 56, 57]), ([0, 1, 2, 3, 4], [32, 33, 34, 35, 36, 38, 39, 40, 41, 42, 43, 45, 46, 47, 48, 49, 50, 51, 52, 53, 54, 55, 56, 57]), ([], [32, 33, 34, 35, 36, 37, 39, 40, 45, 46, 47, 48, 49, 50, 51, 52, 53, 54, 55, 56, 57]), ([], [32, 33, 34, 35, 36, 37, 38, 45, 46, 47, 48, 49, 50, 51, 52, 53, 54, 55, 56, 57]), ([7], [32, 33, 34, 35, 36, 37, 38, 39, 45, 46, 47, 48, 49, 50, 51, 52, 53, 54, 55, 56, 57]), ([6, 7, 8], [32, 33, 34, 35, 36, 37, 38, 39, 40, 45, 46, 47, 48, 49, 50, 51, 52, 53, 54, 55, 56, 57]), ([6, 7, 8, 9], [32, 33, 34, 35, 36, 37, 38, 39, 40, 41, 45, 46, 47, 48, 49, 50, 51, 52, 53, 54, 55, 56, 57]), ([6, 7, 8, 9, 10], [32, 33, 34, 35, 36, 37, 38, 39, 40, 41, 42, 45, 46, 47, 48, 49, 50, 51, 52, 53, 54, 55, 56, 57]), ([0, 1, 2, 3, 4, 5, 6, 7, 8, 9, 10, 11], [32, 33, 34, 35, 36, 37, 38, 39, 40, 41, 42, 43, 45, 46, 47, 48, 49, 50, 51, 52, 53, 54, 55, 56, 57]), ([], [9, 32, 33, 34, 35, 36, 37, 38, 39, 40, 41, 42, 43, 44, 46, 51, 52, 53, 54, 55, 56]), ([], [9, 32, 33, 34, 35, 36, 37, 38, 39, 40, 41, 42, 43, 44, 45, 51, 52, 53, 54, 55, 56]), ([13, 14], [9, 32, 33, 34, 35, 36, 37, 38, 39, 40, 41, 42, 43, 44, 45, 46, 51, 52, 53, 54, 55, 56]), ([13, 14, 15], [9, 32, 33, 34, 35, 36, 37, 38, 39, 40, 41, 42, 43, 44, 45, 46, 47, 51, 52, 53, 54, 55, 56]), ([13, 14, 15, 16], [9, 32, 33, 34, 35, 36, 37, 38, 39, 40, 41, 42, 43, 44, 45, 46, 47, 48, 51, 52, 53, 54, 55, 56]), ([13, 14, 15, 16, 17], [9, 32, 33, 34, 35, 36, 37, 38, 39, 40, 41, 42, 43, 44, 45, 46, 47, 48, 49, 51, 52, 53, 54, 55, 56]), ([], [9, 32, 33, 34, 35, 36, 37, 38, 39, 40, 41, 42, 43, 44, 45, 46, 47, 48, 49, 50, 52, 53]), ([], [9, 32, 33, 34, 35, 36, 37, 38, 39, 40, 41, 42, 43, 44, 45, 46, 47, 48, 49, 50, 51]), ([20], [9, 32, 33, 34, 35, 36, 37, 38, 39, 40, 41, 42, 43, 44, 45, 46, 47, 48, 49, 50, 51, 52]), ([19, 20, 21], [9, 32, 33, 34, 35, 36, 37, 38, 39, 40, 41, 42, 43, 44, 45, 46, 47, 48, 49, 50, 51, 52, 53]), ([19, 20, 21, 22], [9, 32, 33, 34, 35, 36, 37, 38, 39, 40, 41, 42, 43, 44, 45, 46, 47, 48, 49, 50, 51, 52, 53, 54]), ([19, 20, 21, 22, 23], [9, 32, 33, 34, 35, 36, 37, 38, 39, 40, 41, 42, 43, 44, 45, 46, 47, 48, 49, 50, 51, 52, 53, 54, 55]), ([13, 14, 15, 16, 17, 18, 19, 20, 21, 22, 23, 24], [9, 32, 33, 34, 35, 36, 37, 38, 39, 40, 41, 42, 43, 44, 45, 46, 47, 48, 49, 50, 51, 52, 53, 54, 55, 56]), ([0, 1, 2, 3, 4, 5, 6, 7, 8, 9, 10, 11, 12], [32, 33, 34, 35, 36, 37, 38, 39, 40, 41, 42, 43, 44, 45, 46, 47, 48, 49, 50, 51, 52, 53, 54, 55, 56, 57]), ([0, 1, 2, 3, 4, 5, 6, 7, 8, 9, 10, 11, 12, 13, 14, 15, 16, 17, 18, 19, 20, 21, 22, 23, 24, 25, 26], [9, 32, 33, 34, 35, 36, 37, 38, 39, 40, 41, 42, 43, 44, 45, 46, 47, 48, 49, 50, 51, 52, 53, 54, 55, 56, 57])] [] (Γx := []) ?_; dsimp only [prev0, List.length_nil, List.length_cons])
     | (refine gAny ?_; first | (show RGl _ _ _ _ _ _ _ _ (⟨_, .binOp .shl _ _ _ _, _, _, _, _⟩ :: _) _ _; refine RGl.rdX (fun e hk => by (try dsimp only [bndR, ensR, oksR, fcutR, List.append_nil, List.nil_append, List.cons_append, List.append_assoc] at hk ⊢); exact ReadR.bin rfl rfl (BinR.shl16 (UInt8.toNat_lt _))) ?_) | (show RGl _ _ _ _ _ _ _ _ (⟨_, .binOp _ _ _ _ _, _, _, _, _⟩ :: _) _ _; refine RGl.rdX (fun e hk => by (try dsimp only [bndR, ensR, oksR, fcutR, List.append_nil, List.nil_append, List.cons_append, List.append_assoc] at hk ⊢); exact ReadR.bin rfl rfl (BinR.or16 (UInt8.toNat_lt _) (UInt8.toNat_lt _))) ?_) | (show RGl _ _ _ _ _ _ _ _ (⟨_, .convert _ _ _, _, _, _, _⟩ :: _) _ _; refine RGl.rdX (fun e hk => by (try dsimp only [bndR, ensR, oksR, fcutR, List.append_nil, List.nil_append, List.cons_append, List.append_assoc] at hk ⊢); exact ReadR.conv rfl conv16) ?_) | (refine gD 61 ?_; refine RGl.rdX (fun e hk => by (try dsimp only [bndR, ensR, oksR, fcutR, List.append_nil, List.nil_append, List.cons_append, List.append_assoc] at hk ⊢); exact ReadR.convT h61 rfl rfl) ?_) | (refine gD 65 ?_; refine RGl.rdX (fun e hk => by (try dsimp only [bndR, ensR, oksR, fcutR, List.append_nil, List.nil_append, List.cons_append, List.append_assoc] at hk ⊢); exact ReadR.binE rfl rfl (BinR.addU (by omega) (by omega)) (congrArg (Value.int .u64) (show _ = ((65535 - s + csteps (o.take (i + 2)) (y.take (i + 2)) : Nat) : Int) by omega))) ?_) | (refine gOp ?_; first | refine RGl.rdA ?_ | refine RGl.rdX (fun e hk => by (try dsimp only [bndR, ensR, oksR, fcutR, List.append_nil, List.nil_append, List.cons_append, List.append_assoc] at hk ⊢); exact readB) ?_) | (refine RGl.fin (fun e hk => ?_); (try dsimp only [bndA, ensAR, oksA, List.append_nil, List.nil_append, List.cons_append, List.append_assoc] at hk ⊢); (repeat (obtain ⟨hk1, hk⟩ := hk))) | fail)
     | (refine isCond ?_; first | refine WPc.cT ?_ | refine WPc.cF ?_ | (refine WPc.cQ (fun hc => ?_) (fun hc => ?_) <;> try exact prA))
     | (refine isD 61 ?_; refine WPl.rdX (ReadR.convT h61 rfl rfl) ?_)
     | (refine isD 65 ?_; refine WPl.rdX (ReadR.binE rfl rfl (BinR.addU (by omega) (by omega)) (congrArg (Value.int .u64) (show _ = ((65535 - s + csteps (o.take (i + 2)) (y.take (i + 2)) : Nat) : Int) by omega))) ?_)
     | (refine isOp ?_; first | refine WPl.rd ?_ | refine WPl.sk ?_ | refine WPl.rdB ?_)
     | (show WPl _ _ _ _ _ _ _ (⟨_, .indexAddr _ _ _, _, _, _, _⟩ :: _) _; refine WPl.rdX (ReadR.indexE rfl rfl hasA (by first | assumption | omega)) ?_)
     | (show WPl _ _ _ _ _ _ _ (⟨_, .fieldAddr _ _ _, _, _, _, _⟩ :: _) _; refine WPl.rdX (ReadR.fieldE rfl hasA (by first | assumption | omega)) ?_)
     | (show WPl _ _ _ _ _ _ _ (⟨_, .load _ _, _, _, _, _⟩ :: _) _; first | refine WPl.rdX (ReadR.loadE rfl hasA (by assumption)) ?_ | refine WPl.rdX (ReadR.loadES (by assumption) (by first | assumption | omega) rfl hasA) ?_)
     | (show WPl _ _ _ _ _ _ _ (⟨_, .slice _ _ _ _ _, _, _, _, _⟩ :: _) _; first | refine WPl.rdX (ReadR.sliceH rfl rfl hasA (by omega)) ?_ | refine WPl.rdX (ReadR.sliceL rfl rfl hasA (by omega)) ?_ | refine WPl.rdX (ReadR.sliceLH rfl rfl rfl hasA (by omega) (by omega)) ?_)
     | (refine WPl.spQ (fun hc => ?_) (fun hc => ?_) <;> try exact prA)
     | fail)
    exact WPq.rnd (i + 2, 65535 - s + csteps (o.take (i + 2)) (y.take (i + 2))) ⟨by show i + 2 ≤ _; omega, by show (i + 2) % 2 = 0; omega, rfl⟩ (by show o.length - (i + 2) < o.length - i; omega)
  · obtain rfl : i = o.length := by omega
    rw [List.take_length, hl, List.take_length] at hcc
    have hf := fold_le c
    have hle := csteps_le o y
    repeat' (first
     | refine WPl.nil ?_ | refine WPq.then ?_ | refine WPq.thenR ?_ | refine WPq.thenE ?_ | refine WPq.blockN ?_ | refine WPq.blockR ?_ | refine WPq.blockE ?_ | refine WPq.blockO rfl ?_ | refine WPc.seq ?_ | refine WPc.block ?_ | refine WPc.ret ?_ | refine WPc.exit ?_ | refine WPc.skip ?_ | refine WPc.region ?_
     | (refine isReg 7 ?_; refine WPc.drA [([], [33, 38, 39, 40, 41, 42, 43, 45, 46, 47, 48, 49, 50, 51, 52, 53, 54, 55, 56, 57]), ([], [32, 38, 39, 40, 41, 42, 43, 45, 46, 47, 48, 49, 50, 51, 52, 53, 54, 55, 56, 57]), ([0, 1], [32, 33, 38, 39, 40, 41, 42, 43, 45, 46, 47, 48, 49, 50, 51, 52, 53, 54, 55, 56, 57]), ([0, 1, 2], [32, 33, 34, 38, 39, 40, 41, 42, 43, 45, 46, 47, 48, 49, 50, 51, 52, 53, 54, 55, 56, 57]), ([0, 1, 2, 3], [32, 33, 34, 35, 38, 39, 40, 41, 42, 43, 45, 46, 47, 48, 49, 50, 51, 52, 53, 54, 55, 56, 57]), ([0, 1, 2, 3, 4], [32, 33, 34, 35, 36, 38, 39, 40, 41, 42, 43, 45, 46, 47, 48, 49, 50, 51, 52, 53, 54, 55, 56, 57]), ([], [32, 33, 34, 35, 36, 37, 39, 40, 45, 46, 47, 48, 49, 50, 51, 52, 53, 54, 55, 56, 57]), ([], [32, 33, 34, 35, 36, 37, 38, 45, 46, 47, 48, 49, 50, 51, 52, 53, 54, 55, 56, 57]), ([7], [32, 33, 34, 35, 36, 37, 38, 39, 45, 46, 47, 48, 49, 50, 51, 52, 53, 54, 55, 56, 57]), ([6, 7, 8], [32, 33, 34, 35, 36, 37, 38, 39, 40, 45, 46, 47, 48, 49, 50, 51, 52, 53, 54, 55, 56, 57]), ([6, 7, 8, 9], [32, 33, 34, 35, 36, 37, 38, 39, 40, 41, 45, 46, 47, 48, 49, 50, 51, 52, 53, 54, 55, 56, 57]), ([6, 7, 8, 9, 10], [32, 33, 34, 35, 36, 37, 38, 39, 40, 41, 42, 45, 46, 47, 48, 49, 50, 51, 52, 53, 54, 55, 56, 57]), ([0, 1, 2, 3, 4, 5, 6, 7, 8, 9, 10, 11], [32, 33, 34, 35, 36, 37, 38, 39, 40, 41, 42, 43, 45, 46, 47, 48, 49, 50, 51, 52, 53, 54, 55, 56, 57]), ([], [9, 32, 33, 34, 35, 36, 37, 38, 39, 40, 41, 42, 43, 44, 46, 51, 52, 53, 54, 55, 56]), ([], [9, 32, 33, 34, 35, 36, 37, 38, 39, 40, 41, 42, 43, 44, 45, 51, 52, 53, 54, 55, 56]), ([13, 14], [9, 32, 33, 34, 35, 36, 37, 38, 39, 40, 41, 42, 43, 44, 45, 46, 51, 52, 53, 54, 55, 56]), ([13, 14, 15], [9, 32, 33, 34, 35, 36, 37, 38, 39, 40, 41, 42, 43, 44, 45, 46, 47, 51, 52, 53, 54, 55, 56]), ([13, 14, 15, 16], [9, 32, 33, 34, 35, 36, 37, 38, 39, 40, 41, 42, 43, 44, 45, 46, 47, 48, 51, 52, 53, 54, 55, 56]), ([13, 14, 15, 16, 17], [9, 32, 33, 34, 35, 36, 37, 38, 39, 40, 41, 42, 43, 44, 45, 46, 47, 48, 49, 51, 52, 53, 54, 55, 56]), ([], [9, 32, 33, 34, 35, 36, 37, 38, 39, 40, 41, 42, 43, 44, 45, 46, 47, 48, 49, 50, 52, 53]), ([], [9, 32, 33, 34, 35, 36, 37, 38, 39, 40, 41, 42, 43, 44, 45, 46, 47, 48, 49, 50, 51]), ([20], [9, 32, 33, 34, 35, 36, 37, 38, 39, 40, 41, 42, 43, 44, 45, 46, 47, 48, 49, 50, 51, 52]), ([19, 20, 21], [9, 32, 33, 34, 35, 36, 37, 38, 39, 40, 41, 42, 43, 44, 45, 46, 47, 48, 49, 50, 51, 52, 53]), ([19, 20, 21, 22], [9, 32, 33, 34, 35, 36, 37, 38, 39, 40, 41, 42, 43, 44, 45, 46, 47, 48, 49, 50, 51, 52, 53, 54]), ([19, 20, 21, 22, 23], [9, 32, 33, 34, 35, 36, 37, 38, 39, 40, 41, 42, 43, 44, 45, 46, 47, 48, 49, 50, 51, 52, 53, 54, 55]), ([13, 14, 15, 16, 17, 18, 19, 20, 21, 22, 23, 24], [9, 32, 33, 34, 35, 36, 37, 38, 39, 40, 41, 42, 43, 44, 45, 46, 47, 48, 49, 50, 51, 52, 53, 54, 55, 56]), ([0, 1, 2, 3, 4, 5, 6, 7, 8, 9, 10, 11, 12], [32, 33, 34, 35, 36, 37, 38, 39, 40, 41, 42, 43, 44, 45, 46, 47, 48, 49, 50, 51, 52, 53, 54, 55, 56, 57]), ([0, 1, 2, 3, 4, 5, 6, 7, 8, 9, 10, 11, 12, 13, 14, 15, 16, 17, 18, 19, 20, 21, 22, 23, 24, 25, 26], [9, 32, 33, 34, 35, 36, 37, 38, 39, 40, 41, 42, 43, 44, 45, 46, 47, 48, 49, 50, 51, 52, 53, 54, 55, 56, 57])] [] (Γx := []) ?_; dsimp only [prev0, List.length_nil, List.length_cons])
     | (refine gAny ?_; first | (refine gCl ?_; refine RGl.vl (fun e hk => OpT.callN (folded_t c (by omega))) ?_) | (refine gOp ?_; first | refine RGl.rdA ?_ | refine RGl.rdX (fun e hk => by (try dsimp only [bndR, ensR, oksR, fcutR, List.append_nil, List.nil_append, List.cons_append, List.append_assoc] at hk ⊢); exact readB) ?_) | (refine RGl.fin (fun e hk => ?_); (try dsimp only [bndA, ensAR, oksA, List.append_nil, List.nil_append, List.cons_append, List.append_assoc] at hk ⊢); (repeat (obtain ⟨hk1, hk⟩ := hk))) | fail)
     | (refine isCond ?_; first | refine WPc.cT ?_ | refine WPc.cF ?_ | (refine WPc.cQ (fun hc => ?_) (fun hc => ?_) <;> try exact prA))
     | (refine isCl ?_; refine WPl.cV (folded_t c (by omega)) ?_)
     | (refine isOp ?_; first | refine WPl.rd ?_ | refine WPl.sk ?_ | refine WPl.rdB ?_)
     | (show WPl _ _ _ _ _ _ _ (⟨_, .indexAddr _ _ _, _, _, _, _⟩ :: _) _; refine WPl.rdX (ReadR.indexE rfl rfl hasA (by first | assumption | omega)) ?_)
     | (show WPl _ _ _ _ _ _ _ (⟨_, .fieldAddr _ _ _, _, _, _, _⟩ :: _) _; refine WPl.rdX (ReadR.fieldE rfl hasA (by first | assumption | omega)) ?_)
     | (show WPl _ _ _ _ _ _ _ (⟨_, .load _ _, _, _, _, _⟩ :: _) _; first | refine WPl.rdX (ReadR.loadE rfl hasA (by assumption)) ?_ | refine WPl.rdX (ReadR.loadES (by assumption) (by first | assumption | omega) rfl hasA) ?_)
     | (show WPl _ _ _ _ _ _ _ (⟨_, .slice _ _ _ _ _, _, _, _, _⟩ :: _) _; first | refine WPl.rdX (ReadR.sliceH rfl rfl hasA (by omega)) ?_ | refine WPl.rdX (ReadR.sliceL rfl rfl hasA (by omega)) ?_ | refine WPl.rdX (ReadR.sliceLH rfl rfl rfl hasA (by omega) (by omega)) ?_)
     | (refine WPl.spQ (fun hc => ?_) (fun hc => ?_) <;> try exact prA)
     | fail)
    exact WPq.dV (hc := by
      show Value.int .u16 _ = Value.int .u16 _
      congr 1
      simp only [kmax]
      unfold chg
      rw [← hcc]
      omega)

/-- A rewriter's cells. -/
abbrev wrc (P : Pk) (s : Value) : Ch := [(1, [.bool P.hd.six]), (1, [.int .u8 ((P.hd.proto.toNat : Nat) : Int)]), (1, [.int .i64 P.hd.pos]), (1, [.bool P.hd.src.six]), (16, u8s P.hd.src.b), (1, [.bool P.hd.dst.six]), (16, u8s P.hd.dst.b), (1, [.bool P.hd.part]), (1, [.int .u8 ((P.hd.hops.toNat : Nat) : Int)]), (1, [.int .u16 (P.sg.src : Int)]), (1, [.int .u16 (P.sg.dst : Int)]), (1, [.int .u8 ((P.sg.flags.toNat : Nat) : Int)]), (1, [.int .i64 P.sg.sumAt]), (1, [.bool P.sg.zero]), (1, [.int .i64 P.sg.data]), (1, [.bool P.fl.src.six]), (16, u8s P.fl.src.b), (1, [.bool P.fl.dst.six]), (16, u8s P.fl.dst.b), (1, [.int .u16 (P.fl.sp : Int)]), (1, [.int .u16 (P.fl.dp : Int)]), (1, [.int .u8 ((P.fl.proto.toNat : Nat) : Int)]), (1, [s])]
abbrev hW (gW : Nat) : Value := .pointer (some ⟨gW, 0, none⟩)
variable {P : Pk} {s : Value} {gW : Nat}
theorem wsum_t (c : List UInt8) (k : Nat) (hk : k + 2 ≤ c.length) (hc : c.length ≤ 100000) : Triple Try.prog 45 #[hW gW, .int .i64 (k : Int)] [rbx gW 60 (wrc P s), rb s c] (RVal (.int .u16 ((val (seg c k 2) : Nat) : Int))) := by
  have c1 := get_t s c k 2 hk (by omega) (by omega) (by omega)
  have hv := val_le2 hk
  have k1 := P.hd.src.len
  have k2 := P.hd.dst.len
  have k3 := P.fl.src.len
  have k4 := P.fl.dst.len
  refine Triple.enter Try.func45 rfl Try.ntmps45 rfl (fun W => ?_)
  dsimp only [argsF, Nat.reduceAdd]
  repeat' (first
   | refine WPl.nil ?_ | refine WPq.then ?_ | refine WPq.thenR ?_ | refine WPq.thenE ?_ | refine WPq.blockN ?_ | refine WPq.blockR ?_ | refine WPq.blockE ?_ | refine WPq.blockO rfl ?_ | refine WPc.seq ?_ | refine WPc.block ?_ | refine WPc.ret ?_ | refine WPc.exit ?_ | refine WPc.skip ?_ | refine WPc.region ?_
   | (refine isCond ?_; first | refine WPc.cT ?_ | refine WPc.cF ?_ | (refine WPc.cQ (fun hc => ?_) (fun hc => ?_) <;> try exact prA))
   | (refine isD 11 ?_; refine WPl.rdX (ReadR.loadO memA rfl rfl) ?_)
   | (refine isC 13 ?_; refine WPl.cV (c1) ?_)
   | (refine isOp ?_; first | refine WPl.rd ?_ | refine WPl.sk ?_ | refine WPl.rdB ?_)
   | (show WPl _ _ _ _ _ _ _ (⟨_, .indexAddr _ _ _, _, _, _, _⟩ :: _) _; refine WPl.rdX (ReadR.indexE rfl rfl hasA (by first | assumption | omega)) ?_)
   | (show WPl _ _ _ _ _ _ _ (⟨_, .fieldAddr _ _ _, _, _, _, _⟩ :: _) _; refine WPl.rdX (ReadR.fieldE rfl hasA (by first | assumption | omega)) ?_)
   | (show WPl _ _ _ _ _ _ _ (⟨_, .load _ _, _, _, _, _⟩ :: _) _; first | refine WPl.rdX (ReadR.loadE rfl hasA (by assumption)) ?_ | refine WPl.rdX (ReadR.loadES (by assumption) (by first | assumption | omega) rfl hasA) ?_)
   | (show WPl _ _ _ _ _ _ _ (⟨_, .slice _ _ _ _ _, _, _, _, _⟩ :: _) _; first | refine WPl.rdX (ReadR.sliceH rfl rfl hasA (by omega)) ?_ | refine WPl.rdX (ReadR.sliceL rfl rfl hasA (by omega)) ?_ | refine WPl.rdX (ReadR.sliceLH rfl rfl rfl hasA (by omega) (by omega)) ?_)
   | (refine WPl.spQ (fun hc => ?_) (fun hc => ?_) <;> try exact prA)
   | fail)
  all_goals try (first | exact WPq.dTp | exact WPq.dTs | exact WPq.dV | exact WPq.dR | exact WPq.dR2 | exact WPq.dH | exact WPq.dBH | exact WPq.dT)
theorem wput_t (c : List UInt8) (k n : Nat) (hk : k + 2 ≤ c.length) (hc : c.length ≤ 100000) (hn : n ≤ 65535) : Triple Try.prog 43 #[hW gW, .int .i64 (k : Int), .int .u16 (n : Int)] [bx gW 60 (wrc P s), ob s c]
    (RTurns (.tuple #[]) [bx gW 60 (wrc P s), ob s (lay c k (twoB n))]) := by
  have c1 := fun v => put_t v [] n 2 (by simp) (by omega) (by omega) (by omega)
  rw [List.nil_append, ← twoB_be] at c1
  have t : (twoB n).length = 2 := rfl
  have k1 := P.hd.src.len
  have k2 := P.hd.dst.len
  have k3 := P.fl.src.len
  have k4 := P.fl.dst.len
  rw [← lay_over]
  generalize twoB n = y at *
  refine Triple.enter Try.func43 rfl Try.ntmps43 rfl (fun W => ?_)
  dsimp only [argsF, Nat.reduceAdd]
  refine WPc.nilRow 5 ?_
  repeat' (first
   | refine WPl.nil ?_ | refine WPq.then ?_ | refine WPq.thenR ?_ | refine WPq.thenE ?_ | refine WPq.blockN ?_ | refine WPq.blockR ?_ | refine WPq.blockE ?_ | refine WPq.blockO rfl ?_ | refine WPc.seq ?_ | refine WPc.block ?_ | refine WPc.ret ?_ | refine WPc.exit ?_ | refine WPc.skip ?_ | refine WPc.region ?_
   | (refine isReg 0 ?_; refine WPc.drA [([10], [10, 12, 13, 14]), ([0, 10], [6, 10, 12, 13, 14]), ([0, 1, 10], [6, 7, 10, 12, 13, 14]), ([0, 1, 2, 10], [6, 7, 8, 10, 12, 13, 14]), ([10], [6, 7, 8, 9, 12, 13, 14]), ([0, 1, 2, 3, 4, 10], [6, 7, 8, 9, 10, 12, 13, 14]), ([10], [6, 7, 8, 9, 10, 11]), ([6, 10], [6, 7, 8, 9, 10, 11, 12]), ([6, 7, 10], [6, 7, 8, 9, 10, 11, 12, 13]), ([0, 1, 2, 3, 4, 5, 6, 7, 8, 10], [6, 7, 8, 9, 10, 11, 12, 13, 14])] [(10, 9), (10, 0), (10, 1), (10, 2), (10, 3), (10, 4), (10, 5), (10, 6), (10, 7), (10, 8)] (Γx := [ob s c]) ?_; dsimp only [prev0, List.length_nil, List.length_cons])
   | (refine gAny ?_; first | (refine gC 14 ?_; refine RGl.row (Γ1 := fun _ => []) (fun e hk => OpT.callN (c1 _)) ?_) | (refine gD 11 ?_; refine RGl.rdX (fun e hk => by (try dsimp only [bndR, ensR, oksR, fcutR, List.append_nil, List.nil_append, List.cons_append, List.append_assoc] at hk ⊢); exact ReadR.sliceL rfl rfl hasA (by omega)) ?_) | (refine gOp ?_; first | refine RGl.rdA ?_ | refine RGl.rdX (fun e hk => by (try dsimp only [bndR, ensR, oksR, fcutR, List.append_nil, List.nil_append, List.cons_append, List.append_assoc] at hk ⊢); exact readB) ?_) | (refine gCp ?_; refine RGl.cpA ?_) | (refine RGl.fin (fun e hk => ?_); (try dsimp only [bndA, ensAR, oksA, List.append_nil, List.nil_append, List.cons_append, List.append_assoc] at hk ⊢); (repeat (obtain ⟨hk1, hk⟩ := hk))) | fail)
   | (refine isCond ?_; first | refine WPc.cT ?_ | refine WPc.cF ?_ | (refine WPc.cQ (fun hc => ?_) (fun hc => ?_) <;> try exact prA))
   | (refine isC 14 ?_; refine WPl.cR (c1 _) fun v hv => ?_)
   | (refine isCp ?_; first | refine WPl.cpA fun v => ?_ | refine WPl.cpE fun v => ?_)
   | (refine isOp ?_; first | refine WPl.rd ?_ | refine WPl.sk ?_ | refine WPl.rdB ?_)
   | (show WPl _ _ _ _ _ _ _ (⟨_, .indexAddr _ _ _, _, _, _, _⟩ :: _) _; refine WPl.rdX (ReadR.indexE rfl rfl hasA (by first | assumption | omega)) ?_)
   | (show WPl _ _ _ _ _ _ _ (⟨_, .fieldAddr _ _ _, _, _, _, _⟩ :: _) _; refine WPl.rdX (ReadR.fieldE rfl hasA (by first | assumption | omega)) ?_)
   | (show WPl _ _ _ _ _ _ _ (⟨_, .load _ _, _, _, _, _⟩ :: _) _; first | refine WPl.rdX (ReadR.loadE rfl hasA (by assumption)) ?_ | refine WPl.rdX (ReadR.loadES (by assumption) (by first | assumption | omega) rfl hasA) ?_)
   | (show WPl _ _ _ _ _ _ _ (⟨_, .slice _ _ _ _ _, _, _, _, _⟩ :: _) _; first | refine WPl.rdX (ReadR.sliceH rfl rfl hasA (by omega)) ?_ | refine WPl.rdX (ReadR.sliceL rfl rfl hasA (by omega)) ?_ | refine WPl.rdX (ReadR.sliceLH rfl rfl rfl hasA (by omega) (by omega)) ?_)
   | (refine WPl.spQ (fun hc => ?_) (fun hc => ?_) <;> try exact prA)
   | fail)
  all_goals try (first | exact WPq.dTp | exact WPq.dTs | exact WPq.dV | exact WPq.dR | exact WPq.dR2 | exact WPq.dH | exact WPq.dBH | exact WPq.dT)

end Go.Proofs.Ytjfhiifpnpokpaa
/- Layer 17 (nat): a segment's sum, an address and a port are changed: contracts. -/
namespace Go.Proofs.Ytjfhiifpnpokpaa
open Go.RowKit
set_option linter.unusedSimpArgs false
set_option linter.unusedVariables false
set_option maxRecDepth 20000
set_option maxHeartbeats 4000000
attribute [local irreducible] WPc WPl WPq ReadR OpT BinR HasS bx rdN rowN Take Takes Prov Triple ResF BuildP Done ag Int.decLt Int.decLe Int.instDecidableEq

theorem ReadR.xorT {P : Program} {n : Nat} {Γ : List Asn} {F : List (Nat × Value)} {d : Option Tmp} {ty : TypeId} {pos : String} {af : Array Edge} {gd : Option (Nat × Bool)} {k : IntKind} {a c : Int} {x : Operand} {T : TypeId} (hc : kmax k - a = c) (hk : isU k = true) (h0 : 0 ≤ a) (h1 : a ≤ kmax k) (hx : evF F x = some (.int k a)) : ReadR P n Γ F ⟨d, .unOp .xor T x, ty, pos, af, gd⟩ (.int k c) := hc ▸ ReadR.xorU hx hk h0 h1
variable {P : Pk} {s : Value} {gW : Nat} {p j : Nat}
theorem wat_t (hp : P.hd.pos = (p : Int)) (hj : P.sg.sumAt = (j : Int)) (hb : p + j ≤ 1000000) : Triple Try.prog 60 #[hW gW] [rbx gW 60 (wrc P s)] (RVal (.int .i64 ((p + j : Nat) : Int))) := by
  have k1 := P.hd.src.len
  have k2 := P.hd.dst.len
  have k3 := P.fl.src.len
  have k4 := P.fl.dst.len
  rcases P with ⟨⟨six, pr, pos, a1, a2, pt, hp1⟩, ⟨sr, ds, fg, sa, z, da⟩, f⟩
  dsimp only at hp hj k1 k2 k3 k4
  subst hp hj
  refine Triple.enter Try.func60 rfl Try.ntmps60 rfl (fun W => ?_)
  dsimp only [argsF, Nat.reduceAdd]
  repeat' (first
   | refine WPl.nil ?_ | refine WPq.then ?_ | refine WPq.thenR ?_ | refine WPq.thenE ?_ | refine WPq.blockN ?_ | refine WPq.blockR ?_ | refine WPq.blockE ?_ | refine WPq.blockO rfl ?_ | refine WPc.seq ?_ | refine WPc.block ?_ | refine WPc.ret ?_ | refine WPc.exit ?_ | refine WPc.skip ?_ | refine WPc.region ?_
   | (refine isReg 1 ?_; refine WPc.drA [([], [9, 10, 11, 12, 13, 14]), ([0], [3, 9, 10, 11, 12, 13, 14]), ([0, 1], [3, 4, 9, 10, 11, 12, 13, 14]), ([0, 1, 2], [3, 4, 5, 9, 10, 11, 12, 13, 14]), ([0, 1, 2, 3], [3, 4, 5, 6, 9, 10, 11, 12, 13, 14]), ([0, 1, 2, 3, 4], [3, 4, 5, 6, 7, 9, 10, 11, 12, 13, 14]), ([], [3, 4, 5, 6, 7, 8]), ([6], [3, 4, 5, 6, 7, 8, 9]), ([6, 7], [3, 4, 5, 6, 7, 8, 9, 10]), ([6, 7, 8], [3, 4, 5, 6, 7, 8, 9, 10, 11]), ([6, 7, 8, 9], [3, 4, 5, 6, 7, 8, 9, 10, 11, 12]), ([6, 7, 8, 9, 10], [3, 4, 5, 6, 7, 8, 9, 10, 11, 12, 13]), ([0, 1, 2, 3, 4, 5, 6, 7, 8, 9, 10, 11], [3, 4, 5, 6, 7, 8, 9, 10, 11, 12, 13, 14]), ([0, 1, 2, 3, 4, 5, 6, 7, 8, 9, 10, 11, 12], [3, 4, 5, 6, 7, 8, 9, 10, 11, 12, 13, 14, 15])] [] (Γx := []) ?_; dsimp only [prev0, List.length_nil, List.length_cons])
   | (refine gAny ?_; first | (refine gD 8 ?_; refine RGl.rdX (fun e hk => by (try dsimp only [bndR, ensR, oksR, fcutR, List.append_nil, List.nil_append, List.cons_append, List.append_assoc] at hk ⊢); exact ReadR.loadO memA rfl rfl) ?_) | (refine gD 14 ?_; refine RGl.rdX (fun e hk => by (try dsimp only [bndR, ensR, oksR, fcutR, List.append_nil, List.nil_append, List.cons_append, List.append_assoc] at hk ⊢); exact ReadR.loadO memA rfl rfl) ?_) | (refine gOp ?_; first | refine RGl.rdA ?_ | refine RGl.rdX (fun e hk => by (try dsimp only [bndR, ensR, oksR, fcutR, List.append_nil, List.nil_append, List.cons_append, List.append_assoc] at hk ⊢); exact readB) ?_) | (refine RGl.fin (fun e hk => ?_); (try dsimp only [bndA, ensAR, oksA, List.append_nil, List.nil_append, List.cons_append, List.append_assoc] at hk ⊢); (repeat (obtain ⟨hk1, hk⟩ := hk))) | fail)
   | (refine isCond ?_; first | refine WPc.cT ?_ | refine WPc.cF ?_ | (refine WPc.cQ (fun hc => ?_) (fun hc => ?_) <;> try exact prA))
   | (refine isOp ?_; first | refine WPl.rd ?_ | refine WPl.sk ?_ | refine WPl.rdB ?_)
   | (show WPl _ _ _ _ _ _ _ (⟨_, .indexAddr _ _ _, _, _, _, _⟩ :: _) _; refine WPl.rdX (ReadR.indexE rfl rfl hasA (by first | assumption | omega)) ?_)
   | (show WPl _ _ _ _ _ _ _ (⟨_, .fieldAddr _ _ _, _, _, _, _⟩ :: _) _; refine WPl.rdX (ReadR.fieldE rfl hasA (by first | assumption | omega)) ?_)
   | (show WPl _ _ _ _ _ _ _ (⟨_, .load _ _, _, _, _, _⟩ :: _) _; first | refine WPl.rdX (ReadR.loadE rfl hasA (by assumption)) ?_ | refine WPl.rdX (ReadR.loadES (by assumption) (by first | assumption | omega) rfl hasA) ?_)
   | (show WPl _ _ _ _ _ _ _ (⟨_, .slice _ _ _ _ _, _, _, _, _⟩ :: _) _; first | refine WPl.rdX (ReadR.sliceH rfl rfl hasA (by omega)) ?_ | refine WPl.rdX (ReadR.sliceL rfl rfl hasA (by omega)) ?_ | refine WPl.rdX (ReadR.sliceLH rfl rfl rfl hasA (by omega) (by omega)) ?_)
   | (refine WPl.spQ (fun hc => ?_) (fun hc => ?_) <;> try exact prA)
   | fail)
  all_goals try (first | exact WPq.dTp | exact WPq.dTs | exact WPq.dV | exact WPq.dR | exact WPq.dR2 | exact WPq.dH | exact WPq.dBH | exact WPq.dT)
theorem wseg_t (hp : P.hd.pos = (p : Int)) (hj : P.sg.sumAt = (j : Int)) (c o y : List UInt8) (vo vy : Value) (hb : p + j + 2 ≤ c.length) (hc : c.length ≤ 100000) (hl : o.length = y.length) (he : o.length % 2 = 0) (ho : o.length ≤ 1000) :
    Triple Try.prog 46 #[hW gW, vo, vy] [bx gW 60 (wrc P s), ob s c, ob vo o, ob vy y]
      (RTurns (.tuple #[]) [bx gW 60 (wrc P s), ob s (nsum c P.hd P.sg.zero (p + j) o y), ob vo o, ob vy y]) := by
  have c1 := wat_t (P := P) (s := s) (gW := gW) hp hj (by omega)
  have c2 := wsum_t (P := P) (s := s) (gW := gW) c (p + j) hb hc
  have hv := val_le2 hb
  have c3 := change_t (val (seg c (p + j) 2)) vo vy o y hv hl he ho
  have hN := chg_le (val (seg c (p + j) 2)) o y
  have c4 := fun N hN => wput_t (P := P) (s := s) (gW := gW) c (p + j) N hb hc hN
  have hpr := P.hd.proto.toNat_lt
  unfold nsum
  unfold sfix
  generalize chg (val (seg c (p + j) 2)) o y = N at *
  have k1 := P.hd.src.len
  have k2 := P.hd.dst.len
  have k3 := P.fl.src.len
  have k4 := P.fl.dst.len
  cases hz : P.sg.zero with
  | true =>
    rw [if_pos rfl]
    refine Triple.enter Try.func46 rfl Try.ntmps46 rfl (fun W => ?_)
    dsimp only [argsF, Nat.reduceAdd]
    repeat' (first
     | refine WPl.nil ?_ | refine WPq.then ?_ | refine WPq.thenR ?_ | refine WPq.thenE ?_ | refine WPq.blockN ?_ | refine WPq.blockR ?_ | refine WPq.blockE ?_ | refine WPq.blockO rfl ?_ | refine WPc.seq ?_ | refine WPc.block ?_ | refine WPc.ret ?_ | refine WPc.exit ?_ | refine WPc.skip ?_ | refine WPc.region ?_
     | (refine isCond ?_; first | refine WPc.cT ?_ | refine WPc.cF ?_ | (refine WPc.cQ (fun hc => ?_) (fun hc => ?_) <;> try exact prA))
     | (refine isD 12 ?_; refine WPl.rdX (ReadR.loadS rfl memA (congrArg (fun b => some (Value.bool b)) hz)) ?_)
     | (refine isOp ?_; first | refine WPl.rd ?_ | refine WPl.sk ?_ | refine WPl.rdB ?_)
     | (show WPl _ _ _ _ _ _ _ (⟨_, .indexAddr _ _ _, _, _, _, _⟩ :: _) _; refine WPl.rdX (ReadR.indexE rfl rfl hasA (by first | assumption | omega)) ?_)
     | (show WPl _ _ _ _ _ _ _ (⟨_, .fieldAddr _ _ _, _, _, _, _⟩ :: _) _; refine WPl.rdX (ReadR.fieldE rfl hasA (by first | assumption | omega)) ?_)
     | (show WPl _ _ _ _ _ _ _ (⟨_, .load _ _, _, _, _, _⟩ :: _) _; first | refine WPl.rdX (ReadR.loadE rfl hasA (by assumption)) ?_ | refine WPl.rdX (ReadR.loadES (by assumption) (by first | assumption | omega) rfl hasA) ?_)
     | (show WPl _ _ _ _ _ _ _ (⟨_, .slice _ _ _ _ _, _, _, _, _⟩ :: _) _; first | refine WPl.rdX (ReadR.sliceH rfl rfl hasA (by omega)) ?_ | refine WPl.rdX (ReadR.sliceL rfl rfl hasA (by omega)) ?_ | refine WPl.rdX (ReadR.sliceLH rfl rfl rfl hasA (by omega) (by omega)) ?_)
     | (refine WPl.spQ (fun hc => ?_) (fun hc => ?_) <;> try exact prA)
     | fail)
    all_goals try (first | exact WPq.dTp | exact WPq.dTs | exact WPq.dV | exact WPq.dR | exact WPq.dR2 | exact WPq.dH | exact WPq.dBH | exact WPq.dT)
  | false =>
    rw [if_neg (by decide)]
    by_cases h0 : N = 0 ∧ P.hd.proto.toNat = 17
    · rw [if_pos h0.2, show udp N = 65535 by unfold udp; rw [if_pos h0.1]]
      refine Triple.enter Try.func46 rfl Try.ntmps46 rfl (fun W => ?_)
      dsimp only [argsF, Nat.reduceAdd]
      repeat' (first
       | refine WPl.nil ?_ | refine WPq.then ?_ | refine WPq.thenR ?_ | refine WPq.thenE ?_ | refine WPq.blockN ?_ | refine WPq.blockR ?_ | refine WPq.blockE ?_ | refine WPq.blockO rfl ?_ | refine WPc.seq ?_ | refine WPc.block ?_ | refine WPc.ret ?_ | refine WPc.exit ?_ | refine WPc.skip ?_ | refine WPc.region ?_
       | (refine isCond ?_; first | refine WPc.cT ?_ | refine WPc.cF ?_ | (refine WPc.cQ (fun hc => ?_) (fun hc => ?_) <;> try exact prA))
       | (refine isC 15 ?_; refine WPl.cV (c1) ?_ (hΔ := provsX))
       | (refine isC 16 ?_; refine WPl.cV (c2) ?_ (hΔ := provsX))
       | (refine isC 19 ?_; refine WPl.cV (c3) ?_)
       | (refine isD 32 ?_; refine WPl.rdX (ReadR.xorT (c := 65535) (by simp only [kmax]; omega) rfl (by omega) (by simp only [kmax]; omega) rfl) ?_)
       | (refine isC 35 ?_; refine WPl.cV (c1) ?_ (hΔ := provsX))
       | (refine isC 37 ?_; refine WPl.cTs ((c4 65535 (by omega))) ?_; (try dsimp only [putF, List.cons_append, List.nil_append]))
       | (refine isOp ?_; first | refine WPl.rd ?_ | refine WPl.sk ?_ | refine WPl.rdB ?_)
       | (show WPl _ _ _ _ _ _ _ (⟨_, .indexAddr _ _ _, _, _, _, _⟩ :: _) _; refine WPl.rdX (ReadR.indexE rfl rfl hasA (by first | assumption | omega)) ?_)
       | (show WPl _ _ _ _ _ _ _ (⟨_, .fieldAddr _ _ _, _, _, _, _⟩ :: _) _; refine WPl.rdX (ReadR.fieldE rfl hasA (by first | assumption | omega)) ?_)
       | (show WPl _ _ _ _ _ _ _ (⟨_, .load _ _, _, _, _, _⟩ :: _) _; first | refine WPl.rdX (ReadR.loadE rfl hasA (by assumption)) ?_ | refine WPl.rdX (ReadR.loadES (by assumption) (by first | assumption | omega) rfl hasA) ?_)
       | (show WPl _ _ _ _ _ _ _ (⟨_, .slice _ _ _ _ _, _, _, _, _⟩ :: _) _; first | refine WPl.rdX (ReadR.sliceH rfl rfl hasA (by omega)) ?_ | refine WPl.rdX (ReadR.sliceL rfl rfl hasA (by omega)) ?_ | refine WPl.rdX (ReadR.sliceLH rfl rfl rfl hasA (by omega) (by omega)) ?_)
       | (refine WPl.spQ (fun hc => ?_) (fun hc => ?_) <;> try exact prA)
       | fail)
      all_goals try (first | exact WPq.dTp | exact WPq.dTs | exact WPq.dV | exact WPq.dR | exact WPq.dR2 | exact WPq.dH | exact WPq.dBH | exact WPq.dT)
    · rw [show (if P.hd.proto.toNat = 17 then udp N else N) = N by split; (unfold udp; rw [if_neg (by omega)]); rfl]
      refine Triple.enter Try.func46 rfl Try.ntmps46 rfl (fun W => ?_)
      dsimp only [argsF, Nat.reduceAdd]
      repeat' (first
       | refine WPl.nil ?_ | refine WPq.then ?_ | refine WPq.thenR ?_ | refine WPq.thenE ?_ | refine WPq.blockN ?_ | refine WPq.blockR ?_ | refine WPq.blockE ?_ | refine WPq.blockO rfl ?_ | refine WPc.seq ?_ | refine WPc.block ?_ | refine WPc.ret ?_ | refine WPc.exit ?_ | refine WPc.skip ?_ | refine WPc.region ?_
       | (refine isCond ?_; first | refine WPc.cT ?_ | refine WPc.cF ?_ | (refine WPc.cQ (fun hc => ?_) (fun hc => ?_) <;> try exact prA))
       | (refine isC 15 ?_; refine WPl.cV (c1) ?_ (hΔ := provsX))
       | (refine isC 16 ?_; refine WPl.cV (c2) ?_ (hΔ := provsX))
       | (refine isC 19 ?_; refine WPl.cV (c3) ?_)
       | (refine isC 35 ?_; refine WPl.cV (c1) ?_ (hΔ := provsX))
       | (refine isC 37 ?_; refine WPl.cTs ((c4 N hN)) ?_; (try dsimp only [putF, List.cons_append, List.nil_append]))
       | (refine isOp ?_; first | refine WPl.rd ?_ | refine WPl.sk ?_ | refine WPl.rdB ?_)
       | (show WPl _ _ _ _ _ _ _ (⟨_, .indexAddr _ _ _, _, _, _, _⟩ :: _) _; refine WPl.rdX (ReadR.indexE rfl rfl hasA (by first | assumption | omega)) ?_)
       | (show WPl _ _ _ _ _ _ _ (⟨_, .fieldAddr _ _ _, _, _, _, _⟩ :: _) _; refine WPl.rdX (ReadR.fieldE rfl hasA (by first | assumption | omega)) ?_)
       | (show WPl _ _ _ _ _ _ _ (⟨_, .load _ _, _, _, _, _⟩ :: _) _; first | refine WPl.rdX (ReadR.loadE rfl hasA (by assumption)) ?_ | refine WPl.rdX (ReadR.loadES (by assumption) (by first | assumption | omega) rfl hasA) ?_)
       | (show WPl _ _ _ _ _ _ _ (⟨_, .slice _ _ _ _ _, _, _, _, _⟩ :: _) _; first | refine WPl.rdX (ReadR.sliceH rfl rfl hasA (by omega)) ?_ | refine WPl.rdX (ReadR.sliceL rfl rfl hasA (by omega)) ?_ | refine WPl.rdX (ReadR.sliceLH rfl rfl rfl hasA (by omega) (by omega)) ?_)
       | (refine WPl.spQ (fun hc => ?_) (fun hc => ?_) <;> try exact prA)
       | fail)
      all_goals try (first | exact WPq.dTp | exact WPq.dTs | exact WPq.dV | exact WPq.dR | exact WPq.dR2 | exact WPq.dH | exact WPq.dBH | exact WPq.dT)

end Go.Proofs.Ytjfhiifpnpokpaa
/- Layer 17 (nat): an address and a port are put anew; a packet is sent elsewhere: contracts. -/
namespace Go.Proofs.Ytjfhiifpnpokpaa
open Go.RowKit
set_option linter.unusedSimpArgs false
set_option linter.unusedVariables false
set_option maxRecDepth 20000
set_option maxHeartbeats 4000000
attribute [local irreducible] WPc WPl WPq ReadR OpT BinR HasS bx rdN rowN Take Takes Prov Triple ResF BuildP Done ag Int.decLt Int.decLe Int.instDecidableEq

theorem ReadR.sliceN {P : Program} {n : Nat} {Γ : List Asn} {F : List (Nat × Value)} {d : Option Tmp} {ty : TypeId} {pos : String} {af : Array Edge} {gd : Option (Nat × Bool)} {T e : TypeId} {ag : Bool} {sz : Nat} [hT : SliI P T e] [he : TyI P e ag sz] {x lo hi : Operand} {s : Value} {k1 k2 : IntKind} {i j m q : Nat} {xs : List Value} (hq : i + q = j) (hx : evF F x = some s) (hl : evF F lo = some (.int k1 (Int.ofNat i))) (hh : evF F hi = some (.int k2 (Int.ofNat j))) (h : HasS Γ s m xs) (h2 : j ≤ m) :
    ReadR P n Γ F ⟨d, .slice T x (some lo) (some hi) none, ty, pos, af, gd⟩ (subv sz s i q) := by
  have := ReadR.sliceLH (P := P) (n := n) (Γ := Γ) (F := F) (d := d) (ty := ty) (pos := pos) (af := af) (gd := gd) (hT := hT) (he := he) hx hl hh h (by omega) h2
  rw [show j - i = q by omega] at this
  exact this
variable {P : Pk} {s : Value} {gW : Nat} {p j : Nat}
theorem nsum_len {c o y : List UInt8} {h : Hd} {z : Bool} {k : Nat} (hk : k + 2 ≤ c.length) : (nsum c h z k o y).length = c.length := by
  unfold nsum; split
  · rfl
  · exact lay_length (by simpa [twoB] using hk)
theorem waddr_t (hp : P.hd.pos = (p : Int)) (hj : P.sg.sumAt = (j : Int)) (hjs : j = sj P.hd) (b : List UInt8) (w : Nat) (a : Adr) (hb : p + j + 2 ≤ b.length) (hc : b.length ≤ 100000) (hk : nk P.hd.six w + a.bytes.length ≤ b.length) (h12 : 12 ≤ b.length) :
    Triple Try.prog 26 #[hW gW, .int .i64 ((nk P.hd.six w : Nat) : Int), ag (adc a)] [bx gW 60 (wrc P s), ob s b]
      (RTurns (.tuple #[]) [bx gW 60 (wrc P s), ob s (n3 b P.hd P.sg.zero w a)]) := by
  have la := a.len
  have c1 := addrBytes_t a
  have hbl := a.bytes_len
  have hby : a.bytes.length ≤ 16 := by rw [hbl]; split <;> omega
  have hev : a.bytes.length % 2 = 0 := abytes_even a
  have hsl : (seg b (nk P.hd.six w) a.bytes.length).length = a.bytes.length := seg_length hk
  have c2 := clone_t (subv 1 s (nk P.hd.six w) a.bytes.length) (seg b (nk P.hd.six w) a.bytes.length) (by omega)
  have hpe : p = P.hd.pos.toNat := by omega
  have k1 := P.hd.src.len
  have k2 := P.hd.dst.len
  have k3 := P.fl.src.len
  have k4 := P.fl.dst.len
  have ll : (lay b (nk P.hd.six w) a.bytes).length = b.length := lay_length hk
  have c8 := fun (c : List UInt8) (vo vy : Value) (hcl : c.length = b.length) => wseg_t (P := P) (s := s) (gW := gW) hp hj c (seg b (nk P.hd.six w) a.bytes.length) a.bytes vo vy (by omega) (by omega) hsl (by omega) (by omega)
  unfold n3
  rw [← hpe, ← hjs]
  unfold n2 n1
  cases hs : P.hd.six with
  | true =>
    rw [if_pos rfl]
    rw [hs] at c2 c8 ll hsl hk
    have c9 := fun vo vy => c8 (lay b (nk true w) a.bytes) vo vy ll
    clear c8
    rw [← lay_over] at c9 ⊢
    generalize hK : nk true w = k at *
    generalize a.bytes = y at *
    refine Triple.enter Try.func26 rfl Try.ntmps26 rfl (fun W => ?_)
    dsimp only [argsF, Nat.reduceAdd]
    repeat' (first
     | refine WPl.nil ?_ | refine WPq.then ?_ | refine WPq.thenR ?_ | refine WPq.thenE ?_ | refine WPq.blockN ?_ | refine WPq.blockR ?_ | refine WPq.blockE ?_ | refine WPq.blockO rfl ?_ | refine WPc.seq ?_ | refine WPc.block ?_ | refine WPc.ret ?_ | refine WPc.exit ?_ | refine WPc.skip ?_ | refine WPc.region ?_
     | (refine isCond ?_; first | refine WPc.cT ?_ | refine WPc.cF ?_ | (refine WPc.cQ (fun hc => ?_) (fun hc => ?_) <;> try exact prA))
     | (refine isC 9 ?_; refine WPl.cR (c1) fun vy hvy => ?_)
     | (refine isD 19 ?_; refine WPl.rdX (ReadR.sliceN (q := y.length) rfl rfl rfl rfl hasA (by omega)) ?_)
     | (refine isC 20 ?_; refine WPl.cR (c2) fun vo hvo => ?_)
     | (refine isC 46 ?_; refine WPl.cTs ((c9 vo vy)) ?_; (try dsimp only [putF, List.cons_append, List.nil_append]))
     | (refine isD 34 ?_; refine WPl.rdX (ReadR.loadS rfl memA (congrArg (fun b => some [(1, [Value.bool b])]) hs)) ?_)
     | (refine isCp ?_; first | refine WPl.cpA fun v => ?_ | refine WPl.cpE fun v => ?_)
     | (refine isOp ?_; first | refine WPl.rd ?_ | refine WPl.sk ?_ | refine WPl.rdB ?_)
     | (refine isBx ?_; refine WPl.nw fun g => ?_)
     | (show WPl _ _ _ _ _ _ _ (⟨_, .indexAddr _ _ _, _, _, _, _⟩ :: _) _; refine WPl.rdX (ReadR.indexE rfl rfl hasA (by first | assumption | omega)) ?_)
     | (show WPl _ _ _ _ _ _ _ (⟨_, .fieldAddr _ _ _, _, _, _, _⟩ :: _) _; refine WPl.rdX (ReadR.fieldE rfl hasA (by first | assumption | omega)) ?_)
     | (show WPl _ _ _ _ _ _ _ (⟨_, .load _ _, _, _, _, _⟩ :: _) _; first | refine WPl.rdX (ReadR.loadE rfl hasA (by assumption)) ?_ | refine WPl.rdX (ReadR.loadES (by assumption) (by first | assumption | omega) rfl hasA) ?_)
     | (show WPl _ _ _ _ _ _ _ (⟨_, .slice _ _ _ _ _, _, _, _, _⟩ :: _) _; first | refine WPl.rdX (ReadR.sliceH rfl rfl hasA (by omega)) ?_ | refine WPl.rdX (ReadR.sliceL rfl rfl hasA (by omega)) ?_ | refine WPl.rdX (ReadR.sliceLH rfl rfl rfl hasA (by omega) (by omega)) ?_)
     | (refine WPl.spQ (fun hc => ?_) (fun hc => ?_) <;> try exact prA)
     | fail)
    all_goals try (first | exact WPq.dTp | exact WPq.dTs | exact WPq.dV | exact WPq.dR | exact WPq.dR2 | exact WPq.dH | exact WPq.dBH | exact WPq.dT)
  | false =>
    rw [if_neg (by decide)]
    rw [hs] at c2 c8 ll hsl hk
    have h12k : 12 ≤ nk false w := by unfold nk; rw [if_neg (by decide)]; omega
    have e10 : seg (lay b (nk false w) a.bytes) 10 2 = seg b 10 2 := seg_lay_out hk (Or.inl (by omega))
    have c3 := wsum_t (P := P) (s := s) (gW := gW) (lay b (nk false w) a.bytes) 10 (by omega) (by omega)
    rw [e10] at c3
    have hv := val_le2 (b := b) (j := 10) (by omega)
    have c4 := fun vo vy => change_t (val (seg b 10 2)) vo vy (seg b (nk false w) a.bytes.length) a.bytes hv hsl (by omega) (by omega)
    have hN := chg_le (val (seg b 10 2)) (seg b (nk false w) a.bytes.length) a.bytes
    have c5 := wput_t (P := P) (s := s) (gW := gW) (lay b (nk false w) a.bytes) 10 (chg (val (seg b 10 2)) (seg b (nk false w) a.bytes.length) a.bytes) (by omega) (by omega) hN
    have c9 := fun vo vy => c8 (lay (lay b (nk false w) a.bytes) 10 (twoB (chg (val (seg b 10 2)) (seg b (nk false w) a.bytes.length) a.bytes))) vo vy (by rw [lay_length (by rw [ll]; simp [twoB]; omega), ll])
    clear c8
    generalize chg (val (seg b 10 2)) (seg b (nk false w) a.bytes.length) a.bytes = N at *
    generalize hK : nk false w = k at *
    rw [← lay_over b] at c3 c5 c9 ⊢
    generalize a.bytes = y at *
    generalize val (seg b 10 2) = V at *
    refine Triple.enter Try.func26 rfl Try.ntmps26 rfl (fun W => ?_)
    dsimp only [argsF, Nat.reduceAdd]
    repeat' (first
     | refine WPl.nil ?_ | refine WPq.then ?_ | refine WPq.thenR ?_ | refine WPq.thenE ?_ | refine WPq.blockN ?_ | refine WPq.blockR ?_ | refine WPq.blockE ?_ | refine WPq.blockO rfl ?_ | refine WPc.seq ?_ | refine WPc.block ?_ | refine WPc.ret ?_ | refine WPc.exit ?_ | refine WPc.skip ?_ | refine WPc.region ?_
     | (refine isCond ?_; first | refine WPc.cT ?_ | refine WPc.cF ?_ | (refine WPc.cQ (fun hc => ?_) (fun hc => ?_) <;> try exact prA))
     | (refine isC 9 ?_; refine WPl.cR (c1) fun vy hvy => ?_)
     | (refine isD 19 ?_; refine WPl.rdX (ReadR.sliceN (q := y.length) rfl rfl rfl rfl hasA (by omega)) ?_)
     | (refine isC 20 ?_; refine WPl.cR (c2) fun vo hvo => ?_)
     | (refine isC 38 ?_; refine WPl.cV (c3) ?_ (hΔ := provsX))
     | (refine isC 41 ?_; refine WPl.cV ((c4 vo vy)) ?_)
     | (refine isC 42 ?_; refine WPl.cTs (c5) ?_; (try dsimp only [putF, List.cons_append, List.nil_append]))
     | (refine isC 46 ?_; refine WPl.cTs ((c9 vo vy)) ?_; (try dsimp only [putF, List.cons_append, List.nil_append]))
     | (refine isD 34 ?_; refine WPl.rdX (ReadR.loadS rfl memA (congrArg (fun b => some [(1, [Value.bool b])]) hs)) ?_)
     | (refine isCp ?_; first | refine WPl.cpA fun v => ?_ | refine WPl.cpE fun v => ?_)
     | (refine isOp ?_; first | refine WPl.rd ?_ | refine WPl.sk ?_ | refine WPl.rdB ?_)
     | (refine isBx ?_; refine WPl.nw fun g => ?_)
     | (show WPl _ _ _ _ _ _ _ (⟨_, .indexAddr _ _ _, _, _, _, _⟩ :: _) _; refine WPl.rdX (ReadR.indexE rfl rfl hasA (by first | assumption | omega)) ?_)
     | (show WPl _ _ _ _ _ _ _ (⟨_, .fieldAddr _ _ _, _, _, _, _⟩ :: _) _; refine WPl.rdX (ReadR.fieldE rfl hasA (by first | assumption | omega)) ?_)
     | (show WPl _ _ _ _ _ _ _ (⟨_, .load _ _, _, _, _, _⟩ :: _) _; first | refine WPl.rdX (ReadR.loadE rfl hasA (by assumption)) ?_ | refine WPl.rdX (ReadR.loadES (by assumption) (by first | assumption | omega) rfl hasA) ?_)
     | (show WPl _ _ _ _ _ _ _ (⟨_, .slice _ _ _ _ _, _, _, _, _⟩ :: _) _; first | refine WPl.rdX (ReadR.sliceH rfl rfl hasA (by omega)) ?_ | refine WPl.rdX (ReadR.sliceL rfl rfl hasA (by omega)) ?_ | refine WPl.rdX (ReadR.sliceLH rfl rfl rfl hasA (by omega) (by omega)) ?_)
     | (refine WPl.spQ (fun hc => ?_) (fun hc => ?_) <;> try exact prA)
     | fail)
    all_goals try (first | exact WPq.dTp | exact WPq.dTs | exact WPq.dV | exact WPq.dR | exact WPq.dR2 | exact WPq.dH | exact WPq.dBH | exact WPq.dT)
theorem wport_t (hp : P.hd.pos = (p : Int)) (hj : P.sg.sumAt = (j : Int)) (b : List UInt8) (w n : Nat) (hw : w = 0 ∨ w = 1) (hj6 : 6 ≤ j) (hb : p + j + 2 ≤ b.length) (hc : b.length ≤ 100000) (hn : n ≤ 65535) (k : Int) (hk : k = ((2 * w : Nat) : Int)) :
    Triple Try.prog 28 #[hW gW, .int .i64 k, .int .u16 (n : Int)] [bx gW 60 (wrc P s), ob s b]
      (RTurns (.tuple #[]) [bx gW 60 (wrc P s), ob s (nsum (lay b (p + 2 * w) (twoB n)) P.hd P.sg.zero (p + j) (seg b (p + 2 * w) 2) (twoB n))]) := by
  have c1 := fun v => put_t v [] n 2 (by simp) (by omega) (by omega) (by omega)
  rw [List.nil_append, ← twoB_be] at c1
  have t : (twoB n).length = 2 := rfl
  have hsl : (seg b (p + 2 * w) 2).length = 2 := seg_length (by omega)
  have c2 := clone_t (subv 1 s (p + 2 * w) 2) (seg b (p + 2 * w) 2) (by omega)
  have ll : (lay b (p + 2 * w) (twoB n)).length = b.length := lay_length (by omega)
  have c3 := fun vo vy => wseg_t (P := P) (s := s) (gW := gW) hp hj (lay b (p + 2 * w) (twoB n)) (seg b (p + 2 * w) 2) (twoB n) vo vy (by omega) (by omega) (by omega) (by omega) (by omega)
  have k1 := P.hd.src.len
  have k2 := P.hd.dst.len
  have k3 := P.fl.src.len
  have k4 := P.fl.dst.len
  rw [← lay_over] at c3 ⊢
  generalize twoB n = y at *
  subst hk
  obtain ⟨q, hq⟩ : ∃ q, q = p + 2 * w := ⟨_, rfl⟩
  rw [← hq] at c2 c3 ⊢
  refine Triple.enter Try.func28 rfl Try.ntmps28 rfl (fun W => ?_)
  dsimp only [argsF, Nat.reduceAdd]
  refine WPc.nilRow 5 ?_
  repeat' (first
   | refine WPl.nil ?_ | refine WPq.then ?_ | refine WPq.thenR ?_ | refine WPq.thenE ?_ | refine WPq.blockN ?_ | refine WPq.blockR ?_ | refine WPq.blockE ?_ | refine WPq.blockO rfl ?_ | refine WPc.seq ?_ | refine WPc.block ?_ | refine WPc.ret ?_ | refine WPc.exit ?_ | refine WPc.skip ?_ | refine WPc.region ?_
   | (refine isCond ?_; first | refine WPc.cT ?_ | refine WPc.cF ?_ | (refine WPc.cQ (fun hc => ?_) (fun hc => ?_) <;> try exact prA))
   | (refine isD 15 ?_; refine WPl.rdX (ReadR.binE rfl rfl (BinR.addI (by omega) (by omega)) (congrArg (Value.int .i64) (show ((2 * w : Nat) : Int) + P.hd.pos = ((q : Nat) : Int) by omega))) ?_)
   | (refine isC 18 ?_; refine WPl.cR (c1 _) fun vy hvy => ?_)
   | (refine isD 26 ?_; refine WPl.rdX (ReadR.sliceN (q := 2) rfl rfl rfl rfl hasA (by omega)) ?_)
   | (refine isC 27 ?_; refine WPl.cR (c2) fun vo hvo => ?_)
   | (refine isC 39 ?_; refine WPl.cTs ((c3 vo vy)) ?_; (try dsimp only [putF, List.cons_append, List.nil_append]))
   | (refine isCp ?_; first | refine WPl.cpA fun v => ?_ | refine WPl.cpE fun v => ?_)
   | (refine isOp ?_; first | refine WPl.rd ?_ | refine WPl.sk ?_ | refine WPl.rdB ?_)
   | (show WPl _ _ _ _ _ _ _ (⟨_, .indexAddr _ _ _, _, _, _, _⟩ :: _) _; refine WPl.rdX (ReadR.indexE rfl rfl hasA (by first | assumption | omega)) ?_)
   | (show WPl _ _ _ _ _ _ _ (⟨_, .fieldAddr _ _ _, _, _, _, _⟩ :: _) _; refine WPl.rdX (ReadR.fieldE rfl hasA (by first | assumption | omega)) ?_)
   | (show WPl _ _ _ _ _ _ _ (⟨_, .load _ _, _, _, _, _⟩ :: _) _; first | refine WPl.rdX (ReadR.loadE rfl hasA (by assumption)) ?_ | refine WPl.rdX (ReadR.loadES (by assumption) (by first | assumption | omega) rfl hasA) ?_)
   | (show WPl _ _ _ _ _ _ _ (⟨_, .slice _ _ _ _ _, _, _, _, _⟩ :: _) _; first | refine WPl.rdX (ReadR.sliceH rfl rfl hasA (by omega)) ?_ | refine WPl.rdX (ReadR.sliceL rfl rfl hasA (by omega)) ?_ | refine WPl.rdX (ReadR.sliceLH rfl rfl rfl hasA (by omega) (by omega)) ?_)
   | (refine WPl.spQ (fun hc => ?_) (fun hc => ?_) <;> try exact prA)
   | fail)
  all_goals try (first | exact WPq.dTp | exact WPq.dTs | exact WPq.dV | exact WPq.dR | exact WPq.dR2 | exact WPq.dH | exact WPq.dBH | exact WPq.dT)

end Go.Proofs.Ytjfhiifpnpokpaa
/- Layer 17 (nat): a packet is sent elsewhere: contracts of the program. -/
namespace Go.Proofs.Ytjfhiifpnpokpaa
open Go.RowKit
set_option linter.unusedSimpArgs false
set_option linter.unusedVariables false
set_option maxRecDepth 20000
set_option maxHeartbeats 4000000
attribute [local irreducible] WPc WPl WPq ReadR OpT BinR HasS bx rdN rowN Take Takes Prov Triple ResF BuildP Done ag Int.decLt Int.decLe Int.instDecidableEq

theorem n2_len {b : List UInt8} {six : Bool} {w : Nat} {a : Adr} (h1 : nk six w + a.bytes.length ≤ b.length) (h2 : 12 ≤ b.length) : (n2 b six w a).length = b.length := by
  have l1 : (n1 b six w a).length = b.length := lay_length h1
  have t : ∀ n, (twoB n).length = 2 := fun n => rfl
  unfold n2; split
  · exact l1
  · rw [lay_length (by rw [l1, t]; exact h2), l1]
theorem n3_len {b : List UInt8} {h : Hd} {z : Bool} {w : Nat} {a : Adr} (h1 : nk h.six w + a.bytes.length ≤ b.length) (h2 : 12 ≤ b.length) (h3 : h.pos.toNat + sj h + 2 ≤ b.length) : (n3 b h z w a).length = b.length := by
  have l2 := n2_len h1 h2
  unfold n3
  rw [nsum_len (by rw [l2]; exact h3), l2]
theorem n5_len {b : List UInt8} {h : Hd} {z : Bool} {w p : Nat} {a : Adr} (hw : w = 0 ∨ w = 1) (h1 : nk h.six w + a.bytes.length ≤ b.length) (h2 : 12 ≤ b.length) (h3 : h.pos.toNat + sj h + 2 ≤ b.length) : (n5 b h z w a p).length = b.length := by
  have l3 := n3_len (z := z) h1 h2 h3
  have hj := sj_ge h
  have t : ∀ n, (twoB n).length = 2 := fun n => rfl
  have l4 : (lay (n3 b h z w a) (h.pos.toNat + 2 * w) (twoB p)).length = b.length := by rw [lay_length (by rw [l3, t]; omega), l3]
  unfold n5
  rw [nsum_len (by rw [l4]; exact h3), l4]
/-- What is told of a packet that is sent elsewhere. -/
def natB (b : List UInt8) (a : Adr) (p : Nat) : Prop := a.good = true ∧ a.six = (phH b).six ∧ p ≠ 0
instance (b : List UInt8) (a : Adr) (p : Nat) : Decidable (natB b a p) := inferInstanceAs (Decidable (_ ∧ _ ∧ _))
def natE (b : List UInt8) (a : Adr) (p : Nat) : Int := if ¬ pkE b = 0 then pkE b else if natB b a p then 0 else 1
def natL (b : List UInt8) (w : Nat) (a : Adr) (p : Nat) : List UInt8 := if natE b a p = 0 then n5 b (phH b) (sgR (phH b) (pkS b)).zero w a p else []
/-- Facts of a packet that is read. -/
theorem pk_facts {b : List UInt8} (h : pkE b = 0) :
    (∃ k : Nat, (phH b).pos = (k : Int) ∧ k + sj (phH b) + 2 ≤ b.length ∧ 20 ≤ k) ∧ (sgR (phH b) (pkS b)).sumAt = (sj (phH b) : Int) ∧ 12 ≤ b.length := by
  obtain ⟨hE, hp, hS, hR⟩ := pk_zero h
  have hpos := phE_pos hE
  have pl : (pkS b).length = b.length - (phH b).pos.toNat := by unfold pkS; simp [seg]
  have hpp := ph_pos hE
  have hsj : (sgR (phH b) (pkS b)).sumAt = (sj (phH b) : Int) ∧ sj (phH b) + 2 ≤ (pkS b).length := by
    obtain ⟨_, hf⟩ := sg_facts hS
    rcases hf with ⟨_, h1, _, _, h2, h3⟩ | ⟨_, h1, h2, h3, _⟩
    · rw [h2, h3]; exact ⟨rfl, by omega⟩
    · rw [h2, h3]; exact ⟨rfl, by omega⟩
  refine ⟨⟨(phH b).pos.toNat, by omega, by omega, by omega⟩, hsj.1, by omega⟩
theorem pk_nk {b : List UInt8} {w : Nat} {a : Adr} (h : pkE b = 0) (hs : a.six = (phH b).six) (hw : w = 0 ∨ w = 1) : nk (phH b).six w + a.bytes.length ≤ b.length := by
  obtain ⟨hE, hp, hS, hR⟩ := pk_zero h
  have hl := a.bytes_len
  rw [hs] at hl
  rcases phH_six hE with ⟨h4, he, e, es, h0⟩ | ⟨h6, he, e, es, h0⟩
  · obtain ⟨q1, q2, q3, q4, q5, _⟩ := ferr_zero he
    rw [es, if_neg (by decide)] at hl
    rw [es, hl]
    unfold nk
    rw [if_neg (by decide)]
    omega
  · obtain ⟨q1, q2, _⟩ := xerr0_zero (xerr_form he).1
    rw [es, if_pos rfl] at hl
    rw [es, hl]
    unfold nk
    rw [if_pos rfl]
    omega
theorem nk_at {six : Bool} {w n : Nat} (hn : n = if six then 16 else 4) (hw : w = 0 ∨ w = 1) : (if six then (8 : Int) else 12) + (w : Int) * (n : Int) = ((nk six w : Nat) : Int) ∧ (w : Int) * (n : Int) ≤ 16 ∧ 0 ≤ (w : Int) * (n : Int) := by
  unfold nk
  cases six <;> rcases hw with rfl | rfl <;> subst hn <;> simp
attribute [local irreducible] phH phE sgR sgE pkE pkS n3 n5
theorem wrFok (X : Pk) {s : Value} (h : s.oneCell' = true) : FOk (wrc X s) := by
  have k1 := X.hd.src.len
  have k2 := X.hd.dst.len
  have k3 := X.fl.src.len
  have k4 := X.fl.dst.len
  exact fokA
theorem pkFok (X : Pk) : FOk (pkc X) := by
  have k1 := X.hd.src.len
  have k2 := X.hd.dst.len
  have k3 := X.fl.src.len
  have k4 := X.fl.dst.len
  exact fokA
theorem wrBuild (X : Pk) {s : Value} {F : List (Nat × Value)} {x0 x1 : Operand} (h : s.oneCell' = true) (h0 : evF F x0 = some (ag (pkc X))) (h1 : evF F x1 = some s) :
    BuildP [(0, 82), (82, 1)] F [(0, x0), (1, x1)] [(1, [.bool false]), (1, [.int .u8 0]), (1, [.int .i64 0]), (1, [.bool false]), (16, u8s (List.replicate 16 0)), (1, [.bool false]), (16, u8s (List.replicate 16 0)), (1, [.bool false]), (1, [.int .u8 0]), (1, [.int .u16 0]), (1, [.int .u16 0]), (1, [.int .u8 0]), (1, [.int .i64 0]), (1, [.bool false]), (1, [.int .i64 0]), (1, [.bool false]), (16, u8s (List.replicate 16 0)), (1, [.bool false]), (16, u8s (List.replicate 16 0)), (1, [.int .u16 0]), (1, [.int .u16 0]), (1, [.int .u8 0]), (1, [.slice none 0 0])] (wrc X s) :=
  BuildP.cons (cs1 := wrc X (.slice none 0 0)) rfl h0 (PartV.agg (pkFok X)) (by kernel_rfl) (by kernel_rfl) (BuildP.cons (new := [(1, [s])]) (cs1 := wrc X s) rfl h1 (PartV.one h) rfl (by kernel_rfl) BuildP.nil)
theorem nrw_ok (v : Value) (b : List UInt8) (w : Nat) (a : Adr) (p : Nat) (X : Pk) {k : Nat} (c1 : Triple Try.prog 23 #[v] [rb v b] (RVal (.tuple #[ag (pkc X), .int .i64 0])))
    (c2 : Triple Try.prog 24 #[ag (adc a)] [] (RVal (.bool true))) (c3 : Triple Try.prog 25 #[v] [rb v b] (ROb b)) (c4 : Triple Try.prog 27 #[ag (adc a)] [] (ROb a.bytes))
    (hg : a.good = true) (hs : a.six = X.hd.six) (hw : w = 0 ∨ w = 1) (hp : p ≤ 65535) (hp0 : p ≠ 0) (hl : b.length ≤ 100000) (hnk : nk X.hd.six w + a.bytes.length ≤ b.length) (hk : X.hd.pos = (k : Int)) (hsj : X.sg.sumAt = (sj X.hd : Int)) (hk2 : k + sj X.hd + 2 ≤ b.length) (hk20 : 20 ≤ k) (h12 : 12 ≤ b.length)
    (hj6 : 6 ≤ sj X.hd) (l3 : (n3 b X.hd X.sg.zero w a).length = b.length) (l5 : (n5 b X.hd X.sg.zero w a p).length = b.length) :
    Triple Try.prog 11 #[v, .int .i64 (w : Int), ag (adc a), .int .u16 (p : Int)] [rb v b] (RW (n5 b X.hd X.sg.zero w a p) 0) := by
  have la := a.len
  have k1 := X.hd.src.len
  have k2 := X.hd.dst.len
  have k3 := X.fl.src.len
  have k4 := X.fl.dst.len
  have hkk : k = X.hd.pos.toNat := by omega
  have c5 := fun s gW => waddr_t (P := X) (s := s) (gW := gW) hk hsj rfl b w a hk2 hl hnk h12
  have c6 := fun s gW => wport_t (P := X) (s := s) (gW := gW) hk hsj (n3 b X.hd X.sg.zero w a) w p hw hj6 (by omega) (by omega) hp (2 * (w : Int)) (by omega)
  have e5 : nsum (lay (n3 b X.hd X.sg.zero w a) (k + 2 * w) (twoB p)) X.hd X.sg.zero (k + sj X.hd) (seg (n3 b X.hd X.sg.zero w a) (k + 2 * w) 2) (twoB p) = n5 b X.hd X.sg.zero w a p := by
    rw [hkk]; unfold n5; rfl
  rw [e5] at c6
  obtain ⟨m1, m2, m3⟩ := nk_at (six := X.hd.six) (n := a.bytes.length) (by rw [a.bytes_len, hs]) hw
  generalize n5 b X.hd X.sg.zero w a p = L5 at *
  generalize n3 b X.hd X.sg.zero w a = L3 at *
  have hw2 : w ≤ 1 := by omega
  have hsx : X.hd.six = a.six := hs.symm
  have q1 : (-9223372036854775808 : Int) ≤ (w : Int) * ((a.bytes.length : Nat) : Int) := by omega
  have q2 : (w : Int) * ((a.bytes.length : Nat) : Int) ≤ 9223372036854775807 := by omega
  have q3 : ∀ z : Int, 8 ≤ z ∧ z ≤ 12 → -9223372036854775808 ≤ z + (w : Int) * ((a.bytes.length : Nat) : Int) ∧ z + (w : Int) * ((a.bytes.length : Nat) : Int) ≤ 9223372036854775807 := fun z hz => by omega
  cases h6 : a.six with
  | true =>
    rw [h6] at hsx
    have m4 : (8 : Int) + (w : Int) * ((a.bytes.length : Nat) : Int) = ((nk X.hd.six w : Nat) : Int) := by rw [← m1, hsx, if_pos rfl]
    refine Triple.enter Try.func11 rfl Try.ntmps11 rfl (fun W => ?_)
    dsimp only [argsF, Nat.reduceAdd]
    repeat' (first
     | refine WPl.nil ?_ | refine WPq.then ?_ | refine WPq.thenR ?_ | refine WPq.thenE ?_ | refine WPq.blockN ?_ | refine WPq.blockR ?_ | refine WPq.blockE ?_ | refine WPq.blockO rfl ?_ | refine WPc.seq ?_ | refine WPc.block ?_ | refine WPc.ret ?_ | refine WPc.exit ?_ | refine WPc.skip ?_ | refine WPc.region ?_
     | (refine isReg 6 ?_; refine WPc.drA [([], [38, 39]), ([], [37]), ([1], [37, 38]), ([0, 1, 2], [37, 38, 39]), ([0, 1, 2, 3], [37, 38, 39, 40]), ([0, 1, 2, 3, 4], [37, 38, 39, 40, 41])] [] (Γx := []) ?_; dsimp only [prev0, List.length_nil, List.length_cons])
     | (refine gAny ?_; first | (refine gC 16 ?_; refine RGl.vl (fun e hk => OpT.callN (c1)) ?_) | (refine gC 23 ?_; refine RGl.vl (fun e hk => OpT.callN (c2)) ?_) | (refine gC 39 ?_; refine RGl.row (Γ1 := fun _ => []) (fun e hk => OpT.callN (c3)) ?_) | (refine gD 40 ?_; refine RGl.rdX (fun e hk => by (try dsimp only [bndR, ensR, oksR, fcutR, List.append_nil, List.nil_append, List.cons_append, List.append_assoc] at hk ⊢); exact (by (repeat (obtain ⟨hk1, hk⟩ := hk)) <;> exact ReadR.build (cs' := wrc X (e 2).1) (wrBuild X (by assumption) rfl rfl))) ?_) | ((refine gBx ?_; refine RGl.nwA (cs := fun e => wrc X (e 2).1) ?_ (h := fun e hk => by (try dsimp only [bndR, ensR, oksR, fcutR, List.append_nil, List.nil_append, List.cons_append, List.append_assoc] at hk ⊢); (repeat (obtain ⟨hk1, hk⟩ := hk)) <;> exact OpT.boxA rfl (wrFok X (by assumption))))) | (refine gD 31 ?_; refine RGl.rdX (fun e hk => by (try dsimp only [bndR, ensR, oksR, fcutR, List.append_nil, List.nil_append, List.cons_append, List.append_assoc] at hk ⊢); exact ReadR.binE rfl rfl (BinR.neqB (by kernel_rfl)) (congrArg Value.bool (show (!(a.six == X.hd.six)) = false by rw [hs]; simp))) ?_) | (refine gD 35 ?_; refine RGl.rdX (fun e hk => by (try dsimp only [bndR, ensR, oksR, fcutR, List.append_nil, List.nil_append, List.cons_append, List.append_assoc] at hk ⊢); exact ReadR.binE rfl rfl BinR.eql (congrArg Value.bool (decide_eq_false (show ¬ (p : Int) = 0 by omega)))) ?_) | (refine gOp ?_; first | refine RGl.rdA ?_ | refine RGl.rdX (fun e hk => by (try dsimp only [bndR, ensR, oksR, fcutR, List.append_nil, List.nil_append, List.cons_append, List.append_assoc] at hk ⊢); exact readB) ?_) | (refine gBx ?_; refine RGl.nwA ?_) | (refine RGl.fin (fun e hk => ?_); (try dsimp only [bndA, ensAR, oksA, List.append_nil, List.nil_append, List.cons_append, List.append_assoc] at hk ⊢); (repeat (obtain ⟨hk1, hk⟩ := hk))) | fail)
     | (refine isCond ?_; first | refine WPc.cT ?_ | refine WPc.cF ?_ | (refine WPc.cQ (fun hc => ?_) (fun hc => ?_) <;> try exact prA))
     | (refine isC 16 ?_; refine WPl.cV (c1) ?_)
     | (show WPl _ _ _ _ _ _ _ (⟨_, .store 39 (.tmp 10) _, _, _, _, _⟩ :: _) _; refine WPl.stA (new := pkc X) ?_ (ht := by kernel_rfl))
     | (refine isC 23 ?_; refine WPl.cV (c2) ?_)
     | (refine isC 39 ?_; refine WPl.cR (c3) fun v hv => ?_)
     | (refine isD 31 ?_; refine WPl.rdX (ReadR.binE rfl rfl (BinR.neqB (by kernel_rfl)) (congrArg Value.bool (show (!(a.six == X.hd.six)) = false by rw [hs]; simp))) ?_)
     | (refine isD 35 ?_; refine WPl.rdX (ReadR.binE rfl rfl BinR.eql (congrArg Value.bool (decide_eq_false (show ¬ (p : Int) = 0 by omega)))) ?_)
     | (refine isOp ?_; first | refine WPl.rd ?_ | refine WPl.sk ?_ | refine WPl.rdB ?_)
     | (refine isAl ?_; refine WPl.nw fun g => ?_)
     | (refine isBx ?_; refine WPl.nw fun g => ?_)
     | (refine isSt ?_; first | refine WPl.st1 ?_ | refine WPl.stA ?_ | refine WPl.stEB ?_ | refine WPl.stRB ?_)
     | (show WPl _ _ _ _ _ _ _ (⟨_, .indexAddr _ _ _, _, _, _, _⟩ :: _) _; refine WPl.rdX (ReadR.indexE rfl rfl hasA (by first | assumption | omega)) ?_)
     | (show WPl _ _ _ _ _ _ _ (⟨_, .fieldAddr _ _ _, _, _, _, _⟩ :: _) _; refine WPl.rdX (ReadR.fieldE rfl hasA (by first | assumption | omega)) ?_)
     | (show WPl _ _ _ _ _ _ _ (⟨_, .load _ _, _, _, _, _⟩ :: _) _; first | refine WPl.rdX (ReadR.loadE rfl hasA (by assumption)) ?_ | refine WPl.rdX (ReadR.loadES (by assumption) (by first | assumption | omega) rfl hasA) ?_)
     | (show WPl _ _ _ _ _ _ _ (⟨_, .slice _ _ _ _ _, _, _, _, _⟩ :: _) _; first | refine WPl.rdX (ReadR.sliceH rfl rfl hasA (by omega)) ?_ | refine WPl.rdX (ReadR.sliceL rfl rfl hasA (by omega)) ?_ | refine WPl.rdX (ReadR.sliceLH rfl rfl rfl hasA (by omega) (by omega)) ?_)
     | (refine WPl.spQ (fun hc => ?_) (fun hc => ?_) <;> try exact prA)
     | fail)
    dsimp only [Nat.reduceAdd]
    have ho : (e 2).1.oneCell' = true := by assumption
    generalize blk (e 4).1 = gW
    generalize (e 2).1 = s at *
    repeat' (first
     | refine WPl.nil ?_ | refine WPq.then ?_ | refine WPq.thenR ?_ | refine WPq.thenE ?_ | refine WPq.blockN ?_ | refine WPq.blockR ?_ | refine WPq.blockE ?_ | refine WPq.blockO rfl ?_ | refine WPc.seq ?_ | refine WPc.block ?_ | refine WPc.ret ?_ | refine WPc.exit ?_ | refine WPc.skip ?_ | refine WPc.region ?_
     | (refine isReg 10 ?_; refine WPc.drA [([10, 11], [45, 46, 47, 48, 49, 50, 51, 52]), ([10, 11], [44, 46, 47, 48, 49, 50, 52]), ([10, 11], [44, 45, 47, 48, 49, 52]), ([10, 11], [44, 45, 46, 52]), ([3, 10, 11], [44, 45, 46, 47, 52]), ([3, 4, 10, 11], [44, 45, 46, 47, 48, 52]), ([2, 3, 4, 5, 10, 11], [44, 45, 46, 47, 48, 49, 52]), ([1, 2, 3, 4, 5, 6, 10, 11], [44, 45, 46, 47, 48, 49, 50, 52]), ([10, 11], [44, 45, 46, 47, 48, 49, 50, 51]), ([0, 1, 2, 3, 4, 5, 6, 7, 8, 10, 11], [44, 45, 46, 47, 48, 49, 50, 51, 52])] [(10, 9), (11, 9), (10, 0), (10, 1), (10, 2), (10, 3), (10, 4), (10, 5), (10, 6), (10, 7), (10, 8), (11, 0), (11, 1), (11, 2), (11, 3), (11, 4), (11, 5), (11, 6), (11, 7), (11, 8)] (Γx := [bx gW 60 (wrc X s), ob s b]) ?_; dsimp only [prev0, List.length_nil, List.length_cons])
     | (refine gAny ?_; first | (refine gC 48 ?_; refine RGl.row (Γ1 := fun _ => []) (fun e hk => OpT.callN (c4)) ?_) | (refine gC 53 ?_; refine RGl.turns (fun e hk => by (try dsimp only [bndR, ensR, oksR, fcutR, List.append_nil, List.nil_append, List.cons_append, List.append_assoc] at hk ⊢); exact OpT.callTs ((c5 s gW))) ?_) | (refine gC 58 ?_; refine RGl.turns (fun e hk => by (try dsimp only [bndR, ensR, oksR, fcutR, List.append_nil, List.nil_append, List.cons_append, List.append_assoc] at hk ⊢); exact OpT.callTs ((c6 s gW))) ?_) | (refine gD 50 ?_; refine RGl.rdX (fun e hk => by (try dsimp only [bndR, ensR, oksR, fcutR, List.append_nil, List.nil_append, List.cons_append, List.append_assoc] at hk ⊢); exact ReadR.binE rfl rfl (BinR.mulI q1 q2) rfl) ?_) | (refine gD 51 ?_; refine RGl.rdX (fun e hk => by (try dsimp only [bndR, ensR, oksR, fcutR, List.append_nil, List.nil_append, List.cons_append, List.append_assoc] at hk ⊢); exact ReadR.binE rfl rfl (BinR.addI (q3 _ (by omega)).1 (q3 _ (by omega)).2) (congrArg (Value.int .i64) m4)) ?_) | (refine gOp ?_; first | refine RGl.rdA ?_ | refine RGl.rdX (fun e hk => by (try dsimp only [bndR, ensR, oksR, fcutR, List.append_nil, List.nil_append, List.cons_append, List.append_assoc] at hk ⊢); exact readB) ?_) | (refine RGl.fin (fun e hk => ?_); (try dsimp only [bndA, ensAR, oksA, List.append_nil, List.nil_append, List.cons_append, List.append_assoc] at hk ⊢); (repeat (obtain ⟨hk1, hk⟩ := hk))) | fail)
     | (refine isCond ?_; first | refine WPc.cT ?_ | refine WPc.cF ?_ | (refine WPc.cQ (fun hc => ?_) (fun hc => ?_) <;> try exact prA))
     | (refine isC 48 ?_; refine WPl.cR (c4) fun v hv => ?_)
     | (refine isC 53 ?_; refine WPl.cTs ((c5 s gW)) ?_; (try dsimp only [putF, List.cons_append, List.nil_append]))
     | (refine isC 58 ?_; refine WPl.cTs ((c6 s gW)) ?_; (try dsimp only [putF, List.cons_append, List.nil_append]))
     | (refine isOp ?_; first | refine WPl.rd ?_ | refine WPl.sk ?_ | refine WPl.rdB ?_)
     | (refine isAl ?_; refine WPl.nw fun g => ?_)
     | (refine isBx ?_; refine WPl.nw fun g => ?_)
     | (refine isSt ?_; first | refine WPl.st1 ?_ | refine WPl.stA ?_ | refine WPl.stEB ?_ | refine WPl.stRB ?_)
     | (show WPl _ _ _ _ _ _ _ (⟨_, .indexAddr _ _ _, _, _, _, _⟩ :: _) _; refine WPl.rdX (ReadR.indexE rfl rfl hasA (by first | assumption | omega)) ?_)
     | (show WPl _ _ _ _ _ _ _ (⟨_, .fieldAddr _ _ _, _, _, _, _⟩ :: _) _; refine WPl.rdX (ReadR.fieldE rfl hasA (by first | assumption | omega)) ?_)
     | (show WPl _ _ _ _ _ _ _ (⟨_, .load _ _, _, _, _, _⟩ :: _) _; first | refine WPl.rdX (ReadR.loadE rfl hasA (by assumption)) ?_ | refine WPl.rdX (ReadR.loadES (by assumption) (by first | assumption | omega) rfl hasA) ?_)
     | (show WPl _ _ _ _ _ _ _ (⟨_, .slice _ _ _ _ _, _, _, _, _⟩ :: _) _; first | refine WPl.rdX (ReadR.sliceH rfl rfl hasA (by omega)) ?_ | refine WPl.rdX (ReadR.sliceL rfl rfl hasA (by omega)) ?_ | refine WPl.rdX (ReadR.sliceLH rfl rfl rfl hasA (by omega) (by omega)) ?_)
     | (refine WPl.spQ (fun hc => ?_) (fun hc => ?_) <;> try exact prA)
     | fail)
    all_goals try (first | exact WPq.dTp | exact WPq.dTs | exact WPq.dV | exact WPq.dR | exact WPq.dR2 | exact WPq.dH | exact WPq.dBH | exact WPq.dT)
  | false =>
    rw [h6] at hsx
    have m4 : (12 : Int) + (w : Int) * ((a.bytes.length : Nat) : Int) = ((nk X.hd.six w : Nat) : Int) := by rw [← m1, hsx, if_neg (by decide)]
    refine Triple.enter Try.func11 rfl Try.ntmps11 rfl (fun W => ?_)
    dsimp only [argsF, Nat.reduceAdd]
    repeat' (first
     | refine WPl.nil ?_ | refine WPq.then ?_ | refine WPq.thenR ?_ | refine WPq.thenE ?_ | refine WPq.blockN ?_ | refine WPq.blockR ?_ | refine WPq.blockE ?_ | refine WPq.blockO rfl ?_ | refine WPc.seq ?_ | refine WPc.block ?_ | refine WPc.ret ?_ | refine WPc.exit ?_ | refine WPc.skip ?_ | refine WPc.region ?_
     | (refine isReg 6 ?_; refine WPc.drA [([], [38, 39]), ([], [37]), ([1], [37, 38]), ([0, 1, 2], [37, 38, 39]), ([0, 1, 2, 3], [37, 38, 39, 40]), ([0, 1, 2, 3, 4], [37, 38, 39, 40, 41])] [] (Γx := []) ?_; dsimp only [prev0, List.length_nil, List.length_cons])
     | (refine gAny ?_; first | (refine gC 16 ?_; refine RGl.vl (fun e hk => OpT.callN (c1)) ?_) | (refine gC 23 ?_; refine RGl.vl (fun e hk => OpT.callN (c2)) ?_) | (refine gC 39 ?_; refine RGl.row (Γ1 := fun _ => []) (fun e hk => OpT.callN (c3)) ?_) | (refine gD 40 ?_; refine RGl.rdX (fun e hk => by (try dsimp only [bndR, ensR, oksR, fcutR, List.append_nil, List.nil_append, List.cons_append, List.append_assoc] at hk ⊢); exact (by (repeat (obtain ⟨hk1, hk⟩ := hk)) <;> exact ReadR.build (cs' := wrc X (e 2).1) (wrBuild X (by assumption) rfl rfl))) ?_) | ((refine gBx ?_; refine RGl.nwA (cs := fun e => wrc X (e 2).1) ?_ (h := fun e hk => by (try dsimp only [bndR, ensR, oksR, fcutR, List.append_nil, List.nil_append, List.cons_append, List.append_assoc] at hk ⊢); (repeat (obtain ⟨hk1, hk⟩ := hk)) <;> exact OpT.boxA rfl (wrFok X (by assumption))))) | (refine gD 31 ?_; refine RGl.rdX (fun e hk => by (try dsimp only [bndR, ensR, oksR, fcutR, List.append_nil, List.nil_append, List.cons_append, List.append_assoc] at hk ⊢); exact ReadR.binE rfl rfl (BinR.neqB (by kernel_rfl)) (congrArg Value.bool (show (!(a.six == X.hd.six)) = false by rw [hs]; simp))) ?_) | (refine gD 35 ?_; refine RGl.rdX (fun e hk => by (try dsimp only [bndR, ensR, oksR, fcutR, List.append_nil, List.nil_append, List.cons_append, List.append_assoc] at hk ⊢); exact ReadR.binE rfl rfl BinR.eql (congrArg Value.bool (decide_eq_false (show ¬ (p : Int) = 0 by omega)))) ?_) | (refine gOp ?_; first | refine RGl.rdA ?_ | refine RGl.rdX (fun e hk => by (try dsimp only [bndR, ensR, oksR, fcutR, List.append_nil, List.nil_append, List.cons_append, List.append_assoc] at hk ⊢); exact readB) ?_) | (refine gBx ?_; refine RGl.nwA ?_) | (refine RGl.fin (fun e hk => ?_); (try dsimp only [bndA, ensAR, oksA, List.append_nil, List.nil_append, List.cons_append, List.append_assoc] at hk ⊢); (repeat (obtain ⟨hk1, hk⟩ := hk))) | fail)
     | (refine isCond ?_; first | refine WPc.cT ?_ | refine WPc.cF ?_ | (refine WPc.cQ (fun hc => ?_) (fun hc => ?_) <;> try exact prA))
     | (refine isC 16 ?_; refine WPl.cV (c1) ?_)
     | (show WPl _ _ _ _ _ _ _ (⟨_, .store 39 (.tmp 10) _, _, _, _, _⟩ :: _) _; refine WPl.stA (new := pkc X) ?_ (ht := by kernel_rfl))
     | (refine isC 23 ?_; refine WPl.cV (c2) ?_)
     | (refine isC 39 ?_; refine WPl.cR (c3) fun v hv => ?_)
     | (refine isD 31 ?_; refine WPl.rdX (ReadR.binE rfl rfl (BinR.neqB (by kernel_rfl)) (congrArg Value.bool (show (!(a.six == X.hd.six)) = false by rw [hs]; simp))) ?_)
     | (refine isD 35 ?_; refine WPl.rdX (ReadR.binE rfl rfl BinR.eql (congrArg Value.bool (decide_eq_false (show ¬ (p : Int) = 0 by omega)))) ?_)
     | (refine isOp ?_; first | refine WPl.rd ?_ | refine WPl.sk ?_ | refine WPl.rdB ?_)
     | (refine isAl ?_; refine WPl.nw fun g => ?_)
     | (refine isBx ?_; refine WPl.nw fun g => ?_)
     | (refine isSt ?_; first | refine WPl.st1 ?_ | refine WPl.stA ?_ | refine WPl.stEB ?_ | refine WPl.stRB ?_)
     | (show WPl _ _ _ _ _ _ _ (⟨_, .indexAddr _ _ _, _, _, _, _⟩ :: _) _; refine WPl.rdX (ReadR.indexE rfl rfl hasA (by first | assumption | omega)) ?_)
     | (show WPl _ _ _ _ _ _ _ (⟨_, .fieldAddr _ _ _, _, _, _, _⟩ :: _) _; refine WPl.rdX (ReadR.fieldE rfl hasA (by first | assumption | omega)) ?_)
     | (show WPl _ _ _ _ _ _ _ (⟨_, .load _ _, _, _, _, _⟩ :: _) _; first | refine WPl.rdX (ReadR.loadE rfl hasA (by assumption)) ?_ | refine WPl.rdX (ReadR.loadES (by assumption) (by first | assumption | omega) rfl hasA) ?_)
     | (show WPl _ _ _ _ _ _ _ (⟨_, .slice _ _ _ _ _, _, _, _, _⟩ :: _) _; first | refine WPl.rdX (ReadR.sliceH rfl rfl hasA (by omega)) ?_ | refine WPl.rdX (ReadR.sliceL rfl rfl hasA (by omega)) ?_ | refine WPl.rdX (ReadR.sliceLH rfl rfl rfl hasA (by omega) (by omega)) ?_)
     | (refine WPl.spQ (fun hc => ?_) (fun hc => ?_) <;> try exact prA)
     | fail)
    dsimp only [Nat.reduceAdd]
    have ho : (e 2).1.oneCell' = true := by assumption
    generalize blk (e 4).1 = gW
    generalize (e 2).1 = s at *
    repeat' (first
     | refine WPl.nil ?_ | refine WPq.then ?_ | refine WPq.thenR ?_ | refine WPq.thenE ?_ | refine WPq.blockN ?_ | refine WPq.blockR ?_ | refine WPq.blockE ?_ | refine WPq.blockO rfl ?_ | refine WPc.seq ?_ | refine WPc.block ?_ | refine WPc.ret ?_ | refine WPc.exit ?_ | refine WPc.skip ?_ | refine WPc.region ?_
     | (refine isReg 10 ?_; refine WPc.drA [([10, 11], [45, 46, 47, 48, 49, 50, 51, 52]), ([10, 11], [44, 46, 47, 48, 49, 50, 52]), ([10, 11], [44, 45, 47, 48, 49, 52]), ([10, 11], [44, 45, 46, 52]), ([3, 10, 11], [44, 45, 46, 47, 52]), ([3, 4, 10, 11], [44, 45, 46, 47, 48, 52]), ([2, 3, 4, 5, 10, 11], [44, 45, 46, 47, 48, 49, 52]), ([1, 2, 3, 4, 5, 6, 10, 11], [44, 45, 46, 47, 48, 49, 50, 52]), ([10, 11], [44, 45, 46, 47, 48, 49, 50, 51]), ([0, 1, 2, 3, 4, 5, 6, 7, 8, 10, 11], [44, 45, 46, 47, 48, 49, 50, 51, 52])] [(10, 9), (11, 9), (10, 0), (10, 1), (10, 2), (10, 3), (10, 4), (10, 5), (10, 6), (10, 7), (10, 8), (11, 0), (11, 1), (11, 2), (11, 3), (11, 4), (11, 5), (11, 6), (11, 7), (11, 8)] (Γx := [bx gW 60 (wrc X s), ob s b]) ?_; dsimp only [prev0, List.length_nil, List.length_cons])
     | (refine gAny ?_; first | (refine gC 48 ?_; refine RGl.row (Γ1 := fun _ => []) (fun e hk => OpT.callN (c4)) ?_) | (refine gC 53 ?_; refine RGl.turns (fun e hk => by (try dsimp only [bndR, ensR, oksR, fcutR, List.append_nil, List.nil_append, List.cons_append, List.append_assoc] at hk ⊢); exact OpT.callTs ((c5 s gW))) ?_) | (refine gC 58 ?_; refine RGl.turns (fun e hk => by (try dsimp only [bndR, ensR, oksR, fcutR, List.append_nil, List.nil_append, List.cons_append, List.append_assoc] at hk ⊢); exact OpT.callTs ((c6 s gW))) ?_) | (refine gD 50 ?_; refine RGl.rdX (fun e hk => by (try dsimp only [bndR, ensR, oksR, fcutR, List.append_nil, List.nil_append, List.cons_append, List.append_assoc] at hk ⊢); exact ReadR.binE rfl rfl (BinR.mulI q1 q2) rfl) ?_) | (refine gD 51 ?_; refine RGl.rdX (fun e hk => by (try dsimp only [bndR, ensR, oksR, fcutR, List.append_nil, List.nil_append, List.cons_append, List.append_assoc] at hk ⊢); exact ReadR.binE rfl rfl (BinR.addI (q3 _ (by omega)).1 (q3 _ (by omega)).2) (congrArg (Value.int .i64) m4)) ?_) | (refine gOp ?_; first | refine RGl.rdA ?_ | refine RGl.rdX (fun e hk => by (try dsimp only [bndR, ensR, oksR, fcutR, List.append_nil, List.nil_append, List.cons_append, List.append_assoc] at hk ⊢); exact readB) ?_) | (refine RGl.fin (fun e hk => ?_); (try dsimp only [bndA, ensAR, oksA, List.append_nil, List.nil_append, List.cons_append, List.append_assoc] at hk ⊢); (repeat (obtain ⟨hk1, hk⟩ := hk))) | fail)
     | (refine isCond ?_; first | refine WPc.cT ?_ | refine WPc.cF ?_ | (refine WPc.cQ (fun hc => ?_) (fun hc => ?_) <;> try exact prA))
     | (refine isC 48 ?_; refine WPl.cR (c4) fun v hv => ?_)
     | (refine isC 53 ?_; refine WPl.cTs ((c5 s gW)) ?_; (try dsimp only [putF, List.cons_append, List.nil_append]))
     | (refine isC 58 ?_; refine WPl.cTs ((c6 s gW)) ?_; (try dsimp only [putF, List.cons_append, List.nil_append]))
     | (refine isOp ?_; first | refine WPl.rd ?_ | refine WPl.sk ?_ | refine WPl.rdB ?_)
     | (refine isAl ?_; refine WPl.nw fun g => ?_)
     | (refine isBx ?_; refine WPl.nw fun g => ?_)
     | (refine isSt ?_; first | refine WPl.st1 ?_ | refine WPl.stA ?_ | refine WPl.stEB ?_ | refine WPl.stRB ?_)
     | (show WPl _ _ _ _ _ _ _ (⟨_, .indexAddr _ _ _, _, _, _, _⟩ :: _) _; refine WPl.rdX (ReadR.indexE rfl rfl hasA (by first | assumption | omega)) ?_)
     | (show WPl _ _ _ _ _ _ _ (⟨_, .fieldAddr _ _ _, _, _, _, _⟩ :: _) _; refine WPl.rdX (ReadR.fieldE rfl hasA (by first | assumption | omega)) ?_)
     | (show WPl _ _ _ _ _ _ _ (⟨_, .load _ _, _, _, _, _⟩ :: _) _; first | refine WPl.rdX (ReadR.loadE rfl hasA (by assumption)) ?_ | refine WPl.rdX (ReadR.loadES (by assumption) (by first | assumption | omega) rfl hasA) ?_)
     | (show WPl _ _ _ _ _ _ _ (⟨_, .slice _ _ _ _ _, _, _, _, _⟩ :: _) _; first | refine WPl.rdX (ReadR.sliceH rfl rfl hasA (by omega)) ?_ | refine WPl.rdX (ReadR.sliceL rfl rfl hasA (by omega)) ?_ | refine WPl.rdX (ReadR.sliceLH rfl rfl rfl hasA (by omega) (by omega)) ?_)
     | (refine WPl.spQ (fun hc => ?_) (fun hc => ?_) <;> try exact prA)
     | fail)
    all_goals try (first | exact WPq.dTp | exact WPq.dTs | exact WPq.dV | exact WPq.dR | exact WPq.dR2 | exact WPq.dH | exact WPq.dBH | exact WPq.dT)
theorem nrw_t (v : Value) (b : List UInt8) (w : Nat) (a : Adr) (p : Nat) (hw : w = 0 ∨ w = 1) (hp : p ≤ 65535) (hl : b.length ≤ 100000) :
    Triple Try.prog 11 #[v, .int .i64 (w : Int), ag (adc a), .int .u16 (p : Int)] [rb v b] (RW (natL b w a p) (natE b a p)) := by
  have c1 := parse_t v b hl
  have c2 := Good_t a
  have c3 := clone_t v b (by omega)
  have c4 := addrBytes_t a
  have la := a.len
  by_cases he : pkE b = 0
  · obtain ⟨hE, hpt, hS, hR⟩ := pk_zero he
    simp only [pkVal] at c1
    rw [he] at c1
    obtain ⟨X, hX⟩ : ∃ X, X = pkR b := ⟨_, rfl⟩
    have x1 : X.hd = phH b := by rw [hX, hR]; rfl
    have x2 : X.sg = sgR (phH b) (pkS b) := by rw [hX, hR]; rfl
    rw [← hX] at c1
    have k1 := X.hd.src.len
    have k2 := X.hd.dst.len
    have k3 := X.fl.src.len
    have k4 := X.fl.dst.len
    obtain ⟨⟨k, hk, hk2, hk20⟩, hsj, h12⟩ := pk_facts he
    by_cases hb : natB b a p
    · have hE : natE b a p = 0 := by unfold natE; rw [if_neg (fun h => h he), if_pos hb]
      have hL : natL b w a p = n5 b X.hd X.sg.zero w a p := by unfold natL; rw [if_pos hE, x1, x2]
      rw [hE, hL]
      obtain ⟨hg, hs, hp0⟩ := hb
      have hnk := pk_nk he hs hw
      rw [← x1] at hs hk hk2 hnk
      rw [← x2, ← x1] at hsj
      have hj6 := sj_ge X.hd
      have hkk : k = X.hd.pos.toNat := by omega
      have l3 : (n3 b X.hd X.sg.zero w a).length = b.length := n3_len hnk h12 (by omega)
      have l5 : (n5 b X.hd X.sg.zero w a p).length = b.length := n5_len hw hnk h12 (by omega)
      rw [hg] at c2
      exact nrw_ok v b w a p X c1 c2 c3 c4 hg hs hw hp hp0 hl hnk hk hsj hk2 hk20 h12 hj6 l3 l5
    · have hE : natE b a p = 1 := by unfold natE; rw [if_neg (fun h => h he), if_neg hb]
      have hL : natL b w a p = [] := by unfold natL; rw [hE, if_neg (by omega)]
      rw [hE, hL]
      by_cases h1 : a.good = true
      · by_cases h2 : a.six = X.hd.six
        · have h3 : p = 0 := by
            apply Classical.byContradiction
            intro h3
            exact hb ⟨h1, h2.trans (by rw [x1]), h3⟩
          refine Triple.enter Try.func11 rfl Try.ntmps11 rfl (fun W => ?_)
          dsimp only [argsF, Nat.reduceAdd]
          refine WPc.nilRow 5 ?_
          repeat' (first
           | refine WPl.nil ?_ | refine WPq.then ?_ | refine WPq.thenR ?_ | refine WPq.thenE ?_ | refine WPq.blockN ?_ | refine WPq.blockR ?_ | refine WPq.blockE ?_ | refine WPq.blockO rfl ?_ | refine WPc.seq ?_ | refine WPc.block ?_ | refine WPc.ret ?_ | refine WPc.exit ?_ | refine WPc.skip ?_ | refine WPc.region ?_
           | (refine isReg 6 ?_; refine WPc.drA [([], [38, 39]), ([], [37]), ([1], [37, 38]), ([0, 1, 2], [37, 38, 39]), ([0, 1, 2, 3], [37, 38, 39, 40]), ([0, 1, 2, 3, 4], [37, 38, 39, 40, 41])] [] (Γx := []) ?_; dsimp only [prev0, List.length_nil, List.length_cons])
           | (refine isReg 10 ?_; refine WPc.drA [([], [45, 46, 47, 48, 49, 50, 51, 52]), ([], [44, 46, 47, 48, 49, 50, 52]), ([], [44, 45, 47, 48, 49, 52]), ([], [44, 45, 46, 52]), ([3], [44, 45, 46, 47, 52]), ([3, 4], [44, 45, 46, 47, 48, 52]), ([2, 3, 4, 5], [44, 45, 46, 47, 48, 49, 52]), ([1, 2, 3, 4, 5, 6], [44, 45, 46, 47, 48, 49, 50, 52]), ([], [44, 45, 46, 47, 48, 49, 50, 51]), ([0, 1, 2, 3, 4, 5, 6, 7, 8], [44, 45, 46, 47, 48, 49, 50, 51, 52])] [] (Γx := []) ?_; dsimp only [prev0, List.length_nil, List.length_cons])
           | (refine gAny ?_; first | (refine gC 16 ?_; refine RGl.vl (fun e hk => OpT.callN (c1)) ?_) | (refine gC 23 ?_; refine RGl.vl (fun e hk => OpT.callN (c2)) ?_) | (refine gD 35 ?_; refine RGl.rdX (fun e hk => by (try dsimp only [bndR, ensR, oksR, fcutR, List.append_nil, List.nil_append, List.cons_append, List.append_assoc] at hk ⊢); exact ReadR.binE rfl rfl BinR.eql (congrArg Value.bool (decide_eq_true (show (p : Int) = 0 by omega)))) ?_) | (refine gOp ?_; first | refine RGl.rdA ?_ | refine RGl.rdX (fun e hk => by (try dsimp only [bndR, ensR, oksR, fcutR, List.append_nil, List.nil_append, List.cons_append, List.append_assoc] at hk ⊢); exact readB) ?_) | (refine gBx ?_; refine RGl.nwA ?_) | (refine RGl.fin (fun e hk => ?_); (try dsimp only [bndA, ensAR, oksA, List.append_nil, List.nil_append, List.cons_append, List.append_assoc] at hk ⊢); (repeat (obtain ⟨hk1, hk⟩ := hk))) | fail)
           | (refine isCond ?_; first | refine WPc.cT ?_ | refine WPc.cF ?_ | (refine WPc.cQ (fun hc => ?_) (fun hc => ?_) <;> try exact prA))
           | (refine isC 16 ?_; refine WPl.cV (c1) ?_)
           | (show WPl _ _ _ _ _ _ _ (⟨_, .store 39 (.tmp 10) _, _, _, _, _⟩ :: _) _; refine WPl.stA (new := pkc X) ?_ (ht := by kernel_rfl))
           | (refine isC 23 ?_; refine WPl.cV (c2) ?_)
           | (refine isD 35 ?_; refine WPl.rdX (ReadR.binE rfl rfl BinR.eql (congrArg Value.bool (decide_eq_true (show (p : Int) = 0 by omega)))) ?_)
           | (refine isOp ?_; first | refine WPl.rd ?_ | refine WPl.sk ?_ | refine WPl.rdB ?_)
           | (refine isAl ?_; refine WPl.nw fun g => ?_)
           | (refine isBx ?_; refine WPl.nw fun g => ?_)
           | (refine isSt ?_; first | refine WPl.st1 ?_ | refine WPl.stA ?_ | refine WPl.stEB ?_ | refine WPl.stRB ?_)
           | (show WPl _ _ _ _ _ _ _ (⟨_, .indexAddr _ _ _, _, _, _, _⟩ :: _) _; refine WPl.rdX (ReadR.indexE rfl rfl hasA (by first | assumption | omega)) ?_)
           | (show WPl _ _ _ _ _ _ _ (⟨_, .fieldAddr _ _ _, _, _, _, _⟩ :: _) _; refine WPl.rdX (ReadR.fieldE rfl hasA (by first | assumption | omega)) ?_)
           | (show WPl _ _ _ _ _ _ _ (⟨_, .load _ _, _, _, _, _⟩ :: _) _; first | refine WPl.rdX (ReadR.loadE rfl hasA (by assumption)) ?_ | refine WPl.rdX (ReadR.loadES (by assumption) (by first | assumption | omega) rfl hasA) ?_)
           | (show WPl _ _ _ _ _ _ _ (⟨_, .slice _ _ _ _ _, _, _, _, _⟩ :: _) _; first | refine WPl.rdX (ReadR.sliceH rfl rfl hasA (by omega)) ?_ | refine WPl.rdX (ReadR.sliceL rfl rfl hasA (by omega)) ?_ | refine WPl.rdX (ReadR.sliceLH rfl rfl rfl hasA (by omega) (by omega)) ?_)
           | (refine WPl.spQ (fun hc => ?_) (fun hc => ?_) <;> try exact prA)
           | fail)
          all_goals try (first | exact WPq.dTp | exact WPq.dTs | exact WPq.dV | exact WPq.dR | exact WPq.dR2 | exact WPq.dH | exact WPq.dBH | exact WPq.dT)
        · have h2' : (!a.six == X.hd.six) = true := by cases ha : a.six <;> cases hb : X.hd.six <;> simp_all
          refine Triple.enter Try.func11 rfl Try.ntmps11 rfl (fun W => ?_)
          dsimp only [argsF, Nat.reduceAdd]
          refine WPc.nilRow 5 ?_
          repeat' (first
           | refine WPl.nil ?_ | refine WPq.then ?_ | refine WPq.thenR ?_ | refine WPq.thenE ?_ | refine WPq.blockN ?_ | refine WPq.blockR ?_ | refine WPq.blockE ?_ | refine WPq.blockO rfl ?_ | refine WPc.seq ?_ | refine WPc.block ?_ | refine WPc.ret ?_ | refine WPc.exit ?_ | refine WPc.skip ?_ | refine WPc.region ?_
           | (refine isReg 6 ?_; refine WPc.drA [([], [38, 39]), ([], [37]), ([1], [37, 38]), ([0, 1, 2], [37, 38, 39]), ([0, 1, 2, 3], [37, 38, 39, 40]), ([0, 1, 2, 3, 4], [37, 38, 39, 40, 41])] [] (Γx := []) ?_; dsimp only [prev0, List.length_nil, List.length_cons])
           | (refine isReg 10 ?_; refine WPc.drA [([], [45, 46, 47, 48, 49, 50, 51, 52]), ([], [44, 46, 47, 48, 49, 50, 52]), ([], [44, 45, 47, 48, 49, 52]), ([], [44, 45, 46, 52]), ([3], [44, 45, 46, 47, 52]), ([3, 4], [44, 45, 46, 47, 48, 52]), ([2, 3, 4, 5], [44, 45, 46, 47, 48, 49, 52]), ([1, 2, 3, 4, 5, 6], [44, 45, 46, 47, 48, 49, 50, 52]), ([], [44, 45, 46, 47, 48, 49, 50, 51]), ([0, 1, 2, 3, 4, 5, 6, 7, 8], [44, 45, 46, 47, 48, 49, 50, 51, 52])] [] (Γx := []) ?_; dsimp only [prev0, List.length_nil, List.length_cons])
           | (refine gAny ?_; first | (refine gC 16 ?_; refine RGl.vl (fun e hk => OpT.callN (c1)) ?_) | (refine gC 23 ?_; refine RGl.vl (fun e hk => OpT.callN (c2)) ?_) | (refine gD 31 ?_; refine RGl.rdX (fun e hk => by (try dsimp only [bndR, ensR, oksR, fcutR, List.append_nil, List.nil_append, List.cons_append, List.append_assoc] at hk ⊢); exact ReadR.binE rfl rfl (BinR.neqB (by kernel_rfl)) (congrArg Value.bool h2')) ?_) | (refine gOp ?_; first | refine RGl.rdA ?_ | refine RGl.rdX (fun e hk => by (try dsimp only [bndR, ensR, oksR, fcutR, List.append_nil, List.nil_append, List.cons_append, List.append_assoc] at hk ⊢); exact readB) ?_) | (refine gBx ?_; refine RGl.nwA ?_) | (refine RGl.fin (fun e hk => ?_); (try dsimp only [bndA, ensAR, oksA, List.append_nil, List.nil_append, List.cons_append, List.append_assoc] at hk ⊢); (repeat (obtain ⟨hk1, hk⟩ := hk))) | fail)
           | (refine isCond ?_; first | refine WPc.cT ?_ | refine WPc.cF ?_ | (refine WPc.cQ (fun hc => ?_) (fun hc => ?_) <;> try exact prA))
           | (refine isC 16 ?_; refine WPl.cV (c1) ?_)
           | (show WPl _ _ _ _ _ _ _ (⟨_, .store 39 (.tmp 10) _, _, _, _, _⟩ :: _) _; refine WPl.stA (new := pkc X) ?_ (ht := by kernel_rfl))
           | (refine isC 23 ?_; refine WPl.cV (c2) ?_)
           | (refine isD 31 ?_; refine WPl.rdX (ReadR.binE rfl rfl (BinR.neqB (by kernel_rfl)) (congrArg Value.bool h2')) ?_)
           | (refine isOp ?_; first | refine WPl.rd ?_ | refine WPl.sk ?_ | refine WPl.rdB ?_)
           | (refine isAl ?_; refine WPl.nw fun g => ?_)
           | (refine isBx ?_; refine WPl.nw fun g => ?_)
           | (refine isSt ?_; first | refine WPl.st1 ?_ | refine WPl.stA ?_ | refine WPl.stEB ?_ | refine WPl.stRB ?_)
           | (show WPl _ _ _ _ _ _ _ (⟨_, .indexAddr _ _ _, _, _, _, _⟩ :: _) _; refine WPl.rdX (ReadR.indexE rfl rfl hasA (by first | assumption | omega)) ?_)
           | (show WPl _ _ _ _ _ _ _ (⟨_, .fieldAddr _ _ _, _, _, _, _⟩ :: _) _; refine WPl.rdX (ReadR.fieldE rfl hasA (by first | assumption | omega)) ?_)
           | (show WPl _ _ _ _ _ _ _ (⟨_, .load _ _, _, _, _, _⟩ :: _) _; first | refine WPl.rdX (ReadR.loadE rfl hasA (by assumption)) ?_ | refine WPl.rdX (ReadR.loadES (by assumption) (by first | assumption | omega) rfl hasA) ?_)
           | (show WPl _ _ _ _ _ _ _ (⟨_, .slice _ _ _ _ _, _, _, _, _⟩ :: _) _; first | refine WPl.rdX (ReadR.sliceH rfl rfl hasA (by omega)) ?_ | refine WPl.rdX (ReadR.sliceL rfl rfl hasA (by omega)) ?_ | refine WPl.rdX (ReadR.sliceLH rfl rfl rfl hasA (by omega) (by omega)) ?_)
           | (refine WPl.spQ (fun hc => ?_) (fun hc => ?_) <;> try exact prA)
           | fail)
          all_goals try (first | exact WPq.dTp | exact WPq.dTs | exact WPq.dV | exact WPq.dR | exact WPq.dR2 | exact WPq.dH | exact WPq.dBH | exact WPq.dT)
      · rw [show a.good = false by simpa using h1] at c2
        refine Triple.enter Try.func11 rfl Try.ntmps11 rfl (fun W => ?_)
        dsimp only [argsF, Nat.reduceAdd]
        refine WPc.nilRow 5 ?_
        repeat' (first
         | refine WPl.nil ?_ | refine WPq.then ?_ | refine WPq.thenR ?_ | refine WPq.thenE ?_ | refine WPq.blockN ?_ | refine WPq.blockR ?_ | refine WPq.blockE ?_ | refine WPq.blockO rfl ?_ | refine WPc.seq ?_ | refine WPc.block ?_ | refine WPc.ret ?_ | refine WPc.exit ?_ | refine WPc.skip ?_ | refine WPc.region ?_
         | (refine isReg 6 ?_; refine WPc.drA [([], [38, 39]), ([], [37]), ([1], [37, 38]), ([0, 1, 2], [37, 38, 39]), ([0, 1, 2, 3], [37, 38, 39, 40]), ([0, 1, 2, 3, 4], [37, 38, 39, 40, 41])] [] (Γx := []) ?_; dsimp only [prev0, List.length_nil, List.length_cons])
         | (refine isReg 10 ?_; refine WPc.drA [([], [45, 46, 47, 48, 49, 50, 51, 52]), ([], [44, 46, 47, 48, 49, 50, 52]), ([], [44, 45, 47, 48, 49, 52]), ([], [44, 45, 46, 52]), ([3], [44, 45, 46, 47, 52]), ([3, 4], [44, 45, 46, 47, 48, 52]), ([2, 3, 4, 5], [44, 45, 46, 47, 48, 49, 52]), ([1, 2, 3, 4, 5, 6], [44, 45, 46, 47, 48, 49, 50, 52]), ([], [44, 45, 46, 47, 48, 49, 50, 51]), ([0, 1, 2, 3, 4, 5, 6, 7, 8], [44, 45, 46, 47, 48, 49, 50, 51, 52])] [] (Γx := []) ?_; dsimp only [prev0, List.length_nil, List.length_cons])
         | (refine gAny ?_; first | (refine gC 16 ?_; refine RGl.vl (fun e hk => OpT.callN (c1)) ?_) | (refine gC 23 ?_; refine RGl.vl (fun e hk => OpT.callN (c2)) ?_) | (refine gOp ?_; first | refine RGl.rdA ?_ | refine RGl.rdX (fun e hk => by (try dsimp only [bndR, ensR, oksR, fcutR, List.append_nil, List.nil_append, List.cons_append, List.append_assoc] at hk ⊢); exact readB) ?_) | (refine gBx ?_; refine RGl.nwA ?_) | (refine RGl.fin (fun e hk => ?_); (try dsimp only [bndA, ensAR, oksA, List.append_nil, List.nil_append, List.cons_append, List.append_assoc] at hk ⊢); (repeat (obtain ⟨hk1, hk⟩ := hk))) | fail)
         | (refine isCond ?_; first | refine WPc.cT ?_ | refine WPc.cF ?_ | (refine WPc.cQ (fun hc => ?_) (fun hc => ?_) <;> try exact prA))
         | (refine isC 16 ?_; refine WPl.cV (c1) ?_)
         | (show WPl _ _ _ _ _ _ _ (⟨_, .store 39 (.tmp 10) _, _, _, _, _⟩ :: _) _; refine WPl.stA (new := pkc X) ?_ (ht := by kernel_rfl))
         | (refine isC 23 ?_; refine WPl.cV (c2) ?_)
         | (refine isOp ?_; first | refine WPl.rd ?_ | refine WPl.sk ?_ | refine WPl.rdB ?_)
         | (refine isAl ?_; refine WPl.nw fun g => ?_)
         | (refine isBx ?_; refine WPl.nw fun g => ?_)
         | (refine isSt ?_; first | refine WPl.st1 ?_ | refine WPl.stA ?_ | refine WPl.stEB ?_ | refine WPl.stRB ?_)
         | (show WPl _ _ _ _ _ _ _ (⟨_, .indexAddr _ _ _, _, _, _, _⟩ :: _) _; refine WPl.rdX (ReadR.indexE rfl rfl hasA (by first | assumption | omega)) ?_)
         | (show WPl _ _ _ _ _ _ _ (⟨_, .fieldAddr _ _ _, _, _, _, _⟩ :: _) _; refine WPl.rdX (ReadR.fieldE rfl hasA (by first | assumption | omega)) ?_)
         | (show WPl _ _ _ _ _ _ _ (⟨_, .load _ _, _, _, _, _⟩ :: _) _; first | refine WPl.rdX (ReadR.loadE rfl hasA (by assumption)) ?_ | refine WPl.rdX (ReadR.loadES (by assumption) (by first | assumption | omega) rfl hasA) ?_)
         | (show WPl _ _ _ _ _ _ _ (⟨_, .slice _ _ _ _ _, _, _, _, _⟩ :: _) _; first | refine WPl.rdX (ReadR.sliceH rfl rfl hasA (by omega)) ?_ | refine WPl.rdX (ReadR.sliceL rfl rfl hasA (by omega)) ?_ | refine WPl.rdX (ReadR.sliceLH rfl rfl rfl hasA (by omega) (by omega)) ?_)
         | (refine WPl.spQ (fun hc => ?_) (fun hc => ?_) <;> try exact prA)
         | fail)
        all_goals try (first | exact WPq.dTp | exact WPq.dTs | exact WPq.dV | exact WPq.dR | exact WPq.dR2 | exact WPq.dH | exact WPq.dBH | exact WPq.dT)
  · have hE : natE b a p = pkE b := by unfold natE; rw [if_pos he]
    have hL : natL b w a p = [] := by unfold natL; rw [hE, if_neg he]
    rw [hE, hL]
    simp only [pkVal] at c1
    obtain ⟨X, hX⟩ : ∃ X, X = pkR b := ⟨_, rfl⟩
    rw [← hX] at c1
    have k1 := X.hd.src.len
    have k2 := X.hd.dst.len
    have k3 := X.fl.src.len
    have k4 := X.fl.dst.len
    generalize pkE b = z at *
    refine Triple.enter Try.func11 rfl Try.ntmps11 rfl (fun W => ?_)
    dsimp only [argsF, Nat.reduceAdd]
    refine WPc.nilRow 5 ?_
    repeat' (first
     | refine WPl.nil ?_ | refine WPq.then ?_ | refine WPq.thenR ?_ | refine WPq.thenE ?_ | refine WPq.blockN ?_ | refine WPq.blockR ?_ | refine WPq.blockE ?_ | refine WPq.blockO rfl ?_ | refine WPc.seq ?_ | refine WPc.block ?_ | refine WPc.ret ?_ | refine WPc.exit ?_ | refine WPc.skip ?_ | refine WPc.region ?_
     | (refine isReg 6 ?_; refine WPc.drA [([], [38, 39]), ([], [37]), ([1], [37, 38]), ([0, 1, 2], [37, 38, 39]), ([0, 1, 2, 3], [37, 38, 39, 40]), ([0, 1, 2, 3, 4], [37, 38, 39, 40, 41])] [] (Γx := []) ?_; dsimp only [prev0, List.length_nil, List.length_cons])
     | (refine isReg 10 ?_; refine WPc.drA [([], [45, 46, 47, 48, 49, 50, 51, 52]), ([], [44, 46, 47, 48, 49, 50, 52]), ([], [44, 45, 47, 48, 49, 52]), ([], [44, 45, 46, 52]), ([3], [44, 45, 46, 47, 52]), ([3, 4], [44, 45, 46, 47, 48, 52]), ([2, 3, 4, 5], [44, 45, 46, 47, 48, 49, 52]), ([1, 2, 3, 4, 5, 6], [44, 45, 46, 47, 48, 49, 50, 52]), ([], [44, 45, 46, 47, 48, 49, 50, 51]), ([0, 1, 2, 3, 4, 5, 6, 7, 8], [44, 45, 46, 47, 48, 49, 50, 51, 52])] [] (Γx := []) ?_; dsimp only [prev0, List.length_nil, List.length_cons])
     | (refine gAny ?_; first | (refine gC 16 ?_; refine RGl.vl (fun e hk => OpT.callN (c1)) ?_) | (refine gD 20 ?_; refine RGl.rdX (fun e hk => by (try dsimp only [bndR, ensR, oksR, fcutR, List.append_nil, List.nil_append, List.cons_append, List.append_assoc] at hk ⊢); exact ReadR.binE rfl rfl BinR.neq (congrArg Value.bool (decide_eq_true he))) ?_) | (refine gOp ?_; first | refine RGl.rdA ?_ | refine RGl.rdX (fun e hk => by (try dsimp only [bndR, ensR, oksR, fcutR, List.append_nil, List.nil_append, List.cons_append, List.append_assoc] at hk ⊢); exact readB) ?_) | (refine gBx ?_; refine RGl.nwA ?_) | (refine RGl.fin (fun e hk => ?_); (try dsimp only [bndA, ensAR, oksA, List.append_nil, List.nil_append, List.cons_append, List.append_assoc] at hk ⊢); (repeat (obtain ⟨hk1, hk⟩ := hk))) | fail)
     | (refine isCond ?_; first | refine WPc.cT ?_ | refine WPc.cF ?_ | (refine WPc.cQ (fun hc => ?_) (fun hc => ?_) <;> try exact prA))
     | (refine isC 16 ?_; refine WPl.cV (c1) ?_)
     | (show WPl _ _ _ _ _ _ _ (⟨_, .store 39 (.tmp 10) _, _, _, _, _⟩ :: _) _; refine WPl.stA (new := pkc X) ?_ (ht := by kernel_rfl))
     | (refine isD 20 ?_; refine WPl.rdX (ReadR.binE rfl rfl BinR.neq (congrArg Value.bool (decide_eq_true he))) ?_)
     | (refine isOp ?_; first | refine WPl.rd ?_ | refine WPl.sk ?_ | refine WPl.rdB ?_)
     | (refine isAl ?_; refine WPl.nw fun g => ?_)
     | (refine isBx ?_; refine WPl.nw fun g => ?_)
     | (refine isSt ?_; first | refine WPl.st1 ?_ | refine WPl.stA ?_ | refine WPl.stEB ?_ | refine WPl.stRB ?_)
     | (show WPl _ _ _ _ _ _ _ (⟨_, .indexAddr _ _ _, _, _, _, _⟩ :: _) _; refine WPl.rdX (ReadR.indexE rfl rfl hasA (by first | assumption | omega)) ?_)
     | (show WPl _ _ _ _ _ _ _ (⟨_, .fieldAddr _ _ _, _, _, _, _⟩ :: _) _; refine WPl.rdX (ReadR.fieldE rfl hasA (by first | assumption | omega)) ?_)
     | (show WPl _ _ _ _ _ _ _ (⟨_, .load _ _, _, _, _, _⟩ :: _) _; first | refine WPl.rdX (ReadR.loadE rfl hasA (by assumption)) ?_ | refine WPl.rdX (ReadR.loadES (by assumption) (by first | assumption | omega) rfl hasA) ?_)
     | (show WPl _ _ _ _ _ _ _ (⟨_, .slice _ _ _ _ _, _, _, _, _⟩ :: _) _; first | refine WPl.rdX (ReadR.sliceH rfl rfl hasA (by omega)) ?_ | refine WPl.rdX (ReadR.sliceL rfl rfl hasA (by omega)) ?_ | refine WPl.rdX (ReadR.sliceLH rfl rfl rfl hasA (by omega) (by omega)) ?_)
     | (refine WPl.spQ (fun hc => ?_) (fun hc => ?_) <;> try exact prA)
     | fail)
    all_goals try (first | exact WPq.dTp | exact WPq.dTs | exact WPq.dV | exact WPq.dR | exact WPq.dR2 | exact WPq.dH | exact WPq.dBH | exact WPq.dT)
theorem nto_t (v : Value) (b : List UInt8) (a : Adr) (p : Nat) (hp : p ≤ 65535) (hl : b.length ≤ 100000) :
    Triple Try.prog 5 #[v, ag (adc a), .int .u16 (p : Int)] [rb v b] (RW (natL b 1 a p) (natE b a p)) := by
  have c1 := nrw_t v b 1 a p (Or.inr rfl) hp hl
  have la := a.len
  generalize natL b 1 a p = L at *
  generalize natE b a p = z at *
  refine Triple.enter Try.func5 rfl Try.ntmps5 rfl (fun W => ?_)
  dsimp only [argsF, Nat.reduceAdd]
  repeat' (first
   | refine WPl.nil ?_ | refine WPq.then ?_ | refine WPq.thenR ?_ | refine WPq.thenE ?_ | refine WPq.blockN ?_ | refine WPq.blockR ?_ | refine WPq.blockE ?_ | refine WPq.blockO rfl ?_ | refine WPc.seq ?_ | refine WPc.block ?_ | refine WPc.ret ?_ | refine WPc.exit ?_ | refine WPc.skip ?_ | refine WPc.region ?_
   | (refine isCond ?_; first | refine WPc.cT ?_ | refine WPc.cF ?_ | (refine WPc.cQ (fun hc => ?_) (fun hc => ?_) <;> try exact prA))
   | (refine isC 11 ?_; refine WPl.cR2 (c1) fun v hv => ?_)
   | (refine isOp ?_; first | refine WPl.rd ?_ | refine WPl.sk ?_ | refine WPl.rdB ?_)
   | (refine isBx ?_; refine WPl.nw fun g => ?_)
   | (show WPl _ _ _ _ _ _ _ (⟨_, .indexAddr _ _ _, _, _, _, _⟩ :: _) _; refine WPl.rdX (ReadR.indexE rfl rfl hasA (by first | assumption | omega)) ?_)
   | (show WPl _ _ _ _ _ _ _ (⟨_, .fieldAddr _ _ _, _, _, _, _⟩ :: _) _; refine WPl.rdX (ReadR.fieldE rfl hasA (by first | assumption | omega)) ?_)
   | (show WPl _ _ _ _ _ _ _ (⟨_, .load _ _, _, _, _, _⟩ :: _) _; first | refine WPl.rdX (ReadR.loadE rfl hasA (by assumption)) ?_ | refine WPl.rdX (ReadR.loadES (by assumption) (by first | assumption | omega) rfl hasA) ?_)
   | (show WPl _ _ _ _ _ _ _ (⟨_, .slice _ _ _ _ _, _, _, _, _⟩ :: _) _; first | refine WPl.rdX (ReadR.sliceH rfl rfl hasA (by omega)) ?_ | refine WPl.rdX (ReadR.sliceL rfl rfl hasA (by omega)) ?_ | refine WPl.rdX (ReadR.sliceLH rfl rfl rfl hasA (by omega) (by omega)) ?_)
   | (refine WPl.spQ (fun hc => ?_) (fun hc => ?_) <;> try exact prA)
   | fail)
  all_goals try (first | exact WPq.dTp | exact WPq.dTs | exact WPq.dV | exact WPq.dR | exact WPq.dR2 | exact WPq.dH | exact WPq.dBH | exact WPq.dT)
theorem nfrom_t (v : Value) (b : List UInt8) (a : Adr) (p : Nat) (hp : p ≤ 65535) (hl : b.length ≤ 100000) :
    Triple Try.prog 6 #[v, ag (adc a), .int .u16 (p : Int)] [rb v b] (RW (natL b 0 a p) (natE b a p)) := by
  have c1 := nrw_t v b 0 a p (Or.inl rfl) hp hl
  have la := a.len
  generalize natL b 0 a p = L at *
  generalize natE b a p = z at *
  refine Triple.enter Try.func6 rfl Try.ntmps6 rfl (fun W => ?_)
  dsimp only [argsF, Nat.reduceAdd]
  repeat' (first
   | refine WPl.nil ?_ | refine WPq.then ?_ | refine WPq.thenR ?_ | refine WPq.thenE ?_ | refine WPq.blockN ?_ | refine WPq.blockR ?_ | refine WPq.blockE ?_ | refine WPq.blockO rfl ?_ | refine WPc.seq ?_ | refine WPc.block ?_ | refine WPc.ret ?_ | refine WPc.exit ?_ | refine WPc.skip ?_ | refine WPc.region ?_
   | (refine isCond ?_; first | refine WPc.cT ?_ | refine WPc.cF ?_ | (refine WPc.cQ (fun hc => ?_) (fun hc => ?_) <;> try exact prA))
   | (refine isC 11 ?_; refine WPl.cR2 (c1) fun v hv => ?_)
   | (refine isOp ?_; first | refine WPl.rd ?_ | refine WPl.sk ?_ | refine WPl.rdB ?_)
   | (refine isBx ?_; refine WPl.nw fun g => ?_)
   | (show WPl _ _ _ _ _ _ _ (⟨_, .indexAddr _ _ _, _, _, _, _⟩ :: _) _; refine WPl.rdX (ReadR.indexE rfl rfl hasA (by first | assumption | omega)) ?_)
   | (show WPl _ _ _ _ _ _ _ (⟨_, .fieldAddr _ _ _, _, _, _, _⟩ :: _) _; refine WPl.rdX (ReadR.fieldE rfl hasA (by first | assumption | omega)) ?_)
   | (show WPl _ _ _ _ _ _ _ (⟨_, .load _ _, _, _, _, _⟩ :: _) _; first | refine WPl.rdX (ReadR.loadE rfl hasA (by assumption)) ?_ | refine WPl.rdX (ReadR.loadES (by assumption) (by first | assumption | omega) rfl hasA) ?_)
   | (show WPl _ _ _ _ _ _ _ (⟨_, .slice _ _ _ _ _, _, _, _, _⟩ :: _) _; first | refine WPl.rdX (ReadR.sliceH rfl rfl hasA (by omega)) ?_ | refine WPl.rdX (ReadR.sliceL rfl rfl hasA (by omega)) ?_ | refine WPl.rdX (ReadR.sliceLH rfl rfl rfl hasA (by omega) (by omega)) ?_)
   | (refine WPl.spQ (fun hc => ?_) (fun hc => ?_) <;> try exact prA)
   | fail)
  all_goals try (first | exact WPq.dTp | exact WPq.dTs | exact WPq.dV | exact WPq.dR | exact WPq.dR2 | exact WPq.dH | exact WPq.dBH | exact WPq.dT)

end Go.Proofs.Ytjfhiifpnpokpaa
