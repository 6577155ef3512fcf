/- Layer 11 (inet): contracts. -/
import Derived.Test.YteofjhjhaaafjaaNu
namespace Go.Proofs.Yteofjhjhaaafjaa
open Go.RowKit
set_option linter.unusedSimpArgs false
set_option linter.unusedVariables false
set_option maxRecDepth 20000
set_option maxHeartbeats 4000000
attribute [local irreducible] WPc WPl WPq ReadR OpT BinR HasS bx rdN rowN Take Takes Prov Triple ResF BuildP Done ag Int.decLt Int.decLe Int.instDecidableEq

theorem par_snoc (b : Bool) (l : List UInt8) (c : UInt8) : par b (l ++ [c]) = !(par b l) := by rw [par_append]; rfl
theorem wsum_snoc (b : Bool) (l : List UInt8) (c : UInt8) : wsum b (l ++ [c]) = wsum b l + (if par b l then 256 * c.toNat else c.toNat) := by
  rw [wsum_append]; cases par b l <;> simp [wsum]
abbrev adr (g : Nat) (m : Nat) (odd : Bool) : Asn := bx g 130 [(1, [.int .u64 (m : Int)]), (1, [.bool odd])]

theorem add_t (g : Nat) (m : Nat) (odd : Bool) (v : Value) (l : List UInt8) (m' : Nat) (odd' : Bool) (h1 : m' = m + wsum (!odd) l) (h2 : odd' = !(par (!odd) l)) (hl : l.length ≤ 1000000000) (hm : m ≤ 1000000000000000) :
    Triple Try.prog 110 #[.pointer (some ⟨g, 0, none⟩), v] ([rb v l] ++ [adr g m odd])
      (RTurn (.tuple #[]) (adr g m' odd')) := by
  refine Triple.enter Try.func110 rfl Try.ntmps110 rfl (fun W => ?_)
  dsimp only [argsF, Nat.reduceAdd]
  repeat' (first
   | refine WPl.nil ?_ | refine WPq.then ?_ | refine WPq.thenR ?_ | refine WPq.thenE ?_ | refine WPq.blockN ?_ | refine WPq.blockR ?_ | refine WPq.blockE ?_ | refine WPq.blockO rfl ?_ | refine WPc.seq ?_ | refine WPc.block ?_ | refine WPc.ret ?_ | refine WPc.exit ?_ | refine WPc.skip ?_ | refine WPc.region ?_
   | (refine isCond ?_; first | refine WPc.cT ?_ | refine WPc.cF ?_)
   | (refine isOp ?_; first | refine WPl.rd ?_ | refine WPl.sk ?_ | refine WPl.rdB ?_)
   | (refine isSt ?_; first | refine WPl.st1 ?_ | refine WPl.stA ?_ | refine WPl.stEB ?_ | refine WPl.stRB ?_)
   | fail)
  first | refine WPc.loop (σ := Nat × Nat × Bool) (fun p => p.1 ≤ l.length ∧ p.2.1 = m + wsum (!odd) (l.take p.1) ∧ p.2.2 = !(par (!odd) (l.take p.1))) (fun p => [rb v l, adr g p.2.1 p.2.2]) (fun p => [(0, .pointer (some ⟨g, 0, none⟩)), (7, v), (8, .int .i64 l.length), (9, .int .i64 p.1)]) (fun p => l.length - p.1) ((0, m, odd)) ?_ takesA frsA (fun st km hx hk => ?_)
  · simp [wsum, par]
  obtain ⟨i, c, o⟩ := st
  dsimp only at hx hk ⊢
  obtain ⟨hi, hc1, hc2⟩ := hx
  by_cases hlt : i < l.length
  · have hb := (l.getD i 0).toNat_lt
    have hw := wsum_le (!odd) (l.take i)
    have hL : (l.take i).length ≤ 1000000000 := by rw [List.length_take]; omega
    have e1 := wsum_snoc (!odd) (l.take i) (l.getD i 0)
    have e2 := par_snoc (!odd) (l.take i) (l.getD i 0)
    rw [← take_snoc l hlt] at e1 e2
    have hbd : c ≤ 100000000000000000 := by omega
    clear hw
    repeat' (first
     | refine WPl.nil ?_ | refine WPq.then ?_ | refine WPq.thenR ?_ | refine WPq.thenE ?_ | refine WPq.blockN ?_ | refine WPq.blockR ?_ | refine WPq.blockE ?_ | refine WPq.blockO rfl ?_ | refine WPc.seq ?_ | refine WPc.block ?_ | refine WPc.ret ?_ | refine WPc.exit ?_ | refine WPc.skip ?_ | refine WPc.region ?_
     | (refine isCond ?_; first | refine WPc.cT ?_ | refine WPc.cF ?_ | (refine WPc.cQ (fun hc => ?_) (fun hc => ?_) <;> try exact prA))
     | (show WPl _ _ _ _ _ _ _ (⟨_, .convert _ _ _, _, _, _, _⟩ :: _) _; refine WPl.rdX (ReadR.conv rfl conv_u8) ?_)
     | (refine isOp ?_; first | refine WPl.rd ?_ | refine WPl.sk ?_ | refine WPl.rdB ?_)
     | (refine isSt ?_; first | refine WPl.st1 ?_ | refine WPl.stA ?_ | refine WPl.stEB ?_ | refine WPl.stRB ?_)
     | (refine WPl.spQ (fun hc => ?_) (fun hc => ?_) <;> try exact prA)
     | fail)
    · have : o = false := by simpa using hc
      subst this
      have hp : par (!odd) (l.take i) = true := by simpa using hc2.symm
      rw [hp] at e1 e2
      rw [show ((c : Int) + ((l.getD i 0).toNat : Int) * 2 ^ 8) = ((c + 256 * (l.getD i 0).toNat : Nat) : Int) by omega]
      exact WPq.rnd (i + 1, c + 256 * (l.getD i 0).toNat, true) ⟨by show i + 1 ≤ _; omega, by show _ = m + wsum _ _; rw [e1]; simp; omega, by show true = _; rw [e2]; rfl⟩ (by show _ - (i + 1) < km; omega)
    · have : o = true := by simpa using hc
      subst this
      have hp : par (!odd) (l.take i) = false := by simpa using hc2.symm
      rw [hp] at e1 e2
      rw [show ((c : Int) + ((l.getD i 0).toNat : Int)) = ((c + (l.getD i 0).toNat : Nat) : Int) by omega]
      exact WPq.rnd (i + 1, c + (l.getD i 0).toNat, false) ⟨by show i + 1 ≤ _; omega, by show _ = m + wsum _ _; rw [e1]; simp; omega, by show false = _; rw [e2]; rfl⟩ (by show _ - (i + 1) < km; omega)
  · obtain rfl : i = l.length := by omega
    rw [List.take_length] at hc1 hc2
    obtain rfl : m' = c := by omega
    obtain rfl : odd' = o := by rw [h2, hc2]
    repeat' (first
     | refine WPl.nil ?_ | refine WPq.then ?_ | refine WPq.thenR ?_ | refine WPq.thenE ?_ | refine WPq.blockN ?_ | refine WPq.blockR ?_ | refine WPq.blockE ?_ | refine WPq.blockO rfl ?_ | refine WPc.seq ?_ | refine WPc.block ?_ | refine WPc.ret ?_ | refine WPc.exit ?_ | refine WPc.skip ?_ | refine WPc.region ?_
     | (refine isCond ?_; first | refine WPc.cT ?_ | refine WPc.cF ?_ | (refine WPc.cQ (fun hc => ?_) (fun hc => ?_) <;> try exact prA))
     | (refine isOp ?_; first | refine WPl.rd ?_ | refine WPl.sk ?_ | refine WPl.rdB ?_)
     | (refine isSt ?_; first | refine WPl.st1 ?_ | refine WPl.stA ?_ | refine WPl.stEB ?_ | refine WPl.stRB ?_)
     | (refine WPl.spQ (fun hc => ?_) (fun hc => ?_) <;> try exact prA)
     | fail)
    all_goals try (first | exact WPq.dV | exact WPq.dR | exact WPq.dR2 | exact WPq.dH | exact WPq.dBH | exact WPq.dT)

theorem folded_t (m : Nat) (hm : m ≤ 18446744073709551615) : Triple Try.prog 111 #[.int .u64 m] [] (RVal (.int .u16 (fold m))) := by
  refine Triple.enter Try.func111 rfl Try.ntmps111 rfl (fun W => ?_)
  dsimp only [argsF, Nat.reduceAdd]
  repeat' (first
   | refine WPl.nil ?_ | refine WPq.then ?_ | refine WPq.thenR ?_ | refine WPq.thenE ?_ | refine WPq.blockN ?_ | refine WPq.blockR ?_ | refine WPq.blockE ?_ | refine WPq.blockO rfl ?_ | refine WPc.seq ?_ | refine WPc.block ?_ | refine WPc.ret ?_ | refine WPc.exit ?_ | refine WPc.skip ?_ | refine WPc.region ?_
   | (refine isCond ?_; first | refine WPc.cT ?_ | refine WPc.cF ?_)
   | (refine isOp ?_; first | refine WPl.rd ?_ | refine WPl.sk ?_ | refine WPl.rdB ?_)
   | fail)
  first | refine WPc.loop (σ := Nat) (fun n => n ≤ 18446744073709551615 ∧ fold n = fold m) (fun n => []) (fun n => [(0, .int .u64 n)]) (fun n => n) (m) ?_ takesA frsA (fun st km hx hk => ?_)
  · exact ⟨hm, rfl⟩
  obtain ⟨c, rfl⟩ : ∃ c, c = st := ⟨_, rfl⟩
  obtain ⟨h1, h2⟩ := hx
  by_cases hlt : 65535 < c
  · skip
    repeat' (first
     | refine WPl.nil ?_ | refine WPq.then ?_ | refine WPq.thenR ?_ | refine WPq.thenE ?_ | refine WPq.blockN ?_ | refine WPq.blockR ?_ | refine WPq.blockE ?_ | refine WPq.blockO rfl ?_ | refine WPc.seq ?_ | refine WPc.block ?_ | refine WPc.ret ?_ | refine WPc.exit ?_ | refine WPc.skip ?_ | refine WPc.region ?_
     | (refine isCond ?_; first | refine WPc.cT ?_ | refine WPc.cF ?_ | (refine WPc.cQ (fun hc => ?_) (fun hc => ?_) <;> try exact prA))
     | (refine isOp ?_; first | refine WPl.rd ?_ | refine WPl.sk ?_ | refine WPl.rdB ?_)
     | (refine WPl.spQ (fun hc => ?_) (fun hc => ?_) <;> try exact prA)
     | fail)
    refine WPq.rnd (c % 65536 + c / 65536) ⟨by omega, by rw [fold_step, h2]⟩ (by omega) takesA ?_
    rw [show (((c % 65536 + c / 65536 : Nat) : Int)) = (c : Int) % (65535 + 1) + (c : Int) / 2 ^ 16 by omega]
    exact frsA
  · have e : fold c = c := fold_low (by omega)
    repeat' (first
     | refine WPl.nil ?_ | refine WPq.then ?_ | refine WPq.thenR ?_ | refine WPq.thenE ?_ | refine WPq.blockN ?_ | refine WPq.blockR ?_ | refine WPq.blockE ?_ | refine WPq.blockO rfl ?_ | refine WPc.seq ?_ | refine WPc.block ?_ | refine WPc.ret ?_ | refine WPc.exit ?_ | refine WPc.skip ?_ | refine WPc.region ?_
     | (refine isCond ?_; first | refine WPc.cT ?_ | refine WPc.cF ?_ | (refine WPc.cQ (fun hc => ?_) (fun hc => ?_) <;> try exact prA))
     | (refine isOp ?_; first | refine WPl.rd ?_ | refine WPl.sk ?_ | refine WPl.rdB ?_)
     | (refine WPl.spQ (fun hc => ?_) (fun hc => ?_) <;> try exact prA)
     | fail)
    exact WPq.dV (hc := by rw [← h2, e]; rfl)

theorem isum_t (v : Value) (vs : List Value) (ls : List (List UInt8)) (n : Nat) (hn : n = 65535 - fold (wsum true ls.flatten)) (h : vs.length = ls.length) (hl : ls.flatten.length ≤ 1000000) (h0 : vs.length ≤ 1000000) :
    Triple Try.prog 80 #[v] (rdN v vs.length vs :: rbz vs ls) (RVal (.int .u16 n)) := by
  refine Triple.enter Try.func80 rfl Try.ntmps80 rfl (fun W => ?_)
  dsimp only [argsF, Nat.reduceAdd]
  repeat' (first
   | refine WPl.nil ?_ | refine WPq.then ?_ | refine WPq.thenR ?_ | refine WPq.thenE ?_ | refine WPq.blockN ?_ | refine WPq.blockR ?_ | refine WPq.blockE ?_ | refine WPq.blockO rfl ?_ | refine WPc.seq ?_ | refine WPc.block ?_ | refine WPc.ret ?_ | refine WPc.exit ?_ | refine WPc.skip ?_ | refine WPc.region ?_
   | (refine isCond ?_; first | refine WPc.cT ?_ | refine WPc.cF ?_)
   | (refine isOp ?_; first | refine WPl.rd ?_ | refine WPl.sk ?_ | refine WPl.rdB ?_)
   | (refine isBx ?_; refine WPl.nw fun g => ?_)
   | fail)
  first | refine WPc.loop (σ := Nat × Nat × Bool) (fun p => p.1 ≤ ls.length ∧ p.2.1 = wsum true (ls.take p.1).flatten ∧ p.2.2 = !(par true (ls.take p.1).flatten)) (fun p => adr g p.2.1 p.2.2 :: rdN v vs.length vs :: rbz vs ls) (fun p => [(3, .pointer (some ⟨g, 0, none⟩)), (8, v), (9, .int .i64 vs.length), (10, .int .i64 p.1)]) (fun p => ls.length - p.1) ((0, 0, false)) ?_ takesA frsA (fun st km hx hk => ?_)
  · simp [wsum, par]
  obtain ⟨i, c, o⟩ := st
  dsimp only at hx hk ⊢
  obtain ⟨hi, hc1, hc2⟩ := hx
  by_cases hlt : i < ls.length
  · obtain ⟨u, hu⟩ : ∃ u, vs[i]? = some u := ⟨_, List.getElem?_eq_getElem (by omega)⟩
    obtain ⟨l, hl'⟩ : ∃ l, ls[i]? = some l := ⟨_, List.getElem?_eq_getElem hlt⟩
    refine WPc.dup (A := rb u l) (List.Mem.tail _ (List.Mem.tail _ (mem_rbz hu hl'))) rdN_own ?_
    have e : (ls.take (i + 1)).flatten = (ls.take i).flatten ++ l := by rw [List.take_add_one, hl']; simp
    have hle : ((ls.take i).flatten ++ l).length ≤ ls.flatten.length := by
      rw [← e, ← List.take_append_drop (i + 1) ls, List.flatten_append]; simp
    rw [List.length_append] at hle
    have hw := wsum_le true (ls.take i).flatten
    have hbd : c ≤ 100000000000000 := by omega
    have e1 := wsum_append true (ls.take i).flatten l
    have e2 := par_append true (ls.take i).flatten l
    have e3 : par true (ls.take i).flatten = !o := by rw [hc2]; simp
    rw [e3] at e1 e2
    repeat' (first
     | refine WPl.nil ?_ | refine WPq.then ?_ | refine WPq.thenR ?_ | refine WPq.thenE ?_ | refine WPq.blockN ?_ | refine WPq.blockR ?_ | refine WPq.blockE ?_ | refine WPq.blockO rfl ?_ | refine WPc.seq ?_ | refine WPc.block ?_ | refine WPc.ret ?_ | refine WPc.exit ?_ | refine WPc.skip ?_ | refine WPc.region ?_
     | (refine isCond ?_; first | refine WPc.cT ?_ | refine WPc.cF ?_ | (refine WPc.cQ (fun hc => ?_) (fun hc => ?_) <;> try exact prA))
     | (show WPl _ _ _ _ _ _ _ (⟨_, .load _ _, _, _, _, _⟩ :: _) _; refine WPl.rdX ((by apply ReadR.loadE; exact rfl; exact hasA; exact hu)) ?_)
     | (refine isCl ?_; refine WPl.cT (add_t g c o u l _ _ rfl rfl (by omega) (by omega)) ?_)
     | (refine isOp ?_; first | refine WPl.rd ?_ | refine WPl.sk ?_ | refine WPl.rdB ?_)
     | (refine isBx ?_; refine WPl.nw fun g => ?_)
     | (refine WPl.spQ (fun hc => ?_) (fun hc => ?_) <;> try exact prA)
     | fail)
    exact WPq.rnd (i + 1, c + wsum (!o) l, !(par (!o) l)) ⟨by show i + 1 ≤ _; omega, by show _ = wsum true _; rw [e, e1, hc1], by show _ = !(par true _); rw [e, e2]⟩ (by show _ - (i + 1) < km; omega)
  · obtain rfl : i = ls.length := by omega
    rw [List.take_length] at hc1 hc2
    have hw := wsum_le true ls.flatten
    have hf := fold_le c
    repeat' (first
     | refine WPl.nil ?_ | refine WPq.then ?_ | refine WPq.thenR ?_ | refine WPq.thenE ?_ | refine WPq.blockN ?_ | refine WPq.blockR ?_ | refine WPq.blockE ?_ | refine WPq.blockO rfl ?_ | refine WPc.seq ?_ | refine WPc.block ?_ | refine WPc.ret ?_ | refine WPc.exit ?_ | refine WPc.skip ?_ | refine WPc.region ?_
     | (refine isCond ?_; first | refine WPc.cT ?_ | refine WPc.cF ?_ | (refine WPc.cQ (fun hc => ?_) (fun hc => ?_) <;> try exact prA))
     | (refine isCl ?_; refine WPl.cV (folded_t c (by omega)) ?_)
     | (refine isOp ?_; first | refine WPl.rd ?_ | refine WPl.sk ?_ | refine WPl.rdB ?_)
     | (refine isBx ?_; refine WPl.nw fun g => ?_)
     | (refine WPl.spQ (fun hc => ?_) (fun hc => ?_) <;> try exact prA)
     | fail)
    exact WPq.dV (hc := by
      show Value.int .u16 _ = Value.int .u16 _
      congr 1
      simp only [kmax]
      rw [hn, ← hc1]; omega)
theorem igood_t (v : Value) (vs : List Value) (ls : List (List UInt8)) (b : Bool) (hb : b = decide (csum ls.flatten = 0)) (h : vs.length = ls.length) (hl : ls.flatten.length ≤ 1000000) (h0 : vs.length ≤ 1000000) :
    Triple Try.prog 107 #[v] (rdN v vs.length vs :: rbz vs ls) (RVal (.bool b)) := by
  refine Triple.enter Try.func107 rfl Try.ntmps107 rfl (fun W => ?_)
  dsimp only [argsF, Nat.reduceAdd]
  repeat' (first
   | refine WPl.nil ?_ | refine WPq.then ?_ | refine WPq.thenR ?_ | refine WPq.thenE ?_ | refine WPq.blockN ?_ | refine WPq.blockR ?_ | refine WPq.blockE ?_ | refine WPq.blockO rfl ?_ | refine WPc.seq ?_ | refine WPc.block ?_ | refine WPc.ret ?_ | refine WPc.exit ?_ | refine WPc.skip ?_ | refine WPc.region ?_
   | (refine isCond ?_; first | refine WPc.cT ?_ | refine WPc.cF ?_ | (refine WPc.cQ (fun hc => ?_) (fun hc => ?_) <;> try exact prA))
   | (refine isCl ?_; refine WPl.cV (isum_t v vs ls _ rfl h hl h0) ?_)
   | (refine isOp ?_; first | refine WPl.rd ?_ | refine WPl.sk ?_ | refine WPl.rdB ?_)
   | (refine WPl.spQ (fun hc => ?_) (fun hc => ?_) <;> try exact prA)
   | fail)
  exact WPq.dV (hc := by rw [hb]; exact boolV (by unfold csum; omega))

end Go.Proofs.Yteofjhjhaaafjaa
