/- What the row of natRewrites_holds needs: part 6. -/
import Derived.Test.YtjfhiifpnpokpaaNrw5
import Derived.Test.YtjfhiifpnpokpaaNrw4
/- Layer 17 (nat): plain facts: a segment that is sent elsewhere is read. -/
namespace Go.Proofs.Ytjfhiifpnpokpaa
open Go.RowKit
set_option linter.unusedSimpArgs false
set_option linter.unusedVariables false
set_option maxRecDepth 20000
set_option maxHeartbeats 4000000
attribute [local irreducible] WPc WPl WPq ReadR OpT BinR HasS bx rdN rowN Take Takes Prov Triple ResF BuildP Done ag Int.decLt Int.decLe Int.instDecidableEq

def sfix (h : Hd) (n : Nat) : Nat := if h.proto.toNat = 17 then udp n else n
theorem sfix_mod (h : Hd) (n : Nat) : sfix h n % 65535 = n % 65535 := by unfold sfix; split; exact udp_mod n; rfl
theorem sfix_le {h : Hd} {n : Nat} (hn : n ≤ 65535) : sfix h n ≤ 65535 := by unfold sfix; split; exact udp_le hn; exact hn
/-- Where the sum stands in a segment. -/
def sj (h : Hd) : Nat := if h.proto.toNat = 6 then 16 else 6
theorem sg_facts {h : Hd} {S : List UInt8} (he : sgE h S = 0) : pz S = false ∧
    ((h.proto.toNat = 6 ∧ 20 ≤ S.length ∧ sgood h S = true ∧ (sgR h S).zero = false ∧ sj h = 16 ∧ (sgR h S).sumAt = 16) ∨
     (h.proto.toNat = 17 ∧ 8 ≤ S.length ∧ sj h = 6 ∧ (sgR h S).sumAt = 6 ∧ (((sgR h S).zero = true ∧ val (seg S 6 2) = 0) ∨ ((sgR h S).zero = false ∧ val (seg S 6 2) ≠ 0 ∧ sgood h S = true)))) := by
  have he0 : sgE0 h S = 0 := by
    apply Classical.byContradiction
    intro hn
    unfold sgE at he
    rw [if_neg hn] at he
    exact hn he
  have hz : pz S = false := by
    unfold sgE at he
    rw [if_pos he0] at he
    cases hh : pz S with
    | false => rfl
    | true => rw [hh, if_pos rfl] at he; cases he
  have hR : sgR h S = (sg0 h S).at S := by unfold sgR; rw [if_pos he]
  have hlen := sgE0_len he0
  refine ⟨hz, ?_⟩
  unfold sgE0 at he0
  rw [hR]
  unfold sg0 Sg.at sj
  by_cases p6 : h.proto.toNat = 6
  · rw [if_pos p6] at he0
    obtain ⟨u1, u2, u3, u4⟩ := tcpE_zero he0
    rw [if_pos p6]
    exact Or.inl ⟨p6, u1, u4, rfl, if_pos p6, rfl⟩
  · rw [if_neg p6] at he0
    by_cases p17 : h.proto.toNat = 17
    · rw [if_pos p17] at he0
      refine Or.inr ⟨p17, hlen, if_neg p6, by rw [if_neg p6]; rfl, ?_⟩
      rw [if_neg p6]
      by_cases q : val (seg S 6 2) = 0
      · exact Or.inl ⟨by unfold udpS; simp only; exact decide_eq_true q, q⟩
      · refine Or.inr ⟨by unfold udpS; simp only; exact decide_eq_false q, q, ?_⟩
        cases hg : sgood h S with
        | true => rfl
        | false =>
          exfalso
          unfold udpE at he0
          rw [hg] at he0
          repeat' (split at he0)
          all_goals first | (cases he0; done) | skip
          rename_i hlast
          exact hlast ⟨q, rfl⟩
    · rw [if_neg p17] at he0; cases he0
theorem val_twoB {n : Nat} (h : n ≤ 65535) : val (twoB n) = n := by
  simp [twoB, val, u8_of]; omega
/-- A segment of a packet with another address. -/
theorem sg_addr {h h' : Hd} {S : List UInt8} {o a : Adr} (he : sgE h S = 0) (hp : h'.proto = h.proto) (h6 : h'.six = h.six)
    (hs : (h.src = o ∧ h'.src = a ∧ h'.dst = h.dst) ∨ (h.dst = o ∧ h'.dst = a ∧ h'.src = h.src)) (hl : o.bytes.length = a.bytes.length) (S' : List UInt8)
    (hS : S' = if (sgR h S).zero then S else lay S (sj h) (twoB (sfix h (chg (val (seg S (sj h) 2)) o.bytes a.bytes)))) :
    sgE h' S' = 0 ∧ sgR h' S' = sgR h S ∧ S'.length = S.length := by
  obtain ⟨hz, hf⟩ := sg_facts he
  have hst : ({ sgR h S with src := val (seg S 0 2), dst := val (seg S 2 2) } : Sg) = sgR h S := by
    unfold sgR; rw [if_pos he]; rfl
  generalize hn : sfix h (chg (val (seg S (sj h) 2)) o.bytes a.bytes) = n at hS
  have hn1 : n ≤ 65535 := by rw [← hn]; exact sfix_le (chg_le _ _ _)
  have hn2 : n % 65535 = chg (val (seg S (sj h) 2)) o.bytes a.bytes % 65535 := by rw [← hn]; exact sfix_mod _ _
  have t2 : (twoB n).length = 2 := rfl
  rcases hf with ⟨p6, l20, g, z, ej, _⟩ | ⟨p17, l8, ej, _, ⟨z, q⟩ | ⟨z, q, g⟩⟩
  · rw [z, ej] at hS
    rw [ej] at hn2
    rw [if_neg (by decide)] at hS
    have L : 16 + (twoB n).length ≤ S.length := by omega
    subst hS
    have e := sg_frame (h' := h') (S' := lay S 16 (twoB n)) he hp h6 (lay_length L)
      (fun _ => ⟨byteN_lay L (by omega), getD_lay L (by omega), sgood_addr hp h6 (by omega) hs hl g (by decide) (by omega) hn1 hn2⟩) (fun hh => by omega)
      (by unfold pz at hz ⊢; rw [seg_lay_out L (by omega), seg_lay_out L (by omega)]; exact hz)
    rw [seg_lay_out L (by omega), seg_lay_out L (by omega), hst] at e
    exact ⟨e.1, e.2, lay_length L⟩
  · rw [z, if_pos rfl] at hS
    subst hS
    have e := sg_frame (h' := h') (S' := S') he hp h6 rfl (fun hh => by omega) (fun _ => ⟨rfl, Iff.rfl, fun hh => absurd q hh⟩) hz
    rw [hst] at e
    exact ⟨e.1, e.2, rfl⟩
  · rw [z, ej] at hS
    rw [ej] at hn2 hn
    rw [if_neg (by decide)] at hS
    have L : 6 + (twoB n).length ≤ S.length := by omega
    have n0 : n ≠ 0 := by rw [← hn]; unfold sfix; rw [if_pos p17]; exact udp_ne _
    subst hS
    have v : val (seg (lay S 6 (twoB n)) 6 2) = n := by
      have := seg_lay_at L
      rw [t2] at this
      rw [this, val_twoB hn1]
    have e := sg_frame (h' := h') (S' := lay S 6 (twoB n)) he hp h6 (lay_length L) (fun hh => by omega)
      (fun _ => ⟨seg_lay_out L (by omega), by rw [v]; exact ⟨fun hh => absurd hh n0, fun hh => absurd hh q⟩, fun _ => sgood_addr hp h6 (by omega) hs hl g (by decide) (by omega) hn1 hn2⟩)
      (by unfold pz at hz ⊢; rw [seg_lay_out L (by omega), seg_lay_out L (by omega)]; exact hz)
    rw [seg_lay_out L (by omega), seg_lay_out L (by omega), hst] at e
    exact ⟨e.1, e.2, lay_length L⟩

/-- A segment with another port. -/
theorem sg_port {h : Hd} {S : List UInt8} {k p : Nat} (he : sgE h S = 0) (hk : k = 0 ∨ k = 2) (hp1 : p ≤ 65535) (hp0 : p ≠ 0) (S' : List UInt8)
    (hS : S' = if (sgR h S).zero then lay S k (twoB p) else lay (lay S k (twoB p)) (sj h) (twoB (sfix h (chg (val (seg S (sj h) 2)) (seg S k 2) (twoB p))))) :
    sgE h S' = 0 ∧ sgR h S' = (if k = 0 then { sgR h S with src := p } else { sgR h S with dst := p }) ∧ S'.length = S.length := by
  obtain ⟨hz, hf⟩ := sg_facts he
  have hs1 : (sgR h S).src = val (seg S 0 2) := by unfold sgR; rw [if_pos he]; rfl
  have hs2 : (sgR h S).dst = val (seg S 2 2) := by unfold sgR; rw [if_pos he]; rfl
  have hz2 : val (seg S 0 2) ≠ 0 ∧ val (seg S 2 2) ≠ 0 := by
    unfold pz at hz
    simpa using hz
  generalize hn : sfix h (chg (val (seg S (sj h) 2)) (seg S k 2) (twoB p)) = n at hS
  have hn1 : n ≤ 65535 := by rw [← hn]; exact sfix_le (chg_le _ _ _)
  have hn2 : n % 65535 = chg (val (seg S (sj h) 2)) (seg S k 2) (twoB p) % 65535 := by rw [← hn]; exact sfix_mod _ _
  have t2 : (twoB n).length = 2 := rfl
  have t3 : (twoB p).length = 2 := rfl
  have l8 : 8 ≤ S.length := by rcases hf with ⟨_, h1, _⟩ | ⟨_, h1, _⟩ <;> omega
  have L1 : k + (twoB p).length ≤ S.length := by omega
  have P : ∀ T : List UInt8, (∀ i, i + 2 ≤ 4 → seg T i 2 = seg (lay S k (twoB p)) i 2) → pz T = false ∧
      ({ sgR h S with src := val (seg T 0 2), dst := val (seg T 2 2) } : Sg) = (if k = 0 then { sgR h S with src := p } else { sgR h S with dst := p }) := fun T hT => by
    have a := seg_lay_at L1
    rw [t3] at a
    unfold pz
    rw [hT 0 (by omega), hT 2 (by omega)]
    rcases hk with rfl | rfl
    · rw [a, seg_lay_out L1 (by omega), val_twoB hp1, if_pos rfl, ← hs2]
      exact ⟨by rw [hs2]; simp [hp0, hz2.2], rfl⟩
    · rw [a, seg_lay_out L1 (by omega), val_twoB hp1, if_neg (by decide), ← hs1]
      exact ⟨by rw [hs1]; simp [hp0, hz2.1], rfl⟩
  rcases hf with ⟨p6, l20, g, z, ej, _⟩ | ⟨p17, _, ej, _, ⟨z, q⟩ | ⟨z, q, g⟩⟩
  · rw [z, ej] at hS
    rw [ej] at hn2
    rw [if_neg (by decide)] at hS
    have L : 16 + (twoB n).length ≤ (lay S k (twoB p)).length := by rw [lay_length L1]; omega
    subst hS
    obtain ⟨P1, P2⟩ := P (lay (lay S k (twoB p)) 16 (twoB n)) (fun i hi => seg_lay_out L (by omega))
    have e := sg_frame (h' := h) (S' := lay (lay S k (twoB p)) 16 (twoB n)) he rfl rfl (by rw [lay_length L, lay_length L1])
      (fun _ => ⟨by rw [byteN_lay L (by omega), byteN_lay L1 (by omega)], by rw [getD_lay L (by omega), getD_lay L1 (by omega)], sgood_port (by omega) (by omega) t3 (by omega) g (by decide) (by omega) hn1 hn2⟩)
      (fun hh => by omega) P1
    rw [P2] at e
    exact ⟨e.1, e.2, by rw [lay_length L, lay_length L1]⟩
  · rw [z, if_pos rfl] at hS
    subst hS
    obtain ⟨P1, P2⟩ := P (lay S k (twoB p)) (fun i hi => rfl)
    have e := sg_frame (h' := h) (S' := lay S k (twoB p)) he rfl rfl (lay_length L1) (fun hh => by omega)
      (fun _ => ⟨seg_lay_out L1 (by omega), by rw [seg_lay_out L1 (by omega)], fun hh => absurd q hh⟩) P1
    rw [P2] at e
    exact ⟨e.1, e.2, lay_length L1⟩
  · rw [z, ej] at hS
    rw [ej] at hn2 hn
    rw [if_neg (by decide)] at hS
    have L : 6 + (twoB n).length ≤ (lay S k (twoB p)).length := by rw [lay_length L1]; omega
    have n0 : n ≠ 0 := by rw [← hn]; unfold sfix; rw [if_pos p17]; exact udp_ne _
    subst hS
    have v : val (seg (lay (lay S k (twoB p)) 6 (twoB n)) 6 2) = n := by
      have := seg_lay_at L
      rw [t2] at this
      rw [this, val_twoB hn1]
    obtain ⟨P1, P2⟩ := P (lay (lay S k (twoB p)) 6 (twoB n)) (fun i hi => seg_lay_out L (by omega))
    have e := sg_frame (h' := h) (S' := lay (lay S k (twoB p)) 6 (twoB n)) he rfl rfl (by rw [lay_length L, lay_length L1]) (fun hh => by omega)
      (fun _ => ⟨by rw [seg_lay_out L (by omega), seg_lay_out L1 (by omega)], by rw [v]; exact ⟨fun hh => absurd hh n0, fun hh => absurd hh q⟩, fun _ => sgood_port (by omega) (by omega) t3 (by omega) g (by decide) (by omega) hn1 hn2⟩) P1
    rw [P2] at e
    exact ⟨e.1, e.2, by rw [lay_length L, lay_length L1]⟩

end Go.Proofs.Ytjfhiifpnpokpaa
/- Layer 14 (ipsix): heads between, passed: contracts. -/
namespace Go.Proofs.Ytjfhiifpnpokpaa
open Go.RowKit
set_option linter.unusedSimpArgs false
set_option linter.unusedVariables false
set_option maxRecDepth 20000
set_option maxHeartbeats 4000000
attribute [local irreducible] WPc WPl WPq ReadR OpT BinR HasS bx rdN rowN Take Takes Prov Triple ResF BuildP Done ag Int.decLt Int.decLe Int.instDecidableEq

theorem and_div8 (n m : Nat) : (n &&& m) / 256 = n / 256 &&& m / 256 := by
  have := Nat.shiftRight_and_distrib (a := n) (b := m) (i := 8)
  simpa [Nat.shiftRight_eq_div_pow] using this
theorem and_249 : ∀ c : Fin 256, (c.val &&& 249 = 0) ↔ (c.val / 8 = 0 ∧ c.val % 2 = 0) := by decide +kernel
theorem and_255 : ∀ c : Fin 256, (c.val &&& 255) = c.val := by decide +kernel
theorem and_fff9 {n : Nat} (h : n < 65536) : (n &&& 65529 = 0) ↔ (n / 8 = 0 ∧ n % 2 = 0) := by
  have h1 := and_div8 n 65529
  have h2 : (n &&& 65529) % 256 = n % 256 &&& 65529 % 256 := Nat.and_mod_two_pow (n := 8)
  have h3 := and_255 ⟨n / 256, by omega⟩
  have h4 := and_249 ⟨n % 256, by omega⟩
  simp only [show (65529 : Nat) / 256 = 255 from rfl, show (65529 : Nat) % 256 = 249 from rfl] at h1 h2 h3 h4
  rw [h3] at h1
  constructor
  · intro e
    rw [e] at h1 h2
    have := h4.1 (by omega)
    omega
  · intro e
    have := h4.2 (by omega)
    omega
/-- What stands between. -/
def btw (p : UInt8) : Bool := decide (((p.toNat : Nat) : Int) = 0) || (decide (((p.toNat : Nat) : Int) = 43) || (decide (((p.toNat : Nat) : Int) = 44) || decide (((p.toNat : Nat) : Int) = 60)))
theorem btw_t (p : UInt8) : Triple Try.prog 70 #[.int .u8 ((p.toNat : Nat) : Int)] [] (RVal (.bool (btw p))) := by
  refine Triple.enter Try.func70 rfl Try.ntmps70 rfl (fun W => ?_)
  dsimp only [argsF, Nat.reduceAdd]
  repeat' (first
   | refine WPl.nil ?_ | refine WPq.then ?_ | refine WPq.thenR ?_ | refine WPq.thenE ?_ | refine WPq.blockN ?_ | refine WPq.blockR ?_ | refine WPq.blockE ?_ | refine WPq.blockO rfl ?_ | refine WPc.seq ?_ | refine WPc.block ?_ | refine WPc.ret ?_ | refine WPc.exit ?_ | refine WPc.skip ?_ | refine WPc.region ?_
   | (refine isCond ?_; first | refine WPc.cT ?_ | refine WPc.cF ?_ | (refine WPc.cQ (fun hc => ?_) (fun hc => ?_) <;> try exact prA))
   | (refine isOp ?_; first | refine WPl.rd ?_ | refine WPl.sk ?_ | refine WPl.rdB ?_)
   | (show WPl _ _ _ _ _ _ _ (⟨_, .indexAddr _ _ _, _, _, _, _⟩ :: _) _; refine WPl.rdX (ReadR.indexE rfl rfl hasA (by first | assumption | omega)) ?_)
   | (show WPl _ _ _ _ _ _ _ (⟨_, .fieldAddr _ _ _, _, _, _, _⟩ :: _) _; refine WPl.rdX (ReadR.fieldE rfl hasA (by first | assumption | omega)) ?_)
   | (show WPl _ _ _ _ _ _ _ (⟨_, .load _ _, _, _, _, _⟩ :: _) _; first | refine WPl.rdX (ReadR.loadE rfl hasA (by assumption)) ?_ | refine WPl.rdX (ReadR.loadES (by assumption) (by first | assumption | omega) rfl hasA) ?_)
   | (show WPl _ _ _ _ _ _ _ (⟨_, .slice _ _ _ _ _, _, _, _, _⟩ :: _) _; first | refine WPl.rdX (ReadR.sliceH rfl rfl hasA (by omega)) ?_ | refine WPl.rdX (ReadR.sliceL rfl rfl hasA (by omega)) ?_ | refine WPl.rdX (ReadR.sliceLH rfl rfl rfl hasA (by omega) (by omega)) ?_)
   | (refine WPl.spQ (fun hc => ?_) (fun hc => ?_) <;> try exact prA)
   | fail)
  all_goals
    refine WPq.dV (hc := ?_)
    show Value.bool _ = Value.bool _
    congr 1
    rw [Bool.eq_iff_iff]
    simp only [btw, Bool.or_eq_true, decide_eq_true_eq, true_iff, Bool.false_eq_true, false_iff, Bool.or_false]
    omega
theorem rbtw_t (p : UInt8) : Triple Try.prog 35 #[.int .u8 ((p.toNat : Nat) : Int)] [] (RVal (.bool (btw p))) := by
  refine Triple.enter Try.func35 rfl Try.ntmps35 rfl (fun W => ?_)
  dsimp only [argsF, Nat.reduceAdd]
  repeat' (first
   | refine WPl.nil ?_ | refine WPq.then ?_ | refine WPq.thenR ?_ | refine WPq.thenE ?_ | refine WPq.blockN ?_ | refine WPq.blockR ?_ | refine WPq.blockE ?_ | refine WPq.blockO rfl ?_ | refine WPc.seq ?_ | refine WPc.block ?_ | refine WPc.ret ?_ | refine WPc.exit ?_ | refine WPc.skip ?_ | refine WPc.region ?_
   | (refine isCond ?_; first | refine WPc.cT ?_ | refine WPc.cF ?_ | (refine WPc.cQ (fun hc => ?_) (fun hc => ?_) <;> try exact prA))
   | (refine isOp ?_; first | refine WPl.rd ?_ | refine WPl.sk ?_ | refine WPl.rdB ?_)
   | (show WPl _ _ _ _ _ _ _ (⟨_, .indexAddr _ _ _, _, _, _, _⟩ :: _) _; refine WPl.rdX (ReadR.indexE rfl rfl hasA (by first | assumption | omega)) ?_)
   | (show WPl _ _ _ _ _ _ _ (⟨_, .fieldAddr _ _ _, _, _, _, _⟩ :: _) _; refine WPl.rdX (ReadR.fieldE rfl hasA (by first | assumption | omega)) ?_)
   | (show WPl _ _ _ _ _ _ _ (⟨_, .load _ _, _, _, _, _⟩ :: _) _; first | refine WPl.rdX (ReadR.loadE rfl hasA (by assumption)) ?_ | refine WPl.rdX (ReadR.loadES (by assumption) (by first | assumption | omega) rfl hasA) ?_)
   | (show WPl _ _ _ _ _ _ _ (⟨_, .slice _ _ _ _ _, _, _, _, _⟩ :: _) _; first | refine WPl.rdX (ReadR.sliceH rfl rfl hasA (by omega)) ?_ | refine WPl.rdX (ReadR.sliceL rfl rfl hasA (by omega)) ?_ | refine WPl.rdX (ReadR.sliceLH rfl rfl rfl hasA (by omega) (by omega)) ?_)
   | (refine WPl.spQ (fun hc => ?_) (fun hc => ?_) <;> try exact prA)
   | fail)
  all_goals
    refine WPq.dV (hc := ?_)
    show Value.bool _ = Value.bool _
    congr 1
    rw [Bool.eq_iff_iff]
    simp only [btw, Bool.or_eq_true, decide_eq_true_eq, true_iff, Bool.false_eq_true, false_iff, Bool.or_false]
    omega
/-- Where a walk stands. -/
structure XS where
  proto : UInt8
  pos : Nat
  part : Bool
theorem rest_len (b : List UInt8) (k : Nat) : (seg b k (b.length - k)).length = b.length - k := by simp [seg]
def xsize (b : List UInt8) (s : XS) : Nat := if s.proto.toNat = 44 then 8 else 8 + 8 * byteN (seg b s.pos (b.length - s.pos)) 1
def xpart (b : List UInt8) (s : XS) : Bool := if s.proto.toNat = 44 then s.part || !decide (((val (seg (seg b s.pos (b.length - s.pos)) 2 2) &&& 65529 : Nat) : Int) = 0) else s.part
def xbad (b : List UInt8) (s : XS) : Bool := decide ((seg b s.pos (b.length - s.pos)).length < 8) || decide ((seg b s.pos (b.length - s.pos)).length < xsize b s)
def xnext (b : List UInt8) (s : XS) : XS := ⟨(seg b s.pos (b.length - s.pos)).getD 0 0, s.pos + xsize b s, xpart b s⟩
def xstep (b : List UInt8) (s : XS) : XS := if xbad b s then s else xnext b s
abbrev wkc (h : Hd) (s : XS) (v : Value) : Ch := [(1, [.bool h.six]), (1, [.int .u8 ((s.proto.toNat : Nat) : Int)]), (1, [.int .i64 ((s.pos : Nat) : Int)]), (1, [.bool h.src.six]), (16, u8s h.src.b), (1, [.bool h.dst.six]), (16, u8s h.dst.b), (1, [.bool s.part]), (1, [.int .u8 ((h.hops.toNat : Nat) : Int)]), (1, [v])]
theorem wkc_next {h : Hd} {s : XS} {v : Value} {b : List UInt8} {k : Int} {p : Bool} (hk : ((xsize b s : Nat) : Int) = k) (hp : xpart b s = p) : wkc h (xnext b s) v = [(1, [.bool h.six]), (1, [.int .u8 (((seg b s.pos (b.length - s.pos)).getD 0 0).toNat : Nat)]), (1, [.int .i64 ((s.pos : Int) + k)]), (1, [.bool h.src.six]), (16, u8s h.src.b), (1, [.bool h.dst.six]), (16, u8s h.dst.b), (1, [.bool p]), (1, [.int .u8 ((h.hops.toNat : Nat) : Int)]), (1, [v])] := by
  subst hk hp
  simp only [wkc, xnext, Int.natCast_add]
theorem pass_t (g : Nat) (h : Hd) (s : XS) (v : Value) (b : List UInt8) (hs : s.pos ≤ b.length) (hl : b.length ≤ 100000) :
    Triple Try.prog 71 #[.pointer (some ⟨g, 0, none⟩)] ([rb v b] ++ [bx g 93 (wkc h s v)]) (RTurn (.int .i64 (if xbad b s then 9 else 0)) (bx g 93 (wkc h (xstep b s) v))) := by
  have l1 := h.src.len
  have l2 := h.dst.len
  have hrl := rest_len b s.pos
  have hv2 := val2_lt (l := seg b s.pos (b.length - s.pos)) (k := 2)
  have hb1 := ((seg b s.pos (b.length - s.pos)).getD 1 0).toNat_lt
  by_cases h8 : (seg b s.pos (b.length - s.pos)).length < 8
  · have hx : xbad b s = true := by simp only [xbad, h8, decide_true, Bool.true_or]
    rw [xstep, if_pos hx, if_pos hx]
    refine Triple.enter Try.func71 rfl Try.ntmps71 rfl (fun W => ?_)
    dsimp only [argsF, Nat.reduceAdd]
    repeat' (first
     | refine WPl.nil ?_ | refine WPq.then ?_ | refine WPq.thenR ?_ | refine WPq.thenE ?_ | refine WPq.blockN ?_ | refine WPq.blockR ?_ | refine WPq.blockE ?_ | refine WPq.blockO rfl ?_ | refine WPc.seq ?_ | refine WPc.block ?_ | refine WPc.ret ?_ | refine WPc.exit ?_ | refine WPc.skip ?_ | refine WPc.region ?_
     | (refine isReg 1 ?_; refine WPc.drA [([], [11, 12, 13, 14, 15]), ([0], [7, 11, 12, 13, 14, 15]), ([0, 1], [7, 8, 11, 12, 13, 14, 15]), ([0, 1, 2], [7, 8, 9, 11, 12, 13, 14, 15]), ([], [7, 8, 9, 10]), ([4], [7, 8, 9, 10, 11]), ([4, 5], [7, 8, 9, 10, 11, 12]), ([4, 5, 6], [7, 8, 9, 10, 11, 12, 13]), ([4, 5, 6, 7], [7, 8, 9, 10, 11, 12, 13, 14]), ([0, 1, 2, 3, 4, 5, 6, 7, 8], [7, 8, 9, 10, 11, 12, 13, 14, 15]), ([0, 1, 2, 3, 4, 5, 6, 7, 8, 9], [7, 8, 9, 10, 11, 12, 13, 14, 15, 16])] [] (Γx := []) ?_; dsimp only [prev0, List.length_nil, List.length_cons])
     | (refine gAny ?_; first | (refine gOp ?_; first | refine RGl.rdA ?_ | refine RGl.rdX (fun e hk => by (try dsimp only [bndR, ensR, oksR, fcutR, List.append_nil, List.nil_append, List.cons_append, List.append_assoc] at hk ⊢); exact readB) ?_) | (refine RGl.fin (fun e hk => ?_); (try dsimp only [bndA, ensAR, oksA, List.append_nil, List.nil_append, List.cons_append, List.append_assoc] at hk ⊢); (repeat (obtain ⟨hk1, hk⟩ := hk))) | fail)
     | (refine isCond ?_; first | refine WPc.cT ?_ | refine WPc.cF ?_ | (refine WPc.cQ (fun hc => ?_) (fun hc => ?_) <;> try exact prA))
     | (refine isOp ?_; first | refine WPl.rd ?_ | refine WPl.sk ?_ | refine WPl.rdB ?_)
     | (refine isSt ?_; first | refine WPl.st1 ?_ | refine WPl.stA ?_ | refine WPl.stEB ?_ | refine WPl.stRB ?_)
     | (show WPl _ _ _ _ _ _ _ (⟨_, .indexAddr _ _ _, _, _, _, _⟩ :: _) _; refine WPl.rdX (ReadR.indexE rfl rfl hasA (by first | assumption | omega)) ?_)
     | (show WPl _ _ _ _ _ _ _ (⟨_, .fieldAddr _ _ _, _, _, _, _⟩ :: _) _; refine WPl.rdX (ReadR.fieldE rfl hasA (by first | assumption | omega)) ?_)
     | (show WPl _ _ _ _ _ _ _ (⟨_, .load _ _, _, _, _, _⟩ :: _) _; first | refine WPl.rdX (ReadR.loadE rfl hasA (by assumption)) ?_ | refine WPl.rdX (ReadR.loadES (by assumption) (by first | assumption | omega) rfl hasA) ?_)
     | (show WPl _ _ _ _ _ _ _ (⟨_, .slice _ _ _ _ _, _, _, _, _⟩ :: _) _; first | refine WPl.rdX (ReadR.sliceH rfl rfl hasA (by omega)) ?_ | refine WPl.rdX (ReadR.sliceL rfl rfl hasA (by omega)) ?_ | refine WPl.rdX (ReadR.sliceLH rfl rfl rfl hasA (by omega) (by omega)) ?_)
     | (refine WPl.spQ (fun hc => ?_) (fun hc => ?_) <;> try exact prA)
     | fail)
    all_goals try (first | exact WPq.dTp | exact WPq.dTs | exact WPq.dV | exact WPq.dR | exact WPq.dR2 | exact WPq.dH | exact WPq.dBH | exact WPq.dT)
  · by_cases h44 : ((s.proto.toNat : Nat) : Int) = 44
    · have h44' : s.proto.toNat = 44 := by omega
      have hx : xbad b s = false := by simp only [xbad, xsize, h44', if_true, h8, decide_false, Bool.or_self]
      rw [xstep, if_neg (by rw [hx]; decide), if_neg (by rw [hx]; decide)]
      have hsz : ((xsize b s : Nat) : Int) = 8 := by simp only [xsize, h44', if_true]; rfl
      cases hp : s.part with
      | true =>
        have hxp : xpart b s = true := by simp only [xpart, h44', if_true, hp, Bool.true_or]
        rw [wkc_next hsz hxp]
        refine Triple.enter Try.func71 rfl Try.ntmps71 rfl (fun W => ?_)
        dsimp only [argsF, Nat.reduceAdd]
        repeat' (first
         | refine WPl.nil ?_ | refine WPq.then ?_ | refine WPq.thenR ?_ | refine WPq.thenE ?_ | refine WPq.blockN ?_ | refine WPq.blockR ?_ | refine WPq.blockE ?_ | refine WPq.blockO rfl ?_ | refine WPc.seq ?_ | refine WPc.block ?_ | refine WPc.ret ?_ | refine WPc.exit ?_ | refine WPc.skip ?_ | refine WPc.region ?_
         | (refine isReg 1 ?_; refine WPc.drA [([], [11, 12, 13, 14, 15]), ([0], [7, 11, 12, 13, 14, 15]), ([0, 1], [7, 8, 11, 12, 13, 14, 15]), ([0, 1, 2], [7, 8, 9, 11, 12, 13, 14, 15]), ([], [7, 8, 9, 10]), ([4], [7, 8, 9, 10, 11]), ([4, 5], [7, 8, 9, 10, 11, 12]), ([4, 5, 6], [7, 8, 9, 10, 11, 12, 13]), ([4, 5, 6, 7], [7, 8, 9, 10, 11, 12, 13, 14]), ([0, 1, 2, 3, 4, 5, 6, 7, 8], [7, 8, 9, 10, 11, 12, 13, 14, 15]), ([0, 1, 2, 3, 4, 5, 6, 7, 8, 9], [7, 8, 9, 10, 11, 12, 13, 14, 15, 16])] [] (Γx := []) ?_; dsimp only [prev0, List.length_nil, List.length_cons])
         | (refine gAny ?_; first | (refine gC 28 ?_; refine RGl.vl (fun e hk => OpT.callN (get_t (subv 1 v s.pos (b.length - s.pos)) (seg b s.pos (b.length - s.pos)) 2 2 (by omega) (by omega) (by omega) (by omega))) ?_) | (refine gOp ?_; first | refine RGl.rdA ?_ | refine RGl.rdX (fun e hk => by (try dsimp only [bndR, ensR, oksR, fcutR, List.append_nil, List.nil_append, List.cons_append, List.append_assoc] at hk ⊢); exact readB) ?_) | (refine RGl.fin (fun e hk => ?_); (try dsimp only [bndA, ensAR, oksA, List.append_nil, List.nil_append, List.cons_append, List.append_assoc] at hk ⊢); (repeat (obtain ⟨hk1, hk⟩ := hk))) | fail)
         | (refine isCond ?_; first | refine WPc.cT ?_ | refine WPc.cF ?_ | (refine WPc.cQ (fun hc => ?_) (fun hc => ?_) <;> try exact prA))
         | (refine isC 28 ?_; refine WPl.cV (get_t (subv 1 v s.pos (b.length - s.pos)) (seg b s.pos (b.length - s.pos)) 2 2 (by omega) (by omega) (by omega) (by omega)) ?_)
         | (refine isOp ?_; first | refine WPl.rd ?_ | refine WPl.sk ?_ | refine WPl.rdB ?_)
         | (refine isSt ?_; first | refine WPl.st1 ?_ | refine WPl.stA ?_ | refine WPl.stEB ?_ | refine WPl.stRB ?_)
         | (show WPl _ _ _ _ _ _ _ (⟨_, .indexAddr _ _ _, _, _, _, _⟩ :: _) _; refine WPl.rdX (ReadR.indexE rfl rfl hasA (by first | assumption | omega)) ?_)
         | (show WPl _ _ _ _ _ _ _ (⟨_, .fieldAddr _ _ _, _, _, _, _⟩ :: _) _; refine WPl.rdX (ReadR.fieldE rfl hasA (by first | assumption | omega)) ?_)
         | (show WPl _ _ _ _ _ _ _ (⟨_, .load _ _, _, _, _, _⟩ :: _) _; first | refine WPl.rdX (ReadR.loadE rfl hasA (by assumption)) ?_ | refine WPl.rdX (ReadR.loadES (by assumption) (by first | assumption | omega) rfl hasA) ?_)
         | (show WPl _ _ _ _ _ _ _ (⟨_, .slice _ _ _ _ _, _, _, _, _⟩ :: _) _; first | refine WPl.rdX (ReadR.sliceH rfl rfl hasA (by omega)) ?_ | refine WPl.rdX (ReadR.sliceL rfl rfl hasA (by omega)) ?_ | refine WPl.rdX (ReadR.sliceLH rfl rfl rfl hasA (by omega) (by omega)) ?_)
         | (refine WPl.spQ (fun hc => ?_) (fun hc => ?_) <;> try exact prA)
         | fail)
        all_goals try (first | exact WPq.dTp | exact WPq.dTs | exact WPq.dV | exact WPq.dR | exact WPq.dR2 | exact WPq.dH | exact WPq.dBH | exact WPq.dT)
      | false =>
        have hxp : xpart b s = !decide (((val (seg (seg b s.pos (b.length - s.pos)) 2 2) &&& 65529 : Nat) : Int) = 0) := by simp only [xpart, h44', if_true, hp, Bool.false_or]
        rw [wkc_next hsz hxp]
        refine Triple.enter Try.func71 rfl Try.ntmps71 rfl (fun W => ?_)
        dsimp only [argsF, Nat.reduceAdd]
        repeat' (first
         | refine WPl.nil ?_ | refine WPq.then ?_ | refine WPq.thenR ?_ | refine WPq.thenE ?_ | refine WPq.blockN ?_ | refine WPq.blockR ?_ | refine WPq.blockE ?_ | refine WPq.blockO rfl ?_ | refine WPc.seq ?_ | refine WPc.block ?_ | refine WPc.ret ?_ | refine WPc.exit ?_ | refine WPc.skip ?_ | refine WPc.region ?_
         | (refine isReg 1 ?_; refine WPc.drA [([], [11, 12, 13, 14, 15]), ([0], [7, 11, 12, 13, 14, 15]), ([0, 1], [7, 8, 11, 12, 13, 14, 15]), ([0, 1, 2], [7, 8, 9, 11, 12, 13, 14, 15]), ([], [7, 8, 9, 10]), ([4], [7, 8, 9, 10, 11]), ([4, 5], [7, 8, 9, 10, 11, 12]), ([4, 5, 6], [7, 8, 9, 10, 11, 12, 13]), ([4, 5, 6, 7], [7, 8, 9, 10, 11, 12, 13, 14]), ([0, 1, 2, 3, 4, 5, 6, 7, 8], [7, 8, 9, 10, 11, 12, 13, 14, 15]), ([0, 1, 2, 3, 4, 5, 6, 7, 8, 9], [7, 8, 9, 10, 11, 12, 13, 14, 15, 16])] [] (Γx := []) ?_; dsimp only [prev0, List.length_nil, List.length_cons])
         | (refine gAny ?_; first | (refine gC 28 ?_; refine RGl.vl (fun e hk => OpT.callN (get_t (subv 1 v s.pos (b.length - s.pos)) (seg b s.pos (b.length - s.pos)) 2 2 (by omega) (by omega) (by omega) (by omega))) ?_) | (show RGl _ _ _ _ _ _ _ _ (⟨_, .binOp .and _ _ _ _, _, _, _, _⟩ :: _) _ _; refine RGl.rdX (fun e hk => by (try dsimp only [bndR, ensR, oksR, fcutR, List.append_nil, List.nil_append, List.cons_append, List.append_assoc] at hk ⊢); exact ReadR.bin rfl rfl (BinR.andN (a := val (seg (seg b s.pos (b.length - s.pos)) 2 2)) (b := 65529) rfl (by show _ < 2 ^ 64; omega) (by show _ < 2 ^ 64; omega))) ?_) | (refine gOp ?_; first | refine RGl.rdA ?_ | refine RGl.rdX (fun e hk => by (try dsimp only [bndR, ensR, oksR, fcutR, List.append_nil, List.nil_append, List.cons_append, List.append_assoc] at hk ⊢); exact readB) ?_) | (refine RGl.fin (fun e hk => ?_); (try dsimp only [bndA, ensAR, oksA, List.append_nil, List.nil_append, List.cons_append, List.append_assoc] at hk ⊢); (repeat (obtain ⟨hk1, hk⟩ := hk))) | fail)
         | (refine isCond ?_; first | refine WPc.cT ?_ | refine WPc.cF ?_ | (refine WPc.cQ (fun hc => ?_) (fun hc => ?_) <;> try exact prA))
         | (refine isC 28 ?_; refine WPl.cV (get_t (subv 1 v s.pos (b.length - s.pos)) (seg b s.pos (b.length - s.pos)) 2 2 (by omega) (by omega) (by omega) (by omega)) ?_)
         | (show WPl _ _ _ _ _ _ _ (⟨_, .binOp .and _ _ _ _, _, _, _, _⟩ :: _) _; refine WPl.rdX (ReadR.bin rfl rfl (BinR.andN (a := val (seg (seg b s.pos (b.length - s.pos)) 2 2)) (b := 65529) rfl (by show _ < 2 ^ 64; omega) (by show _ < 2 ^ 64; omega))) ?_)
         | (refine isOp ?_; first | refine WPl.rd ?_ | refine WPl.sk ?_ | refine WPl.rdB ?_)
         | (refine isSt ?_; first | refine WPl.st1 ?_ | refine WPl.stA ?_ | refine WPl.stEB ?_ | refine WPl.stRB ?_)
         | (show WPl _ _ _ _ _ _ _ (⟨_, .indexAddr _ _ _, _, _, _, _⟩ :: _) _; refine WPl.rdX (ReadR.indexE rfl rfl hasA (by first | assumption | omega)) ?_)
         | (show WPl _ _ _ _ _ _ _ (⟨_, .fieldAddr _ _ _, _, _, _, _⟩ :: _) _; refine WPl.rdX (ReadR.fieldE rfl hasA (by first | assumption | omega)) ?_)
         | (show WPl _ _ _ _ _ _ _ (⟨_, .load _ _, _, _, _, _⟩ :: _) _; first | refine WPl.rdX (ReadR.loadE rfl hasA (by assumption)) ?_ | refine WPl.rdX (ReadR.loadES (by assumption) (by first | assumption | omega) rfl hasA) ?_)
         | (show WPl _ _ _ _ _ _ _ (⟨_, .slice _ _ _ _ _, _, _, _, _⟩ :: _) _; first | refine WPl.rdX (ReadR.sliceH rfl rfl hasA (by omega)) ?_ | refine WPl.rdX (ReadR.sliceL rfl rfl hasA (by omega)) ?_ | refine WPl.rdX (ReadR.sliceLH rfl rfl rfl hasA (by omega) (by omega)) ?_)
         | (refine WPl.spQ (fun hc => ?_) (fun hc => ?_) <;> try exact prA)
         | fail)
        all_goals try (first | exact WPq.dTp | exact WPq.dTs | exact WPq.dV | exact WPq.dR | exact WPq.dR2 | exact WPq.dH | exact WPq.dBH | exact WPq.dT)
    · have h44' : ¬ s.proto.toNat = 44 := by omega
      have hsz : ((xsize b s : Nat) : Int) = 8 + 8 * ((((seg b s.pos (b.length - s.pos)).getD 1 0).toNat : Nat) : Int) := by simp only [xsize, if_neg h44', byteN]; omega
      have hxp : xpart b s = s.part := by simp only [xpart, if_neg h44']
      by_cases hl2 : (seg b s.pos (b.length - s.pos)).length < xsize b s
      · have hx : xbad b s = true := by simp only [xbad, hl2, decide_true, Bool.or_true]
        rw [xstep, if_pos hx, if_pos hx]
        refine Triple.enter Try.func71 rfl Try.ntmps71 rfl (fun W => ?_)
        dsimp only [argsF, Nat.reduceAdd]
        repeat' (first
         | refine WPl.nil ?_ | refine WPq.then ?_ | refine WPq.thenR ?_ | refine WPq.thenE ?_ | refine WPq.blockN ?_ | refine WPq.blockR ?_ | refine WPq.blockE ?_ | refine WPq.blockO rfl ?_ | refine WPc.seq ?_ | refine WPc.block ?_ | refine WPc.ret ?_ | refine WPc.exit ?_ | refine WPc.skip ?_ | refine WPc.region ?_
         | (refine isReg 1 ?_; refine WPc.drA [([], [11, 12, 13, 14, 15]), ([0], [7, 11, 12, 13, 14, 15]), ([0, 1], [7, 8, 11, 12, 13, 14, 15]), ([0, 1, 2], [7, 8, 9, 11, 12, 13, 14, 15]), ([], [7, 8, 9, 10]), ([4], [7, 8, 9, 10, 11]), ([4, 5], [7, 8, 9, 10, 11, 12]), ([4, 5, 6], [7, 8, 9, 10, 11, 12, 13]), ([4, 5, 6, 7], [7, 8, 9, 10, 11, 12, 13, 14]), ([0, 1, 2, 3, 4, 5, 6, 7, 8], [7, 8, 9, 10, 11, 12, 13, 14, 15]), ([0, 1, 2, 3, 4, 5, 6, 7, 8, 9], [7, 8, 9, 10, 11, 12, 13, 14, 15, 16])] [] (Γx := []) ?_; dsimp only [prev0, List.length_nil, List.length_cons])
         | (refine gAny ?_; first | (refine gOp ?_; first | refine RGl.rdA ?_ | refine RGl.rdX (fun e hk => by (try dsimp only [bndR, ensR, oksR, fcutR, List.append_nil, List.nil_append, List.cons_append, List.append_assoc] at hk ⊢); exact readB) ?_) | (refine RGl.fin (fun e hk => ?_); (try dsimp only [bndA, ensAR, oksA, List.append_nil, List.nil_append, List.cons_append, List.append_assoc] at hk ⊢); (repeat (obtain ⟨hk1, hk⟩ := hk))) | fail)
         | (refine isCond ?_; first | refine WPc.cT ?_ | refine WPc.cF ?_ | (refine WPc.cQ (fun hc => ?_) (fun hc => ?_) <;> try exact prA))
         | (refine isOp ?_; first | refine WPl.rd ?_ | refine WPl.sk ?_ | refine WPl.rdB ?_)
         | (refine isSt ?_; first | refine WPl.st1 ?_ | refine WPl.stA ?_ | refine WPl.stEB ?_ | refine WPl.stRB ?_)
         | (show WPl _ _ _ _ _ _ _ (⟨_, .indexAddr _ _ _, _, _, _, _⟩ :: _) _; refine WPl.rdX (ReadR.indexE rfl rfl hasA (by first | assumption | omega)) ?_)
         | (show WPl _ _ _ _ _ _ _ (⟨_, .fieldAddr _ _ _, _, _, _, _⟩ :: _) _; refine WPl.rdX (ReadR.fieldE rfl hasA (by first | assumption | omega)) ?_)
         | (show WPl _ _ _ _ _ _ _ (⟨_, .load _ _, _, _, _, _⟩ :: _) _; first | refine WPl.rdX (ReadR.loadE rfl hasA (by assumption)) ?_ | refine WPl.rdX (ReadR.loadES (by assumption) (by first | assumption | omega) rfl hasA) ?_)
         | (show WPl _ _ _ _ _ _ _ (⟨_, .slice _ _ _ _ _, _, _, _, _⟩ :: _) _; first | refine WPl.rdX (ReadR.sliceH rfl rfl hasA (by omega)) ?_ | refine WPl.rdX (ReadR.sliceL rfl rfl hasA (by omega)) ?_ | refine WPl.rdX (ReadR.sliceLH rfl rfl rfl hasA (by omega) (by omega)) ?_)
         | (refine WPl.spQ (fun hc => ?_) (fun hc => ?_) <;> try exact prA)
         | fail)
        all_goals try (first | exact WPq.dTp | exact WPq.dTs | exact WPq.dV | exact WPq.dR | exact WPq.dR2 | exact WPq.dH | exact WPq.dBH | exact WPq.dT)
      · have hx : xbad b s = false := by simp only [xbad, h8, hl2, decide_false, Bool.or_self]
        rw [xstep, if_neg (by rw [hx]; decide), if_neg (by rw [hx]; decide), wkc_next hsz hxp]
        refine Triple.enter Try.func71 rfl Try.ntmps71 rfl (fun W => ?_)
        dsimp only [argsF, Nat.reduceAdd]
        repeat' (first
         | refine WPl.nil ?_ | refine WPq.then ?_ | refine WPq.thenR ?_ | refine WPq.thenE ?_ | refine WPq.blockN ?_ | refine WPq.blockR ?_ | refine WPq.blockE ?_ | refine WPq.blockO rfl ?_ | refine WPc.seq ?_ | refine WPc.block ?_ | refine WPc.ret ?_ | refine WPc.exit ?_ | refine WPc.skip ?_ | refine WPc.region ?_
         | (refine isReg 1 ?_; refine WPc.drA [([], [11, 12, 13, 14, 15]), ([0], [7, 11, 12, 13, 14, 15]), ([0, 1], [7, 8, 11, 12, 13, 14, 15]), ([0, 1, 2], [7, 8, 9, 11, 12, 13, 14, 15]), ([], [7, 8, 9, 10]), ([4], [7, 8, 9, 10, 11]), ([4, 5], [7, 8, 9, 10, 11, 12]), ([4, 5, 6], [7, 8, 9, 10, 11, 12, 13]), ([4, 5, 6, 7], [7, 8, 9, 10, 11, 12, 13, 14]), ([0, 1, 2, 3, 4, 5, 6, 7, 8], [7, 8, 9, 10, 11, 12, 13, 14, 15]), ([0, 1, 2, 3, 4, 5, 6, 7, 8, 9], [7, 8, 9, 10, 11, 12, 13, 14, 15, 16])] [] (Γx := []) ?_; dsimp only [prev0, List.length_nil, List.length_cons])
         | (refine gAny ?_; first | (refine gOp ?_; first | refine RGl.rdA ?_ | refine RGl.rdX (fun e hk => by (try dsimp only [bndR, ensR, oksR, fcutR, List.append_nil, List.nil_append, List.cons_append, List.append_assoc] at hk ⊢); exact readB) ?_) | (refine RGl.fin (fun e hk => ?_); (try dsimp only [bndA, ensAR, oksA, List.append_nil, List.nil_append, List.cons_append, List.append_assoc] at hk ⊢); (repeat (obtain ⟨hk1, hk⟩ := hk))) | fail)
         | (refine isCond ?_; first | refine WPc.cT ?_ | refine WPc.cF ?_ | (refine WPc.cQ (fun hc => ?_) (fun hc => ?_) <;> try exact prA))
         | (refine isOp ?_; first | refine WPl.rd ?_ | refine WPl.sk ?_ | refine WPl.rdB ?_)
         | (refine isSt ?_; first | refine WPl.st1 ?_ | refine WPl.stA ?_ | refine WPl.stEB ?_ | refine WPl.stRB ?_)
         | (show WPl _ _ _ _ _ _ _ (⟨_, .indexAddr _ _ _, _, _, _, _⟩ :: _) _; refine WPl.rdX (ReadR.indexE rfl rfl hasA (by first | assumption | omega)) ?_)
         | (show WPl _ _ _ _ _ _ _ (⟨_, .fieldAddr _ _ _, _, _, _, _⟩ :: _) _; refine WPl.rdX (ReadR.fieldE rfl hasA (by first | assumption | omega)) ?_)
         | (show WPl _ _ _ _ _ _ _ (⟨_, .load _ _, _, _, _, _⟩ :: _) _; first | refine WPl.rdX (ReadR.loadE rfl hasA (by assumption)) ?_ | refine WPl.rdX (ReadR.loadES (by assumption) (by first | assumption | omega) rfl hasA) ?_)
         | (show WPl _ _ _ _ _ _ _ (⟨_, .slice _ _ _ _ _, _, _, _, _⟩ :: _) _; first | refine WPl.rdX (ReadR.sliceH rfl rfl hasA (by omega)) ?_ | refine WPl.rdX (ReadR.sliceL rfl rfl hasA (by omega)) ?_ | refine WPl.rdX (ReadR.sliceLH rfl rfl rfl hasA (by omega) (by omega)) ?_)
         | (refine WPl.spQ (fun hc => ?_) (fun hc => ?_) <;> try exact prA)
         | fail)
        all_goals try (first | exact WPq.dTp | exact WPq.dTs | exact WPq.dV | exact WPq.dR | exact WPq.dR2 | exact WPq.dH | exact WPq.dBH | exact WPq.dT)
end Go.Proofs.Ytjfhiifpnpokpaa
/- Layer 14 (ipsix): all heads between: contracts. -/
namespace Go.Proofs.Ytjfhiifpnpokpaa
open Go.RowKit
set_option linter.unusedSimpArgs false
set_option linter.unusedVariables false
set_option maxRecDepth 20000
set_option maxHeartbeats 4000000
attribute [local irreducible] WPc WPl WPq ReadR OpT BinR HasS bx rdN rowN Take Takes Prov Triple ResF BuildP Done ag Int.decLt Int.decLe Int.instDecidableEq

def xall (b : List UInt8) : Nat → XS → Int × XS
  | 0, s => if btw s.proto then (10, s) else (0, s)
  | m + 1, s => if btw s.proto then (if s.proto.toNat = 0 ∧ m + 1 < 8 then (4, s) else if xbad b s then (9, s) else xall b m (xnext b s)) else (0, s)
theorem xall_no {b : List UInt8} {m : Nat} {s : XS} (h : btw s.proto = false) : xall b m s = (0, s) := by cases m <;> simp [xall, h]
theorem xall_end {b : List UInt8} {s : XS} (h : btw s.proto = true) : xall b 0 s = (10, s) := by simp [xall, h]
theorem xall_form {b : List UInt8} {m : Nat} {s : XS} (h : btw s.proto = true) (h0 : s.proto.toNat = 0) (hm : m + 1 < 8) : xall b (m + 1) s = (4, s) := by
  simp only [xall]; rw [if_pos h, if_pos ⟨h0, hm⟩]
theorem xall_bad {b : List UInt8} {m : Nat} {s : XS} (h : btw s.proto = true) (h0 : ¬ (s.proto.toNat = 0 ∧ m + 1 < 8)) (hb : xbad b s = true) : xall b (m + 1) s = (9, s) := by
  simp only [xall]; rw [if_pos h, if_neg h0, if_pos hb]
theorem xall_next {b : List UInt8} {m : Nat} {s : XS} (h : btw s.proto = true) (h0 : ¬ (s.proto.toNat = 0 ∧ m + 1 < 8)) (hb : xbad b s = false) : xall b (m + 1) s = xall b m (xnext b s) := by
  simp only [xall]; rw [if_pos h, if_neg h0, if_neg (by rw [hb]; decide)]
theorem xnext_pos {b : List UInt8} {s : XS} (hs : s.pos ≤ b.length) (hb : xbad b s = false) : (xnext b s).pos ≤ b.length := by
  simp only [xbad, Bool.or_eq_false_iff, decide_eq_false_iff_not] at hb
  have hl := rest_len b s.pos
  simp only [xnext]
  omega
theorem all_t (g : Nat) (h : Hd) (s0 : XS) (v : Value) (b : List UInt8) (hs0 : s0.pos ≤ b.length) (hl : b.length ≤ 100000) :
    Triple Try.prog 64 #[.pointer (some ⟨g, 0, none⟩)] ([rb v b] ++ [bx g 93 (wkc h s0 v)]) (RTurn (.int .i64 (xall b 8 s0).1) (bx g 93 (wkc h (xall b 8 s0).2 v))) := by
  have l1 := h.src.len
  have l2 := h.dst.len
  refine Triple.enter Try.func64 rfl Try.ntmps64 rfl (fun W => ?_)
  dsimp only [argsF, Nat.reduceAdd]
  repeat' (first
   | refine WPl.nil ?_ | refine WPq.then ?_ | refine WPq.thenR ?_ | refine WPq.thenE ?_ | refine WPq.blockN ?_ | refine WPq.blockR ?_ | refine WPq.blockE ?_ | refine WPq.blockO rfl ?_ | refine WPc.seq ?_ | refine WPc.block ?_ | refine WPc.ret ?_ | refine WPc.exit ?_ | refine WPc.skip ?_ | refine WPc.region ?_
   | (refine isCond ?_; first | refine WPc.cT ?_ | refine WPc.cF ?_)
   | (refine isOp ?_; first | refine WPl.rd ?_ | refine WPl.sk ?_ | refine WPl.rdB ?_)
   | (show WPl _ _ _ _ _ _ _ (⟨_, .indexAddr _ _ _, _, _, _, _⟩ :: _) _; refine WPl.rdX (ReadR.indexE rfl rfl hasA (by first | assumption | omega)) ?_)
   | (show WPl _ _ _ _ _ _ _ (⟨_, .fieldAddr _ _ _, _, _, _, _⟩ :: _) _; refine WPl.rdX (ReadR.fieldE rfl hasA (by first | assumption | omega)) ?_)
   | (show WPl _ _ _ _ _ _ _ (⟨_, .load _ _, _, _, _, _⟩ :: _) _; first | refine WPl.rdX (ReadR.loadE rfl hasA (by assumption)) ?_ | refine WPl.rdX (ReadR.loadES (by assumption) (by first | assumption | omega) rfl hasA) ?_)
   | (show WPl _ _ _ _ _ _ _ (⟨_, .slice _ _ _ _ _, _, _, _, _⟩ :: _) _; first | refine WPl.rdX (ReadR.sliceH rfl rfl hasA (by omega)) ?_ | refine WPl.rdX (ReadR.sliceL rfl rfl hasA (by omega)) ?_ | refine WPl.rdX (ReadR.sliceLH rfl rfl rfl hasA (by omega) (by omega)) ?_)
   | fail)
  first | refine WPc.loop (σ := Nat × XS) (fun p => p.1 ≤ 8 ∧ p.2.pos ≤ b.length ∧ xall b 8 s0 = xall b (8 - p.1) p.2) (fun p => [bx g 93 (wkc h p.2 v), rb v b]) (fun p => [(0, .pointer (some ⟨g, 0, none⟩)), (3, .int .i64 p.1)]) (fun p => 8 - p.1) ((0, s0)) ?_ takesA frsA (fun st km hx hk => ?_)
  · exact ⟨by omega, hs0, rfl⟩
  obtain ⟨i, s⟩ := st
  dsimp only at hx hk ⊢
  obtain ⟨hi, hs, he⟩ := hx
  have hpt := pass_t g h s v b hs hl
  have hbt := btw_t s.proto
  rw [he]
  cases hb : btw s.proto with
  | false =>
    rw [hb] at hbt
    rw [xall_no hb]
    repeat' (first
     | refine WPl.nil ?_ | refine WPq.then ?_ | refine WPq.thenR ?_ | refine WPq.thenE ?_ | refine WPq.blockN ?_ | refine WPq.blockR ?_ | refine WPq.blockE ?_ | refine WPq.blockO rfl ?_ | refine WPc.seq ?_ | refine WPc.block ?_ | refine WPc.ret ?_ | refine WPc.exit ?_ | refine WPc.skip ?_ | refine WPc.region ?_
     | (refine isCond ?_; first | refine WPc.cT ?_ | refine WPc.cF ?_ | (refine WPc.cQ (fun hc => ?_) (fun hc => ?_) <;> try exact prA))
     | (refine isC 10 ?_; refine WPl.cV (hbt) ?_)
     | (refine isOp ?_; first | refine WPl.rd ?_ | refine WPl.sk ?_ | refine WPl.rdB ?_)
     | (show WPl _ _ _ _ _ _ _ (⟨_, .indexAddr _ _ _, _, _, _, _⟩ :: _) _; refine WPl.rdX (ReadR.indexE rfl rfl hasA (by first | assumption | omega)) ?_)
     | (show WPl _ _ _ _ _ _ _ (⟨_, .fieldAddr _ _ _, _, _, _, _⟩ :: _) _; refine WPl.rdX (ReadR.fieldE rfl hasA (by first | assumption | omega)) ?_)
     | (show WPl _ _ _ _ _ _ _ (⟨_, .load _ _, _, _, _, _⟩ :: _) _; first | refine WPl.rdX (ReadR.loadE rfl hasA (by assumption)) ?_ | refine WPl.rdX (ReadR.loadES (by assumption) (by first | assumption | omega) rfl hasA) ?_)
     | (show WPl _ _ _ _ _ _ _ (⟨_, .slice _ _ _ _ _, _, _, _, _⟩ :: _) _; first | refine WPl.rdX (ReadR.sliceH rfl rfl hasA (by omega)) ?_ | refine WPl.rdX (ReadR.sliceL rfl rfl hasA (by omega)) ?_ | refine WPl.rdX (ReadR.sliceLH rfl rfl rfl hasA (by omega) (by omega)) ?_)
     | (refine WPl.spQ (fun hc => ?_) (fun hc => ?_) <;> try exact prA)
     | fail)
    all_goals try (first | exact WPq.dTp | exact WPq.dTs | exact WPq.dV | exact WPq.dR | exact WPq.dR2 | exact WPq.dH | exact WPq.dBH | exact WPq.dT)
  | true =>
    rw [hb] at hbt
    by_cases h8 : i = 8
    · subst h8
      rw [Nat.sub_self, xall_end hb]
      repeat' (first
       | refine WPl.nil ?_ | refine WPq.then ?_ | refine WPq.thenR ?_ | refine WPq.thenE ?_ | refine WPq.blockN ?_ | refine WPq.blockR ?_ | refine WPq.blockE ?_ | refine WPq.blockO rfl ?_ | refine WPc.seq ?_ | refine WPc.block ?_ | refine WPc.ret ?_ | refine WPc.exit ?_ | refine WPc.skip ?_ | refine WPc.region ?_
       | (refine isCond ?_; first | refine WPc.cT ?_ | refine WPc.cF ?_ | (refine WPc.cQ (fun hc => ?_) (fun hc => ?_) <;> try exact prA))
       | (refine isC 10 ?_; refine WPl.cV (hbt) ?_)
       | (refine isOp ?_; first | refine WPl.rd ?_ | refine WPl.sk ?_ | refine WPl.rdB ?_)
       | (show WPl _ _ _ _ _ _ _ (⟨_, .indexAddr _ _ _, _, _, _, _⟩ :: _) _; refine WPl.rdX (ReadR.indexE rfl rfl hasA (by first | assumption | omega)) ?_)
       | (show WPl _ _ _ _ _ _ _ (⟨_, .fieldAddr _ _ _, _, _, _, _⟩ :: _) _; refine WPl.rdX (ReadR.fieldE rfl hasA (by first | assumption | omega)) ?_)
       | (show WPl _ _ _ _ _ _ _ (⟨_, .load _ _, _, _, _, _⟩ :: _) _; first | refine WPl.rdX (ReadR.loadE rfl hasA (by assumption)) ?_ | refine WPl.rdX (ReadR.loadES (by assumption) (by first | assumption | omega) rfl hasA) ?_)
       | (show WPl _ _ _ _ _ _ _ (⟨_, .slice _ _ _ _ _, _, _, _, _⟩ :: _) _; first | refine WPl.rdX (ReadR.sliceH rfl rfl hasA (by omega)) ?_ | refine WPl.rdX (ReadR.sliceL rfl rfl hasA (by omega)) ?_ | refine WPl.rdX (ReadR.sliceLH rfl rfl rfl hasA (by omega) (by omega)) ?_)
       | (refine WPl.spQ (fun hc => ?_) (fun hc => ?_) <;> try exact prA)
       | fail)
      all_goals try (first | exact WPq.dTp | exact WPq.dTs | exact WPq.dV | exact WPq.dR | exact WPq.dR2 | exact WPq.dH | exact WPq.dBH | exact WPq.dT)
    · obtain ⟨m, hm⟩ : ∃ m, 8 - i = m + 1 := ⟨7 - i, by omega⟩
      rw [hm]
      by_cases h0 : s.proto.toNat = 0 ∧ m + 1 < 8
      · obtain ⟨h0, h1⟩ := h0
        rw [xall_form hb h0 h1]
        repeat' (first
         | refine WPl.nil ?_ | refine WPq.then ?_ | refine WPq.thenR ?_ | refine WPq.thenE ?_ | refine WPq.blockN ?_ | refine WPq.blockR ?_ | refine WPq.blockE ?_ | refine WPq.blockO rfl ?_ | refine WPc.seq ?_ | refine WPc.block ?_ | refine WPc.ret ?_ | refine WPc.exit ?_ | refine WPc.skip ?_ | refine WPc.region ?_
         | (refine isCond ?_; first | refine WPc.cT ?_ | refine WPc.cF ?_ | (refine WPc.cQ (fun hc => ?_) (fun hc => ?_) <;> try exact prA))
         | (refine isC 10 ?_; refine WPl.cV (hbt) ?_)
         | (refine isOp ?_; first | refine WPl.rd ?_ | refine WPl.sk ?_ | refine WPl.rdB ?_)
         | (show WPl _ _ _ _ _ _ _ (⟨_, .indexAddr _ _ _, _, _, _, _⟩ :: _) _; refine WPl.rdX (ReadR.indexE rfl rfl hasA (by first | assumption | omega)) ?_)
         | (show WPl _ _ _ _ _ _ _ (⟨_, .fieldAddr _ _ _, _, _, _, _⟩ :: _) _; refine WPl.rdX (ReadR.fieldE rfl hasA (by first | assumption | omega)) ?_)
         | (show WPl _ _ _ _ _ _ _ (⟨_, .load _ _, _, _, _, _⟩ :: _) _; first | refine WPl.rdX (ReadR.loadE rfl hasA (by assumption)) ?_ | refine WPl.rdX (ReadR.loadES (by assumption) (by first | assumption | omega) rfl hasA) ?_)
         | (show WPl _ _ _ _ _ _ _ (⟨_, .slice _ _ _ _ _, _, _, _, _⟩ :: _) _; first | refine WPl.rdX (ReadR.sliceH rfl rfl hasA (by omega)) ?_ | refine WPl.rdX (ReadR.sliceL rfl rfl hasA (by omega)) ?_ | refine WPl.rdX (ReadR.sliceLH rfl rfl rfl hasA (by omega) (by omega)) ?_)
         | (refine WPl.spQ (fun hc => ?_) (fun hc => ?_) <;> try exact prA)
         | fail)
        all_goals try (first | exact WPq.dTp | exact WPq.dTs | exact WPq.dV | exact WPq.dR | exact WPq.dR2 | exact WPq.dH | exact WPq.dBH | exact WPq.dT)
      · cases hbad : xbad b s with
        | true =>
          rw [hbad, if_pos rfl, xstep, if_pos hbad] at hpt
          rw [xall_bad hb h0 hbad]
          repeat' (first
           | refine WPl.nil ?_ | refine WPq.then ?_ | refine WPq.thenR ?_ | refine WPq.thenE ?_ | refine WPq.blockN ?_ | refine WPq.blockR ?_ | refine WPq.blockE ?_ | refine WPq.blockO rfl ?_ | refine WPc.seq ?_ | refine WPc.block ?_ | refine WPc.ret ?_ | refine WPc.exit ?_ | refine WPc.skip ?_ | refine WPc.region ?_
           | (refine isCond ?_; first | refine WPc.cT ?_ | refine WPc.cF ?_ | (refine WPc.cQ (fun hc => ?_) (fun hc => ?_) <;> try exact prA))
           | (refine isC 10 ?_; refine WPl.cV (hbt) ?_)
           | (refine isC 28 ?_; refine WPl.cT (hpt) ?_)
           | (refine isOp ?_; first | refine WPl.rd ?_ | refine WPl.sk ?_ | refine WPl.rdB ?_)
           | (show WPl _ _ _ _ _ _ _ (⟨_, .indexAddr _ _ _, _, _, _, _⟩ :: _) _; refine WPl.rdX (ReadR.indexE rfl rfl hasA (by first | assumption | omega)) ?_)
           | (show WPl _ _ _ _ _ _ _ (⟨_, .fieldAddr _ _ _, _, _, _, _⟩ :: _) _; refine WPl.rdX (ReadR.fieldE rfl hasA (by first | assumption | omega)) ?_)
           | (show WPl _ _ _ _ _ _ _ (⟨_, .load _ _, _, _, _, _⟩ :: _) _; first | refine WPl.rdX (ReadR.loadE rfl hasA (by assumption)) ?_ | refine WPl.rdX (ReadR.loadES (by assumption) (by first | assumption | omega) rfl hasA) ?_)
           | (show WPl _ _ _ _ _ _ _ (⟨_, .slice _ _ _ _ _, _, _, _, _⟩ :: _) _; first | refine WPl.rdX (ReadR.sliceH rfl rfl hasA (by omega)) ?_ | refine WPl.rdX (ReadR.sliceL rfl rfl hasA (by omega)) ?_ | refine WPl.rdX (ReadR.sliceLH rfl rfl rfl hasA (by omega) (by omega)) ?_)
           | (refine WPl.spQ (fun hc => ?_) (fun hc => ?_) <;> try exact prA)
           | fail)
          all_goals try (first | exact WPq.dTp | exact WPq.dTs | exact WPq.dV | exact WPq.dR | exact WPq.dR2 | exact WPq.dH | exact WPq.dBH | exact WPq.dT)
        | false =>
          rw [hbad, if_neg (by decide), xstep, if_neg (by rw [hbad]; decide)] at hpt
          have hn := xall_next hb h0 hbad
          have hnp := xnext_pos hs hbad
          repeat' (first
           | refine WPl.nil ?_ | refine WPq.then ?_ | refine WPq.thenR ?_ | refine WPq.thenE ?_ | refine WPq.blockN ?_ | refine WPq.blockR ?_ | refine WPq.blockE ?_ | refine WPq.blockO rfl ?_ | refine WPc.seq ?_ | refine WPc.block ?_ | refine WPc.ret ?_ | refine WPc.exit ?_ | refine WPc.skip ?_ | refine WPc.region ?_
           | (refine isCond ?_; first | refine WPc.cT ?_ | refine WPc.cF ?_ | (refine WPc.cQ (fun hc => ?_) (fun hc => ?_) <;> try exact prA))
           | (refine isC 10 ?_; refine WPl.cV (hbt) ?_)
           | (refine isC 28 ?_; refine WPl.cT (hpt) ?_)
           | (refine isOp ?_; first | refine WPl.rd ?_ | refine WPl.sk ?_ | refine WPl.rdB ?_)
           | (show WPl _ _ _ _ _ _ _ (⟨_, .indexAddr _ _ _, _, _, _, _⟩ :: _) _; refine WPl.rdX (ReadR.indexE rfl rfl hasA (by first | assumption | omega)) ?_)
           | (show WPl _ _ _ _ _ _ _ (⟨_, .fieldAddr _ _ _, _, _, _, _⟩ :: _) _; refine WPl.rdX (ReadR.fieldE rfl hasA (by first | assumption | omega)) ?_)
           | (show WPl _ _ _ _ _ _ _ (⟨_, .load _ _, _, _, _, _⟩ :: _) _; first | refine WPl.rdX (ReadR.loadE rfl hasA (by assumption)) ?_ | refine WPl.rdX (ReadR.loadES (by assumption) (by first | assumption | omega) rfl hasA) ?_)
           | (show WPl _ _ _ _ _ _ _ (⟨_, .slice _ _ _ _ _, _, _, _, _⟩ :: _) _; first | refine WPl.rdX (ReadR.sliceH rfl rfl hasA (by omega)) ?_ | refine WPl.rdX (ReadR.sliceL rfl rfl hasA (by omega)) ?_ | refine WPl.rdX (ReadR.sliceLH rfl rfl rfl hasA (by omega) (by omega)) ?_)
           | (refine WPl.spQ (fun hc => ?_) (fun hc => ?_) <;> try exact prA)
           | fail)
          all_goals exact WPq.rnd (i + 1, xnext b s) ⟨by show i + 1 ≤ 8; omega, hnp, by show _ = xall b (8 - (i + 1)) _; rw [hn, show 8 - (i + 1) = m by omega]⟩ (by show 8 - (i + 1) < _; omega)
end Go.Proofs.Ytjfhiifpnpokpaa
/- Layer 14 (ipsix): reading: contracts. -/
namespace Go.Proofs.Ytjfhiifpnpokpaa
open Go.RowKit
set_option linter.unusedSimpArgs false
set_option linter.unusedVariables false
set_option maxRecDepth 20000
set_option maxHeartbeats 4000000
attribute [local irreducible] WPc WPl WPq ReadR OpT BinR HasS bx rdN rowN Take Takes Prov Triple ResF BuildP Done ag Int.decLt Int.decLe Int.instDecidableEq

def xerr0 (b : List UInt8) : Int :=
  if 2048 < b.length then 10 else if b.length < 40 then 9 else if byteN b 0 / 16 ≠ 6 then 12 else if b.length < 40 + val (seg b 4 2) then 9 else if 40 + val (seg b 4 2) < b.length then 10
  else if byteN b 7 = 0 then 4 else 0
def xs0 (b : List UInt8) : XS := ⟨b.getD 6 0, 40, false⟩
def xerr (b : List UInt8) : Int := if xerr0 b = 0 then (xall b 8 (xs0 b)).1 else xerr0 b
def xhead (b : List UInt8) (s : XS) : Hd := ⟨true, s.proto, (s.pos : Int), ofA (seg b 8 16), ofA (seg b 24 16), s.part, b.getD 7 0⟩
def xread (b : List UInt8) : Hd := if xerr b = 0 then xhead b (xall b 8 (xs0 b)).2 else Hd.none
abbrev sVal (b : List UInt8) : Value := .tuple #[ag (hdc (xread b)), .int .i64 (xerr b)]
theorem xerr0_zero {b : List UInt8} (h : xerr0 b = 0) : b.length ≤ 2048 ∧ 40 ≤ b.length ∧ byteN b 0 / 16 = 6 ∧ 40 + val (seg b 4 2) = b.length ∧ byteN b 7 ≠ 0 := by
  unfold xerr0 at h
  repeat' (split at h)
  all_goals first | omega | (cases h; done) | skip
theorem xerr0_ne {b : List UInt8} (h : ¬ xerr0 b = 0) : 2048 < b.length ∨ b.length < 40 ∨ byteN b 0 / 16 ≠ 6 ∨ 40 + val (seg b 4 2) ≠ b.length ∨ byteN b 7 = 0 := by
  apply Classical.byContradiction
  intro hn
  apply h
  unfold xerr0
  repeat' (first | omega | split)
attribute [local irreducible] xall ofA
theorem xread_t (v : Value) (b : List UInt8) (hl : b.length ≤ 100000) : Triple Try.prog 54 #[v] [rb v b] (RVal (sVal b)) := by
  have hb0 := byteN_lt b 0
  have hb7 := byteN_lt b 7
  have hv1 := val2_lt (l := b) (k := 4)
  have u0 : byteN b 0 = (b.getD 0 0).toNat := rfl
  have u7 : byteN b 7 = (b.getD 7 0).toNat := rfl
  by_cases he : xerr0 b = 0
  · obtain ⟨h1, h2, h3, h4, h5⟩ := xerr0_zero he
    have ha1 := (ofA (seg b 8 16)).len
    have ha2 := (ofA (seg b 24 16)).len
    obtain ⟨c, hc⟩ : ∃ c, c = (xall b 8 (xs0 b)).1 := ⟨_, rfl⟩
    obtain ⟨s, hs⟩ : ∃ s, s = (xall b 8 (xs0 b)).2 := ⟨_, rfl⟩
    have hat := fun g => all_t g ⟨true, 0, 0, ofA (seg b 8 16), ofA (seg b 24 16), false, b.getD 7 0⟩ (xs0 b) v b (by show 40 ≤ _; omega) hl
    have hx : xerr b = c := by unfold xerr; rw [if_pos he, hc]
    have hr : xread b = if c = 0 then xhead b s else Hd.none := by unfold xread; rw [hx, hs]
    rw [← hc, ← hs] at hat
    rw [sVal, hx, hr]
    clear hx hr hc hs
    by_cases hc0 : c = 0
    · rw [if_pos hc0]
      subst hc0
      refine Triple.enter Try.func54 rfl Try.ntmps54 rfl (fun W => ?_)
      dsimp only [argsF, Nat.reduceAdd]
      refine WPc.know (p := v.oneCell' = true) (HasS.one (n := b.length) (xs := u8s b) hasA) fun hone => ?_
      repeat' (first
       | refine WPl.nil ?_ | refine WPq.then ?_ | refine WPq.thenR ?_ | refine WPq.thenE ?_ | refine WPq.blockN ?_ | refine WPq.blockR ?_ | refine WPq.blockE ?_ | refine WPq.blockO rfl ?_ | refine WPc.seq ?_ | refine WPc.block ?_ | refine WPc.ret ?_ | refine WPc.exit ?_ | refine WPc.skip ?_ | refine WPc.region ?_
       | (refine isReg 17 ?_; refine WPc.drA [([], [71, 72, 73, 74, 75, 77]), ([0], [68, 71, 72, 73, 74, 75, 77]), ([0, 1], [68, 69, 71, 72, 73, 74, 75, 77]), ([], [68, 69, 70, 72, 73, 74, 75, 77]), ([], [68, 69, 70, 71, 73, 74, 75, 77]), ([], [68, 69, 70, 71, 72, 77]), ([5], [68, 69, 70, 71, 72, 73, 77]), ([5, 6], [68, 69, 70, 71, 72, 73, 74, 77]), ([0, 1, 2, 3, 4, 5, 6, 7], [68, 69, 70, 71, 72, 73, 74, 75, 77]), ([], [68, 69, 70, 71, 72, 73, 74, 75, 76]), ([0, 1, 2, 3, 4, 5, 6, 7, 8, 9], [68, 69, 70, 71, 72, 73, 74, 75, 76, 77]), ([0, 1, 2, 3, 4, 5, 6, 7, 8, 9, 10], [68, 69, 70, 71, 72, 73, 74, 75, 76, 77, 78]), ([0, 1, 2, 3, 4, 5, 6, 7, 8, 9, 10, 11], [68, 69, 70, 71, 72, 73, 74, 75, 76, 77, 78, 79])] [] (Γx := []) ?_; dsimp only [prev0, List.length_nil, List.length_cons])
       | (refine gAny ?_; first | (refine gC 32 ?_; refine RGl.vl (fun e hk => OpT.callN (get_t v b 4 2 (by omega) (by omega) (by omega) (by omega))) ?_) | (refine gC 59 ?_; refine RGl.vl (fun e hk => OpT.callN (Of_t (subv 1 v 8 16) (seg b 8 16))) ?_) | (refine gC 65 ?_; refine RGl.vl (fun e hk => OpT.callN (Of_t (subv 1 v 24 16) (seg b 24 16))) ?_) | (refine gOp ?_; first | refine RGl.rdA ?_ | refine RGl.rdX (fun e hk => by (try dsimp only [bndR, ensR, oksR, fcutR, List.append_nil, List.nil_append, List.cons_append, List.append_assoc] at hk ⊢); exact readB) ?_) | (refine gBx ?_; refine RGl.nwA ?_) | (refine RGl.fin (fun e hk => ?_); (try dsimp only [bndA, ensAR, oksA, List.append_nil, List.nil_append, List.cons_append, List.append_assoc] at hk ⊢); (repeat (obtain ⟨hk1, hk⟩ := hk))) | fail)
       | (refine isCond ?_; first | refine WPc.cT ?_ | refine WPc.cF ?_ | (refine WPc.cQ (fun hc => ?_) (fun hc => ?_) <;> try exact prA))
       | (refine isD 2 ?_; first | (refine isAl ?_; refine WPl.nw fun gr => ?_) | (refine isBx ?_; refine WPl.nw fun gr => ?_))
       | (refine isC 32 ?_; refine WPl.cV (get_t v b 4 2 (by omega) (by omega) (by omega) (by omega)) ?_)
       | (refine isC 59 ?_; refine WPl.cV (Of_t (subv 1 v 8 16) (seg b 8 16)) ?_)
       | (refine isC 65 ?_; refine WPl.cV (Of_t (subv 1 v 24 16) (seg b 24 16)) ?_)
       | (refine isC 81 ?_; refine WPl.cT (hat (blk (e 11).1)) ?_)
       | (refine isOp ?_; first | refine WPl.rd ?_ | refine WPl.sk ?_ | refine WPl.rdB ?_)
       | (refine isAl ?_; refine WPl.nw fun g => ?_)
       | (refine isBx ?_; refine WPl.nw fun g => ?_)
       | (refine isSt ?_; first | refine WPl.st1 ?_ | refine WPl.stA ?_ | refine WPl.stEB ?_ | refine WPl.stRB ?_)
       | (show WPl _ _ _ _ _ _ _ (⟨_, .indexAddr _ _ _, _, _, _, _⟩ :: _) _; refine WPl.rdX (ReadR.indexE rfl rfl hasA (by first | assumption | omega)) ?_)
       | (show WPl _ _ _ _ _ _ _ (⟨_, .fieldAddr _ _ _, _, _, _, _⟩ :: _) _; refine WPl.rdX (ReadR.fieldE rfl hasA (by first | assumption | omega)) ?_)
       | (show WPl _ _ _ _ _ _ _ (⟨_, .load _ _, _, _, _, _⟩ :: _) _; first | refine WPl.rdX (ReadR.loadE rfl hasA (by assumption)) ?_ | refine WPl.rdX (ReadR.loadES (by assumption) (by first | assumption | omega) rfl hasA) ?_)
       | (show WPl _ _ _ _ _ _ _ (⟨_, .slice _ _ _ _ _, _, _, _, _⟩ :: _) _; first | refine WPl.rdX (ReadR.sliceH rfl rfl hasA (by omega)) ?_ | refine WPl.rdX (ReadR.sliceL rfl rfl hasA (by omega)) ?_ | refine WPl.rdX (ReadR.sliceLH rfl rfl rfl hasA (by omega) (by omega)) ?_)
       | (refine WPl.spQ (fun hc => ?_) (fun hc => ?_) <;> try exact prA)
       | fail)
      all_goals try (first | exact WPq.dTp | exact WPq.dTs | exact WPq.dV | exact WPq.dR | exact WPq.dR2 | exact WPq.dH | exact WPq.dBH | exact WPq.dT)
    · rw [if_neg hc0]
      refine Triple.enter Try.func54 rfl Try.ntmps54 rfl (fun W => ?_)
      dsimp only [argsF, Nat.reduceAdd]
      refine WPc.know (p := v.oneCell' = true) (HasS.one (n := b.length) (xs := u8s b) hasA) fun hone => ?_
      repeat' (first
       | refine WPl.nil ?_ | refine WPq.then ?_ | refine WPq.thenR ?_ | refine WPq.thenE ?_ | refine WPq.blockN ?_ | refine WPq.blockR ?_ | refine WPq.blockE ?_ | refine WPq.blockO rfl ?_ | refine WPc.seq ?_ | refine WPc.block ?_ | refine WPc.ret ?_ | refine WPc.exit ?_ | refine WPc.skip ?_ | refine WPc.region ?_
       | (refine isReg 17 ?_; refine WPc.drA [([], [71, 72, 73, 74, 75, 77]), ([0], [68, 71, 72, 73, 74, 75, 77]), ([0, 1], [68, 69, 71, 72, 73, 74, 75, 77]), ([], [68, 69, 70, 72, 73, 74, 75, 77]), ([], [68, 69, 70, 71, 73, 74, 75, 77]), ([], [68, 69, 70, 71, 72, 77]), ([5], [68, 69, 70, 71, 72, 73, 77]), ([5, 6], [68, 69, 70, 71, 72, 73, 74, 77]), ([0, 1, 2, 3, 4, 5, 6, 7], [68, 69, 70, 71, 72, 73, 74, 75, 77]), ([], [68, 69, 70, 71, 72, 73, 74, 75, 76]), ([0, 1, 2, 3, 4, 5, 6, 7, 8, 9], [68, 69, 70, 71, 72, 73, 74, 75, 76, 77]), ([0, 1, 2, 3, 4, 5, 6, 7, 8, 9, 10], [68, 69, 70, 71, 72, 73, 74, 75, 76, 77, 78]), ([0, 1, 2, 3, 4, 5, 6, 7, 8, 9, 10, 11], [68, 69, 70, 71, 72, 73, 74, 75, 76, 77, 78, 79])] [] (Γx := []) ?_; dsimp only [prev0, List.length_nil, List.length_cons])
       | (refine gAny ?_; first | (refine gC 32 ?_; refine RGl.vl (fun e hk => OpT.callN (get_t v b 4 2 (by omega) (by omega) (by omega) (by omega))) ?_) | (refine gC 59 ?_; refine RGl.vl (fun e hk => OpT.callN (Of_t (subv 1 v 8 16) (seg b 8 16))) ?_) | (refine gC 65 ?_; refine RGl.vl (fun e hk => OpT.callN (Of_t (subv 1 v 24 16) (seg b 24 16))) ?_) | (refine gOp ?_; first | refine RGl.rdA ?_ | refine RGl.rdX (fun e hk => by (try dsimp only [bndR, ensR, oksR, fcutR, List.append_nil, List.nil_append, List.cons_append, List.append_assoc] at hk ⊢); exact readB) ?_) | (refine gBx ?_; refine RGl.nwA ?_) | (refine RGl.fin (fun e hk => ?_); (try dsimp only [bndA, ensAR, oksA, List.append_nil, List.nil_append, List.cons_append, List.append_assoc] at hk ⊢); (repeat (obtain ⟨hk1, hk⟩ := hk))) | fail)
       | (refine isCond ?_; first | refine WPc.cT ?_ | refine WPc.cF ?_ | (refine WPc.cQ (fun hc => ?_) (fun hc => ?_) <;> try exact prA))
       | (refine isD 2 ?_; first | (refine isAl ?_; refine WPl.nw fun gr => ?_) | (refine isBx ?_; refine WPl.nw fun gr => ?_))
       | (refine isC 32 ?_; refine WPl.cV (get_t v b 4 2 (by omega) (by omega) (by omega) (by omega)) ?_)
       | (refine isC 59 ?_; refine WPl.cV (Of_t (subv 1 v 8 16) (seg b 8 16)) ?_)
       | (refine isC 65 ?_; refine WPl.cV (Of_t (subv 1 v 24 16) (seg b 24 16)) ?_)
       | (refine isC 81 ?_; refine WPl.cT (hat (blk (e 11).1)) ?_)
       | (refine isOp ?_; first | refine WPl.rd ?_ | refine WPl.sk ?_ | refine WPl.rdB ?_)
       | (refine isAl ?_; refine WPl.nw fun g => ?_)
       | (refine isBx ?_; refine WPl.nw fun g => ?_)
       | (refine isSt ?_; first | refine WPl.st1 ?_ | refine WPl.stA ?_ | refine WPl.stEB ?_ | refine WPl.stRB ?_)
       | (show WPl _ _ _ _ _ _ _ (⟨_, .indexAddr _ _ _, _, _, _, _⟩ :: _) _; refine WPl.rdX (ReadR.indexE rfl rfl hasA (by first | assumption | omega)) ?_)
       | (show WPl _ _ _ _ _ _ _ (⟨_, .fieldAddr _ _ _, _, _, _, _⟩ :: _) _; refine WPl.rdX (ReadR.fieldE rfl hasA (by first | assumption | omega)) ?_)
       | (show WPl _ _ _ _ _ _ _ (⟨_, .load _ _, _, _, _, _⟩ :: _) _; first | refine WPl.rdX (ReadR.loadE rfl hasA (by assumption)) ?_ | refine WPl.rdX (ReadR.loadES (by assumption) (by first | assumption | omega) rfl hasA) ?_)
       | (show WPl _ _ _ _ _ _ _ (⟨_, .slice _ _ _ _ _, _, _, _, _⟩ :: _) _; first | refine WPl.rdX (ReadR.sliceH rfl rfl hasA (by omega)) ?_ | refine WPl.rdX (ReadR.sliceL rfl rfl hasA (by omega)) ?_ | refine WPl.rdX (ReadR.sliceLH rfl rfl rfl hasA (by omega) (by omega)) ?_)
       | (refine WPl.spQ (fun hc => ?_) (fun hc => ?_) <;> try exact prA)
       | fail)
      all_goals try (first | exact WPq.dTp | exact WPq.dTs | exact WPq.dV | exact WPq.dR | exact WPq.dR2 | exact WPq.dH | exact WPq.dBH | exact WPq.dT)
  · rw [show sVal b = .tuple #[ag (hdc Hd.none), .int .i64 (xerr0 b)] by unfold sVal xread xerr; rw [if_neg he, if_neg he]]
    have hne := xerr0_ne he
    refine Triple.enter Try.func54 rfl Try.ntmps54 rfl (fun W => ?_)
    dsimp only [argsF, Nat.reduceAdd]
    repeat' (first
     | refine WPl.nil ?_ | refine WPq.then ?_ | refine WPq.thenR ?_ | refine WPq.thenE ?_ | refine WPq.blockN ?_ | refine WPq.blockR ?_ | refine WPq.blockE ?_ | refine WPq.blockO rfl ?_ | refine WPc.seq ?_ | refine WPc.block ?_ | refine WPc.ret ?_ | refine WPc.exit ?_ | refine WPc.skip ?_ | refine WPc.region ?_
     | (refine isReg 17 ?_; refine WPc.drA [([], [71, 72, 73, 74, 75, 77]), ([0], [68, 71, 72, 73, 74, 75, 77]), ([0, 1], [68, 69, 71, 72, 73, 74, 75, 77]), ([], [68, 69, 70, 72, 73, 74, 75, 77]), ([], [68, 69, 70, 71, 73, 74, 75, 77]), ([], [68, 69, 70, 71, 72, 77]), ([5], [68, 69, 70, 71, 72, 73, 77]), ([5, 6], [68, 69, 70, 71, 72, 73, 74, 77]), ([0, 1, 2, 3, 4, 5, 6, 7], [68, 69, 70, 71, 72, 73, 74, 75, 77]), ([], [68, 69, 70, 71, 72, 73, 74, 75, 76]), ([0, 1, 2, 3, 4, 5, 6, 7, 8, 9], [68, 69, 70, 71, 72, 73, 74, 75, 76, 77]), ([0, 1, 2, 3, 4, 5, 6, 7, 8, 9, 10], [68, 69, 70, 71, 72, 73, 74, 75, 76, 77, 78]), ([0, 1, 2, 3, 4, 5, 6, 7, 8, 9, 10, 11], [68, 69, 70, 71, 72, 73, 74, 75, 76, 77, 78, 79])] [] (Γx := []) ?_; dsimp only [prev0, List.length_nil, List.length_cons])
     | (refine gAny ?_; first | (refine gC 32 ?_; refine RGl.vl (fun e hk => OpT.callN (get_t v b 4 2 (by omega) (by omega) (by omega) (by omega))) ?_) | (refine gOp ?_; first | refine RGl.rdA ?_ | refine RGl.rdX (fun e hk => by (try dsimp only [bndR, ensR, oksR, fcutR, List.append_nil, List.nil_append, List.cons_append, List.append_assoc] at hk ⊢); exact readB) ?_) | (refine gBx ?_; refine RGl.nwA ?_) | (refine RGl.fin (fun e hk => ?_); (try dsimp only [bndA, ensAR, oksA, List.append_nil, List.nil_append, List.cons_append, List.append_assoc] at hk ⊢); (repeat (obtain ⟨hk1, hk⟩ := hk))) | fail)
     | (refine isCond ?_; first | refine WPc.cT ?_ | refine WPc.cF ?_ | (refine WPc.cQ (fun hc => ?_) (fun hc => ?_) <;> try exact prA))
     | (refine isD 2 ?_; first | (refine isAl ?_; refine WPl.nw fun gr => ?_) | (refine isBx ?_; refine WPl.nw fun gr => ?_))
     | (refine isC 32 ?_; refine WPl.cV (get_t v b 4 2 (by omega) (by omega) (by omega) (by omega)) ?_)
     | (refine isOp ?_; first | refine WPl.rd ?_ | refine WPl.sk ?_ | refine WPl.rdB ?_)
     | (refine isAl ?_; refine WPl.nw fun g => ?_)
     | (refine isBx ?_; refine WPl.nw fun g => ?_)
     | (refine isSt ?_; first | refine WPl.st1 ?_ | refine WPl.stA ?_ | refine WPl.stEB ?_ | refine WPl.stRB ?_)
     | (show WPl _ _ _ _ _ _ _ (⟨_, .indexAddr _ _ _, _, _, _, _⟩ :: _) _; refine WPl.rdX (ReadR.indexE rfl rfl hasA (by first | assumption | omega)) ?_)
     | (show WPl _ _ _ _ _ _ _ (⟨_, .fieldAddr _ _ _, _, _, _, _⟩ :: _) _; refine WPl.rdX (ReadR.fieldE rfl hasA (by first | assumption | omega)) ?_)
     | (show WPl _ _ _ _ _ _ _ (⟨_, .load _ _, _, _, _, _⟩ :: _) _; first | refine WPl.rdX (ReadR.loadE rfl hasA (by assumption)) ?_ | refine WPl.rdX (ReadR.loadES (by assumption) (by first | assumption | omega) rfl hasA) ?_)
     | (show WPl _ _ _ _ _ _ _ (⟨_, .slice _ _ _ _ _, _, _, _, _⟩ :: _) _; first | refine WPl.rdX (ReadR.sliceH rfl rfl hasA (by omega)) ?_ | refine WPl.rdX (ReadR.sliceL rfl rfl hasA (by omega)) ?_ | refine WPl.rdX (ReadR.sliceLH rfl rfl rfl hasA (by omega) (by omega)) ?_)
     | (refine WPl.spQ (fun hc => ?_) (fun hc => ?_) <;> try exact prA)
     | fail)
    all_goals
      refine WPq.dV (hc := ?_)
      show Value.tuple #[_, Value.int .i64 _] = Value.tuple #[_, Value.int .i64 _]
      congr 5
      unfold xerr0
      repeat' (first | omega | split)
end Go.Proofs.Ytjfhiifpnpokpaa
/- Layer 17 (nat): plain facts: a head of six whose address is laid anew, or what stands behind it. -/
namespace Go.Proofs.Ytjfhiifpnpokpaa
open Go.RowKit
set_option linter.unusedSimpArgs false
set_option linter.unusedVariables false
set_option maxRecDepth 20000
set_option maxHeartbeats 4000000
attribute [local irreducible] WPc WPl WPq ReadR OpT BinR HasS bx rdN rowN Take Takes Prov Triple ResF BuildP Done ag Int.decLt Int.decLe Int.instDecidableEq

theorem rest_getD (b : List UInt8) (p i : Nat) : (seg b p (b.length - p)).getD i 0 = b.getD (p + i) 0 := by
  unfold seg
  rw [List.getD_eq_getElem?_getD, List.getD_eq_getElem?_getD, List.getElem?_take, List.getElem?_drop]
  split
  · rfl
  · rw [List.getElem?_eq_none (by omega)]
theorem rest_byteN (b : List UInt8) (p i : Nat) : byteN (seg b p (b.length - p)) i = byteN b (p + i) := by unfold byteN; rw [rest_getD]
theorem xall_mono {b : List UInt8} : ∀ (m : Nat) (s : XS), s.pos ≤ (xall b m s).2.pos
  | 0, s => by unfold xall; split <;> exact Nat.le_refl _
  | m + 1, s => by
    unfold xall
    split
    · split
      · exact Nat.le_refl _
      · split
        · exact Nat.le_refl _
        · have := xall_mono (b := b) m (xnext b s)
          have e : (xnext b s).pos = s.pos + xsize b s := rfl
          omega
    · exact Nat.le_refl _
theorem xsize_ge (b : List UInt8) (s : XS) : 8 ≤ xsize b s := by unfold xsize; split <;> omega
/-- A walk over heads reads nothing but what it passes. -/
theorem xall_frame {b b' : List UInt8} (hl : b'.length = b.length) : ∀ (m : Nat) (s : XS), (xall b m s).1 = 0 →
    (∀ i, s.pos ≤ i → i < (xall b m s).2.pos → b'.getD i 0 = b.getD i 0) → xall b' m s = xall b m s
  | 0, s, _, _ => by unfold xall; rfl
  | m + 1, s, h0, hb => by
    cases hbt : btw s.proto with
    | false => rw [xall_no hbt, xall_no hbt]
    | true =>
      by_cases hf : s.proto.toNat = 0 ∧ m + 1 < 8
      · rw [xall_form hbt hf.1 hf.2, xall_form hbt hf.1 hf.2]
      · cases hbad : xbad b s with
        | true => rw [xall_bad hbt hf hbad] at h0; cases h0
        | false =>
          rw [xall_next hbt hf hbad] at h0 hb ⊢
          have hm := xall_mono (b := b) m (xnext b s)
          have e : (xnext b s).pos = s.pos + xsize b s := rfl
          have h8 := xsize_ge b s
          have hbad' := hbad
          simp only [xbad, Bool.or_eq_false_iff, decide_eq_false_iff_not] at hbad'
          have hr := rest_len b s.pos
          have hr' := rest_len b' s.pos
          have g : ∀ i, i < 8 → b'.getD (s.pos + i) 0 = b.getD (s.pos + i) 0 := fun i hi => hb _ (by omega) (by omega)
          have gb : ∀ i, i < 8 → byteN b' (s.pos + i) = byteN b (s.pos + i) := fun i hi => by unfold byteN; rw [g i hi]
          have z : xsize b' s = xsize b s := by unfold xsize; rw [rest_byteN, rest_byteN, gb 1 (by omega)]
          have v : val (seg (seg b' s.pos (b'.length - s.pos)) 2 2) = val (seg (seg b s.pos (b.length - s.pos)) 2 2) := by
            rw [val_seg2 (by omega), val_seg2 (by omega), rest_byteN, rest_byteN, rest_byteN, rest_byteN, gb 2 (by omega), gb (2 + 1) (by omega)]
          have pt : xpart b' s = xpart b s := by unfold xpart; rw [v]
          have nx : xnext b' s = xnext b s := by
            unfold xnext
            rw [z, pt, rest_getD, rest_getD, g 0 (by omega)]
          have bd : xbad b' s = false := by rw [← hbad]; unfold xbad; rw [z, hr, hr', hl]
          rw [xall_next hbt hf bd, nx]
          exact xall_frame hl m (xnext b s) h0 (fun i h1 h2 => hb i (by omega) h2)
theorem xerr_form {b : List UInt8} (he : xerr b = 0) : xerr0 b = 0 ∧ (xall b 8 (xs0 b)).1 = 0 := by
  have h0 : xerr0 b = 0 := by
    apply Classical.byContradiction
    intro hh
    unfold xerr at he
    rw [if_neg hh] at he
    exact hh he
  unfold xerr at he
  rw [if_pos h0] at he
  exact ⟨h0, he⟩
/-- What is read of a head of six, where the bytes but its addresses' are the same ones as far as its end. -/
theorem xread_frame {b b' : List UInt8} (he : xerr b = 0) (hl : b'.length = b.length)
    (hb : ∀ i, i < 8 ∨ (40 ≤ i ∧ i < (xall b 8 (xs0 b)).2.pos) → b'.getD i 0 = b.getD i 0) :
    xerr b' = 0 ∧ xread b' = { xread b with src := ofA (seg b' 8 16), dst := ofA (seg b' 24 16) } := by
  obtain ⟨h0, h1⟩ := xerr_form he
  obtain ⟨q1, q2, q3, q4, q5⟩ := xerr0_zero h0
  have gb : ∀ i, i < 8 → byteN b' i = byteN b i := fun i hi => by unfold byteN; rw [hb i (Or.inl hi)]
  have v : val (seg b' 4 2) = val (seg b 4 2) := by rw [val_seg2 (by omega), val_seg2 (by omega), gb 4 (by omega), gb (4 + 1) (by omega)]
  have e0 : xerr0 b' = 0 := by
    rw [← h0]
    unfold xerr0
    rw [hl, gb 0 (by omega), gb 7 (by omega), v]
  have es : xs0 b' = xs0 b := by unfold xs0; rw [hb 6 (by omega)]
  have ea : xall b' 8 (xs0 b') = xall b 8 (xs0 b) := by
    rw [es]
    exact xall_frame hl 8 _ h1 (fun i hi1 hi2 => hb i (Or.inr ⟨hi1, hi2⟩))
  have e1 : xerr b' = 0 := by unfold xerr; rw [if_pos e0, ea, h1]
  refine ⟨e1, ?_⟩
  unfold xread
  rw [if_pos e1, if_pos he, ea]
  unfold xhead
  rw [hb 7 (by omega)]

end Go.Proofs.Ytjfhiifpnpokpaa
/- Layer 17 (nat): what a packet becomes that is sent elsewhere: bytes. -/
namespace Go.Proofs.Ytjfhiifpnpokpaa
open Go.RowKit
set_option linter.unusedSimpArgs false
set_option linter.unusedVariables false
set_option maxRecDepth 20000
set_option maxHeartbeats 4000000
attribute [local irreducible] WPc WPl WPq ReadR OpT BinR HasS bx rdN rowN Take Takes Prov Triple ResF BuildP Done ag Int.decLt Int.decLe Int.instDecidableEq

/-- What is laid behind a head is laid into what the head carries. -/
theorem seg_lay_tail {b y : List UInt8} {p j : Nat} (h : p + j + y.length ≤ b.length) : seg (lay b (p + j) y) p (b.length - p) = lay (seg b p (b.length - p)) j y := by
  have hl : (seg b p (b.length - p)).length = b.length - p := by simp [seg]
  apply List.ext_getElem?
  intro t
  rw [lay_get (by omega)]
  unfold seg
  rw [List.getElem?_take, List.getElem?_drop, List.getElem?_take, List.getElem?_drop]
  by_cases ht : t < b.length - p
  · rw [if_pos ht, if_pos ht, lay_get h]
    by_cases h1 : t < j ∨ j + y.length ≤ t
    · rw [if_pos h1, if_pos (by omega)]
    · rw [if_neg h1, if_neg (by omega)]; congr 1; omega
  · rw [if_neg ht, if_neg ht, if_pos (by omega)]
/-- A part of what a head carries, told by its place in the packet. -/
theorem segn_rest {b : List UInt8} {p i n : Nat} (h : p + i + n ≤ b.length) : seg (seg b p (b.length - p)) i n = seg b (p + i) n := by
  apply List.ext_getElem?
  intro t
  unfold seg
  rw [List.getElem?_take, List.getElem?_take, List.getElem?_drop, List.getElem?_drop, List.getElem?_take, List.getElem?_drop]
  by_cases ht : t < n
  · rw [if_pos ht, if_pos ht, if_pos (by omega), Nat.add_assoc]
  · rw [if_neg ht, if_neg ht]

/-! ### What the program writes -/

/-- Where an address stands in a head. -/
def nk (six : Bool) (w : Nat) : Nat := if six then 8 + w * 16 else 12 + w * 4
def n1 (b : List UInt8) (six : Bool) (w : Nat) (a : Adr) : List UInt8 := lay b (nk six w) a.bytes
def n2 (b : List UInt8) (six : Bool) (w : Nat) (a : Adr) : List UInt8 :=
  if six then n1 b six w a else lay (n1 b six w a) 10 (twoB (chg (val (seg b 10 2)) (seg b (nk six w) a.bytes.length) a.bytes))
/-- The segment's sum, changed, if it has one; sa: where it stands. -/
def nsum (c : List UInt8) (h : Hd) (zero : Bool) (sa : Nat) (o y : List UInt8) : List UInt8 :=
  if zero then c else lay c sa (twoB (sfix h (chg (val (seg c sa 2)) o y)))
def n3 (b : List UInt8) (h : Hd) (zero : Bool) (w : Nat) (a : Adr) : List UInt8 := nsum (n2 b h.six w a) h zero (h.pos.toNat + sj h) (seg b (nk h.six w) a.bytes.length) a.bytes
def n5 (b : List UInt8) (h : Hd) (zero : Bool) (w : Nat) (a : Adr) (p : Nat) : List UInt8 :=
  nsum (lay (n3 b h zero w a) (h.pos.toNat + 2 * w) (twoB p)) h zero (h.pos.toNat + sj h) (seg (n3 b h zero w a) (h.pos.toNat + 2 * w) 2) (twoB p)

end Go.Proofs.Ytjfhiifpnpokpaa
/- Layer 15 (seg): writing: contracts. -/
namespace Go.Proofs.Ytjfhiifpnpokpaa
open Go.RowKit
set_option linter.unusedSimpArgs false
set_option linter.unusedVariables false
set_option maxRecDepth 20000
set_option maxHeartbeats 4000000
attribute [local irreducible] WPc WPl WPq ReadR OpT BinR HasS bx rdN rowN Take Takes Prov Triple ResF BuildP Done ag Int.decLt Int.decLe Int.instDecidableEq
attribute [local irreducible] psu sgood

def sumN (h : Hd) (l : List UInt8) : Nat := if csum (psu h l.length ++ l) = 0 ∧ h.proto.toNat = 17 then 65535 else csum (psu h l.length ++ l)
def summ (h : Hd) (l : List UInt8) (k : Nat) : List UInt8 := over l k (be (sumN h l) 2)
theorem sumN_le (h : Hd) (l : List UInt8) : sumN h l ≤ 65535 := by
  have := csum_le (psu h l.length ++ l)
  unfold sumN; split <;> omega
attribute [local irreducible] be over
def swBad (h : Hd) (s : Sg) : Bool := decide ((s.src : Int) = 0) || (decide ((s.dst : Int) = 0) || (!h.src.good || (!h.dst.good || (!(h.src.six == h.six) || !(h.dst.six == h.six)))))
def swE (h : Hd) (s : Sg) (n : Nat) : Int := if ¬ h.proto.toNat = 6 ∧ ¬ h.proto.toNat = 17 then 6 else if swBad h s then 1 else if 1900 < n then 10 else 0
def swT (s : Sg) (d : List UInt8) : List UInt8 := [[] ++ be s.src 2 ++ be s.dst 2, List.replicate 8 0, nbs [80, (s.flags.toNat : Nat)], List.replicate 6 0, d].flatten
def swU (s : Sg) (d : List UInt8) : List UInt8 := [[] ++ be s.src 2 ++ be s.dst 2 ++ be (8 + d.length) 2, nbs [0, 0], d].flatten
def swL (h : Hd) (s : Sg) (d : List UInt8) : List UInt8 := if swE h s d.length = 0 then (if h.proto.toNat = 6 then summ h (swT s d) 16 else if s.zero = true ∧ h.six = false then swU s d else summ h (swU s d) 6) else []
theorem swU_len (s : Sg) (d : List UInt8) : (swU s d).length = 8 + d.length := by simp [swU, be_length, nbs]; omega
theorem swBad_no {h : Hd} {s : Sg} (hb : swBad h s = false) : ¬ (s.src : Int) = 0 ∧ ¬ (s.dst : Int) = 0 ∧ h.src.good = true ∧ h.dst.good = true ∧ (h.src.six == h.six) = true ∧ (h.dst.six == h.six) = true := by
  simpa [swBad] using hb
attribute [local irreducible] swT swU summ
end Go.Proofs.Ytjfhiifpnpokpaa
/- Layer 14 (ipsix): writing: contracts and plain facts. -/
namespace Go.Proofs.Ytjfhiifpnpokpaa
open Go.RowKit
set_option linter.unusedSimpArgs false
set_option linter.unusedVariables false
set_option maxRecDepth 20000
set_option maxHeartbeats 4000000
attribute [local irreducible] WPc WPl WPq ReadR OpT BinR HasS bx rdN rowN Take Takes Prov Triple ResF BuildP Done ag Int.decLt Int.decLe Int.instDecidableEq

def xwBad (h : Hd) : Bool := !h.six || (h.part || (decide (((h.hops.toNat : Nat) : Int) = 0) || (!h.src.six || (!h.dst.six || btw h.proto))))
def xwerr (h : Hd) (n : Nat) : Int := if xwBad h then 1 else if 2008 < n then 10 else 0
def xpkt (h : Hd) (d : List UInt8) : List UInt8 := [nbs [96, 0, 0, 0] ++ be d.length 2, nbs [(h.proto.toNat : Nat), (h.hops.toNat : Nat)], h.src.bytes, h.dst.bytes, d].flatten
def xwL (h : Hd) (d : List UInt8) : List UInt8 := if xwerr h d.length = 0 then xpkt h d else []
attribute [local irreducible] xpkt be btw
end Go.Proofs.Ytjfhiifpnpokpaa
/- Layer 16 (pkt): packets, read and built: contracts. -/
namespace Go.Proofs.Ytjfhiifpnpokpaa
open Go.RowKit
set_option linter.unusedSimpArgs false
set_option linter.unusedVariables false
set_option maxRecDepth 20000
set_option maxHeartbeats 4000000
attribute [local irreducible] WPc WPl WPq ReadR OpT BinR HasS bx rdN rowN Take Takes Prov Triple ResF BuildP Done ag Int.decLt Int.decLe Int.instDecidableEq

/-- A flow. -/
structure Fl where
  src : Adr
  dst : Adr
  sp : Nat
  dp : Nat
  proto : UInt8
abbrev flc (f : Fl) : Ch := [(1, [.bool f.src.six]), (16, u8s f.src.b), (1, [.bool f.dst.six]), (16, u8s f.dst.b), (1, [.int .u16 (f.sp : Int)]), (1, [.int .u16 (f.dp : Int)]), (1, [.int .u8 ((f.proto.toNat : Nat) : Int)])]
def Fl.none : Fl := ⟨Adr.zero, Adr.zero, 0, 0, 0⟩
/-- A packet that was read. -/
structure Pk where
  hd : Hd
  sg : Sg
  fl : Fl
abbrev pkc (p : Pk) : Ch := [(1, [.bool p.hd.six]), (1, [.int .u8 ((p.hd.proto.toNat : Nat) : Int)]), (1, [.int .i64 p.hd.pos]), (1, [.bool p.hd.src.six]), (16, u8s p.hd.src.b), (1, [.bool p.hd.dst.six]), (16, u8s p.hd.dst.b), (1, [.bool p.hd.part]), (1, [.int .u8 ((p.hd.hops.toNat : Nat) : Int)]), (1, [.int .u16 (p.sg.src : Int)]), (1, [.int .u16 (p.sg.dst : Int)]), (1, [.int .u8 ((p.sg.flags.toNat : Nat) : Int)]), (1, [.int .i64 p.sg.sumAt]), (1, [.bool p.sg.zero]), (1, [.int .i64 p.sg.data]), (1, [.bool p.fl.src.six]), (16, u8s p.fl.src.b), (1, [.bool p.fl.dst.six]), (16, u8s p.fl.dst.b), (1, [.int .u16 (p.fl.sp : Int)]), (1, [.int .u16 (p.fl.dp : Int)]), (1, [.int .u8 ((p.fl.proto.toNat : Nat) : Int)])]
def Pk.none : Pk := ⟨Hd.none, Sg.none, Fl.none⟩
def phE (b : List UInt8) : Int := if b.length = 0 then 9 else if byteN b 0 / 16 = 4 then ferr b else if byteN b 0 / 16 = 6 then xerr b else 12
def phH (b : List UInt8) : Hd := if b.length = 0 then Hd.none else if byteN b 0 / 16 = 4 then fread b else if byteN b 0 / 16 = 6 then xread b else Hd.none
abbrev phVal (b : List UInt8) : Value := .tuple #[ag (hdc (phH b)), .int .i64 (phE b)]
attribute [local irreducible] xread xerr fread ferr
theorem phead_t (v : Value) (b : List UInt8) (hl : b.length ≤ 100000) : Triple Try.prog 40 #[v] [rb v b] (RVal (phVal b)) := by
  have hb0 := byteN_lt b 0
  have u0 : byteN b 0 = (b.getD 0 0).toNat := rfl
  have c4 := fread_t v b (by omega)
  have c6 := xread_t v b hl
  by_cases h0 : b.length = 0
  · rw [show phVal b = .tuple #[ag (hdc Hd.none), .int .i64 9] by unfold phVal phH phE; rw [if_pos h0, if_pos h0]]
    refine Triple.enter Try.func40 rfl Try.ntmps40 rfl (fun W => ?_)
    dsimp only [argsF, Nat.reduceAdd]
    repeat' (first
     | refine WPl.nil ?_ | refine WPq.then ?_ | refine WPq.thenR ?_ | refine WPq.thenE ?_ | refine WPq.blockN ?_ | refine WPq.blockR ?_ | refine WPq.blockE ?_ | refine WPq.blockO rfl ?_ | refine WPc.seq ?_ | refine WPc.block ?_ | refine WPc.ret ?_ | refine WPc.exit ?_ | refine WPc.skip ?_ | refine WPc.region ?_
     | (refine isCond ?_; first | refine WPc.cT ?_ | refine WPc.cF ?_ | (refine WPc.cQ (fun hc => ?_) (fun hc => ?_) <;> try exact prA))
     | (refine isOp ?_; first | refine WPl.rd ?_ | refine WPl.sk ?_ | refine WPl.rdB ?_)
     | (refine isAl ?_; refine WPl.nw fun g => ?_)
     | (refine isSt ?_; first | refine WPl.st1 ?_ | refine WPl.stA ?_ | refine WPl.stEB ?_ | refine WPl.stRB ?_)
     | (show WPl _ _ _ _ _ _ _ (⟨_, .indexAddr _ _ _, _, _, _, _⟩ :: _) _; refine WPl.rdX (ReadR.indexE rfl rfl hasA (by first | assumption | omega)) ?_)
     | (show WPl _ _ _ _ _ _ _ (⟨_, .fieldAddr _ _ _, _, _, _, _⟩ :: _) _; refine WPl.rdX (ReadR.fieldE rfl hasA (by first | assumption | omega)) ?_)
     | (show WPl _ _ _ _ _ _ _ (⟨_, .load _ _, _, _, _, _⟩ :: _) _; first | refine WPl.rdX (ReadR.loadE rfl hasA (by assumption)) ?_ | refine WPl.rdX (ReadR.loadES (by assumption) (by first | assumption | omega) rfl hasA) ?_)
     | (show WPl _ _ _ _ _ _ _ (⟨_, .slice _ _ _ _ _, _, _, _, _⟩ :: _) _; first | refine WPl.rdX (ReadR.sliceH rfl rfl hasA (by omega)) ?_ | refine WPl.rdX (ReadR.sliceL rfl rfl hasA (by omega)) ?_ | refine WPl.rdX (ReadR.sliceLH rfl rfl rfl hasA (by omega) (by omega)) ?_)
     | (refine WPl.spQ (fun hc => ?_) (fun hc => ?_) <;> try exact prA)
     | fail)
    all_goals try (first | exact WPq.dTp | exact WPq.dTs | exact WPq.dV | exact WPq.dR | exact WPq.dR2 | exact WPq.dH | exact WPq.dBH | exact WPq.dT)
  · by_cases h4 : byteN b 0 / 16 = 4
    · rw [show phVal b = fVal b by unfold phVal phH phE; rw [if_neg h0, if_neg h0, if_pos h4, if_pos h4]]
      obtain ⟨X, hX⟩ : ∃ X, X = fread b := ⟨_, rfl⟩
      obtain ⟨c, hc⟩ : ∃ c, c = ferr b := ⟨_, rfl⟩
      simp only [fVal] at c4 ⊢
      rw [← hX, ← hc] at c4 ⊢
      clear hX hc
      have k1 := X.src.len
      have k2 := X.dst.len
      refine Triple.enter Try.func40 rfl Try.ntmps40 rfl (fun W => ?_)
      dsimp only [argsF, Nat.reduceAdd]
      repeat' (first
       | refine WPl.nil ?_ | refine WPq.then ?_ | refine WPq.thenR ?_ | refine WPq.thenE ?_ | refine WPq.blockN ?_ | refine WPq.blockR ?_ | refine WPq.blockE ?_ | refine WPq.blockO rfl ?_ | refine WPc.seq ?_ | refine WPc.block ?_ | refine WPc.ret ?_ | refine WPc.exit ?_ | refine WPc.skip ?_ | refine WPc.region ?_
       | (refine isCond ?_; first | refine WPc.cT ?_ | refine WPc.cF ?_ | (refine WPc.cQ (fun hc => ?_) (fun hc => ?_) <;> try exact prA))
       | (refine isC 15 ?_; refine WPl.cV (c4) ?_)
       | (refine isOp ?_; first | refine WPl.rd ?_ | refine WPl.sk ?_ | refine WPl.rdB ?_)
       | (refine isAl ?_; refine WPl.nw fun g => ?_)
       | (refine isSt ?_; first | refine WPl.st1 ?_ | refine WPl.stA ?_ | refine WPl.stEB ?_ | refine WPl.stRB ?_)
       | (show WPl _ _ _ _ _ _ _ (⟨_, .indexAddr _ _ _, _, _, _, _⟩ :: _) _; refine WPl.rdX (ReadR.indexE rfl rfl hasA (by first | assumption | omega)) ?_)
       | (show WPl _ _ _ _ _ _ _ (⟨_, .fieldAddr _ _ _, _, _, _, _⟩ :: _) _; refine WPl.rdX (ReadR.fieldE rfl hasA (by first | assumption | omega)) ?_)
       | (show WPl _ _ _ _ _ _ _ (⟨_, .load _ _, _, _, _, _⟩ :: _) _; first | refine WPl.rdX (ReadR.loadE rfl hasA (by assumption)) ?_ | refine WPl.rdX (ReadR.loadES (by assumption) (by first | assumption | omega) rfl hasA) ?_)
       | (show WPl _ _ _ _ _ _ _ (⟨_, .slice _ _ _ _ _, _, _, _, _⟩ :: _) _; first | refine WPl.rdX (ReadR.sliceH rfl rfl hasA (by omega)) ?_ | refine WPl.rdX (ReadR.sliceL rfl rfl hasA (by omega)) ?_ | refine WPl.rdX (ReadR.sliceLH rfl rfl rfl hasA (by omega) (by omega)) ?_)
       | (refine WPl.spQ (fun hc => ?_) (fun hc => ?_) <;> try exact prA)
       | fail)
      all_goals try (first | exact WPq.dTp | exact WPq.dTs | exact WPq.dV | exact WPq.dR | exact WPq.dR2 | exact WPq.dH | exact WPq.dBH | exact WPq.dT)
    · by_cases h6 : byteN b 0 / 16 = 6
      · rw [show phVal b = sVal b by unfold phVal phH phE; rw [if_neg h0, if_neg h0, if_neg h4, if_neg h4, if_pos h6, if_pos h6]]
        obtain ⟨X, hX⟩ : ∃ X, X = xread b := ⟨_, rfl⟩
        obtain ⟨c, hc⟩ : ∃ c, c = xerr b := ⟨_, rfl⟩
        simp only [sVal] at c6 ⊢
        rw [← hX, ← hc] at c6 ⊢
        clear hX hc
        have k1 := X.src.len
        have k2 := X.dst.len
        refine Triple.enter Try.func40 rfl Try.ntmps40 rfl (fun W => ?_)
        dsimp only [argsF, Nat.reduceAdd]
        repeat' (first
         | refine WPl.nil ?_ | refine WPq.then ?_ | refine WPq.thenR ?_ | refine WPq.thenE ?_ | refine WPq.blockN ?_ | refine WPq.blockR ?_ | refine WPq.blockE ?_ | refine WPq.blockO rfl ?_ | refine WPc.seq ?_ | refine WPc.block ?_ | refine WPc.ret ?_ | refine WPc.exit ?_ | refine WPc.skip ?_ | refine WPc.region ?_
         | (refine isCond ?_; first | refine WPc.cT ?_ | refine WPc.cF ?_ | (refine WPc.cQ (fun hc => ?_) (fun hc => ?_) <;> try exact prA))
         | (refine isC 21 ?_; refine WPl.cV (c6) ?_)
         | (refine isOp ?_; first | refine WPl.rd ?_ | refine WPl.sk ?_ | refine WPl.rdB ?_)
         | (refine isAl ?_; refine WPl.nw fun g => ?_)
         | (refine isSt ?_; first | refine WPl.st1 ?_ | refine WPl.stA ?_ | refine WPl.stEB ?_ | refine WPl.stRB ?_)
         | (show WPl _ _ _ _ _ _ _ (⟨_, .indexAddr _ _ _, _, _, _, _⟩ :: _) _; refine WPl.rdX (ReadR.indexE rfl rfl hasA (by first | assumption | omega)) ?_)
         | (show WPl _ _ _ _ _ _ _ (⟨_, .fieldAddr _ _ _, _, _, _, _⟩ :: _) _; refine WPl.rdX (ReadR.fieldE rfl hasA (by first | assumption | omega)) ?_)
         | (show WPl _ _ _ _ _ _ _ (⟨_, .load _ _, _, _, _, _⟩ :: _) _; first | refine WPl.rdX (ReadR.loadE rfl hasA (by assumption)) ?_ | refine WPl.rdX (ReadR.loadES (by assumption) (by first | assumption | omega) rfl hasA) ?_)
         | (show WPl _ _ _ _ _ _ _ (⟨_, .slice _ _ _ _ _, _, _, _, _⟩ :: _) _; first | refine WPl.rdX (ReadR.sliceH rfl rfl hasA (by omega)) ?_ | refine WPl.rdX (ReadR.sliceL rfl rfl hasA (by omega)) ?_ | refine WPl.rdX (ReadR.sliceLH rfl rfl rfl hasA (by omega) (by omega)) ?_)
         | (refine WPl.spQ (fun hc => ?_) (fun hc => ?_) <;> try exact prA)
         | fail)
        all_goals try (first | exact WPq.dTp | exact WPq.dTs | exact WPq.dV | exact WPq.dR | exact WPq.dR2 | exact WPq.dH | exact WPq.dBH | exact WPq.dT)
      · rw [show phVal b = .tuple #[ag (hdc Hd.none), .int .i64 12] by unfold phVal phH phE; rw [if_neg h0, if_neg h0, if_neg h4, if_neg h4, if_neg h6, if_neg h6]]
        refine Triple.enter Try.func40 rfl Try.ntmps40 rfl (fun W => ?_)
        dsimp only [argsF, Nat.reduceAdd]
        repeat' (first
         | refine WPl.nil ?_ | refine WPq.then ?_ | refine WPq.thenR ?_ | refine WPq.thenE ?_ | refine WPq.blockN ?_ | refine WPq.blockR ?_ | refine WPq.blockE ?_ | refine WPq.blockO rfl ?_ | refine WPc.seq ?_ | refine WPc.block ?_ | refine WPc.ret ?_ | refine WPc.exit ?_ | refine WPc.skip ?_ | refine WPc.region ?_
         | (refine isCond ?_; first | refine WPc.cT ?_ | refine WPc.cF ?_ | (refine WPc.cQ (fun hc => ?_) (fun hc => ?_) <;> try exact prA))
         | (refine isOp ?_; first | refine WPl.rd ?_ | refine WPl.sk ?_ | refine WPl.rdB ?_)
         | (refine isAl ?_; refine WPl.nw fun g => ?_)
         | (refine isSt ?_; first | refine WPl.st1 ?_ | refine WPl.stA ?_ | refine WPl.stEB ?_ | refine WPl.stRB ?_)
         | (show WPl _ _ _ _ _ _ _ (⟨_, .indexAddr _ _ _, _, _, _, _⟩ :: _) _; refine WPl.rdX (ReadR.indexE rfl rfl hasA (by first | assumption | omega)) ?_)
         | (show WPl _ _ _ _ _ _ _ (⟨_, .fieldAddr _ _ _, _, _, _, _⟩ :: _) _; refine WPl.rdX (ReadR.fieldE rfl hasA (by first | assumption | omega)) ?_)
         | (show WPl _ _ _ _ _ _ _ (⟨_, .load _ _, _, _, _, _⟩ :: _) _; first | refine WPl.rdX (ReadR.loadE rfl hasA (by assumption)) ?_ | refine WPl.rdX (ReadR.loadES (by assumption) (by first | assumption | omega) rfl hasA) ?_)
         | (show WPl _ _ _ _ _ _ _ (⟨_, .slice _ _ _ _ _, _, _, _, _⟩ :: _) _; first | refine WPl.rdX (ReadR.sliceH rfl rfl hasA (by omega)) ?_ | refine WPl.rdX (ReadR.sliceL rfl rfl hasA (by omega)) ?_ | refine WPl.rdX (ReadR.sliceLH rfl rfl rfl hasA (by omega) (by omega)) ?_)
         | (refine WPl.spQ (fun hc => ?_) (fun hc => ?_) <;> try exact prA)
         | fail)
        all_goals try (first | exact WPq.dTp | exact WPq.dTs | exact WPq.dV | exact WPq.dR | exact WPq.dR2 | exact WPq.dH | exact WPq.dBH | exact WPq.dT)
def pkS (b : List UInt8) : List UInt8 := seg b (phH b).pos.toNat (b.length - (phH b).pos.toNat)
def pkE (b : List UInt8) : Int := if ¬ phE b = 0 then phE b else if (phH b).part then 13 else sgE (phH b) (pkS b)
def pkOf (h : Hd) (s : Sg) : Pk := ⟨h, s, ⟨h.src, h.dst, s.src, s.dst, h.proto⟩⟩
def pkR (b : List UInt8) : Pk := if pkE b = 0 then pkOf (phH b) (sgR (phH b) (pkS b)) else Pk.none
abbrev pkVal (b : List UInt8) : Value := .tuple #[ag (pkc (pkR b)), .int .i64 (pkE b)]
/-- Where what is carried begins. -/
theorem ferr_pos {b : List UInt8} (h : ferr b = 0) : 0 ≤ (fread b).pos ∧ (fread b).pos ≤ b.length := by
  obtain ⟨h1, h2, h3, h4, h5, h6, h7, h8, h9⟩ := ferr_zero h
  unfold fread
  rw [if_pos h]
  show (0 : Int) ≤ (ihl b : Nat) ∧ ((ihl b : Nat) : Int) ≤ b.length
  omega
theorem xall_pos {b : List UInt8} : ∀ (m : Nat) (s : XS), s.pos ≤ b.length → (xall b m s).2.pos ≤ b.length
  | 0, s, h => by unfold xall; split <;> exact h
  | m + 1, s, h => by
    unfold xall
    split
    · split
      · exact h
      · split
        · exact h
        · rename_i h3; exact xall_pos m _ (xnext_pos h (by simpa using h3))
    · exact h
theorem xerr_pos {b : List UInt8} (h : xerr b = 0) : 0 ≤ (xread b).pos ∧ (xread b).pos ≤ b.length := by
  have h0 : xerr0 b = 0 := by
    apply Classical.byContradiction
    intro hh
    unfold xerr at h
    rw [if_neg hh] at h
    exact hh h
  obtain ⟨h1, h2, h3, h4, h5⟩ := xerr0_zero h0
  have := xall_pos (b := b) 8 (xs0 b) h2
  unfold xread
  rw [if_pos h]
  show (0 : Int) ≤ ((xall b 8 (xs0 b)).2.pos : Nat) ∧ (((xall b 8 (xs0 b)).2.pos : Nat) : Int) ≤ b.length
  omega
theorem phE_pos {b : List UInt8} (h : phE b = 0) : 0 ≤ (phH b).pos ∧ (phH b).pos ≤ b.length := by
  unfold phE at h
  unfold phH
  repeat' (split at h)
  · cases h
  · rename_i h0 h4; rw [if_neg h0, if_pos h4]; exact ferr_pos h
  · rename_i h0 h4 h6; rw [if_neg h0, if_neg h4, if_pos h6]; exact xerr_pos h
  · cases h
attribute [local irreducible] phH phE sgR sgE
theorem parse_t (v : Value) (b : List UInt8) (hl : b.length ≤ 100000) : Triple Try.prog 23 #[v] [rb v b] (RVal (pkVal b)) := by
  have c1 := phead_t v b hl
  simp only [phVal] at c1
  by_cases he : phE b = 0
  · obtain ⟨p1, p2⟩ := phE_pos he
    have c2 := fun u => sread_t (phH b) u (pkS b) (by unfold pkS; rw [seg_len]; omega)
    simp only [gVal] at c2
    have hE : pkE b = if (phH b).part then 13 else sgE (phH b) (pkS b) := by unfold pkE; rw [if_neg (by rw [he]; simp)]
    obtain ⟨k, hk⟩ : ∃ k : Nat, (phH b).pos = (k : Int) := ⟨(phH b).pos.toNat, by omega⟩
    have hS : pkS b = seg b k (b.length - k) := by unfold pkS; rw [hk]; rfl
    have hval : pkVal b = .tuple #[ag (pkc (if pkE b = 0 then pkOf (phH b) (sgR (phH b) (pkS b)) else Pk.none)), .int .i64 (pkE b)] := rfl
    rw [hval, hE]
    rw [he] at c1
    clear hval hE he
    obtain ⟨Y, hY⟩ : ∃ Y, Y = sgR (phH b) (pkS b) := ⟨_, rfl⟩
    obtain ⟨c, hc⟩ : ∃ c, c = sgE (phH b) (pkS b) := ⟨_, rfl⟩
    rw [← hY, ← hc] at c2 ⊢
    clear hY hc
    rw [hS] at c2
    clear hS
    obtain ⟨X, hX⟩ : ∃ X, X = phH b := ⟨_, rfl⟩
    rw [← hX] at c1 c2 hk p1 p2 ⊢
    clear hX
    obtain ⟨six, pr, pos, a1, a2, pt, hp⟩ := X
    dsimp only at hk p1 p2
    subst hk
    have k1 := a1.len
    have k2 := a2.len
    have hkb : k ≤ b.length := by omega
    cases pt with
    | true =>
      simp only [if_true]
      rw [if_neg (by omega)]
      refine Triple.enter Try.func23 rfl Try.ntmps23 rfl (fun W => ?_)
      dsimp only [argsF, Nat.reduceAdd]
      repeat' (first
       | refine WPl.nil ?_ | refine WPq.then ?_ | refine WPq.thenR ?_ | refine WPq.thenE ?_ | refine WPq.blockN ?_ | refine WPq.blockR ?_ | refine WPq.blockE ?_ | refine WPq.blockO rfl ?_ | refine WPc.seq ?_ | refine WPc.block ?_ | refine WPc.ret ?_ | refine WPc.exit ?_ | refine WPc.skip ?_ | refine WPc.region ?_
       | (refine isReg 6 ?_; refine WPc.drA [([], [6, 21, 22, 23, 24]), ([], [6, 20, 22, 23]), ([], [6, 20, 21]), ([2], [6, 20, 21, 22]), ([1, 2, 3], [6, 20, 21, 22, 23]), ([0, 1, 2, 3, 4], [6, 20, 21, 22, 23, 24]), ([0, 1, 2, 3, 4, 5], [6, 20, 21, 22, 23, 24, 25]), ([0, 1, 2, 3, 4, 5, 6], [6, 19, 20, 21, 22, 23, 24, 25, 27]), ([0, 1, 2, 3, 4, 5, 6], [6, 19, 20, 21, 22, 23, 24, 25, 26]), ([], [19, 20, 21, 22, 23, 24, 25, 26, 27]), ([0, 1, 2, 3, 4, 5, 6, 7, 9], [6, 19, 20, 21, 22, 23, 24, 25, 26, 27]), ([0, 1, 2, 3, 4, 5, 6, 7, 8, 9, 10], [6, 19, 20, 21, 22, 23, 24, 25, 26, 27])] [(9, 10)] (Γx := []) ?_; dsimp only [prev0, List.length_nil, List.length_cons])
       | (refine gAny ?_; first | (refine gC 9 ?_; refine RGl.vl (fun e hk => OpT.callN (c1)) ?_) | (refine gOp ?_; first | refine RGl.rdA ?_ | refine RGl.rdX (fun e hk => by (try dsimp only [bndR, ensR, oksR, fcutR, List.append_nil, List.nil_append, List.cons_append, List.append_assoc] at hk ⊢); exact readB) ?_) | (refine gAl ?_; refine RGl.nwA ?_) | (refine gSt ?_; refine RGl.stA ?_) | (refine RGl.fin (fun e hk => ?_); (try dsimp only [bndA, ensAR, oksA, List.append_nil, List.nil_append, List.cons_append, List.append_assoc] at hk ⊢); (repeat (obtain ⟨hk1, hk⟩ := hk))) | fail)
       | (refine isCond ?_; first | refine WPc.cT ?_ | refine WPc.cF ?_ | (refine WPc.cQ (fun hc => ?_) (fun hc => ?_) <;> try exact prA))
       | (refine isC 9 ?_; refine WPl.cV (c1) ?_)
       | (refine isOp ?_; first | refine WPl.rd ?_ | refine WPl.sk ?_ | refine WPl.rdB ?_)
       | (refine isAl ?_; refine WPl.nw fun g => ?_)
       | (refine isSt ?_; first | refine WPl.st1 ?_ | refine WPl.stA ?_ | refine WPl.stEB ?_ | refine WPl.stRB ?_)
       | (show WPl _ _ _ _ _ _ _ (⟨_, .indexAddr _ _ _, _, _, _, _⟩ :: _) _; refine WPl.rdX (ReadR.indexE rfl rfl hasA (by first | assumption | omega)) ?_)
       | (show WPl _ _ _ _ _ _ _ (⟨_, .fieldAddr _ _ _, _, _, _, _⟩ :: _) _; refine WPl.rdX (ReadR.fieldE rfl hasA (by first | assumption | omega)) ?_)
       | (show WPl _ _ _ _ _ _ _ (⟨_, .load _ _, _, _, _, _⟩ :: _) _; first | refine WPl.rdX (ReadR.loadE rfl hasA (by assumption)) ?_ | refine WPl.rdX (ReadR.loadES (by assumption) (by first | assumption | omega) rfl hasA) ?_)
       | (show WPl _ _ _ _ _ _ _ (⟨_, .slice _ _ _ _ _, _, _, _, _⟩ :: _) _; first | refine WPl.rdX (ReadR.sliceH rfl rfl hasA (by omega)) ?_ | refine WPl.rdX (ReadR.sliceL rfl rfl hasA (by omega)) ?_ | refine WPl.rdX (ReadR.sliceLH rfl rfl rfl hasA (by omega) (by omega)) ?_)
       | (refine WPl.spQ (fun hc => ?_) (fun hc => ?_) <;> try exact prA)
       | fail)
      all_goals try (first | exact WPq.dTp | exact WPq.dTs | exact WPq.dV | exact WPq.dR | exact WPq.dR2 | exact WPq.dH | exact WPq.dBH | exact WPq.dT)
    | false =>
      simp only [Bool.false_eq_true, if_false]
      by_cases hc0 : c = 0
      · rw [if_pos hc0]
        subst hc0
        refine Triple.enter Try.func23 rfl Try.ntmps23 rfl (fun W => ?_)
        dsimp only [argsF, Nat.reduceAdd]
        repeat' (first
         | refine WPl.nil ?_ | refine WPq.then ?_ | refine WPq.thenR ?_ | refine WPq.thenE ?_ | refine WPq.blockN ?_ | refine WPq.blockR ?_ | refine WPq.blockE ?_ | refine WPq.blockO rfl ?_ | refine WPc.seq ?_ | refine WPc.block ?_ | refine WPc.ret ?_ | refine WPc.exit ?_ | refine WPc.skip ?_ | refine WPc.region ?_
         | (refine isReg 6 ?_; refine WPc.drA [([], [6, 21, 22, 23, 24]), ([], [6, 20, 22, 23]), ([], [6, 20, 21]), ([2], [6, 20, 21, 22]), ([1, 2, 3], [6, 20, 21, 22, 23]), ([0, 1, 2, 3, 4], [6, 20, 21, 22, 23, 24]), ([0, 1, 2, 3, 4, 5], [6, 20, 21, 22, 23, 24, 25]), ([0, 1, 2, 3, 4, 5, 6], [6, 19, 20, 21, 22, 23, 24, 25, 27]), ([0, 1, 2, 3, 4, 5, 6], [6, 19, 20, 21, 22, 23, 24, 25, 26]), ([], [19, 20, 21, 22, 23, 24, 25, 26, 27]), ([0, 1, 2, 3, 4, 5, 6, 7, 9], [6, 19, 20, 21, 22, 23, 24, 25, 26, 27]), ([0, 1, 2, 3, 4, 5, 6, 7, 8, 9, 10], [6, 19, 20, 21, 22, 23, 24, 25, 26, 27])] [(9, 10)] (Γx := []) ?_; dsimp only [prev0, List.length_nil, List.length_cons])
         | (refine gAny ?_; first | (refine gC 9 ?_; refine RGl.vl (fun e hk => OpT.callN (c1)) ?_) | (refine gC 25 ?_; refine RGl.vl (fun e hk => OpT.callN (c2 (subv 1 v k (b.length - k)))) ?_) | (refine gD 45 ?_; refine RGl.rdX (fun e hk => by (try dsimp only [bndR, ensR, oksR, fcutR, List.append_nil, List.nil_append, List.cons_append, List.append_assoc] at hk ⊢); exact ReadR.build (cs' := pkc (pkOf ⟨six, pr, (k : Int), a1, a2, false, hp⟩ Y)) buildA) ?_) | (refine gOp ?_; first | refine RGl.rdA ?_ | refine RGl.rdX (fun e hk => by (try dsimp only [bndR, ensR, oksR, fcutR, List.append_nil, List.nil_append, List.cons_append, List.append_assoc] at hk ⊢); exact readB) ?_) | (refine gAl ?_; refine RGl.nwA ?_) | (refine gSt ?_; refine RGl.stA ?_) | (refine RGl.fin (fun e hk => ?_); (try dsimp only [bndA, ensAR, oksA, List.append_nil, List.nil_append, List.cons_append, List.append_assoc] at hk ⊢); (repeat (obtain ⟨hk1, hk⟩ := hk))) | fail)
         | (refine isCond ?_; first | refine WPc.cT ?_ | refine WPc.cF ?_ | (refine WPc.cQ (fun hc => ?_) (fun hc => ?_) <;> try exact prA))
         | (refine isC 9 ?_; refine WPl.cV (c1) ?_)
         | (refine isC 25 ?_; refine WPl.cV (c2 (subv 1 v k (b.length - k))) ?_)
         | (refine isD 45 ?_; refine WPl.rdX (ReadR.build (cs' := pkc (pkOf ⟨six, pr, (k : Int), a1, a2, false, hp⟩ Y)) buildA) ?_)
         | (show WPl _ _ _ _ _ _ _ (⟨_, .store 39 (.tmp 2) _, _, _, _, _⟩ :: _) _; refine WPl.stA (new := pkc (pkOf ⟨six, pr, (k : Int), a1, a2, false, hp⟩ Y)) ?_ (ht := by kernel_rfl))
         | (refine isOp ?_; first | refine WPl.rd ?_ | refine WPl.sk ?_ | refine WPl.rdB ?_)
         | (refine isAl ?_; refine WPl.nw fun g => ?_)
         | (refine isSt ?_; first | refine WPl.st1 ?_ | refine WPl.stA ?_ | refine WPl.stEB ?_ | refine WPl.stRB ?_)
         | (show WPl _ _ _ _ _ _ _ (⟨_, .indexAddr _ _ _, _, _, _, _⟩ :: _) _; refine WPl.rdX (ReadR.indexE rfl rfl hasA (by first | assumption | omega)) ?_)
         | (show WPl _ _ _ _ _ _ _ (⟨_, .fieldAddr _ _ _, _, _, _, _⟩ :: _) _; refine WPl.rdX (ReadR.fieldE rfl hasA (by first | assumption | omega)) ?_)
         | (show WPl _ _ _ _ _ _ _ (⟨_, .load _ _, _, _, _, _⟩ :: _) _; first | refine WPl.rdX (ReadR.loadE rfl hasA (by assumption)) ?_ | refine WPl.rdX (ReadR.loadES (by assumption) (by first | assumption | omega) rfl hasA) ?_)
         | (show WPl _ _ _ _ _ _ _ (⟨_, .slice _ _ _ _ _, _, _, _, _⟩ :: _) _; first | refine WPl.rdX (ReadR.sliceH rfl rfl hasA (by omega)) ?_ | refine WPl.rdX (ReadR.sliceL rfl rfl hasA (by omega)) ?_ | refine WPl.rdX (ReadR.sliceLH rfl rfl rfl hasA (by omega) (by omega)) ?_)
         | (refine WPl.spQ (fun hc => ?_) (fun hc => ?_) <;> try exact prA)
         | fail)
        all_goals try (first | exact WPq.dTp | exact WPq.dTs | exact WPq.dV | exact WPq.dR | exact WPq.dR2 | exact WPq.dH | exact WPq.dBH | exact WPq.dT)
      · rw [if_neg hc0]
        refine Triple.enter Try.func23 rfl Try.ntmps23 rfl (fun W => ?_)
        dsimp only [argsF, Nat.reduceAdd]
        repeat' (first
         | refine WPl.nil ?_ | refine WPq.then ?_ | refine WPq.thenR ?_ | refine WPq.thenE ?_ | refine WPq.blockN ?_ | refine WPq.blockR ?_ | refine WPq.blockE ?_ | refine WPq.blockO rfl ?_ | refine WPc.seq ?_ | refine WPc.block ?_ | refine WPc.ret ?_ | refine WPc.exit ?_ | refine WPc.skip ?_ | refine WPc.region ?_
         | (refine isReg 6 ?_; refine WPc.drA [([], [6, 21, 22, 23, 24]), ([], [6, 20, 22, 23]), ([], [6, 20, 21]), ([2], [6, 20, 21, 22]), ([1, 2, 3], [6, 20, 21, 22, 23]), ([0, 1, 2, 3, 4], [6, 20, 21, 22, 23, 24]), ([0, 1, 2, 3, 4, 5], [6, 20, 21, 22, 23, 24, 25]), ([0, 1, 2, 3, 4, 5, 6], [6, 19, 20, 21, 22, 23, 24, 25, 27]), ([0, 1, 2, 3, 4, 5, 6], [6, 19, 20, 21, 22, 23, 24, 25, 26]), ([], [19, 20, 21, 22, 23, 24, 25, 26, 27]), ([0, 1, 2, 3, 4, 5, 6, 7, 9], [6, 19, 20, 21, 22, 23, 24, 25, 26, 27]), ([0, 1, 2, 3, 4, 5, 6, 7, 8, 9, 10], [6, 19, 20, 21, 22, 23, 24, 25, 26, 27])] [(9, 10)] (Γx := []) ?_; dsimp only [prev0, List.length_nil, List.length_cons])
         | (refine gAny ?_; first | (refine gC 9 ?_; refine RGl.vl (fun e hk => OpT.callN (c1)) ?_) | (refine gC 25 ?_; refine RGl.vl (fun e hk => OpT.callN (c2 (subv 1 v k (b.length - k)))) ?_) | (refine gOp ?_; first | refine RGl.rdA ?_ | refine RGl.rdX (fun e hk => by (try dsimp only [bndR, ensR, oksR, fcutR, List.append_nil, List.nil_append, List.cons_append, List.append_assoc] at hk ⊢); exact readB) ?_) | (refine gAl ?_; refine RGl.nwA ?_) | (refine gSt ?_; refine RGl.stA ?_) | (refine RGl.fin (fun e hk => ?_); (try dsimp only [bndA, ensAR, oksA, List.append_nil, List.nil_append, List.cons_append, List.append_assoc] at hk ⊢); (repeat (obtain ⟨hk1, hk⟩ := hk))) | fail)
         | (refine isCond ?_; first | refine WPc.cT ?_ | refine WPc.cF ?_ | (refine WPc.cQ (fun hc => ?_) (fun hc => ?_) <;> try exact prA))
         | (refine isC 9 ?_; refine WPl.cV (c1) ?_)
         | (refine isC 25 ?_; refine WPl.cV (c2 (subv 1 v k (b.length - k))) ?_)
         | (refine isOp ?_; first | refine WPl.rd ?_ | refine WPl.sk ?_ | refine WPl.rdB ?_)
         | (refine isAl ?_; refine WPl.nw fun g => ?_)
         | (refine isSt ?_; first | refine WPl.st1 ?_ | refine WPl.stA ?_ | refine WPl.stEB ?_ | refine WPl.stRB ?_)
         | (show WPl _ _ _ _ _ _ _ (⟨_, .indexAddr _ _ _, _, _, _, _⟩ :: _) _; refine WPl.rdX (ReadR.indexE rfl rfl hasA (by first | assumption | omega)) ?_)
         | (show WPl _ _ _ _ _ _ _ (⟨_, .fieldAddr _ _ _, _, _, _, _⟩ :: _) _; refine WPl.rdX (ReadR.fieldE rfl hasA (by first | assumption | omega)) ?_)
         | (show WPl _ _ _ _ _ _ _ (⟨_, .load _ _, _, _, _, _⟩ :: _) _; first | refine WPl.rdX (ReadR.loadE rfl hasA (by assumption)) ?_ | refine WPl.rdX (ReadR.loadES (by assumption) (by first | assumption | omega) rfl hasA) ?_)
         | (show WPl _ _ _ _ _ _ _ (⟨_, .slice _ _ _ _ _, _, _, _, _⟩ :: _) _; first | refine WPl.rdX (ReadR.sliceH rfl rfl hasA (by omega)) ?_ | refine WPl.rdX (ReadR.sliceL rfl rfl hasA (by omega)) ?_ | refine WPl.rdX (ReadR.sliceLH rfl rfl rfl hasA (by omega) (by omega)) ?_)
         | (refine WPl.spQ (fun hc => ?_) (fun hc => ?_) <;> try exact prA)
         | fail)
        all_goals try (first | exact WPq.dTp | exact WPq.dTs | exact WPq.dV | exact WPq.dR | exact WPq.dR2 | exact WPq.dH | exact WPq.dBH | exact WPq.dT)
  · have hE : pkE b = phE b := by unfold pkE; rw [if_pos he]
    rw [show pkVal b = .tuple #[ag (pkc Pk.none), .int .i64 (phE b)] by unfold pkVal pkR; rw [hE, if_neg he]]
    obtain ⟨X, hX⟩ : ∃ X, X = phH b := ⟨_, rfl⟩
    obtain ⟨c, hc⟩ : ∃ c, c = phE b := ⟨_, rfl⟩
    rw [← hc] at he
    rw [← hX, ← hc] at c1
    rw [← hc]
    clear hX hc hE
    have k1 := X.src.len
    have k2 := X.dst.len
    refine Triple.enter Try.func23 rfl Try.ntmps23 rfl (fun W => ?_)
    dsimp only [argsF, Nat.reduceAdd]
    repeat' (first
     | refine WPl.nil ?_ | refine WPq.then ?_ | refine WPq.thenR ?_ | refine WPq.thenE ?_ | refine WPq.blockN ?_ | refine WPq.blockR ?_ | refine WPq.blockE ?_ | refine WPq.blockO rfl ?_ | refine WPc.seq ?_ | refine WPc.block ?_ | refine WPc.ret ?_ | refine WPc.exit ?_ | refine WPc.skip ?_ | refine WPc.region ?_
     | (refine isReg 6 ?_; refine WPc.drA [([], [6, 21, 22, 23, 24]), ([], [6, 20, 22, 23]), ([], [6, 20, 21]), ([2], [6, 20, 21, 22]), ([1, 2, 3], [6, 20, 21, 22, 23]), ([0, 1, 2, 3, 4], [6, 20, 21, 22, 23, 24]), ([0, 1, 2, 3, 4, 5], [6, 20, 21, 22, 23, 24, 25]), ([0, 1, 2, 3, 4, 5, 6], [6, 19, 20, 21, 22, 23, 24, 25, 27]), ([0, 1, 2, 3, 4, 5, 6], [6, 19, 20, 21, 22, 23, 24, 25, 26]), ([], [19, 20, 21, 22, 23, 24, 25, 26, 27]), ([0, 1, 2, 3, 4, 5, 6, 7, 9], [6, 19, 20, 21, 22, 23, 24, 25, 26, 27]), ([0, 1, 2, 3, 4, 5, 6, 7, 8, 9, 10], [6, 19, 20, 21, 22, 23, 24, 25, 26, 27])] [(9, 10)] (Γx := []) ?_; dsimp only [prev0, List.length_nil, List.length_cons])
     | (refine gAny ?_; first | (refine gC 9 ?_; refine RGl.vl (fun e hk => OpT.callN (c1)) ?_) | (refine gOp ?_; first | refine RGl.rdA ?_ | refine RGl.rdX (fun e hk => by (try dsimp only [bndR, ensR, oksR, fcutR, List.append_nil, List.nil_append, List.cons_append, List.append_assoc] at hk ⊢); exact readB) ?_) | (refine gAl ?_; refine RGl.nwA ?_) | (refine gSt ?_; refine RGl.stA ?_) | (refine RGl.fin (fun e hk => ?_); (try dsimp only [bndA, ensAR, oksA, List.append_nil, List.nil_append, List.cons_append, List.append_assoc] at hk ⊢); (repeat (obtain ⟨hk1, hk⟩ := hk))) | fail)
     | (refine isCond ?_; first | refine WPc.cT ?_ | refine WPc.cF ?_ | (refine WPc.cQ (fun hc => ?_) (fun hc => ?_) <;> try exact prA))
     | (refine isC 9 ?_; refine WPl.cV (c1) ?_)
     | (refine isOp ?_; first | refine WPl.rd ?_ | refine WPl.sk ?_ | refine WPl.rdB ?_)
     | (refine isAl ?_; refine WPl.nw fun g => ?_)
     | (refine isSt ?_; first | refine WPl.st1 ?_ | refine WPl.stA ?_ | refine WPl.stEB ?_ | refine WPl.stRB ?_)
     | (show WPl _ _ _ _ _ _ _ (⟨_, .indexAddr _ _ _, _, _, _, _⟩ :: _) _; refine WPl.rdX (ReadR.indexE rfl rfl hasA (by first | assumption | omega)) ?_)
     | (show WPl _ _ _ _ _ _ _ (⟨_, .fieldAddr _ _ _, _, _, _, _⟩ :: _) _; refine WPl.rdX (ReadR.fieldE rfl hasA (by first | assumption | omega)) ?_)
     | (show WPl _ _ _ _ _ _ _ (⟨_, .load _ _, _, _, _, _⟩ :: _) _; first | refine WPl.rdX (ReadR.loadE rfl hasA (by assumption)) ?_ | refine WPl.rdX (ReadR.loadES (by assumption) (by first | assumption | omega) rfl hasA) ?_)
     | (show WPl _ _ _ _ _ _ _ (⟨_, .slice _ _ _ _ _, _, _, _, _⟩ :: _) _; first | refine WPl.rdX (ReadR.sliceH rfl rfl hasA (by omega)) ?_ | refine WPl.rdX (ReadR.sliceL rfl rfl hasA (by omega)) ?_ | refine WPl.rdX (ReadR.sliceLH rfl rfl rfl hasA (by omega) (by omega)) ?_)
     | (refine WPl.spQ (fun hc => ?_) (fun hc => ?_) <;> try exact prA)
     | fail)
    all_goals try (first | exact WPq.dTp | exact WPq.dTs | exact WPq.dV | exact WPq.dR | exact WPq.dR2 | exact WPq.dH | exact WPq.dBH | exact WPq.dT)
end Go.Proofs.Ytjfhiifpnpokpaa
/- Layer 17 (nat): the head of a packet that is sent elsewhere. -/
namespace Go.Proofs.Ytjfhiifpnpokpaa
open Go.RowKit
set_option linter.unusedSimpArgs false
set_option linter.unusedVariables false
set_option maxRecDepth 20000
set_option maxHeartbeats 4000000
attribute [local irreducible] WPc WPl WPq ReadR OpT BinR HasS bx rdN rowN Take Takes Prov Triple ResF BuildP Done ag Int.decLt Int.decLe Int.instDecidableEq

theorem phH_six {b : List UInt8} (hE : phE b = 0) : (byteN b 0 / 16 = 4 ∧ ferr b = 0 ∧ phH b = fread b ∧ (phH b).six = false ∧ b.length ≠ 0) ∨ (byteN b 0 / 16 = 6 ∧ xerr b = 0 ∧ phH b = xread b ∧ (phH b).six = true ∧ b.length ≠ 0) := by
  unfold phE at hE
  by_cases h0 : b.length = 0
  · rw [if_pos h0] at hE; cases hE
  rw [if_neg h0] at hE
  by_cases h4 : byteN b 0 / 16 = 4
  · rw [if_pos h4] at hE
    have e : phH b = fread b := by unfold phH; rw [if_neg h0, if_pos h4]
    exact Or.inl ⟨h4, hE, e, by rw [e]; unfold fread; rw [if_pos hE]; rfl, h0⟩
  rw [if_neg h4] at hE
  by_cases h6 : byteN b 0 / 16 = 6
  · rw [if_pos h6] at hE
    have e : phH b = xread b := by unfold phH; rw [if_neg h0, if_neg h4, if_pos h6]
    exact Or.inr ⟨h6, hE, e, by rw [e]; unfold xread; rw [if_pos hE]; rfl, h0⟩
  · rw [if_neg h6] at hE; cases hE
/-- The head with another address. -/
def hdA (h : Hd) (w : Nat) (a : Adr) : Hd := if w = 0 then { h with src := a } else { h with dst := a }

theorem ph_of_four {b : List UInt8} (h : ferr b = 0) : phE b = 0 ∧ phH b = fread b := by
  obtain ⟨q1, q2, q3, _⟩ := ferr_zero h
  refine ⟨?_, ?_⟩
  · unfold phE; rw [if_neg (by omega), if_pos q3, h]
  · unfold phH; rw [if_neg (by omega), if_pos q3]
theorem ph_of_six {b : List UInt8} (h : xerr b = 0) : phE b = 0 ∧ phH b = xread b := by
  obtain ⟨q1, q2, q3, _⟩ := xerr0_zero (xerr_form h).1
  refine ⟨?_, ?_⟩
  · unfold phE; rw [if_neg (by omega), if_neg (by omega), if_pos q3, h]
  · unfold phH; rw [if_neg (by omega), if_neg (by omega), if_pos q3]
/-- The head of a packet whose address and head's sum are laid anew. -/
theorem ph_n2 {b : List UInt8} {w : Nat} {a : Adr} (hE : phE b = 0) (hs : a.six = (phH b).six) (hof : ofA a.bytes = a) (hw : w = 0 ∨ w = 1) :
    phE (n2 b (phH b).six w a) = 0 ∧ phH (n2 b (phH b).six w a) = hdA (phH b) w a ∧ (n2 b (phH b).six w a).length = b.length := by
  have hl := a.bytes_len
  rcases phH_six hE with ⟨h4, he, e, es, h0⟩ | ⟨h6, he, e, es, h0⟩
  · obtain ⟨q1, q2, q3, q4, q5, q6, q7, q8, q9⟩ := ferr_zero he
    rw [hs, es, if_neg (by decide)] at hl
    have c := chg_le (val (seg b 10 2)) (seg b (12 + w * 4) a.bytes.length) a.bytes
    obtain ⟨f1, f2⟩ := fread_addr (b := b) (y := a.bytes) (k := 12 + w * 4) (n := chg (val (seg b 10 2)) (seg b (12 + w * 4) a.bytes.length) a.bytes) he (by omega) hl c rfl
    obtain ⟨g1, g2⟩ := ph_of_four f1
    have e2 : n2 b (phH b).six w a = lay (lay b (12 + w * 4) a.bytes) 10 (twoB (chg (val (seg b 10 2)) (seg b (12 + w * 4) a.bytes.length) a.bytes)) := by
      unfold n2 n1 nk; rw [es]; rfl
    rw [e2]
    refine ⟨g1, ?_, ?_⟩
    · rw [g2, f2, hof, e]
      unfold hdA
      rcases hw with rfl | rfl <;> rfl
    · have t : ∀ n, (twoB n).length = 2 := fun n => rfl
      rw [lay_length (by rw [lay_length (by omega), t]; omega), lay_length (by omega)]
  · obtain ⟨q1, q2, q3, q4, q5⟩ := xerr0_zero (xerr_form he).1
    rw [hs, es, if_pos rfl] at hl
    have L : 8 + w * 16 + a.bytes.length ≤ b.length := by omega
    have e2 : n2 b (phH b).six w a = lay b (8 + w * 16) a.bytes := by unfold n2 n1 nk; rw [es]; rfl
    rw [e2]
    obtain ⟨f1, f2⟩ := xread_frame (b := b) (b' := lay b (8 + w * 16) a.bytes) he (lay_length L) (fun i hi => getD_lay L (by omega))
    obtain ⟨g1, g2⟩ := ph_of_six f1
    refine ⟨g1, ?_, lay_length L⟩
    have x := seg_lay_at L
    rw [hl] at x
    have xs : (xread b).src = ofA (seg b 8 16) ∧ (xread b).dst = ofA (seg b 24 16) := by unfold xread; rw [if_pos he]; exact ⟨rfl, rfl⟩
    rw [g2, f2, e]
    unfold hdA
    rcases hw with rfl | rfl
    · rw [if_pos rfl, x, hof, seg_lay_out L (by omega), ← xs.2]
    · rw [if_neg (by decide), x, hof, seg_lay_out L (by omega), ← xs.1]

/-- Where what is carried begins. -/
theorem ph_pos {b : List UInt8} (hE : phE b = 0) : 20 ≤ (phH b).pos.toNat ∧ (phH b).pos.toNat ≤ b.length ∧ (phH b).pos.toNat % 2 = 0 ∨ 40 ≤ (phH b).pos.toNat ∧ (phH b).pos.toNat ≤ b.length ∧ (phH b).six = true := by
  have hp := phE_pos hE
  rcases phH_six hE with ⟨h4, he, e, es, h0⟩ | ⟨h6, he, e, es, h0⟩
  · obtain ⟨q1, q2, q3, q4, q5, _⟩ := ferr_zero he
    have ep : (phH b).pos = (ihl b : Nat) := by rw [e]; unfold fread; rw [if_pos he]; rfl
    refine Or.inl ⟨by omega, by omega, ?_⟩
    rw [ep]; unfold ihl; omega
  · have ep : (phH b).pos = ((xall b 8 (xs0 b)).2.pos : Nat) := by rw [e]; unfold xread; rw [if_pos he]; rfl
    have m := xall_mono (b := b) 8 (xs0 b)
    have m0 : (xs0 b).pos = 40 := rfl
    exact Or.inr ⟨by omega, by omega, es⟩
/-- What is laid behind a head leaves it. -/
theorem ph_behind {b y : List UInt8} {k : Nat} (hE : phE b = 0) (hk : (phH b).pos.toNat ≤ k) (hl : k + y.length ≤ b.length) : phE (lay b k y) = 0 ∧ phH (lay b k y) = phH b := by
  rcases phH_six hE with ⟨h4, he, e, es, h0⟩ | ⟨h6, he, e, es, h0⟩
  · obtain ⟨q1, q2, q3, q4, q5, _⟩ := ferr_zero he
    have ep : (phH b).pos = (ihl b : Nat) := by rw [e]; unfold fread; rw [if_pos he]; rfl
    obtain ⟨f1, f2⟩ := ferr_lay_behind (b := b) (y := y) (k := k) hl (by omega) (by omega)
    obtain ⟨g1, g2⟩ := ph_of_four (f1.trans he)
    exact ⟨g1, by rw [g2, f2, e]⟩
  · have ep : (phH b).pos = ((xall b 8 (xs0 b)).2.pos : Nat) := by rw [e]; unfold xread; rw [if_pos he]; rfl
    have m := xall_mono (b := b) 8 (xs0 b)
    have m0 : (xs0 b).pos = 40 := rfl
    obtain ⟨f1, f2⟩ := xread_frame (b := b) (b' := lay b k y) he (lay_length hl) (fun i hi => getD_lay hl (by omega))
    obtain ⟨g1, g2⟩ := ph_of_six f1
    have xs : (xread b).src = ofA (seg b 8 16) ∧ (xread b).dst = ofA (seg b 24 16) := by unfold xread; rw [if_pos he]; exact ⟨rfl, rfl⟩
    refine ⟨g1, ?_⟩
    rw [g2, f2, e, seg_lay_out hl (by omega), seg_lay_out hl (by omega), ← xs.1, ← xs.2]

theorem pk_zero {b : List UInt8} (h : pkE b = 0) : phE b = 0 ∧ (phH b).part = false ∧ sgE (phH b) (pkS b) = 0 ∧ pkR b = pkOf (phH b) (sgR (phH b) (pkS b)) := by
  have hR : pkR b = pkOf (phH b) (sgR (phH b) (pkS b)) := by unfold pkR; rw [if_pos h]
  unfold pkE at h
  by_cases hE : phE b = 0
  · rw [if_neg (fun hh => hh hE)] at h
    cases hp : (phH b).part with
    | true => rw [hp, if_pos rfl] at h; cases h
    | false => rw [hp, if_neg (by decide)] at h; exact ⟨hE, rfl, h, hR⟩
  · rw [if_pos hE] at h; exact absurd h hE
theorem pk_make {b S : List UInt8} {H : Hd} (hE : phE b = 0) (hH : phH b = H) (hp : H.part = false) (hS : pkS b = S) (hs : sgE H S = 0) : pkE b = 0 ∧ pkR b = pkOf H (sgR H S) := by
  have e : pkE b = 0 := by unfold pkE; rw [if_neg (fun hh => hh hE), hH, hp, if_neg (by decide), hS]; exact hs
  exact ⟨e, by unfold pkR; rw [if_pos e, hH, hS]⟩

end Go.Proofs.Ytjfhiifpnpokpaa
/- Layer 17 (nat): the old address, and what the changed head carries. -/
namespace Go.Proofs.Ytjfhiifpnpokpaa
open Go.RowKit
set_option linter.unusedSimpArgs false
set_option linter.unusedVariables false
set_option maxRecDepth 20000
set_option maxHeartbeats 4000000
attribute [local irreducible] WPc WPl WPq ReadR OpT BinR HasS bx rdN rowN Take Takes Prov Triple ResF BuildP Done ag Int.decLt Int.decLe Int.instDecidableEq

theorem ofA_b6 {l : List UInt8} (h : l.length = 16) : (ofA l).bytes = l := by
  unfold ofA
  rw [dif_pos h]
  rfl
theorem ofA_b4 {l : List UInt8} (h : l.length = 4) : (ofA l).bytes = l := by
  obtain ⟨a, b, c, d, rfl⟩ := four_of h
  rfl
/-- The bytes that are laid anew are the old address's. -/
theorem old_bytes {b : List UInt8} {w : Nat} (hE : phE b = 0) (hw : w = 0 ∨ w = 1) :
    seg b (nk (phH b).six w) (if (phH b).six then 16 else 4) = (if w = 0 then (phH b).src else (phH b).dst).bytes := by
  rcases phH_six hE with ⟨h4, he, e, es, h0⟩ | ⟨h6, he, e, es, h0⟩
  · obtain ⟨q1, q2, q3, q4, q5, _⟩ := ferr_zero he
    have xs : (fread b).src = ofA (seg b 12 4) ∧ (fread b).dst = ofA (seg b 16 4) := by unfold fread; rw [if_pos he]; exact ⟨rfl, rfl⟩
    rw [es, e, xs.1, xs.2]
    rcases hw with rfl | rfl
    · show seg b 12 4 = (ofA (seg b 12 4)).bytes
      rw [ofA_b4 (seg_length (by omega))]
    · show seg b 16 4 = (ofA (seg b 16 4)).bytes
      rw [ofA_b4 (seg_length (by omega))]
  · obtain ⟨q1, q2, q3, q4, q5⟩ := xerr0_zero (xerr_form he).1
    have xs : (xread b).src = ofA (seg b 8 16) ∧ (xread b).dst = ofA (seg b 24 16) := by unfold xread; rw [if_pos he]; exact ⟨rfl, rfl⟩
    rw [es, e, xs.1, xs.2]
    rcases hw with rfl | rfl
    · show seg b 8 16 = (ofA (seg b 8 16)).bytes
      rw [ofA_b6 (seg_length (by omega))]
    · show seg b 24 16 = (ofA (seg b 24 16)).bytes
      rw [ofA_b6 (seg_length (by omega))]
theorem hdA_pos (h : Hd) (w : Nat) (a : Adr) : (hdA h w a).pos = h.pos ∧ (hdA h w a).part = h.part ∧ (hdA h w a).six = h.six ∧ (hdA h w a).proto = h.proto := by
  unfold hdA; split <;> exact ⟨rfl, rfl, rfl, rfl⟩
/-- The changed head carries the same. -/
theorem pkS_n2 {b : List UInt8} {w : Nat} {a : Adr} (hE : phE b = 0) (hs : a.six = (phH b).six) (hof : ofA a.bytes = a) (hw : w = 0 ∨ w = 1) : pkS (n2 b (phH b).six w a) = pkS b := by
  obtain ⟨p1, p2, p3⟩ := ph_n2 hE hs hof hw
  have hl := a.bytes_len
  unfold pkS
  rw [p2, p3, (hdA_pos _ _ _).1]
  have hp := ph_pos hE
  rcases phH_six hE with ⟨h4, he, e, es, h0⟩ | ⟨h6, he, e, es, h0⟩
  · rw [es] at hp hs
    rw [hs, if_neg (by decide)] at hl
    have t : ∀ n, (twoB n).length = 2 := fun n => rfl
    unfold n2 n1 nk
    rw [es, if_neg (by decide), if_neg (by decide)]
    have hp2 : 20 ≤ (phH b).pos.toNat ∧ (phH b).pos.toNat ≤ b.length := by
      rcases hp with h | h
      · exact ⟨h.1, h.2.1⟩
      · cases h.2.2
    rw [seg_lay_out (by rw [lay_length (by omega), t]; omega) (by rw [t]; omega), seg_lay_out (by omega) (by omega)]
  · rw [hs, es, if_pos rfl] at hl
    have ep : (phH b).pos = ((xall b 8 (xs0 b)).2.pos : Nat) := by rw [e]; unfold xread; rw [if_pos he]; rfl
    have m := xall_mono (b := b) 8 (xs0 b)
    have m0 : (xs0 b).pos = 40 := rfl
    have hp2 := phE_pos hE
    unfold n2 n1 nk
    rw [es, if_pos rfl, if_pos rfl]
    rw [seg_lay_out (by omega) (by omega)]

end Go.Proofs.Ytjfhiifpnpokpaa
/- Layer 17 (nat): the packet whose address is laid anew is read. -/
namespace Go.Proofs.Ytjfhiifpnpokpaa
open Go.RowKit
set_option linter.unusedSimpArgs false
set_option linter.unusedVariables false
set_option maxRecDepth 20000
set_option maxHeartbeats 4000000
attribute [local irreducible] WPc WPl WPq ReadR OpT BinR HasS bx rdN rowN Take Takes Prov Triple ResF BuildP Done ag Int.decLt Int.decLe Int.instDecidableEq

theorem pk_n3 {b : List UInt8} {w : Nat} {a : Adr} (h : pkE b = 0) (hs : a.six = (phH b).six) (hof : ofA a.bytes = a) (hw : w = 0 ∨ w = 1)
    (hsix : (phH b).src.six = (phH b).six ∧ (phH b).dst.six = (phH b).six) (c : List UInt8)
    (hc : c = n3 b (phH b) (sgR (phH b) (pkS b)).zero w a) :
    phE c = 0 ∧ phH c = hdA (phH b) w a ∧ c.length = b.length ∧ sgE (hdA (phH b) w a) (pkS c) = 0 ∧ sgR (hdA (phH b) w a) (pkS c) = sgR (phH b) (pkS b) := by
  obtain ⟨hE, hp, hS, hR⟩ := pk_zero h
  obtain ⟨p1, p2, p3⟩ := ph_n2 hE hs hof hw
  have k := pkS_n2 hE hs hof hw
  obtain ⟨d1, d2, d3, d4⟩ := hdA_pos (phH b) w a
  have hl := a.bytes_len
  have ho := old_bytes hE hw
  have hal : a.bytes.length = if (phH b).six then 16 else 4 := by rw [hl, hs]
  rw [← hal] at ho
  have hpos := phE_pos hE
  have pl : (pkS b).length = b.length - (phH b).pos.toNat := by unfold pkS; simp [seg]
  have hj : sj (phH b) + 2 ≤ (pkS b).length := by
    obtain ⟨_, hf⟩ := sg_facts hS
    rcases hf with ⟨_, h1, _, _, h2, _⟩ | ⟨_, h1, h2, _⟩ <;> omega
  have hh : ((phH b).src = (if w = 0 then (phH b).src else (phH b).dst) ∧ (hdA (phH b) w a).src = a ∧ (hdA (phH b) w a).dst = (phH b).dst) ∨
      ((phH b).dst = (if w = 0 then (phH b).src else (phH b).dst) ∧ (hdA (phH b) w a).dst = a ∧ (hdA (phH b) w a).src = (phH b).src) := by
    rcases hw with rfl | rfl
    · exact Or.inl ⟨rfl, rfl, rfl⟩
    · exact Or.inr ⟨rfl, rfl, rfl⟩
  have hol : (if w = 0 then (phH b).src else (phH b).dst).bytes.length = a.bytes.length := by
    rw [Adr.bytes_len, hal]
    have e : (if w = 0 then (phH b).src else (phH b).dst).six = (phH b).six := by
      split
      · exact hsix.1
      · exact hsix.2
    rw [e]
  have A := fun S' => sg_addr (h := phH b) (h' := hdA (phH b) w a) (S := pkS b) hS d4 d3 hh hol S'
  unfold n3 nsum at hc
  rw [ho] at hc
  cases hz : (sgR (phH b) (pkS b)).zero with
  | true =>
    rw [hz, if_pos rfl] at hc
    rw [← hc] at p1 p2 p3 k
    obtain ⟨a1, a2, a3⟩ := A (pkS b) (by rw [hz, if_pos rfl])
    rw [k]
    exact ⟨p1, p2, p3, a1, a2⟩
  | false =>
    rw [hz, if_neg (by decide)] at hc
    have t : ∀ n, (twoB n).length = 2 := fun n => rfl
    generalize hN : sfix (phH b) (chg (val (seg (n2 b (phH b).six w a) ((phH b).pos.toNat + sj (phH b)) 2)) (if w = 0 then (phH b).src else (phH b).dst).bytes a.bytes) = N at hc
    generalize n2 b (phH b).six w a = x at *
    have L : (phH b).pos.toNat + sj (phH b) + (twoB N).length ≤ x.length := by rw [t]; omega
    obtain ⟨b1, b2⟩ := ph_behind (b := x) (y := twoB N) (k := (phH b).pos.toNat + sj (phH b)) p1 (by rw [p2, d1]; omega) L
    rw [← hc] at b1 b2
    have cl : c.length = b.length := by rw [hc, lay_length L, p3]
    have e1 : pkS c = lay (pkS b) (sj (phH b)) (twoB N) := by
      have k2 : seg x (phH b).pos.toNat (x.length - (phH b).pos.toNat) = pkS b := by rw [← k]; unfold pkS; rw [p2, d1]
      rw [← k2, ← seg_lay_tail L]
      unfold pkS
      rw [b2, p2, d1, cl, ← p3, hc]
    have e2 : seg x ((phH b).pos.toNat + sj (phH b)) 2 = seg (pkS b) (sj (phH b)) 2 := by
      have k2 : seg x (phH b).pos.toNat (x.length - (phH b).pos.toNat) = pkS b := by rw [← k]; unfold pkS; rw [p2, d1]
      rw [← k2, segn_rest (by omega)]
    rw [e2] at hN
    obtain ⟨a1, a2, a3⟩ := A (pkS c) (by rw [hz, if_neg (by decide), hN]; exact e1)
    exact ⟨b1, b2.trans p2, cl, a1, a2⟩

end Go.Proofs.Ytjfhiifpnpokpaa
/- Layer 17 (nat): the packet whose port is laid anew as well is read; which bytes are other ones. -/
namespace Go.Proofs.Ytjfhiifpnpokpaa
open Go.RowKit
set_option linter.unusedSimpArgs false
set_option linter.unusedVariables false
set_option maxRecDepth 20000
set_option maxHeartbeats 4000000
attribute [local irreducible] WPc WPl WPq ReadR OpT BinR HasS bx rdN rowN Take Takes Prov Triple ResF BuildP Done ag Int.decLt Int.decLe Int.instDecidableEq

theorem sfix_hdA (h : Hd) (w : Nat) (a : Adr) (n : Nat) : sfix (hdA h w a) n = sfix h n := by unfold sfix; rw [(hdA_pos h w a).2.2.2]
theorem sj_hdA (h : Hd) (w : Nat) (a : Adr) : sj (hdA h w a) = sj h := by unfold sj; rw [(hdA_pos h w a).2.2.2]
theorem sj_ge (h : Hd) : 6 ≤ sj h := by unfold sj; split <;> omega
def sgP (s : Sg) (w p : Nat) : Sg := if w = 0 then { s with src := p } else { s with dst := p }
theorem pk_n5 {b : List UInt8} {w p : Nat} {a : Adr} (h : pkE b = 0) (hs : a.six = (phH b).six) (hof : ofA a.bytes = a) (hw : w = 0 ∨ w = 1)
    (hsix : (phH b).src.six = (phH b).six ∧ (phH b).dst.six = (phH b).six) (hp1 : p ≤ 65535) (hp0 : p ≠ 0) (c : List UInt8)
    (hc : c = n5 b (phH b) (sgR (phH b) (pkS b)).zero w a p) :
    pkE c = 0 ∧ pkR c = pkOf (hdA (phH b) w a) (sgP (sgR (phH b) (pkS b)) w p) ∧ c.length = b.length := by
  obtain ⟨hE, hpt, hS, hR⟩ := pk_zero h
  obtain ⟨p1, p2, p3, p4, p5⟩ := pk_n3 h hs hof hw hsix _ rfl
  obtain ⟨d1, d2, d3, d4⟩ := hdA_pos (phH b) w a
  unfold n5 at hc
  generalize n3 b (phH b) (sgR (phH b) (pkS b)).zero w a = x at *
  have hpos := phE_pos p1
  rw [p2, d1] at hpos
  have pl : (pkS x).length = x.length - (phH b).pos.toNat := by unfold pkS; rw [p2, d1]; simp [seg]
  have hj : sj (phH b) + 2 ≤ (pkS x).length := by
    obtain ⟨_, hf⟩ := sg_facts p4
    rw [sj_hdA] at hf
    rcases hf with ⟨_, h1, _, _, h2, _⟩ | ⟨_, h1, h2, _⟩ <;> omega
  have hj6 := sj_ge (phH b)
  have t : ∀ n, (twoB n).length = 2 := fun n => rfl
  have L1 : (phH b).pos.toNat + 2 * w + (twoB p).length ≤ x.length := by rw [t]; omega
  have k1 : seg x (phH b).pos.toNat (x.length - (phH b).pos.toNat) = pkS x := by unfold pkS; rw [p2, d1]
  obtain ⟨b1, b2⟩ := ph_behind (b := x) (y := twoB p) (k := (phH b).pos.toNat + 2 * w) p1 (by rw [p2, d1]; omega) L1
  have e1 : pkS (lay x ((phH b).pos.toNat + 2 * w) (twoB p)) = lay (pkS x) (2 * w) (twoB p) := by
    rw [← k1, ← seg_lay_tail L1]
    unfold pkS
    rw [b2, p2, d1, lay_length L1]
  have l1 : (lay x ((phH b).pos.toNat + 2 * w) (twoB p)).length = x.length := lay_length L1
  have e2 : seg x ((phH b).pos.toNat + 2 * w) 2 = seg (pkS x) (2 * w) 2 := by rw [← k1, segn_rest (by omega)]
  have e3 : seg (lay x ((phH b).pos.toNat + 2 * w) (twoB p)) ((phH b).pos.toNat + sj (phH b)) 2 = seg (pkS x) (sj (phH b)) 2 := by
    rw [seg_lay_out L1 (Or.inr (by rw [t]; omega)), ← k1, segn_rest (by omega)]
  have A := fun S' => sg_port (h := hdA (phH b) w a) (S := pkS x) (k := 2 * w) (p := p) p4 (by omega) hp1 hp0 S'
  rw [p5, sj_hdA] at A
  simp only [sfix_hdA] at A
  have hk0 : (2 * w = 0) ↔ (w = 0) := by omega
  simp only [hk0] at A
  unfold nsum at hc
  rw [e2, e3] at hc
  generalize hy : lay x ((phH b).pos.toNat + 2 * w) (twoB p) = y at *
  have hpt' : (hdA (phH b) w a).part = false := d2.trans hpt
  cases hz : (sgR (phH b) (pkS b)).zero with
  | true =>
    rw [hz, if_pos rfl] at hc
    rw [← hc] at b1 b2 e1 l1
    obtain ⟨a1, a2, a3⟩ := A (pkS c) (by rw [hz, if_pos rfl]; exact e1)
    obtain ⟨r1, r2⟩ := pk_make b1 (b2.trans p2) hpt' rfl a1
    exact ⟨r1, by rw [r2, a2]; rfl, l1.trans p3⟩
  | false =>
    rw [hz, if_neg (by decide)] at hc
    generalize hN : sfix (phH b) (chg (val (seg (pkS x) (sj (phH b)) 2)) (seg (pkS x) (2 * w) 2) (twoB p)) = N at hc
    have L : (phH b).pos.toNat + sj (phH b) + (twoB N).length ≤ y.length := by rw [t]; omega
    obtain ⟨c1, c2⟩ := ph_behind (b := y) (y := twoB N) (k := (phH b).pos.toNat + sj (phH b)) b1 (by rw [b2, p2, d1]; omega) L
    rw [← hc] at c1 c2
    have cl : c.length = y.length := by rw [hc, lay_length L]
    have e4 : pkS c = lay (lay (pkS x) (2 * w) (twoB p)) (sj (phH b)) (twoB N) := by
      have k2 : seg y (phH b).pos.toNat (y.length - (phH b).pos.toNat) = lay (pkS x) (2 * w) (twoB p) := by rw [← e1]; unfold pkS; rw [b2, p2, d1]
      rw [← k2, ← seg_lay_tail L]
      unfold pkS
      rw [c2, b2, p2, d1, cl, hc]
    obtain ⟨a1, a2, a3⟩ := A (pkS c) (by rw [hz, if_neg (by decide), hN]; exact e4)
    obtain ⟨r1, r2⟩ := pk_make c1 ((c2.trans b2).trans p2) hpt' rfl a1
    exact ⟨r1, by rw [r2, a2]; rfl, (cl.trans l1).trans p3⟩

/-- A byte of bytes that were laid over others. -/
theorem layD {l y : List UInt8} {k i : Nat} (h : k + y.length ≤ l.length) : (lay l k y).getD i 0 = if i < k ∨ k + y.length ≤ i then l.getD i 0 else y.getD (i - k) 0 := by
  rw [List.getD_eq_getElem?_getD, lay_get h]
  split <;> rw [List.getD_eq_getElem?_getD]
/-- What is laid but for the sums. -/
def core (b : List UInt8) (h : Hd) (w : Nat) (a : Adr) (p : Nat) : List UInt8 := lay (lay b (nk h.six w) a.bytes) (h.pos.toNat + 2 * w) (twoB p)
theorem lay_congr {l m y : List UInt8} {k i : Nat} (hl : l.length = m.length) (h : k + y.length ≤ l.length) (e : l.getD i 0 = m.getD i 0) : (lay l k y).getD i 0 = (lay m k y).getD i 0 := by
  rw [layD h, layD (by omega), e]
/-- The program's bytes are those laid, but for the sums. -/
theorem n5_core {b : List UInt8} {h : Hd} {z : Bool} {w p i : Nat} {a : Adr} (h1 : nk h.six w + a.bytes.length ≤ b.length) (h2 : 12 ≤ b.length) (h3 : h.pos.toNat + sj h + 2 ≤ b.length) (hw : w = 0 ∨ w = 1)
    (hi : i ≠ 10 ∧ i ≠ 11) (hi2 : i ≠ h.pos.toNat + sj h ∧ i ≠ h.pos.toNat + sj h + 1) : (n5 b h z w a p).getD i 0 = (core b h w a p).getD i 0 := by
  have t : ∀ n, (twoB n).length = 2 := fun n => rfl
  have hj6 := sj_ge h
  have l1 : (n1 b h.six w a).length = b.length := lay_length h1
  have l2 : (n2 b h.six w a).length = b.length := by
    unfold n2; split
    · exact l1
    · rw [lay_length (by rw [l1, t]; exact h2), l1]
  have ns : ∀ (c o y : List UInt8), c.length = b.length → (nsum c h z (h.pos.toNat + sj h) o y).length = b.length ∧ (nsum c h z (h.pos.toNat + sj h) o y).getD i 0 = c.getD i 0 := by
    intro c o y hl
    unfold nsum
    split
    · exact ⟨hl, rfl⟩
    · refine ⟨by rw [lay_length (by rw [t, hl]; omega), hl], ?_⟩
      rw [layD (by rw [t, hl]; omega), if_pos (by rw [t]; omega)]
  have g2 : (n2 b h.six w a).getD i 0 = (n1 b h.six w a).getD i 0 := by
    unfold n2; split
    · rfl
    · rw [layD (by rw [l1, t]; exact h2), if_pos (by rw [t]; omega)]
  have l3 := ns (n2 b h.six w a) (seg b (nk h.six w) a.bytes.length) a.bytes l2
  unfold n5
  have l4 : (lay (n3 b h z w a) (h.pos.toNat + 2 * w) (twoB p)).length = b.length := by
    rw [lay_length (by unfold n3; rw [l3.1, t]; omega)]
    exact l3.1
  rw [(ns _ _ _ l4).2]
  unfold core
  refine lay_congr (by rw [show (lay b (nk h.six w) a.bytes).length = b.length from l1]; exact l3.1) (by unfold n3; rw [l3.1, t]; omega) ?_
  exact l3.2.trans g2
/-- The reference's bytes: all sums anew (s1, s2: what they are). -/
def q1 (b : List UInt8) (h : Hd) (w : Nat) (a : Adr) (p s : Nat) : List UInt8 := if h.six then core b h w a p else lay (lay (core b h w a p) 10 (twoB 0)) 10 (twoB s)
def q2 (c : List UInt8) (h : Hd) (z : Bool) (s : Nat) : List UInt8 := if z then c else lay (lay c (h.pos.toNat + sj h) (twoB 0)) (h.pos.toNat + sj h) (twoB s)
theorem q_core {b : List UInt8} {h : Hd} {z : Bool} {w p i s r : Nat} {a : Adr} (h1 : nk h.six w + a.bytes.length ≤ b.length) (h2 : 12 ≤ b.length) (h3 : h.pos.toNat + sj h + 2 ≤ b.length) (hw : w = 0 ∨ w = 1)
    (hi : i ≠ 10 ∧ i ≠ 11) (hi2 : i ≠ h.pos.toNat + sj h ∧ i ≠ h.pos.toNat + sj h + 1) : (q2 (q1 b h w a p s) h z r).length = b.length ∧ (q2 (q1 b h w a p s) h z r).getD i 0 = (core b h w a p).getD i 0 := by
  have t : ∀ n, (twoB n).length = 2 := fun n => rfl
  have hj6 := sj_ge h
  have l1 : (lay b (nk h.six w) a.bytes).length = b.length := lay_length h1
  have l2 : (core b h w a p).length = b.length := by unfold core; rw [lay_length (by rw [l1, t]; omega), l1]
  have l3 : (q1 b h w a p s).length = b.length ∧ (q1 b h w a p s).getD i 0 = (core b h w a p).getD i 0 := by
    unfold q1; split
    · exact ⟨l2, rfl⟩
    · have x : (lay (core b h w a p) 10 (twoB 0)).length = b.length := by rw [lay_length (by rw [l2, t]; exact h2), l2]
      refine ⟨by rw [lay_length (by rw [x, t]; exact h2), x], ?_⟩
      rw [layD (by rw [x, t]; exact h2), if_pos (by rw [t]; omega), layD (by rw [l2, t]; exact h2), if_pos (by rw [t]; omega)]
  unfold q2; split
  · exact l3
  · have x : (lay (q1 b h w a p s) (h.pos.toNat + sj h) (twoB 0)).length = b.length := by rw [lay_length (by rw [l3.1, t]; omega), l3.1]
    refine ⟨by rw [lay_length (by rw [x, t]; omega), x], ?_⟩
    rw [layD (by rw [x, t]; omega), if_pos (by rw [t]; omega), layD (by rw [l3.1, t]; omega), if_pos (by rw [t]; omega)]
    exact l3.2

end Go.Proofs.Ytjfhiifpnpokpaa
/- Separation: a pool, several blocks of one type as one assertion. -/
namespace Go.Proofs.Ytjfhiifpnpokpaa
open Go.RowKit
set_option linter.unusedSimpArgs false
set_option linter.unusedVariables false

/-- These blocks are one's own, and hold these cells. -/
def pool (T : TypeId) (f : Nat → Option Ch) : Asn where
  own := true
  fp := fun g => ∃ cs, f g = some cs
  holds := fun w => ∀ g cs, f g = some cs → (bx g T cs).holds w
  lt := fun w h g hg => by
    obtain ⟨cs, hcs⟩ := hg
    exact (bx g T cs).lt w (h g cs hcs) g rfl
  loc := fun w w' h hl g cs hcs => (bx g T cs).loc w w' (h g cs hcs) fun g' hg' => hl g' (by rw [show g' = g from hg']; exact ⟨cs, hcs⟩)
def fset (f : Nat → Option Ch) (g : Nat) (cs : Ch) : Nat → Option Ch := fun g' => if g' = g then some cs else f g'
section
variable {P : Program} {n : Nat} {W : World} {S : Nat → Prop} {Γ : List Asn} {F : List (Nat × Value)} {Q : Exit → Act → World → Prop} {ops : Array Oper} {os : List Oper}
variable {d : Option Tmp} {ty : TypeId} {pos : String} {af : Array Edge} {gd : Option (Nat × Bool)} {T T' : TypeId} {f : Nat → Option Ch} {g off : Nat} {cs : Ch}
theorem ownsP {Γ : List Asn} (h : ∀ A, A ∈ Γ → A.own = true := by ((repeat' (first | exact own_nil | refine own_cons (by first | exact bx_own | exact rowN_own | exact mp_own | exact pool_own | exact star_own | exact rfl) ?_ | fail)) <;> fail)) : ∀ A, A ∈ Γ → A.own = true := h
theorem WPq.dTp {fn : Func} {rs : List ResultVar} {vs : List Value} {c : Value} {Γ1 Γx : List Asn} {e : Exit} (he : e = .ret ∨ e = .normal := by first | exact .inl rfl | exact .inr rfl | fail) (hr : fn.results = rs.toArray := by first | rfl | fail) (h : ResF P Γ F rs vs := by first | exact resA | fail) (hp : Takes Γ Γ1 Γx := by first | exact takesA | fail) (hc : resV vs = c := by first | rfl | fail) (ho : ∀ A, A ∈ Γ1 → A.own = true := by first | exact ownsP | fail) :
    WPq n W S Γ F (Done P fn W S (RTurns c Γ1)) e := WPq.done he hr h hp ho ⟨hc, rfl⟩
end
end Go.Proofs.Ytjfhiifpnpokpaa
/- Separation: rows of structs: literals, append. -/
namespace Go.Proofs.Ytjfhiifpnpokpaa
open Go.RowKit
set_option linter.unusedSimpArgs false
set_option linter.unusedVariables false
class EltN (P : Program) (e : TypeId) (sz : outParam Nat) : Prop where
  info : ((P.info? e).bind fun i => i.zero.map fun z => (Nat.beq z.cells.size sz && Nat.beq i.size sz && Nat.ble i.bytes 512 && Nat.blt 0 sz)) = some true
end Go.Proofs.Ytjfhiifpnpokpaa
/- Separation: a block that is only read. -/
namespace Go.Proofs.Ytjfhiifpnpokpaa
open Go.RowKit
set_option linter.unusedSimpArgs false
set_option linter.unusedVariables false
def rbx (g : Nat) (T : TypeId) (cs : Ch) : Asn where
  own := false
  fp := fun g' => g' = g
  holds := (bx g T cs).holds
  lt := (bx g T cs).lt
  loc := (bx g T cs).loc
theorem Prov.bx {Γ : List Asn} {g : Nat} {T : TypeId} {cs : Ch} (h : Go.Proofs.Ytjfhiifpnpokpaa.bx g T cs ∈ Γ) : Prov Γ (rbx g T cs) := ⟨rfl, fun w hw => hw (Go.Proofs.Ytjfhiifpnpokpaa.bx g T cs) h⟩
theorem provsX {Γ Δ : List Asn} (h : Provs Γ Δ := by ((repeat' (first | exact Provs.nil | apply Provs.cons | exact Prov.bx memA | exact Prov.rbx memA | exact provA | fail)) <;> fail)) : Provs Γ Δ := h
section
variable {P : Program} {n : Nat} {Γ : List Asn} {F : List (Nat × Value)}
variable {d : Option Tmp} {ty : TypeId} {pos : String} {af : Array Edge} {gd : Option (Nat × Bool)}
theorem ReadR.loadO {T T' : TypeId} [hT : TyI P T false 1] {x : Operand} {g off : Nat} {cs : Ch} {v : Value} (hm : rbx g T' cs ∈ Γ) (hs : sel cs off 1 = some [(1, [v])]) (hx : evF F x = some (.pointer (some ⟨g, off, none⟩))) :
    ReadR P n Γ F ⟨d, .load T x, ty, pos, af, gd⟩ v := fun ρ w hf hw => by
  have hb : (bx g T' cs).holds w := hw (rbx g T' cs) hm
  have hc : w.cell? ⟨g, off, none⟩ = some v := by
    rw [bx_cell hb]
    exact sel_cells hs hb.2.len 0 v rfl
  simp [execOp, hf.eval hx, Instr.loadAt, Instr.sureAddr, run_load1 (T := T) hc]
end
end Go.Proofs.Ytjfhiifpnpokpaa
