/- Layer 23 (flows): what it holds; contracts. -/
import Derived.Test.YtncgponcedkihaaMe
import Derived.Test.YtncgponcedkihaaAdr
namespace Go.Proofs.Ytncgponcedkihaa
open Go.RowKit
set_option linter.unusedSimpArgs false
set_option linter.unusedVariables false
set_option maxRecDepth 20000
set_option maxHeartbeats 4000000
attribute [local irreducible] WPc WPl WPq ReadR OpT BinR HasS bx rdN rowN Take Takes Prov Triple ResF BuildP Done ag Int.decLt Int.decLe Int.instDecidableEq
structure Fl where
  src : Adr
  dst : Adr
  sp : Nat
  dp : Nat
  proto : UInt8
deriving DecidableEq
abbrev flc (f : Fl) : Ch := [(1, [.bool f.src.six]), (16, u8s f.src.b), (1, [.bool f.dst.six]), (16, u8s f.dst.b), (1, [.int .u16 (f.sp : Int)]), (1, [.int .u16 (f.dp : Int)]), (1, [.int .u8 ((f.proto.toNat : Nat) : Int)])]
def Fl.none : Fl := ⟨Adr.zero, Adr.zero, 0, 0, 0⟩
structure En where
  sv : Int
  bk : Int
  ad : Adr
  port : Nat
  st : Int
  til : Int
abbrev enC (a : En) : Ch := [(1, [.int .i64 a.sv]), (1, [.int .i64 a.bk]), (1, [.bool a.ad.six]), (16, u8s a.ad.b), (1, [.int .u16 (a.port : Int)]), (1, [.int .i64 a.st]), (1, [.int .u64 a.til])]
def En.zero : En := ⟨0, 0, Adr.zero, 0, 0, 0⟩
def flW (f : Fl) : Prop := f.sp < 65536 ∧ f.dp < 65536
def flM : MK Fl En := ⟨fun f => ag (flc f), fun a => ag (enC a), En.zero, flW⟩
def rpM : MK Fl Fl := ⟨fun f => ag (flc f), fun f => ag (flc f), Fl.none, flW⟩
def flK : List (Option IntKind) := none :: (List.replicate 16 (some .u8) ++ (none :: (List.replicate 16 (some .u8) ++ [some .u16, some .u16, some .u8])))
theorem fl_flat (f : Fl) : flat (flc f) = .bool f.src.six :: (u8s f.src.b ++ (.bool f.dst.six :: (u8s f.dst.b ++ [.int .u16 (f.sp : Int), .int .u16 (f.dp : Int), .int .u8 ((f.proto.toNat : Nat) : Int)]))) := by simp [flc, flat]
theorem shp16 (a : Adr) : Shp (List.replicate 16 (some .u8)) (u8s a.b) := by
  have := shp_u8s a.b
  rwa [a.len] at this
theorem fl_shp (f : Fl) : Shp flK (flat (flc f)) := by
  rw [fl_flat]
  exact ⟨⟨_, rfl⟩, (shp16 f.src).append ⟨⟨_, rfl⟩, (shp16 f.dst).append ⟨⟨_, rfl⟩, ⟨_, rfl⟩, ⟨_, rfl⟩, trivial⟩⟩⟩
theorem inR_u16 {n : Nat} (h : n < 65536) : inR (.int .u16 (n : Int)) := by
  simp [inR, Lit.wf, IntKind.min, IntKind.max, IntKind.signed, IntKind.bits]
  omega
theorem fl_inR {f : Fl} (h : flW f) : ∀ v ∈ flat (flc f), inR v := fun v hv => by
  rw [fl_flat] at hv
  simp only [List.mem_cons, List.mem_append, List.not_mem_nil, or_false] at hv
  rcases hv with rfl | hv | rfl | hv | rfl | rfl | rfl
  · trivial
  · exact inR_u8 v hv
  · trivial
  · exact inR_u8 v hv
  · exact inR_u16 h.1
  · exact inR_u16 h.2
  · exact inR_u8 _ (List.mem_map.2 ⟨f.proto, List.mem_singleton.2 rfl, rfl⟩ : _ ∈ u8s [f.proto])
theorem fl_inj {a b : Fl} (h : flat (flc a) = flat (flc b)) : a = b := by
  rw [fl_flat, fl_flat] at h
  obtain ⟨h1, h2⟩ := List.cons.inj h
  obtain ⟨h3, h4⟩ := List.append_inj h2 (by simp [u8s, a.src.len, b.src.len])
  obtain ⟨h5, h6⟩ := List.cons.inj h4
  obtain ⟨h7, h8⟩ := List.append_inj h6 (by simp [u8s, a.dst.len, b.dst.len])
  have e1 : a.src = b.src := Adr.ext (by simpa using h1) (u8s_inj.1 h3)
  have e2 : a.dst = b.dst := Adr.ext (by simpa using h5) (u8s_inj.1 h7)
  simp at h8
  obtain ⟨e3, e4, e5⟩ := h8
  have e6 : a.sp = b.sp := by omega
  have e7 : a.dp = b.dp := by omega
  have e8 : a.proto = b.proto := UInt8.toNat_inj.1 (by omega)
  cases a; cases b
  simp_all
instance flI : MapI Try.prog 138 flM :=
  mapI_of (kT := 60) (eT := 62) (ks := flK) flc (fun _ => rfl) (by kernel_rfl) (have h : EqI Try.prog 60 _ := inferInstance; h) (by kernel_rfl) (by kernel_rfl) (by kernel_rfl) (by kernel_rfl) (of_decide_eq_true (by kernel_rfl)) (by kernel_rfl) (by kernel_rfl)
    (fun f hf => ⟨fl_shp f, fl_inR hf⟩) (by kernel_rfl) (fun a b h => fl_inj h)
instance rpI : MapI Try.prog 139 rpM :=
  mapI_of (kT := 60) (eT := 60) (ks := flK) flc (fun _ => rfl) (by kernel_rfl) (have h : EqI Try.prog 60 _ := inferInstance; h) (by kernel_rfl) (by kernel_rfl) (by kernel_rfl) (by kernel_rfl) (of_decide_eq_true (by kernel_rfl)) (by kernel_rfl) (by kernel_rfl)
    (fun f hf => ⟨fl_shp f, fl_inR hf⟩) (by kernel_rfl) (fun a b h => fl_inj h)
abbrev hPf (g : Nat) : Value := .pointer (some ⟨g, 0, none⟩)
abbrev fxc (most : Int) (m1 m2 : Nat) : Ch := [(1, [.int .i64 most]), (1, [.map (some m1)]), (1, [.map (some m2)])]
def replyF (f : Fl) (a : En) : Fl := ⟨a.ad, f.src, a.port, f.sp, f.proto⟩
theorem some_t : Triple Try.prog 62 #[] [] (RVal (ag (flc ⟨Adr.zero, Adr.zero, 5, 6, 17⟩))) := by
  refine Triple.enter Try.func62 rfl Try.ntmps62 rfl (fun W => ?_)
  dsimp only [argsF, Nat.reduceAdd]
  repeat' (first
   | refine WPl.nil ?_ | refine WPq.then ?_ | refine WPq.thenR ?_ | refine WPq.thenE ?_ | refine WPq.blockN ?_ | refine WPq.blockR ?_ | refine WPq.blockE ?_ | refine WPq.blockO rfl ?_ | refine WPc.seq ?_ | refine WPc.block ?_ | refine WPc.ret ?_ | refine WPc.exit ?_ | refine WPc.skip ?_ | refine WPc.region ?_
   | (refine isCond ?_; first | refine WPc.cT ?_ | refine WPc.cF ?_ | (refine WPc.cQ (fun hc => ?_) (fun hc => ?_) <;> try exact prA))
   | (refine isOp ?_; first | refine WPl.rd ?_ | refine WPl.sk ?_ | refine WPl.rdB ?_)
   | (refine isAl ?_; refine WPl.nw fun g => ?_)
   | (refine isSt ?_; first | refine WPl.st1 ?_ | refine WPl.stA ?_ | refine WPl.stEB ?_ | refine WPl.stRB ?_)
   | (show WPl _ _ _ _ _ _ _ (⟨_, .indexAddr _ _ _, _, _, _, _⟩ :: _) _; refine WPl.rdX (ReadR.indexE rfl rfl hasA (by first | assumption | omega)) ?_)
   | (show WPl _ _ _ _ _ _ _ (⟨_, .fieldAddr _ _ _, _, _, _, _⟩ :: _) _; refine WPl.rdX (ReadR.fieldE rfl hasA (by first | assumption | omega)) ?_)
   | (show WPl _ _ _ _ _ _ _ (⟨_, .load _ _, _, _, _, _⟩ :: _) _; first | refine WPl.rdX (ReadR.loadE rfl hasA (by assumption)) ?_ | refine WPl.rdX (ReadR.loadES (by assumption) (by first | assumption | omega) rfl hasA) ?_)
   | (show WPl _ _ _ _ _ _ _ (⟨_, .slice _ _ _ _ _, _, _, _, _⟩ :: _) _; first | refine WPl.rdX (ReadR.sliceH rfl rfl hasA (by omega)) ?_ | refine WPl.rdX (ReadR.sliceL rfl rfl hasA (by omega)) ?_ | refine WPl.rdX (ReadR.sliceLH rfl rfl rfl hasA (by omega) (by omega)) ?_)
   | (refine WPl.spQ (fun hc => ?_) (fun hc => ?_) <;> try exact prA)
   | fail)
  all_goals try (first | exact WPq.dTp | exact WPq.dTs | exact WPq.dV | exact WPq.dR | exact WPq.dR2 | exact WPq.dH | exact WPq.dBH | exact WPq.dT)
theorem freply_t (f : Fl) (a : En) : Triple Try.prog 60 #[ag (flc f), ag (enC a)] [] (RVal (ag (flc (replyF f a)))) := by
  have l1 := f.src.len
  have l2 := f.dst.len
  have l3 := a.ad.len
  refine Triple.enter Try.func60 rfl Try.ntmps60 rfl (fun W => ?_)
  dsimp only [argsF, Nat.reduceAdd]
  repeat' (first
   | refine WPl.nil ?_ | refine WPq.then ?_ | refine WPq.thenR ?_ | refine WPq.thenE ?_ | refine WPq.blockN ?_ | refine WPq.blockR ?_ | refine WPq.blockE ?_ | refine WPq.blockO rfl ?_ | refine WPc.seq ?_ | refine WPc.block ?_ | refine WPc.ret ?_ | refine WPc.exit ?_ | refine WPc.skip ?_ | refine WPc.region ?_
   | (refine isCond ?_; first | refine WPc.cT ?_ | refine WPc.cF ?_ | (refine WPc.cQ (fun hc => ?_) (fun hc => ?_) <;> try exact prA))
   | (refine isOp ?_; first | refine WPl.rd ?_ | refine WPl.sk ?_ | refine WPl.rdB ?_)
   | (refine isAl ?_; refine WPl.nw fun g => ?_)
   | (refine isBx ?_; refine WPl.nw fun g => ?_)
   | (refine isSt ?_; first | refine WPl.st1 ?_ | refine WPl.stA ?_ | refine WPl.stEB ?_ | refine WPl.stRB ?_)
   | (show WPl _ _ _ _ _ _ _ (⟨_, .indexAddr _ _ _, _, _, _, _⟩ :: _) _; refine WPl.rdX (ReadR.indexE rfl rfl hasA (by first | assumption | omega)) ?_)
   | (show WPl _ _ _ _ _ _ _ (⟨_, .fieldAddr _ _ _, _, _, _, _⟩ :: _) _; refine WPl.rdX (ReadR.fieldE rfl hasA (by first | assumption | omega)) ?_)
   | (show WPl _ _ _ _ _ _ _ (⟨_, .load _ _, _, _, _, _⟩ :: _) _; first | refine WPl.rdX (ReadR.loadE rfl hasA (by assumption)) ?_ | refine WPl.rdX (ReadR.loadES (by assumption) (by first | assumption | omega) rfl hasA) ?_)
   | (show WPl _ _ _ _ _ _ _ (⟨_, .slice _ _ _ _ _, _, _, _, _⟩ :: _) _; first | refine WPl.rdX (ReadR.sliceH rfl rfl hasA (by omega)) ?_ | refine WPl.rdX (ReadR.sliceL rfl rfl hasA (by omega)) ?_ | refine WPl.rdX (ReadR.sliceLH rfl rfl rfl hasA (by omega) (by omega)) ?_)
   | (refine WPl.spQ (fun hc => ?_) (fun hc => ?_) <;> try exact prA)
   | fail)
  all_goals try (first | exact WPq.dTp | exact WPq.dTs | exact WPq.dV | exact WPq.dR | exact WPq.dR2 | exact WPq.dH | exact WPq.dBH | exact WPq.dT)
section
variable (gT m1 m2 : Nat) (most : Int)
attribute [local irreducible] mp mpe mget mfind mput mdel
def getV (L : List (Fl × En)) (f : Fl) (now : Int) : Bool := mhas L f && decide (now < (mget flM L f).til)
def getE (L : List (Fl × En)) (f : Fl) (now : Int) : En := if getV L f now then mget flM L f else En.zero
theorem fget_t (L : List (Fl × En)) (f : Fl) (now : Int) (hf : flW f) :
    Triple Try.prog 33 #[hPf gT, ag (flc f), .int .u64 now] [(bx gT 141 (fxc most m1 m2)), mp flM m1 L] (RTurns (.tuple #[ag (enC (getE L f now)), .bool (getV L f now)]) [(bx gT 141 (fxc most m1 m2)), mp flM m1 L]) := by
  have l1 := f.src.len
  have l2 := f.dst.len
  have hwf : flM.wf f := hf
  unfold getE getV
  obtain ⟨a, ha⟩ : ∃ a, mget flM L f = a := ⟨_, rfl⟩
  have hget : flM.vc (mget flM L f) = ag (enC a) := by rw [ha]; rfl
  have l3 := a.ad.len
  rw [ha]
  cases hb : mhas L f with
  | false =>
    refine Triple.enter Try.func33 rfl Try.ntmps33 rfl (fun W => ?_)
    dsimp only [argsF, Nat.reduceAdd]
    repeat' (first
     | refine WPl.nil ?_ | refine WPq.then ?_ | refine WPq.thenR ?_ | refine WPq.thenE ?_ | refine WPq.blockN ?_ | refine WPq.blockR ?_ | refine WPq.blockE ?_ | refine WPq.blockO rfl ?_ | refine WPc.seq ?_ | refine WPc.block ?_ | refine WPc.ret ?_ | refine WPc.exit ?_ | refine WPc.skip ?_ | refine WPc.region ?_
     | (refine isReg 3 ?_; refine WPc.drA [([], [8, 18]), ([0], [8, 14, 18]), ([0, 1], [8, 14, 15, 18]), ([0, 1, 2], [8, 14, 15, 16, 18]), ([], [8, 14, 15, 16, 17]), ([0, 1, 2, 3, 4], [8, 14, 15, 16, 17, 18]), ([0, 1, 2, 3, 4, 5], [8, 14, 15, 16, 17, 18, 19]), ([0, 1, 2, 3, 4, 5, 6], [8, 13, 14, 15, 16, 17, 18, 19, 21]), ([0, 1, 2, 3, 4, 5, 6], [8, 13, 14, 15, 16, 17, 18, 19, 20]), ([], [13, 14, 15, 16, 17, 18, 19, 20, 21]), ([0, 1, 2, 3, 4, 5, 6, 7, 9], [8, 13, 14, 15, 16, 17, 18, 19, 20, 21]), ([0, 1, 2, 3, 4, 5, 6, 7, 8, 9, 10], [8, 13, 14, 15, 16, 17, 18, 19, 20, 21])] [(9, 10)] (Γx := []) ?_; dsimp only [prev0, List.length_nil, List.length_cons])
     | (refine gAny ?_; first | (refine gD 11 ?_; refine RGl.rdX (fun e hk => by (try dsimp only [bndR, ensR, oksR, fcutR, List.append_nil, List.nil_append, List.cons_append, List.append_assoc] at hk ⊢); exact readP) ?_) | (refine gD 19 ?_; refine RGl.rdX (fun e hk => by (try dsimp only [bndR, ensR, oksR, fcutR, List.append_nil, List.nil_append, List.cons_append, List.append_assoc] at hk ⊢); exact ReadR.lookOk (M := flM) (k := f) hwf rfl rfl memA hget hb) ?_) | (refine gOp ?_; first | refine RGl.rdA ?_ | refine RGl.rdX (fun e hk => by (try dsimp only [bndR, ensR, oksR, fcutR, List.append_nil, List.nil_append, List.cons_append, List.append_assoc] at hk ⊢); exact readB) ?_) | (refine gAl ?_; refine RGl.nwA ?_) | (refine gSt ?_; refine RGl.stA ?_) | (refine RGl.fin (fun e hk => ?_); (try dsimp only [bndA, ensAR, oksA, List.append_nil, List.nil_append, List.cons_append, List.append_assoc] at hk ⊢); (repeat (obtain ⟨hk1, hk⟩ := hk))) | fail)
     | (refine isCond ?_; first | refine WPc.cT ?_ | refine WPc.cF ?_ | (refine WPc.cQ (fun hc => ?_) (fun hc => ?_) <;> try exact prA))
     | (refine isD 11 ?_; refine WPl.rdX (readP) ?_)
     | (refine isD 19 ?_; refine WPl.rdX (ReadR.lookOk (M := flM) (k := f) hwf rfl rfl memA hget hb) ?_)
     | (refine isOp ?_; first | refine WPl.rd ?_ | refine WPl.sk ?_ | refine WPl.rdB ?_)
     | (refine isAl ?_; refine WPl.nw fun g => ?_)
     | (refine isBx ?_; refine WPl.nw fun g => ?_)
     | (refine isSt ?_; first | refine WPl.st1 ?_ | refine WPl.stA ?_ | refine WPl.stEB ?_ | refine WPl.stRB ?_)
     | (show WPl _ _ _ _ _ _ _ (⟨_, .indexAddr _ _ _, _, _, _, _⟩ :: _) _; refine WPl.rdX (ReadR.indexE rfl rfl hasA (by first | assumption | omega)) ?_)
     | (show WPl _ _ _ _ _ _ _ (⟨_, .fieldAddr _ _ _, _, _, _, _⟩ :: _) _; refine WPl.rdX (ReadR.fieldE rfl hasA (by first | assumption | omega)) ?_)
     | (show WPl _ _ _ _ _ _ _ (⟨_, .load _ _, _, _, _, _⟩ :: _) _; first | refine WPl.rdX (ReadR.loadE rfl hasA (by assumption)) ?_ | refine WPl.rdX (ReadR.loadES (by assumption) (by first | assumption | omega) rfl hasA) ?_)
     | (show WPl _ _ _ _ _ _ _ (⟨_, .slice _ _ _ _ _, _, _, _, _⟩ :: _) _; first | refine WPl.rdX (ReadR.sliceH rfl rfl hasA (by omega)) ?_ | refine WPl.rdX (ReadR.sliceL rfl rfl hasA (by omega)) ?_ | refine WPl.rdX (ReadR.sliceLH rfl rfl rfl hasA (by omega) (by omega)) ?_)
     | (refine WPl.spQ (fun hc => ?_) (fun hc => ?_) <;> try exact prA)
     | fail)
    exact WPq.dTp
  | true =>
    by_cases hn : a.til ≤ now
    · have e1 : (true && decide (now < a.til)) = false := by simpa using hn
      rw [e1]
      refine Triple.enter Try.func33 rfl Try.ntmps33 rfl (fun W => ?_)
      dsimp only [argsF, Nat.reduceAdd]
      repeat' (first
       | refine WPl.nil ?_ | refine WPq.then ?_ | refine WPq.thenR ?_ | refine WPq.thenE ?_ | refine WPq.blockN ?_ | refine WPq.blockR ?_ | refine WPq.blockE ?_ | refine WPq.blockO rfl ?_ | refine WPc.seq ?_ | refine WPc.block ?_ | refine WPc.ret ?_ | refine WPc.exit ?_ | refine WPc.skip ?_ | refine WPc.region ?_
       | (refine isReg 3 ?_; refine WPc.drA [([], [8, 18]), ([0], [8, 14, 18]), ([0, 1], [8, 14, 15, 18]), ([0, 1, 2], [8, 14, 15, 16, 18]), ([], [8, 14, 15, 16, 17]), ([0, 1, 2, 3, 4], [8, 14, 15, 16, 17, 18]), ([0, 1, 2, 3, 4, 5], [8, 14, 15, 16, 17, 18, 19]), ([0, 1, 2, 3, 4, 5, 6], [8, 13, 14, 15, 16, 17, 18, 19, 21]), ([0, 1, 2, 3, 4, 5, 6], [8, 13, 14, 15, 16, 17, 18, 19, 20]), ([], [13, 14, 15, 16, 17, 18, 19, 20, 21]), ([0, 1, 2, 3, 4, 5, 6, 7, 9], [8, 13, 14, 15, 16, 17, 18, 19, 20, 21]), ([0, 1, 2, 3, 4, 5, 6, 7, 8, 9, 10], [8, 13, 14, 15, 16, 17, 18, 19, 20, 21])] [(9, 10)] (Γx := []) ?_; dsimp only [prev0, List.length_nil, List.length_cons])
       | (refine gAny ?_; first | (refine gD 11 ?_; refine RGl.rdX (fun e hk => by (try dsimp only [bndR, ensR, oksR, fcutR, List.append_nil, List.nil_append, List.cons_append, List.append_assoc] at hk ⊢); exact readP) ?_) | (refine gD 19 ?_; refine RGl.rdX (fun e hk => by (try dsimp only [bndR, ensR, oksR, fcutR, List.append_nil, List.nil_append, List.cons_append, List.append_assoc] at hk ⊢); exact ReadR.lookOk (M := flM) (k := f) hwf rfl rfl memA hget hb) ?_) | (refine gD 28 ?_; refine RGl.rdX (fun e hk => by (try dsimp only [bndR, ensR, oksR, fcutR, List.append_nil, List.nil_append, List.cons_append, List.append_assoc] at hk ⊢); exact ReadR.binE rfl rfl BinR.leq (congrArg Value.bool (decide_eq_true hn))) ?_) | (refine gOp ?_; first | refine RGl.rdA ?_ | refine RGl.rdX (fun e hk => by (try dsimp only [bndR, ensR, oksR, fcutR, List.append_nil, List.nil_append, List.cons_append, List.append_assoc] at hk ⊢); exact readB) ?_) | (refine gAl ?_; refine RGl.nwA ?_) | (refine gSt ?_; refine RGl.stA ?_) | (refine RGl.fin (fun e hk => ?_); (try dsimp only [bndA, ensAR, oksA, List.append_nil, List.nil_append, List.cons_append, List.append_assoc] at hk ⊢); (repeat (obtain ⟨hk1, hk⟩ := hk))) | fail)
       | (refine isCond ?_; first | refine WPc.cT ?_ | refine WPc.cF ?_ | (refine WPc.cQ (fun hc => ?_) (fun hc => ?_) <;> try exact prA))
       | (refine isD 11 ?_; refine WPl.rdX (readP) ?_)
       | (refine isD 19 ?_; refine WPl.rdX (ReadR.lookOk (M := flM) (k := f) hwf rfl rfl memA hget hb) ?_)
       | (refine isD 28 ?_; refine WPl.rdX (ReadR.binE rfl rfl BinR.leq (congrArg Value.bool (decide_eq_true hn))) ?_)
       | (refine isOp ?_; first | refine WPl.rd ?_ | refine WPl.sk ?_ | refine WPl.rdB ?_)
       | (refine isAl ?_; refine WPl.nw fun g => ?_)
       | (refine isBx ?_; refine WPl.nw fun g => ?_)
       | (refine isSt ?_; first | refine WPl.st1 ?_ | refine WPl.stA ?_ | refine WPl.stEB ?_ | refine WPl.stRB ?_)
       | (show WPl _ _ _ _ _ _ _ (⟨_, .indexAddr _ _ _, _, _, _, _⟩ :: _) _; refine WPl.rdX (ReadR.indexE rfl rfl hasA (by first | assumption | omega)) ?_)
       | (show WPl _ _ _ _ _ _ _ (⟨_, .fieldAddr _ _ _, _, _, _, _⟩ :: _) _; refine WPl.rdX (ReadR.fieldE rfl hasA (by first | assumption | omega)) ?_)
       | (show WPl _ _ _ _ _ _ _ (⟨_, .load _ _, _, _, _, _⟩ :: _) _; first | refine WPl.rdX (ReadR.loadE rfl hasA (by assumption)) ?_ | refine WPl.rdX (ReadR.loadES (by assumption) (by first | assumption | omega) rfl hasA) ?_)
       | (show WPl _ _ _ _ _ _ _ (⟨_, .slice _ _ _ _ _, _, _, _, _⟩ :: _) _; first | refine WPl.rdX (ReadR.sliceH rfl rfl hasA (by omega)) ?_ | refine WPl.rdX (ReadR.sliceL rfl rfl hasA (by omega)) ?_ | refine WPl.rdX (ReadR.sliceLH rfl rfl rfl hasA (by omega) (by omega)) ?_)
       | (refine WPl.spQ (fun hc => ?_) (fun hc => ?_) <;> try exact prA)
       | fail)
      exact WPq.dTp
    · have e1 : (true && decide (now < a.til)) = true := by simpa using hn
      rw [e1]
      refine Triple.enter Try.func33 rfl Try.ntmps33 rfl (fun W => ?_)
      dsimp only [argsF, Nat.reduceAdd]
      repeat' (first
       | refine WPl.nil ?_ | refine WPq.then ?_ | refine WPq.thenR ?_ | refine WPq.thenE ?_ | refine WPq.blockN ?_ | refine WPq.blockR ?_ | refine WPq.blockE ?_ | refine WPq.blockO rfl ?_ | refine WPc.seq ?_ | refine WPc.block ?_ | refine WPc.ret ?_ | refine WPc.exit ?_ | refine WPc.skip ?_ | refine WPc.region ?_
       | (refine isReg 3 ?_; refine WPc.drA [([], [8, 18]), ([0], [8, 14, 18]), ([0, 1], [8, 14, 15, 18]), ([0, 1, 2], [8, 14, 15, 16, 18]), ([], [8, 14, 15, 16, 17]), ([0, 1, 2, 3, 4], [8, 14, 15, 16, 17, 18]), ([0, 1, 2, 3, 4, 5], [8, 14, 15, 16, 17, 18, 19]), ([0, 1, 2, 3, 4, 5, 6], [8, 13, 14, 15, 16, 17, 18, 19, 21]), ([0, 1, 2, 3, 4, 5, 6], [8, 13, 14, 15, 16, 17, 18, 19, 20]), ([], [13, 14, 15, 16, 17, 18, 19, 20, 21]), ([0, 1, 2, 3, 4, 5, 6, 7, 9], [8, 13, 14, 15, 16, 17, 18, 19, 20, 21]), ([0, 1, 2, 3, 4, 5, 6, 7, 8, 9, 10], [8, 13, 14, 15, 16, 17, 18, 19, 20, 21])] [(9, 10)] (Γx := []) ?_; dsimp only [prev0, List.length_nil, List.length_cons])
       | (refine gAny ?_; first | (refine gD 11 ?_; refine RGl.rdX (fun e hk => by (try dsimp only [bndR, ensR, oksR, fcutR, List.append_nil, List.nil_append, List.cons_append, List.append_assoc] at hk ⊢); exact readP) ?_) | (refine gD 19 ?_; refine RGl.rdX (fun e hk => by (try dsimp only [bndR, ensR, oksR, fcutR, List.append_nil, List.nil_append, List.cons_append, List.append_assoc] at hk ⊢); exact ReadR.lookOk (M := flM) (k := f) hwf rfl rfl memA hget hb) ?_) | (refine gD 28 ?_; refine RGl.rdX (fun e hk => by (try dsimp only [bndR, ensR, oksR, fcutR, List.append_nil, List.nil_append, List.cons_append, List.append_assoc] at hk ⊢); exact ReadR.binE rfl rfl BinR.leq (congrArg Value.bool (decide_eq_false hn))) ?_) | (refine gOp ?_; first | refine RGl.rdA ?_ | refine RGl.rdX (fun e hk => by (try dsimp only [bndR, ensR, oksR, fcutR, List.append_nil, List.nil_append, List.cons_append, List.append_assoc] at hk ⊢); exact readB) ?_) | (refine gAl ?_; refine RGl.nwA ?_) | (refine gSt ?_; refine RGl.stA ?_) | (refine RGl.fin (fun e hk => ?_); (try dsimp only [bndA, ensAR, oksA, List.append_nil, List.nil_append, List.cons_append, List.append_assoc] at hk ⊢); (repeat (obtain ⟨hk1, hk⟩ := hk))) | fail)
       | (refine isCond ?_; first | refine WPc.cT ?_ | refine WPc.cF ?_ | (refine WPc.cQ (fun hc => ?_) (fun hc => ?_) <;> try exact prA))
       | (refine isD 11 ?_; refine WPl.rdX (readP) ?_)
       | (refine isD 19 ?_; refine WPl.rdX (ReadR.lookOk (M := flM) (k := f) hwf rfl rfl memA hget hb) ?_)
       | (refine isD 28 ?_; refine WPl.rdX (ReadR.binE rfl rfl BinR.leq (congrArg Value.bool (decide_eq_false hn))) ?_)
       | (refine isOp ?_; first | refine WPl.rd ?_ | refine WPl.sk ?_ | refine WPl.rdB ?_)
       | (refine isAl ?_; refine WPl.nw fun g => ?_)
       | (refine isBx ?_; refine WPl.nw fun g => ?_)
       | (refine isSt ?_; first | refine WPl.st1 ?_ | refine WPl.stA ?_ | refine WPl.stEB ?_ | refine WPl.stRB ?_)
       | (show WPl _ _ _ _ _ _ _ (⟨_, .indexAddr _ _ _, _, _, _, _⟩ :: _) _; refine WPl.rdX (ReadR.indexE rfl rfl hasA (by first | assumption | omega)) ?_)
       | (show WPl _ _ _ _ _ _ _ (⟨_, .fieldAddr _ _ _, _, _, _, _⟩ :: _) _; refine WPl.rdX (ReadR.fieldE rfl hasA (by first | assumption | omega)) ?_)
       | (show WPl _ _ _ _ _ _ _ (⟨_, .load _ _, _, _, _, _⟩ :: _) _; first | refine WPl.rdX (ReadR.loadE rfl hasA (by assumption)) ?_ | refine WPl.rdX (ReadR.loadES (by assumption) (by first | assumption | omega) rfl hasA) ?_)
       | (show WPl _ _ _ _ _ _ _ (⟨_, .slice _ _ _ _ _, _, _, _, _⟩ :: _) _; first | refine WPl.rdX (ReadR.sliceH rfl rfl hasA (by omega)) ?_ | refine WPl.rdX (ReadR.sliceL rfl rfl hasA (by omega)) ?_ | refine WPl.rdX (ReadR.sliceLH rfl rfl rfl hasA (by omega) (by omega)) ?_)
       | (refine WPl.spQ (fun hc => ?_) (fun hc => ?_) <;> try exact prA)
       | fail)
      exact WPq.dTp
end
end Go.Proofs.Ytncgponcedkihaa
