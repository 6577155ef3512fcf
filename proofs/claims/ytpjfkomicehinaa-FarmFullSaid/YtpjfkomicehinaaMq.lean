/- Separation: pointers compared with nil, calls that turn several blocks, fields of structs that are values. -/
import Derived.Test.YtpjfkomicehinaaMp
namespace Go.Proofs.Ytpjfkomicehinaa
open Go.RowKit
set_option linter.unusedSimpArgs false
set_option linter.unusedVariables false

section
variable {P : Program} {n : Nat} {W : World} {S : Nat → Prop} {Γ : List Asn} {F : List (Nat × Value)} {Q : Exit → Act → World → Prop} {ops : Array Oper} {os : List Oper}
variable {d : Option Tmp} {ty : TypeId} {pos : String} {af : Array Edge} {gd : Option (Nat × Bool)} {T t2 : TypeId} {x y : Operand} {a : Addr}
theorem BinR.ptrE {p : Option Addr} (hT : P.underlying T = some (.pointer (P.pointee T))) : BinR P .eql T (.pointer p) (.pointer none) (.bool p.isNone) := fun X Y w => by
  rw [Sem.run_bind, show (eqGuard .eql T X Y (.pointer p) (.pointer none)).run P w = .ok () w by simp [eqGuard], Result.andThen_ok, run_eql_pointer_nil w T p hT]
theorem BinR.ptrN {p : Option Addr} (hT : P.underlying T = some (.pointer (P.pointee T))) : BinR P .neq T (.pointer p) (.pointer none) (.bool (!p.isNone)) := fun X Y w => by
  rw [Sem.run_bind, show (eqGuard .neq T X Y (.pointer p) (.pointer none)).run P w = .ok () w by simp [eqGuard], Result.andThen_ok, run_neq_pointer_nil w T p hT]
theorem ReadR.pE0 (hx : evF F x = some (.pointer none)) (hy : evF F y = some (.pointer none)) (hT : P.underlying T = some (.pointer (P.pointee T))) : ReadR P n Γ F ⟨d, .binOp .eql T x y t2, ty, pos, af, gd⟩ (.bool true) := ReadR.bin hx hy (BinR.ptrE hT)
theorem ReadR.pE1 (hx : evF F x = some (.pointer (some a))) (hy : evF F y = some (.pointer none)) (hT : P.underlying T = some (.pointer (P.pointee T))) : ReadR P n Γ F ⟨d, .binOp .eql T x y t2, ty, pos, af, gd⟩ (.bool false) := ReadR.bin hx hy (BinR.ptrE hT)
theorem ReadR.pN0 (hx : evF F x = some (.pointer none)) (hy : evF F y = some (.pointer none)) (hT : P.underlying T = some (.pointer (P.pointee T))) : ReadR P n Γ F ⟨d, .binOp .neq T x y t2, ty, pos, af, gd⟩ (.bool false) := ReadR.bin hx hy (BinR.ptrN hT)
theorem ReadR.pN1 (hx : evF F x = some (.pointer (some a))) (hy : evF F y = some (.pointer none)) (hT : P.underlying T = some (.pointer (P.pointee T))) : ReadR P n Γ F ⟨d, .binOp .neq T x y t2, ty, pos, af, gd⟩ (.bool true) := ReadR.bin hx hy (BinR.ptrN hT)
theorem readP {o : Oper} {v : Value} (h : ReadR P n Γ F o v := by first | exact ReadR.pE0 rfl rfl (by kernel_rfl) | exact ReadR.pE1 rfl rfl (by kernel_rfl) | exact ReadR.pN0 rfl rfl (by kernel_rfl) | exact ReadR.pN1 rfl rfl (by kernel_rfl) | fail) : ReadR P n Γ F o v := h

/-- It gives this value, and leaves these. -/
def RTurns (c : Value) (Γ1 : List Asn) : Value → List Asn → Prop := fun v Γ => v = c ∧ Γ = Γ1
theorem WPl.cTs {d : Option Tmp} {f : FuncId} {xs : List Operand} {ts : Array TypeId} {vs : List Value} {Γo Γf Γ1 : List Asn} {c : Value}
    (h : Triple P f vs.toArray Γo (RTurns c Γ1)) (k : WPl P n W S (Γ1 ++ Γf) (putF F d c) ops os Q) (hx : evFs F xs vs := by first | exact evsA | fail) (hp : Takes Γ Γo Γf := by first | exact takesA | fail) (hc : isCode P f = true := by first | kernel_rfl | fail) (hd : dstOk n d = true := by first | rfl | fail) (hw : wantG F ops gd = some true := by first | rfl | fail) :
    WPl P n W S Γ F ops (⟨d, .call { callee := .value (.func f), args := xs.toArray, argTypes := ts }, ty, pos, af, gd⟩ :: os) Q :=
  WPl.callO (Δ := []) h hx hp .nil fpNil hc hd hw (by rintro v Γ' ⟨rfl, rfl⟩; exact k)
/-- A call of which what it leaves is told. -/
theorem WPl.cXs {d : Option Tmp} {f : FuncId} {xs : List Operand} {ts : Array TypeId} {vs : List Value} {Γo Γf : List Asn} {R : Value → List Asn → Prop}
    (h : Triple P f vs.toArray Γo R) (k : ∀ v Γ', R v Γ' → WPl P n W S (Γ' ++ Γf) (putF F d v) ops os Q) (hx : evFs F xs vs := by first | exact evsA | fail) (hp : Takes Γ Γo Γf := by first | exact takesA | fail) (hc : isCode P f = true := by first | kernel_rfl | fail) (hd : dstOk n d = true := by first | rfl | fail) (hw : wantG F ops gd = some true := by first | rfl | fail) :
    WPl P n W S Γ F ops (⟨d, .call { callee := .value (.func f), args := xs.toArray, argTypes := ts }, ty, pos, af, gd⟩ :: os) Q :=
  WPl.callO (Δ := []) h hx hp .nil fpNil hc hd hw k
theorem ownsA {Γ : List Asn} (h : ∀ A, A ∈ Γ → A.own = true := by ((repeat' (first | exact own_nil | refine own_cons (by first | exact bx_own | exact rowN_own | exact mp_own | exact rfl) ?_ | fail)) <;> fail)) : ∀ A, A ∈ Γ → A.own = true := h
theorem WPq.dTs {fn : Func} {rs : List ResultVar} {vs : List Value} {c : Value} {Γ1 Γx : List Asn} {e : Exit} (he : e = .ret ∨ e = .normal := by first | exact .inl rfl | exact .inr rfl | fail) (hr : fn.results = rs.toArray := by first | rfl | fail) (h : ResF P Γ F rs vs := by first | exact resA | fail) (hp : Takes Γ Γ1 Γx := by first | exact takesA | fail) (hc : resV vs = c := by first | rfl | fail) (ho : ∀ A, A ∈ Γ1 → A.own = true := by first | exact ownsA | fail) :
    WPq n W S Γ F (Done P fn W S (RTurns c Γ1)) e := WPq.done he hr h hp ho ⟨hc, rfl⟩
end
/-! ### Several assertions of one's own as one -/
def star (Γ : List Asn) : Asn where
  own := true
  fp := fun g => ∃ A, A ∈ Γ ∧ A.fp g
  holds := fun w => Holds Γ w ∧ Γ.Pairwise Apart
  lt := fun w h g hg => by
    obtain ⟨A, hA, hg⟩ := hg
    exact A.lt w (h.1 A hA) g hg
  loc := fun w w' h hl => ⟨fun A hA => A.loc w w' (h.1 A hA) fun g hg => hl g ⟨A, hA, hg⟩, h.2⟩
theorem star_own {Γ : List Asn} : (star Γ).own = true := rfl
theorem star_holds {Δ Γ : List Asn} {w : World} (h : Holds (Δ ++ [star Γ]) w) : Holds (Δ ++ Γ) w := fun A hA => by
  rcases List.mem_append.1 hA with hA | hA
  · exact h A (List.mem_append_left _ hA)
  · exact (h (star Γ) (List.mem_append_right _ (List.mem_singleton.2 rfl))).1 A hA
theorem star_apart {Δ Γ : List Asn} {w : World} (h : Holds (Δ ++ [star Γ]) w) (ha : (Δ ++ [star Γ]).Pairwise Apart) : (Δ ++ Γ).Pairwise Apart := by
  obtain ⟨h1, h2, h3⟩ := List.pairwise_append.1 ha
  refine List.pairwise_append.2 ⟨h1, (h (star Γ) (List.mem_append_right _ (List.mem_singleton.2 rfl))).2, fun A hA B hB ho g hg hg' => ?_⟩
  exact h3 A hA (star Γ) (List.mem_singleton.2 rfl) (.inr rfl) g hg ⟨B, hB, hg'⟩
theorem star_fp {Δ Γ : List Asn} (ho : ∀ A, A ∈ Γ → A.own = true) {g : Nat} : ownFp (Δ ++ [star Γ]) g ↔ ownFp (Δ ++ Γ) g := by
  constructor
  · rintro ⟨A, hA, h1, h2⟩
    rcases List.mem_append.1 hA with hA | hA
    · exact ⟨A, List.mem_append_left _ hA, h1, h2⟩
    · rw [List.mem_singleton.1 hA] at h2
      obtain ⟨B, hB, h3⟩ := h2
      exact ⟨B, List.mem_append_right _ hB, ho B hB, h3⟩
  · rintro ⟨A, hA, h1, h2⟩
    rcases List.mem_append.1 hA with hA | hA
    · exact ⟨A, List.mem_append_left _ hA, h1, h2⟩
    · exact ⟨star Γ, List.mem_append_right _ (List.mem_singleton.2 rfl), rfl, A, hA, h2⟩
theorem Post.weakT {T T' : Nat → Prop} {w w' : World} {Γ : List Asn} (h : Post T w Γ w') (ht : ∀ g, T g → T' g) : Post T' w Γ w' :=
  ⟨h.mod.weaken fun g _ hg => ht g hg, h.all, h.apart, fun A hA g hg => (h.new A hA g hg).imp id (ht g)⟩
theorem Post.star {T : Nat → Prop} {w w' : World} {Δ Γ : List Asn} (ho : ∀ A, A ∈ Γ → A.own = true) (h : Post T w (Δ ++ Γ) w') : Post T w (Δ ++ [Go.Proofs.Ytpjfkomicehinaa.star Γ]) w' := by
  obtain ⟨h1, h2, h3⟩ := List.pairwise_append.1 h.apart
  refine ⟨h.mod, fun A hA => ?_, List.pairwise_append.2 ⟨h1, List.pairwise_singleton _ _, fun A hA B hB hor g hg hg' => ?_⟩, fun A hA g hg => ?_⟩
  · rcases List.mem_append.1 hA with hA | hA
    · exact h.all A (List.mem_append_left _ hA)
    · rw [List.mem_singleton.1 hA]
      exact ⟨fun B hB => h.all B (List.mem_append_right _ hB), h2⟩
  · rw [List.mem_singleton.1 hB] at hg'
    obtain ⟨C, hC, hg'⟩ := hg'
    exact h3 A hA C hC (.inr (ho C hC)) g hg hg'
  · rcases List.mem_append.1 hA with hA | hA
    · exact h.new A (List.mem_append_left _ hA) g hg
    · rw [List.mem_singleton.1 hA] at hg
      obtain ⟨C, hC, hg⟩ := hg
      exact h.new C (List.mem_append_right _ hC) g hg
/-- A contract whose state is told as one. -/
theorem Triple.star {P : Program} {f : FuncId} {args : Array Value} {Δ Γ : List Asn} {R R' : Value → List Asn → Prop} (h : Triple P f args (Δ ++ Γ) R) (ho : ∀ A, A ∈ Γ → A.own = true)
    (hR : ∀ v Γ', R v Γ' → ∃ Δ1 Γ1, Γ' = Δ1 ++ Γ1 ∧ (∀ A, A ∈ Γ1 → A.own = true) ∧ R' v (Δ1 ++ [Go.Proofs.Ytpjfkomicehinaa.star Γ1])) : Triple P f args (Δ ++ [Go.Proofs.Ytpjfkomicehinaa.star Γ]) R' := fun w hw ha =>
  (h w (star_holds hw) (star_apart hw ha)).mono fun _ _ ⟨v, Γ', he, r, p⟩ => by
    obtain ⟨Δ1, Γ1, rfl, h1, h2⟩ := hR v Γ' r
    exact ⟨v, _, he, h2, (Post.star h1 p).weakT fun g hg => (star_fp ho).2 hg⟩
theorem Triple.starO {P : Program} {f : FuncId} {args : Array Value} {Δ : List Asn} {R R' : Value → List Asn → Prop} (h : Triple P f args Δ R)
    (hR : ∀ v Γ', R v Γ' → ∃ Δ1 Γ1, Γ' = Δ1 ++ Γ1 ∧ (∀ A, A ∈ Γ1 → A.own = true) ∧ R' v (Δ1 ++ [Go.Proofs.Ytpjfkomicehinaa.star Γ1])) : Triple P f args Δ R' := fun w hw ha =>
  (h w hw ha).mono fun _ _ ⟨v, Γ', he, r, p⟩ => by
    obtain ⟨Δ1, Γ1, rfl, h1, h2⟩ := hR v Γ' r
    exact ⟨v, _, he, h2, Post.star h1 p⟩
theorem Triple.starT {P : Program} {f : FuncId} {args : Array Value} {Δ Γ Γ1 : List Asn} {c : Value} (h : Triple P f args (Δ ++ Γ) (RTurns c Γ1)) (ho : ∀ A, A ∈ Γ → A.own = true) (ho1 : ∀ A, A ∈ Γ1 → A.own = true) : Triple P f args (Δ ++ [Go.Proofs.Ytpjfkomicehinaa.star Γ]) (RTurn c (Go.Proofs.Ytpjfkomicehinaa.star Γ1)) :=
  h.star ho fun v Γ' ⟨h1, h2⟩ => ⟨[], Γ1, by rw [h2]; rfl, ho1, h1, rfl⟩
/-- The frame of a contract. -/
theorem Triple.frameT {P : Program} {f : FuncId} {args : Array Value} {Γ Γf : List Asn} {R : Value → List Asn → Prop} (h : Triple P f args Γ R) (ho : ∀ A, A ∈ Γf → A.own = true) : Triple P f args (Γ ++ Γf) (fun v Γ' => ∃ Γ1, R v Γ1 ∧ Γ' = Γ1 ++ Γf) := fun w hw ha => by
  have hG : Good w (ownFp (Γ ++ Γf)) (Γ ++ Γf) w := ⟨Mod.refl _ _, hw, ha, fun A hA h1 g hg => .inr ⟨A, hA, h1, hg⟩⟩
  refine (h w (fun A hA => hw A (List.mem_append_left _ hA)) (List.pairwise_append.1 ha).1).mono fun e w' ⟨v, Γ', he, hR, hp⟩ => ?_
  have hS := hG.step hp
  refine ⟨v, _, he, ⟨Γ', hR, rfl⟩, hS.mod, hS.all, hS.apart, fun A hA g hg => ?_⟩
  rcases List.mem_append.1 hA with h1 | h1
  · rcases hp.new A h1 g hg with h2 | ⟨B, hB, h3, h4⟩
    · exact .inl h2
    · exact .inr ⟨B, List.mem_append_left _ hB, h3, h4⟩
  · exact .inr ⟨A, List.mem_append_right _ h1, ho A h1, hg⟩
theorem Triple.permT {P : Program} {f : FuncId} {args : Array Value} {Γ Γ' : List Asn} {R : Value → List Asn → Prop} (h : Triple P f args Γ R) (hp : Γ'.Perm Γ) : Triple P f args Γ' R := fun w hw ha =>
  (h w (fun A hA => hw A (hp.mem_iff.2 hA)) (apart_perm hp ha)).mono fun _ _ ⟨v, Γ1, he, r, p⟩ =>
    ⟨v, Γ1, he, r, p.weakT fun g ⟨A, hA, h1, h2⟩ => ⟨A, hp.mem_iff.2 hA, h1, h2⟩⟩
/-- A field of a struct that is a value. -/
def fieldD (P : Program) (T : TypeId) (k : Nat) : Option (Nat × Option Bool) := match P.underlying T with | some (.struct fs) => (fs[k]?).map fun f => (f.offset, (P.underlying f.type).map aggB) | _ => none
theorem ReadR.fieldN {P : Program} {n : Nat} {Γ : List Asn} {F : List (Nat × Value)} {d : Option Tmp} {ty : TypeId} {pos : String} {af : Array Edge} {gd : Option (Nat × Bool)} {T : TypeId} {k off : Nat} {x : Operand} {cs : Ch} {v : Value}
    (hx : evF F x = some (ag cs)) (hd : fieldD P T k = some (off, some false)) (hv : (flat cs)[off]? = some v) : ReadR P n Γ F ⟨d, .field T x k, ty, pos, af, gd⟩ v := by
  unfold ReadR
  intro ρ w hf hw
  unfold fieldD at hd
  cases hu : P.underlying T with
  | none => rw [hu] at hd; cases hd
  | some dd =>
    rw [hu] at hd
    cases dd with
    | struct fs =>
      simp only at hd
      cases hk : fs[k]? with
      | none => rw [hk] at hd; cases hd
      | some f =>
        rw [hk] at hd
        simp only [Option.map_some, Option.some.injEq, Prod.mk.injEq] at hd
        obtain ⟨rfl, h2⟩ := hd
        cases hf2 : P.underlying f.type with
        | none => rw [hf2] at h2; cases h2
        | some d2 =>
          rw [hf2] at h2
          simp only [Option.map_some, Option.some.injEq] at h2
          have h3 : (flat cs).toArray[f.offset]? = some v := by simpa using hv
          have hp : (part f.type (flat cs).toArray f.offset).run P w = .ok v w := by
            unfold part
            rw [Sem.run_bind, run_isAggT hf2, Result.andThen_ok, h2]
            simp only [Bool.false_eq_true, if_false, h3]
            rfl
          have he := hf.eval hx
          unfold ag at he
          simp [execOp, he, Instr.field, run_underlying hu, hk, Sem.run_bind, asAgg, hp]
    | _ => cases hd
end Go.Proofs.Ytpjfkomicehinaa
