/- Layer 33 (bucket): what it holds: clients in order, linked; plain facts. -/
import Derived.Test.YtncgponcedkihaaPx
namespace Go.Proofs.Ytncgponcedkihaa
open Go.RowKit
set_option linter.unusedSimpArgs false
set_option linter.unusedVariables false

def ptrO : Option Nat → Value
  | none => .pointer none
  | some g => .pointer (some ⟨g, 0, none⟩)
theorem ptrO_one {e : Option Nat} : (ptrO e).oneCell' = true := by cases e <;> rfl
theorem ptrO_inj {a b : Option Nat} (h : ptrO a = ptrO b) : a = b := by
  cases a <;> cases b <;> simp [ptrO] at h ⊢
  exact h
def prM : MK Pf (Option Nat) := ⟨fun p => ag (pfc p), ptrO, none, fun p => in64 p.2⟩
instance prI : MapI Try.prog 126 prM :=
  mapI_of (kT := 34) (eT := 127) (ks := pfK) pfc (fun _ => rfl) (by kernel_rfl) (have h : EqI Try.prog 34 _ := inferInstance; h) (by kernel_rfl) (by kernel_rfl) (by kernel_rfl) (by kernel_rfl) (of_decide_eq_true (by kernel_rfl)) (by kernel_rfl) (by kernel_rfl)
    (fun p hp => ⟨pf_shp p, fun v hv => by
      rw [pf_flat, List.mem_cons, List.mem_append, List.mem_singleton] at hv
      rcases hv with rfl | hv | rfl
      · trivial
      · exact inR_u8 v hv
      · exact in64_wf hp⟩) (by kernel_rfl) (fun a b h => pf_inj h)

/-- A client's tokens at a time. -/
structure Cl where
  p : Pf
  tok : Int
  at' : Int
abbrev Nd := Nat × Cl
abbrev clc (c : Cl) (y e : Option Nat) : Ch := [(1, [.bool c.p.1.six]), (16, u8s c.p.1.b), (1, [.int .i64 c.p.2]), (1, [.int .i64 c.tok]), (1, [.int .u64 c.at']), (1, [ptrO y]), (1, [ptrO e])]
def hdO (nx : Option Nat) : List Nd → Option Nat
  | [] => nx
  | c :: _ => some c.1
def lsO (pv : Option Nat) : List Nd → Option Nat
  | [] => pv
  | c :: r => lsO (some c.1) r
def lnk (f : Nat → Option Ch) : Option Nat → List Nd → Option Nat → Prop
  | _, [], _ => True
  | pv, c :: r, nx => f c.1 = some (clc c.2 pv (hdO nx r)) ∧ lnk f (some c.1) r nx
theorem hdO_append {nx : Option Nat} {A B : List Nd} : hdO nx (A ++ B) = hdO (hdO nx B) A := by cases A <;> rfl
theorem lsO_append {pv : Option Nat} {A B : List Nd} : lsO pv (A ++ B) = lsO (lsO pv A) B := by
  induction A generalizing pv with
  | nil => rfl
  | cons c A ih => exact ih
theorem lnk_append {f : Nat → Option Ch} {pv nx : Option Nat} {A B : List Nd} : lnk f pv (A ++ B) nx ↔ lnk f pv A (hdO nx B) ∧ lnk f (lsO pv A) B nx := by
  induction A generalizing pv with
  | nil => exact ⟨fun h => ⟨trivial, h⟩, fun h => h.2⟩
  | cons c A ih =>
    show (f c.1 = some (clc c.2 pv (hdO nx (A ++ B))) ∧ lnk f (some c.1) (A ++ B) nx) ↔ _
    rw [ih, hdO_append]
    exact ⟨fun ⟨h1, h2, h3⟩ => ⟨⟨h1, h2⟩, h3⟩, fun ⟨⟨h1, h2⟩, h3⟩ => ⟨h1, h2, h3⟩⟩
theorem lnk_frame {f f' : Nat → Option Ch} {pv nx : Option Nat} {A : List Nd} (h : ∀ c ∈ A, f' c.1 = f c.1) (k : lnk f pv A nx) : lnk f' pv A nx := by
  induction A generalizing pv with
  | nil => trivial
  | cons c A ih => exact ⟨by rw [h c (List.mem_cons_self ..)]; exact k.1, ih (fun d hd => h d (List.mem_cons_of_mem _ hd)) k.2⟩
theorem lnk_set {f : Nat → Option Ch} {pv nx : Option Nat} {A : List Nd} {g : Nat} {cs : Ch} (h : ∀ c ∈ A, c.1 ≠ g) (k : lnk f pv A nx) : lnk (fset f g cs) pv A nx := lnk_frame (fun c hc => fset_ne (h c hc)) k
theorem lnk_mem {f : Nat → Option Ch} {pv nx : Option Nat} {A : List Nd} {c : Nd} (hc : c ∈ A) (k : lnk f pv A nx) : ∃ y e, f c.1 = some (clc c.2 y e) := by
  induction A generalizing pv with
  | nil => cases hc
  | cons d A ih =>
    rcases List.mem_cons.1 hc with rfl | hc
    · exact ⟨_, _, k.1⟩
    · exact ih hc k.2
/-- The last one. -/
theorem snoc_of {A : List Nd} (h : A ≠ []) : ∃ A' a, A = A' ++ [a] := ⟨A.dropLast, A.getLast h, (List.dropLast_concat_getLast h).symm⟩
theorem lsO_snoc {pv : Option Nat} {A : List Nd} {a : Nd} : lsO pv (A ++ [a]) = some a.1 := by rw [lsO_append]; rfl

/-! ### What is told -/
def full (per burst : Int) (c : Cl) (now : Int) : Int := if now ≤ c.at' ∨ per = 0 then c.tok else min burst (c.tok + (now - c.at') * per)
def keptD (burst : Int) (clients : Nat) (D : List Cl) (p : Pf) (now : Int) : Cl × List Cl :=
  match D.find? (fun c => decide (c.p = p)) with
  | some c => (c, D.eraseP (fun c => decide (c.p = p)))
  | none => (⟨p, burst, now⟩, if clients ≤ D.length then D.dropLast else D)
def takeD (per burst : Int) (clients : Nat) (D : List Cl) (p : Pf) (n now : Int) : List Cl × Bool :=
  let k := keptD burst clients D p now
  let t := full per burst k.1 now
  (⟨k.1.p, if 0 ≤ n ∧ n ≤ t then t - n else t, max k.1.at' now⟩ :: k.2, decide (0 ≤ n ∧ n ≤ t))
def hasD (per burst : Int) (D : List Cl) (p : Pf) (now : Int) : Int :=
  match D.find? (fun c => decide (c.p = p)) with
  | some c => full per burst c now
  | none => burst
theorem full_le {per burst : Int} {c : Cl} {now : Int} (h1 : 0 ≤ c.tok) (h2 : c.tok ≤ burst) (hp : 0 ≤ per) : 0 ≤ full per burst c now ∧ full per burst c now ≤ burst := by
  unfold full
  split
  · exact ⟨h1, h2⟩
  · rename_i h
    have : 0 ≤ (now - c.at') * per := Int.mul_nonneg (by omega) hp
    omega
/-- What stands in the buckets. -/
structure BkI (burst : Int) (clients : Nat) (L : List Nd) (M : List (Pf × Option Nat)) (f : Nat → Option Ch) : Prop where
  nod : L.Pairwise (fun a b => a.1 ≠ b.1)
  lk : lnk f none L none
  key : ∀ p v, mfind M p = some v ↔ ∃ c ∈ L, c.2.p = p ∧ v = some c.1
  len : M.length = L.length
  keys : L.Pairwise (fun a b => a.2.p ≠ b.2.p)
  ok : ∀ c ∈ L, in64 c.2.p.2 ∧ 0 ≤ c.2.tok ∧ c.2.tok ≤ burst ∧ 0 ≤ c.2.at' ∧ c.2.at' < 18446744073709551616
  few : L.length ≤ clients
  mkn : (M.map (·.1)).Nodup
theorem ne_of_pw {L : List Nd} {A B : List Nd} {c : Nd} (h : L.Pairwise (fun a b => a.1 ≠ b.1)) (e : L = A ++ c :: B) : (∀ x ∈ A, x.1 ≠ c.1) ∧ (∀ x ∈ B, x.1 ≠ c.1) ∧ (A ++ B).Pairwise (fun a b => a.1 ≠ b.1) := by
  subst e
  obtain ⟨h1, h2, h3⟩ := List.pairwise_append.1 h
  rw [List.pairwise_cons] at h2
  exact ⟨fun x hx => h3 x hx c (List.mem_cons_self ..), fun x hx => (h2.1 x hx).symm, List.pairwise_append.2 ⟨h1, h2.2, fun x hx y hy => h3 x hx y (List.mem_cons_of_mem _ hy)⟩⟩
end Go.Proofs.Ytncgponcedkihaa
