/- What is done to a device; rows that are only read, many at once. -/
import Derived.Test.YtepmikgjnmjheaaDl
namespace Go.Proofs.Ytepmikgjnmjheaa
open Go.RowKit
set_option linter.unusedSimpArgs false
set_option linter.unusedVariables false
structure DA where
  k : Int
  s : Int
  a : Int
  b : UInt8
  lv : Value
  l : List Int
abbrev daC (x : DA) : Ch := [(1, [.int .i64 x.k]), (1, [.int .i64 x.s]), (1, [.int .i64 x.a]), (1, [.int .u8 ((x.b.toNat : Nat) : Int)]), (1, [x.lv])]
def daW (x : DA) : Prop := in64 x.k ∧ in64 x.s ∧ in64 x.a ∧ (∀ y ∈ x.l, in64 y) ∧ x.lv.oneCell' = true
theorem daC_ok {x : DA} (h : x.lv.oneCell' = true) : FOk (daC x) := .one1 rfl (.one1 rfl (.one1 rfl (.one1 rfl (.one1 h .nil))))
def das (l : List DA) : List Value := (l.map fun x => flat (daC x)).flatten
theorem daC_len (x : DA) : (flat (daC x)).length = 5 := rfl
theorem das_len {l : List DA} : (das l).length = l.length * 5 := rows_len daC_len
theorem das_at {l : List DA} {i : Nat} {x : DA} (h : l[i]? = some x) : ((das l).drop (i * 5)).take 5 = flat (daC x) := rows_drop daC_len h
/-- Rows that are only read. -/
def rds (rs : List (Value × List Value)) : Asn where
  own := false
  fp := fun g => ∃ r ∈ rs, (rdN r.1 r.2.length r.2).fp g
  holds := fun w => ∀ r ∈ rs, (rdN r.1 r.2.length r.2).holds w
  lt := fun w h g hg => by
    obtain ⟨r, hr, hg⟩ := hg
    exact (rdN r.1 r.2.length r.2).lt w (h r hr) g hg
  loc := fun w w' h hl r hr => (rdN r.1 r.2.length r.2).loc w w' (h r hr) fun g hg => hl g ⟨r, hr, hg⟩
theorem rds_own {rs : List (Value × List Value)} : (rds rs).own = false := rfl
theorem HasS.rds {Γ : List Asn} {rs : List (Value × List Value)} {v : Value} {xs : List Value} (h : Go.Proofs.Ytepmikgjnmjheaa.rds rs ∈ Γ) (hr : (v, xs) ∈ rs) : HasS Γ v xs.length xs := fun w hw => hw _ h _ hr
def dals (l : List DA) : List (Value × List Value) := l.map fun x => (x.lv, intsV x.l)
theorem dals_mem {l : List DA} {i : Nat} {x : DA} (h : l[i]? = some x) : (x.lv, intsV x.l) ∈ dals l := List.mem_map.2 ⟨x, List.mem_of_getElem? h, rfl⟩
end Go.Proofs.Ytepmikgjnmjheaa
