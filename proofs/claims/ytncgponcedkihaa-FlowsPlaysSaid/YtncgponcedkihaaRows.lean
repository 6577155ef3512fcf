/-
  No cell of these rows narrows 'for every input' (looked for: loops, veiled, ifaces, maps, wideKeys, modest, calm, conditions, laid).
  DERIVED. THE GIVEN ROWS OF THIS SEAT. 12 by the template 'for every input the law returns true; each argument reads behind the call as it read before'; 0 by the template 'total and deterministic' (their statements: YtncgponcedkihaaTotals.lean).
  GIVEN WITH THE SEED: the statements are not yours to turn. If you find one false, say at which input.
  Laid BY PROGRAM, IN A SANDBOX (cutbox-rows.mjs): the forced cells as the released guide's own fill.sh prints them over the translation b8c830b37591f489… (all of the seat's roots in one cut). By AI agents, Wed Nov 11 2026. No macro, syntax, notation, axiom, sorry.
-/
import Derived.Test.YtncgponcedkihaaChecked
import GoSem.Claim
import GoSem.ClaimJoined
import GoSem.ClaimMapViews
import Derived.JoinedTies
import Derived.KernelRfl
namespace Go.Proofs.Ytncgponcedkihaa
/- THE CELL 'sum', in the pinned program and in every row, IS THE sha256 OF THE DUMP (.gsa) THAT YtncgponcedkihaaProg.lean LOADS. Nothing in Lean hashes anything: it is a label: what it is worth is what the hold of that sum in a sandbox is worth. -/
noncomputable def Try.pinned : Pinned := { name := "ytncgponcedkihaa", sum := "b8c830b37591f4899dd0d11185ce913380bcebb93ddda19bd98a500969ed7251", checked := Try.checked }
namespace Rows
def none {H : Type} : Left H := { results := [], args := [] }

/-- 'stanchionlaw33.BucketBound': WHATEVER THE INPUT: true; the input reads as it did. -/
def bucketBoundSpec : ChangeSpec := { name := "bucketBound", fn := fun _ => fun
  | [d1, d2, d3] => { results := [.lit (.bool true)], args := [d1, d2, d3] }
  | _ => none }
def bucketBoundRow : OpenClaim := { program := "ytncgponcedkihaa", sum := "b8c830b37591f4899dd0d11185ce913380bcebb93ddda19bd98a500969ed7251", func := "stanchion/stanchionlaw33.BucketBound", spec := "bucketBound", plainKeys := false, apart := false }
def BucketBoundSaid : Prop := bucketBoundRow.holds Try.pinned (OpenSpec.ofChange bucketBoundSpec)

/-- ITS FALSE NEIGHBOUR: 'it returns false'. Refute it at one input. -/
def bucketBoundWrong : ChangeSpec := { name := "bucketBound", fn := fun _ => fun
  | [d1, d2, d3] => { results := [.lit (.bool false)], args := [d1, d2, d3] }
  | _ => none }
def BucketBoundWrongFalsely : Prop := bucketBoundRow.holds Try.pinned (OpenSpec.ofChange bucketBoundWrong)

/-- 'stanchionlaw33.BucketFew': WHATEVER THE INPUT: true; the input reads as it did. -/
def bucketFewSpec : ChangeSpec := { name := "bucketFew", fn := fun _ => fun
  | [d1, d2] => { results := [.lit (.bool true)], args := [d1, d2] }
  | _ => none }
def bucketFewRow : OpenClaim := { program := "ytncgponcedkihaa", sum := "b8c830b37591f4899dd0d11185ce913380bcebb93ddda19bd98a500969ed7251", func := "stanchion/stanchionlaw33.BucketFew", spec := "bucketFew", plainKeys := false, apart := false }
def BucketFewSaid : Prop := bucketFewRow.holds Try.pinned (OpenSpec.ofChange bucketFewSpec)

/-- ITS FALSE NEIGHBOUR: 'it returns false'. Refute it at one input. -/
def bucketFewWrong : ChangeSpec := { name := "bucketFew", fn := fun _ => fun
  | [d1, d2] => { results := [.lit (.bool false)], args := [d1, d2] }
  | _ => none }
def BucketFewWrongFalsely : Prop := bucketFewRow.holds Try.pinned (OpenSpec.ofChange bucketFewWrong)

/-- 'stanchionlaw33.BucketPlays': WHATEVER THE INPUT: true; the input reads as it did. -/
def bucketPlaysSpec : ChangeSpec := { name := "bucketPlays", fn := fun _ => fun
  | [d1, d2] => { results := [.lit (.bool true)], args := [d1, d2] }
  | _ => none }
def bucketPlaysRow : OpenClaim := { program := "ytncgponcedkihaa", sum := "b8c830b37591f4899dd0d11185ce913380bcebb93ddda19bd98a500969ed7251", func := "stanchion/stanchionlaw33.BucketPlays", spec := "bucketPlays", plainKeys := false, apart := false }
def BucketPlaysSaid : Prop := bucketPlaysRow.holds Try.pinned (OpenSpec.ofChange bucketPlaysSpec)

/-- ITS FALSE NEIGHBOUR: 'it returns false'. Refute it at one input. -/
def bucketPlaysWrong : ChangeSpec := { name := "bucketPlays", fn := fun _ => fun
  | [d1, d2] => { results := [.lit (.bool false)], args := [d1, d2] }
  | _ => none }
def BucketPlaysWrongFalsely : Prop := bucketPlaysRow.holds Try.pinned (OpenSpec.ofChange bucketPlaysWrong)

/-- 'stanchionlaw33.BucketNone': WHATEVER THE INPUT: true; the input reads as it did. -/
def bucketNoneSpec : ChangeSpec := { name := "bucketNone", fn := fun _ => fun
  | [d] => { results := [.lit (.bool true)], args := [d] }
  | _ => none }
def bucketNoneRow : OpenClaim := { program := "ytncgponcedkihaa", sum := "b8c830b37591f4899dd0d11185ce913380bcebb93ddda19bd98a500969ed7251", func := "stanchion/stanchionlaw33.BucketNone", spec := "bucketNone", plainKeys := false, apart := false }
def BucketNoneSaid : Prop := bucketNoneRow.holds Try.pinned (OpenSpec.ofChange bucketNoneSpec)

/-- ITS FALSE NEIGHBOUR: 'it returns false'. Refute it at one input. -/
def bucketNoneWrong : ChangeSpec := { name := "bucketNone", fn := fun _ => fun
  | [d] => { results := [.lit (.bool false)], args := [d] }
  | _ => none }
def BucketNoneWrongFalsely : Prop := bucketNoneRow.holds Try.pinned (OpenSpec.ofChange bucketNoneWrong)

/-- 'stanchionlaw23.FlowsFull': WHATEVER THE INPUT: true; the input reads as it did. -/
def flowsFullSpec : ChangeSpec := { name := "flowsFull", fn := fun _ => fun
  | [d1, d2] => { results := [.lit (.bool true)], args := [d1, d2] }
  | _ => none }
def flowsFullRow : OpenClaim := { program := "ytncgponcedkihaa", sum := "b8c830b37591f4899dd0d11185ce913380bcebb93ddda19bd98a500969ed7251", func := "stanchion/stanchionlaw23.FlowsFull", spec := "flowsFull", unfollowed := true, recurses := true, plainKeys := false, apart := false }
def FlowsFullSaid : Prop := flowsFullRow.holds Try.pinned (OpenSpec.ofChange flowsFullSpec)

/-- ITS FALSE NEIGHBOUR: 'it returns false'. Refute it at one input. -/
def flowsFullWrong : ChangeSpec := { name := "flowsFull", fn := fun _ => fun
  | [d1, d2] => { results := [.lit (.bool false)], args := [d1, d2] }
  | _ => none }
def FlowsFullWrongFalsely : Prop := flowsFullRow.holds Try.pinned (OpenSpec.ofChange flowsFullWrong)

/-- 'stanchionlaw23.FlowsOne': WHATEVER THE INPUT: true; the input reads as it did. -/
def flowsOneSpec : ChangeSpec := { name := "flowsOne", fn := fun _ => fun
  | [d1, d2] => { results := [.lit (.bool true)], args := [d1, d2] }
  | _ => none }
def flowsOneRow : OpenClaim := { program := "ytncgponcedkihaa", sum := "b8c830b37591f4899dd0d11185ce913380bcebb93ddda19bd98a500969ed7251", func := "stanchion/stanchionlaw23.FlowsOne", spec := "flowsOne", inPlace := ["internal/bytealg.Compare"], unfollowed := true, recurses := true, plainKeys := false, apart := false }
def FlowsOneSaid : Prop := flowsOneRow.holds Try.pinned (OpenSpec.ofChange flowsOneSpec)

/-- ITS FALSE NEIGHBOUR: 'it returns false'. Refute it at one input. -/
def flowsOneWrong : ChangeSpec := { name := "flowsOne", fn := fun _ => fun
  | [d1, d2] => { results := [.lit (.bool false)], args := [d1, d2] }
  | _ => none }
def FlowsOneWrongFalsely : Prop := flowsOneRow.holds Try.pinned (OpenSpec.ofChange flowsOneWrong)

/-- 'stanchionlaw23.FlowsPlays': WHATEVER THE INPUT: true; the input reads as it did. -/
def flowsPlaysSpec : ChangeSpec := { name := "flowsPlays", fn := fun _ => fun
  | [d1, d2] => { results := [.lit (.bool true)], args := [d1, d2] }
  | _ => none }
def flowsPlaysRow : OpenClaim := { program := "ytncgponcedkihaa", sum := "b8c830b37591f4899dd0d11185ce913380bcebb93ddda19bd98a500969ed7251", func := "stanchion/stanchionlaw23.FlowsPlays", spec := "flowsPlays", inPlace := ["internal/bytealg.Compare"], unfollowed := true, recurses := true, plainKeys := false, apart := false }
def FlowsPlaysSaid : Prop := flowsPlaysRow.holds Try.pinned (OpenSpec.ofChange flowsPlaysSpec)

/-- ITS FALSE NEIGHBOUR: 'it returns false'. Refute it at one input. -/
def flowsPlaysWrong : ChangeSpec := { name := "flowsPlays", fn := fun _ => fun
  | [d1, d2] => { results := [.lit (.bool false)], args := [d1, d2] }
  | _ => none }
def FlowsPlaysWrongFalsely : Prop := flowsPlaysRow.holds Try.pinned (OpenSpec.ofChange flowsPlaysWrong)

/-- 'stanchionlaw23.FlowsNone': WHATEVER THE INPUT: true; the input reads as it did. -/
def flowsNoneSpec : ChangeSpec := { name := "flowsNone", fn := fun _ => fun
  | [d] => { results := [.lit (.bool true)], args := [d] }
  | _ => none }
def flowsNoneRow : OpenClaim := { program := "ytncgponcedkihaa", sum := "b8c830b37591f4899dd0d11185ce913380bcebb93ddda19bd98a500969ed7251", func := "stanchion/stanchionlaw23.FlowsNone", spec := "flowsNone", inPlace := ["internal/bytealg.Compare"], unfollowed := true, recurses := true, plainKeys := false, apart := false }
def FlowsNoneSaid : Prop := flowsNoneRow.holds Try.pinned (OpenSpec.ofChange flowsNoneSpec)

/-- ITS FALSE NEIGHBOUR: 'it returns false'. Refute it at one input. -/
def flowsNoneWrong : ChangeSpec := { name := "flowsNone", fn := fun _ => fun
  | [d] => { results := [.lit (.bool false)], args := [d] }
  | _ => none }
def FlowsNoneWrongFalsely : Prop := flowsNoneRow.holds Try.pinned (OpenSpec.ofChange flowsNoneWrong)

/-- 'stanchionlaw38.TopkBounds': WHATEVER THE INPUT: true; the input reads as it did. -/
def topkBoundsSpec : ChangeSpec := { name := "topkBounds", fn := fun _ => fun
  | [d1, d2] => { results := [.lit (.bool true)], args := [d1, d2] }
  | _ => none }
def topkBoundsRow : OpenClaim := { program := "ytncgponcedkihaa", sum := "b8c830b37591f4899dd0d11185ce913380bcebb93ddda19bd98a500969ed7251", func := "stanchion/stanchionlaw38.TopkBounds", spec := "topkBounds", inPlace := ["internal/bytealg.Compare"], unfollowed := true, recurses := true, plainKeys := false, apart := false }
def TopkBoundsSaid : Prop := topkBoundsRow.holds Try.pinned (OpenSpec.ofChange topkBoundsSpec)

/-- ITS FALSE NEIGHBOUR: 'it returns false'. Refute it at one input. -/
def topkBoundsWrong : ChangeSpec := { name := "topkBounds", fn := fun _ => fun
  | [d1, d2] => { results := [.lit (.bool false)], args := [d1, d2] }
  | _ => none }
def TopkBoundsWrongFalsely : Prop := topkBoundsRow.holds Try.pinned (OpenSpec.ofChange topkBoundsWrong)

/-- 'stanchionlaw38.TopkPlays': WHATEVER THE INPUT: true; the input reads as it did. -/
def topkPlaysSpec : ChangeSpec := { name := "topkPlays", fn := fun _ => fun
  | [d1, d2, d3] => { results := [.lit (.bool true)], args := [d1, d2, d3] }
  | _ => none }
def topkPlaysRow : OpenClaim := { program := "ytncgponcedkihaa", sum := "b8c830b37591f4899dd0d11185ce913380bcebb93ddda19bd98a500969ed7251", func := "stanchion/stanchionlaw38.TopkPlays", spec := "topkPlays", inPlace := ["internal/bytealg.Compare"], unfollowed := true, recurses := true, plainKeys := false, apart := false }
def TopkPlaysSaid : Prop := topkPlaysRow.holds Try.pinned (OpenSpec.ofChange topkPlaysSpec)

/-- ITS FALSE NEIGHBOUR: 'it returns false'. Refute it at one input. -/
def topkPlaysWrong : ChangeSpec := { name := "topkPlays", fn := fun _ => fun
  | [d1, d2, d3] => { results := [.lit (.bool false)], args := [d1, d2, d3] }
  | _ => none }
def TopkPlaysWrongFalsely : Prop := topkPlaysRow.holds Try.pinned (OpenSpec.ofChange topkPlaysWrong)

/-- 'stanchionlaw38.TopkNone': WHATEVER THE INPUT: true; the input reads as it did. -/
def topkNoneSpec : ChangeSpec := { name := "topkNone", fn := fun _ => fun
  | [d1, d2] => { results := [.lit (.bool true)], args := [d1, d2] }
  | _ => none }
def topkNoneRow : OpenClaim := { program := "ytncgponcedkihaa", sum := "b8c830b37591f4899dd0d11185ce913380bcebb93ddda19bd98a500969ed7251", func := "stanchion/stanchionlaw38.TopkNone", spec := "topkNone", inPlace := ["internal/bytealg.Compare"], unfollowed := true, recurses := true, plainKeys := false, apart := false }
def TopkNoneSaid : Prop := topkNoneRow.holds Try.pinned (OpenSpec.ofChange topkNoneSpec)

/-- ITS FALSE NEIGHBOUR: 'it returns false'. Refute it at one input. -/
def topkNoneWrong : ChangeSpec := { name := "topkNone", fn := fun _ => fun
  | [d1, d2] => { results := [.lit (.bool false)], args := [d1, d2] }
  | _ => none }
def TopkNoneWrongFalsely : Prop := topkNoneRow.holds Try.pinned (OpenSpec.ofChange topkNoneWrong)

/-- 'stanchionlaw21.HealthPlays': WHATEVER THE INPUT: true; the input reads as it did. -/
def healthPlaysSpec : ChangeSpec := { name := "healthPlays", fn := fun _ => fun
  | [d1, d2, d3] => { results := [.lit (.bool true)], args := [d1, d2, d3] }
  | _ => none }
def healthPlaysRow : OpenClaim := { program := "ytncgponcedkihaa", sum := "b8c830b37591f4899dd0d11185ce913380bcebb93ddda19bd98a500969ed7251", func := "stanchion/stanchionlaw21.HealthPlays", spec := "healthPlays", unfollowed := true, recurses := true, plainKeys := false, apart := false }
def HealthPlaysSaid : Prop := healthPlaysRow.holds Try.pinned (OpenSpec.ofChange healthPlaysSpec)

/-- ITS FALSE NEIGHBOUR: 'it returns false'. Refute it at one input. -/
def healthPlaysWrong : ChangeSpec := { name := "healthPlays", fn := fun _ => fun
  | [d1, d2, d3] => { results := [.lit (.bool false)], args := [d1, d2, d3] }
  | _ => none }
def HealthPlaysWrongFalsely : Prop := healthPlaysRow.holds Try.pinned (OpenSpec.ofChange healthPlaysWrong)

/- THE SECOND FORM. 'bulk': how many values and letters a reading holds, each counted each time it is reached (what is shared counts as often as it is met; a slice's spare places count too). A statement '..UptoSaid' is the law's where the arguments, and the package variables that the reading takes, are together of bulk at most 1048576: NARROWER than '..Said'. Prove '..Said' where nothing that the law and all that it calls make is longer than what came in: it says more and counts as full. Else prove '..UptoSaid'. A law counts once. -/
mutual
def uptoBulk {H : Type} : DataW H → Nat
  | .lit (.string bytes) => bytes.length + 1
  | .lit _ => 1
  | .nil => 1
  | .ptr d => uptoBulk d + 1
  | .slice elems spare => uptoBulkAll elems + uptoBulkAll spare + 1
  | .agg parts => uptoBulkAll parts + 1
  | .iface _ d => uptoBulk d + 1
  | .map entries => uptoBulkEntries entries + 1
  | .held _ => 1
def uptoBulkAll {H : Type} : List (DataW H) → Nat
  | [] => 0
  | d :: r => uptoBulk d + uptoBulkAll r
def uptoBulkEntries {H : Type} : List (Lit × DataW H) → Nat
  | [] => 0
  | x :: r => uptoBulkEntry x + uptoBulkEntries r
def uptoBulkEntry {H : Type} : Lit × DataW H → Nat
  | (.string bytes, d) => bytes.length + uptoBulk d + 1
  | (_, d) => uptoBulk d + 1
 end
def uptoSmall : (H : Type) → List (DataW H) → Bool := fun _ ds => decide (uptoBulkAll ds ≤ 1048576)
def OpenSpec.upto (s : _root_.Go.ChangeSpec) : _root_.Go.OpenSpec := { _root_.Go.OpenSpec.ofChange s with cond := some uptoSmall }

/-- 'stanchionlaw33.BucketBound', WHERE WHAT IT READS IS OF BULK AT MOST 1048576: true; the input reads as it did. -/
def bucketBoundUptoRow : OpenClaim := { program := "ytncgponcedkihaa", sum := "b8c830b37591f4899dd0d11185ce913380bcebb93ddda19bd98a500969ed7251", func := "stanchion/stanchionlaw33.BucketBound", spec := "bucketBound", plainKeys := false, apart := false, narrowed := true }
def BucketBoundUptoSaid : Prop := bucketBoundUptoRow.holds Try.pinned (OpenSpec.upto bucketBoundSpec)

/-- 'stanchionlaw33.BucketFew', WHERE WHAT IT READS IS OF BULK AT MOST 1048576: true; the input reads as it did. -/
def bucketFewUptoRow : OpenClaim := { program := "ytncgponcedkihaa", sum := "b8c830b37591f4899dd0d11185ce913380bcebb93ddda19bd98a500969ed7251", func := "stanchion/stanchionlaw33.BucketFew", spec := "bucketFew", plainKeys := false, apart := false, narrowed := true }
def BucketFewUptoSaid : Prop := bucketFewUptoRow.holds Try.pinned (OpenSpec.upto bucketFewSpec)

/-- 'stanchionlaw33.BucketPlays', WHERE WHAT IT READS IS OF BULK AT MOST 1048576: true; the input reads as it did. -/
def bucketPlaysUptoRow : OpenClaim := { program := "ytncgponcedkihaa", sum := "b8c830b37591f4899dd0d11185ce913380bcebb93ddda19bd98a500969ed7251", func := "stanchion/stanchionlaw33.BucketPlays", spec := "bucketPlays", plainKeys := false, apart := false, narrowed := true }
def BucketPlaysUptoSaid : Prop := bucketPlaysUptoRow.holds Try.pinned (OpenSpec.upto bucketPlaysSpec)

/-- 'stanchionlaw33.BucketNone', WHERE WHAT IT READS IS OF BULK AT MOST 1048576: true; the input reads as it did. -/
def bucketNoneUptoRow : OpenClaim := { program := "ytncgponcedkihaa", sum := "b8c830b37591f4899dd0d11185ce913380bcebb93ddda19bd98a500969ed7251", func := "stanchion/stanchionlaw33.BucketNone", spec := "bucketNone", plainKeys := false, apart := false, narrowed := true }
def BucketNoneUptoSaid : Prop := bucketNoneUptoRow.holds Try.pinned (OpenSpec.upto bucketNoneSpec)

/-- 'stanchionlaw23.FlowsFull', WHERE WHAT IT READS IS OF BULK AT MOST 1048576: true; the input reads as it did. -/
def flowsFullUptoRow : OpenClaim := { program := "ytncgponcedkihaa", sum := "b8c830b37591f4899dd0d11185ce913380bcebb93ddda19bd98a500969ed7251", func := "stanchion/stanchionlaw23.FlowsFull", spec := "flowsFull", unfollowed := true, recurses := true, plainKeys := false, apart := false, narrowed := true }
def FlowsFullUptoSaid : Prop := flowsFullUptoRow.holds Try.pinned (OpenSpec.upto flowsFullSpec)

/-- 'stanchionlaw23.FlowsOne', WHERE WHAT IT READS IS OF BULK AT MOST 1048576: true; the input reads as it did. -/
def flowsOneUptoRow : OpenClaim := { program := "ytncgponcedkihaa", sum := "b8c830b37591f4899dd0d11185ce913380bcebb93ddda19bd98a500969ed7251", func := "stanchion/stanchionlaw23.FlowsOne", spec := "flowsOne", inPlace := ["internal/bytealg.Compare"], unfollowed := true, recurses := true, plainKeys := false, apart := false, narrowed := true }
def FlowsOneUptoSaid : Prop := flowsOneUptoRow.holds Try.pinned (OpenSpec.upto flowsOneSpec)

/-- 'stanchionlaw23.FlowsPlays', WHERE WHAT IT READS IS OF BULK AT MOST 1048576: true; the input reads as it did. -/
def flowsPlaysUptoRow : OpenClaim := { program := "ytncgponcedkihaa", sum := "b8c830b37591f4899dd0d11185ce913380bcebb93ddda19bd98a500969ed7251", func := "stanchion/stanchionlaw23.FlowsPlays", spec := "flowsPlays", inPlace := ["internal/bytealg.Compare"], unfollowed := true, recurses := true, plainKeys := false, apart := false, narrowed := true }
def FlowsPlaysUptoSaid : Prop := flowsPlaysUptoRow.holds Try.pinned (OpenSpec.upto flowsPlaysSpec)

/-- 'stanchionlaw23.FlowsNone', WHERE WHAT IT READS IS OF BULK AT MOST 1048576: true; the input reads as it did. -/
def flowsNoneUptoRow : OpenClaim := { program := "ytncgponcedkihaa", sum := "b8c830b37591f4899dd0d11185ce913380bcebb93ddda19bd98a500969ed7251", func := "stanchion/stanchionlaw23.FlowsNone", spec := "flowsNone", inPlace := ["internal/bytealg.Compare"], unfollowed := true, recurses := true, plainKeys := false, apart := false, narrowed := true }
def FlowsNoneUptoSaid : Prop := flowsNoneUptoRow.holds Try.pinned (OpenSpec.upto flowsNoneSpec)

/-- 'stanchionlaw38.TopkBounds', WHERE WHAT IT READS IS OF BULK AT MOST 1048576: true; the input reads as it did. -/
def topkBoundsUptoRow : OpenClaim := { program := "ytncgponcedkihaa", sum := "b8c830b37591f4899dd0d11185ce913380bcebb93ddda19bd98a500969ed7251", func := "stanchion/stanchionlaw38.TopkBounds", spec := "topkBounds", inPlace := ["internal/bytealg.Compare"], unfollowed := true, recurses := true, plainKeys := false, apart := false, narrowed := true }
def TopkBoundsUptoSaid : Prop := topkBoundsUptoRow.holds Try.pinned (OpenSpec.upto topkBoundsSpec)

/-- 'stanchionlaw38.TopkPlays', WHERE WHAT IT READS IS OF BULK AT MOST 1048576: true; the input reads as it did. -/
def topkPlaysUptoRow : OpenClaim := { program := "ytncgponcedkihaa", sum := "b8c830b37591f4899dd0d11185ce913380bcebb93ddda19bd98a500969ed7251", func := "stanchion/stanchionlaw38.TopkPlays", spec := "topkPlays", inPlace := ["internal/bytealg.Compare"], unfollowed := true, recurses := true, plainKeys := false, apart := false, narrowed := true }
def TopkPlaysUptoSaid : Prop := topkPlaysUptoRow.holds Try.pinned (OpenSpec.upto topkPlaysSpec)

/-- 'stanchionlaw38.TopkNone', WHERE WHAT IT READS IS OF BULK AT MOST 1048576: true; the input reads as it did. -/
def topkNoneUptoRow : OpenClaim := { program := "ytncgponcedkihaa", sum := "b8c830b37591f4899dd0d11185ce913380bcebb93ddda19bd98a500969ed7251", func := "stanchion/stanchionlaw38.TopkNone", spec := "topkNone", inPlace := ["internal/bytealg.Compare"], unfollowed := true, recurses := true, plainKeys := false, apart := false, narrowed := true }
def TopkNoneUptoSaid : Prop := topkNoneUptoRow.holds Try.pinned (OpenSpec.upto topkNoneSpec)

/-- 'stanchionlaw21.HealthPlays', WHERE WHAT IT READS IS OF BULK AT MOST 1048576: true; the input reads as it did. -/
def healthPlaysUptoRow : OpenClaim := { program := "ytncgponcedkihaa", sum := "b8c830b37591f4899dd0d11185ce913380bcebb93ddda19bd98a500969ed7251", func := "stanchion/stanchionlaw21.HealthPlays", spec := "healthPlays", unfollowed := true, recurses := true, plainKeys := false, apart := false, narrowed := true }
def HealthPlaysUptoSaid : Prop := healthPlaysUptoRow.holds Try.pinned (OpenSpec.upto healthPlaysSpec)

end Rows
end Go.Proofs.Ytncgponcedkihaa
