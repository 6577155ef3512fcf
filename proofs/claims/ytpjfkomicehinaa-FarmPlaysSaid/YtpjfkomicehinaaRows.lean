/-
  No cell of these rows narrows 'for every input' (looked for: loops, veiled, ifaces, maps, wideKeys, modest, calm, conditions, laid).
  DERIVED. THE GIVEN ROWS OF THIS SEAT. 4 by the template 'for every input the law returns true; each argument reads behind the call as it read before'; 0 by the template 'total and deterministic' (their statements: YtpjfkomicehinaaTotals.lean).
  GIVEN WITH THE SEED: the statements are not yours to turn. If you find one false, say at which input.
  Laid BY PROGRAM, IN A SANDBOX (cutbox-rows.mjs): the forced cells as the released guide's own fill.sh prints them over the translation 24ee0d484fbb4b7a… (all of the seat's roots in one cut). By AI agents, Wed Nov 11 2026. No macro, syntax, notation, axiom, sorry.
-/
import Derived.Test.YtpjfkomicehinaaChecked
import GoSem.Claim
import GoSem.ClaimJoined
import GoSem.ClaimMapViews
import Derived.JoinedTies
import Derived.KernelRfl
namespace Go.Proofs.Ytpjfkomicehinaa
/- THE CELL 'sum', in the pinned program and in every row, IS THE sha256 OF THE DUMP (.gsa) THAT YtpjfkomicehinaaProg.lean LOADS. Nothing in Lean hashes anything: it is a label: what it is worth is what the hold of that sum in a sandbox is worth. -/
noncomputable def Try.pinned : Pinned := { name := "ytpjfkomicehinaa", sum := "24ee0d484fbb4b7a6dc9a2c3e8250b5c86e219e8cd552d9a247da0267f688996", checked := Try.checked }
namespace Rows
def none {H : Type} : Left H := { results := [], args := [] }

/-- 'stanchionlaw20.FarmFull': WHATEVER THE INPUT: true; the input reads as it did. -/
def farmFullSpec : ChangeSpec := { name := "farmFull", fn := fun _ => fun
  | [d] => { results := [.lit (.bool true)], args := [d] }
  | _ => none }
def farmFullRow : OpenClaim := { program := "ytpjfkomicehinaa", sum := "24ee0d484fbb4b7a6dc9a2c3e8250b5c86e219e8cd552d9a247da0267f688996", func := "stanchion/stanchionlaw20.FarmFull", spec := "farmFull", inPlace := ["slices.overlaps[stanchion/api.Backend]"], unfollowed := true, recurses := true, plainKeys := false, apart := false }
def FarmFullSaid : Prop := farmFullRow.holds Try.pinned (OpenSpec.ofChange farmFullSpec)

/-- ITS FALSE NEIGHBOUR: 'it returns false'. Refute it at one input. -/
def farmFullWrong : ChangeSpec := { name := "farmFull", fn := fun _ => fun
  | [d] => { results := [.lit (.bool false)], args := [d] }
  | _ => none }
def FarmFullWrongFalsely : Prop := farmFullRow.holds Try.pinned (OpenSpec.ofChange farmFullWrong)

/-- 'stanchionlaw20.FarmOnes': WHATEVER THE INPUT: true; the input reads as it did. -/
def farmOnesSpec : ChangeSpec := { name := "farmOnes", fn := fun _ => fun
  | [d] => { results := [.lit (.bool true)], args := [d] }
  | _ => none }
def farmOnesRow : OpenClaim := { program := "ytpjfkomicehinaa", sum := "24ee0d484fbb4b7a6dc9a2c3e8250b5c86e219e8cd552d9a247da0267f688996", func := "stanchion/stanchionlaw20.FarmOnes", spec := "farmOnes", inPlace := ["slices.overlaps[stanchion/api.Backend]"], unfollowed := true, recurses := true, plainKeys := false, apart := false }
def FarmOnesSaid : Prop := farmOnesRow.holds Try.pinned (OpenSpec.ofChange farmOnesSpec)

/-- ITS FALSE NEIGHBOUR: 'it returns false'. Refute it at one input. -/
def farmOnesWrong : ChangeSpec := { name := "farmOnes", fn := fun _ => fun
  | [d] => { results := [.lit (.bool false)], args := [d] }
  | _ => none }
def FarmOnesWrongFalsely : Prop := farmOnesRow.holds Try.pinned (OpenSpec.ofChange farmOnesWrong)

/-- 'stanchionlaw20.FarmPlays': WHATEVER THE INPUT: true; the input reads as it did. -/
def farmPlaysSpec : ChangeSpec := { name := "farmPlays", fn := fun _ => fun
  | [d] => { results := [.lit (.bool true)], args := [d] }
  | _ => none }
def farmPlaysRow : OpenClaim := { program := "ytpjfkomicehinaa", sum := "24ee0d484fbb4b7a6dc9a2c3e8250b5c86e219e8cd552d9a247da0267f688996", func := "stanchion/stanchionlaw20.FarmPlays", spec := "farmPlays", inPlace := ["slices.overlaps[stanchion/api.Backend]"], unfollowed := true, recurses := true, plainKeys := false, apart := false }
def FarmPlaysSaid : Prop := farmPlaysRow.holds Try.pinned (OpenSpec.ofChange farmPlaysSpec)

/-- ITS FALSE NEIGHBOUR: 'it returns false'. Refute it at one input. -/
def farmPlaysWrong : ChangeSpec := { name := "farmPlays", fn := fun _ => fun
  | [d] => { results := [.lit (.bool false)], args := [d] }
  | _ => none }
def FarmPlaysWrongFalsely : Prop := farmPlaysRow.holds Try.pinned (OpenSpec.ofChange farmPlaysWrong)

/-- 'stanchionlaw20.FarmNone': WHATEVER THE INPUT: true; the input reads as it did. -/
def farmNoneSpec : ChangeSpec := { name := "farmNone", fn := fun _ => fun
  | [d] => { results := [.lit (.bool true)], args := [d] }
  | _ => none }
def farmNoneRow : OpenClaim := { program := "ytpjfkomicehinaa", sum := "24ee0d484fbb4b7a6dc9a2c3e8250b5c86e219e8cd552d9a247da0267f688996", func := "stanchion/stanchionlaw20.FarmNone", spec := "farmNone", inPlace := ["slices.overlaps[stanchion/api.Backend]"], unfollowed := true, recurses := true, plainKeys := false, apart := false }
def FarmNoneSaid : Prop := farmNoneRow.holds Try.pinned (OpenSpec.ofChange farmNoneSpec)

/-- ITS FALSE NEIGHBOUR: 'it returns false'. Refute it at one input. -/
def farmNoneWrong : ChangeSpec := { name := "farmNone", fn := fun _ => fun
  | [d] => { results := [.lit (.bool false)], args := [d] }
  | _ => none }
def FarmNoneWrongFalsely : Prop := farmNoneRow.holds Try.pinned (OpenSpec.ofChange farmNoneWrong)

/- THE SECOND FORM. 'bulk': how many values and letters a reading holds, each counted each time it is reached (what is shared counts as often as it is met; a slice's spare places count too). A statement '..UptoSaid' is the law's where the arguments, and the package variables that the reading takes, are together of bulk at most 1048576: NARROWER than '..Said'. Prove '..Said' where nothing that the law and all that it calls make is longer than what came in: it says more and counts as full. Else prove '..UptoSaid'. A law counts once. -/
mutual
def uptoBulk {H : Type} : DataW H → Nat
  | .lit (.string bytes) => bytes.length + 1
  | .lit _ => 1
  | .nil => 1
  | .ptr d => uptoBulk d + 1
  | .slice elems spare => uptoBulkAll elems + uptoBulkAll spare + 1
  | .agg parts => uptoBulkAll parts + 1
  | .iface _ d => uptoBulk d + 1
  | .map entries => uptoBulkEntries entries + 1
  | .held _ => 1
def uptoBulkAll {H : Type} : List (DataW H) → Nat
  | [] => 0
  | d :: r => uptoBulk d + uptoBulkAll r
def uptoBulkEntries {H : Type} : List (Lit × DataW H) → Nat
  | [] => 0
  | x :: r => uptoBulkEntry x + uptoBulkEntries r
def uptoBulkEntry {H : Type} : Lit × DataW H → Nat
  | (.string bytes, d) => bytes.length + uptoBulk d + 1
  | (_, d) => uptoBulk d + 1
 end
def uptoSmall : (H : Type) → List (DataW H) → Bool := fun _ ds => decide (uptoBulkAll ds ≤ 1048576)
def OpenSpec.upto (s : _root_.Go.ChangeSpec) : _root_.Go.OpenSpec := { _root_.Go.OpenSpec.ofChange s with cond := some uptoSmall }

/-- 'stanchionlaw20.FarmFull', WHERE WHAT IT READS IS OF BULK AT MOST 1048576: true; the input reads as it did. -/
def farmFullUptoRow : OpenClaim := { program := "ytpjfkomicehinaa", sum := "24ee0d484fbb4b7a6dc9a2c3e8250b5c86e219e8cd552d9a247da0267f688996", func := "stanchion/stanchionlaw20.FarmFull", spec := "farmFull", inPlace := ["slices.overlaps[stanchion/api.Backend]"], unfollowed := true, recurses := true, plainKeys := false, apart := false, narrowed := true }
def FarmFullUptoSaid : Prop := farmFullUptoRow.holds Try.pinned (OpenSpec.upto farmFullSpec)

/-- 'stanchionlaw20.FarmOnes', WHERE WHAT IT READS IS OF BULK AT MOST 1048576: true; the input reads as it did. -/
def farmOnesUptoRow : OpenClaim := { program := "ytpjfkomicehinaa", sum := "24ee0d484fbb4b7a6dc9a2c3e8250b5c86e219e8cd552d9a247da0267f688996", func := "stanchion/stanchionlaw20.FarmOnes", spec := "farmOnes", inPlace := ["slices.overlaps[stanchion/api.Backend]"], unfollowed := true, recurses := true, plainKeys := false, apart := false, narrowed := true }
def FarmOnesUptoSaid : Prop := farmOnesUptoRow.holds Try.pinned (OpenSpec.upto farmOnesSpec)

/-- 'stanchionlaw20.FarmPlays', WHERE WHAT IT READS IS OF BULK AT MOST 1048576: true; the input reads as it did. -/
def farmPlaysUptoRow : OpenClaim := { program := "ytpjfkomicehinaa", sum := "24ee0d484fbb4b7a6dc9a2c3e8250b5c86e219e8cd552d9a247da0267f688996", func := "stanchion/stanchionlaw20.FarmPlays", spec := "farmPlays", inPlace := ["slices.overlaps[stanchion/api.Backend]"], unfollowed := true, recurses := true, plainKeys := false, apart := false, narrowed := true }
def FarmPlaysUptoSaid : Prop := farmPlaysUptoRow.holds Try.pinned (OpenSpec.upto farmPlaysSpec)

/-- 'stanchionlaw20.FarmNone', WHERE WHAT IT READS IS OF BULK AT MOST 1048576: true; the input reads as it did. -/
def farmNoneUptoRow : OpenClaim := { program := "ytpjfkomicehinaa", sum := "24ee0d484fbb4b7a6dc9a2c3e8250b5c86e219e8cd552d9a247da0267f688996", func := "stanchion/stanchionlaw20.FarmNone", spec := "farmNone", inPlace := ["slices.overlaps[stanchion/api.Backend]"], unfollowed := true, recurses := true, plainKeys := false, apart := false, narrowed := true }
def FarmNoneUptoSaid : Prop := farmNoneUptoRow.holds Try.pinned (OpenSpec.upto farmNoneSpec)

end Rows
end Go.Proofs.Ytpjfkomicehinaa
