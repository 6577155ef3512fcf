/-
  No cell of these rows narrows 'for every input' (looked for: loops, veiled, ifaces, maps, wideKeys, modest, calm, conditions, laid).
  DERIVED. THE GIVEN ROWS OF THIS SEAT. 9 by the template 'for every input the law returns true; each argument reads behind the call as it read before'; 0 by the template 'total and deterministic' (their statements: YtopcecgkbmdmeaaTotals.lean).
  GIVEN WITH THE SEED: the statements are not yours to turn. If you find one false, say at which input.
  Laid BY PROGRAM, IN A SANDBOX (cutbox-rows.mjs): the forced cells as the released guide's own fill.sh prints them over the translation 800cce5b59029082… (all of the seat's roots in one cut). By AI agents, Wed Nov 11 2026. No macro, syntax, notation, axiom, sorry.
-/
import Derived.Test.YtopcecgkbmdmeaaChecked
import GoSem.Claim
import GoSem.ClaimJoined
import GoSem.ClaimMapViews
import Derived.JoinedTies
import Derived.KernelRfl
namespace Go.Proofs.Ytopcecgkbmdmeaa
/- THE CELL 'sum', in the pinned program and in every row, IS THE sha256 OF THE DUMP (.gsa) THAT YtopcecgkbmdmeaaProg.lean LOADS. Nothing in Lean hashes anything: it is a label: what it is worth is what the hold of that sum in a sandbox is worth. -/
noncomputable def Try.pinned : Pinned := { name := "ytopcecgkbmdmeaa", sum := "800cce5b59029082cfed5666a082cf04e807ee050018b94a9dcfb469fe7d5186", checked := Try.checked }
namespace Rows
def none {H : Type} : Left H := { results := [], args := [] }

/-- 'stanchionlaw18.HashSums': WHATEVER THE INPUT: true; the input reads as it did. -/
def hashSumsSpec : ChangeSpec := { name := "hashSums", fn := fun _ => fun
  | [d1, d2, d3] => { results := [.lit (.bool true)], args := [d1, d2, d3] }
  | _ => none }
def hashSumsRow : OpenClaim := { program := "ytopcecgkbmdmeaa", sum := "800cce5b59029082cfed5666a082cf04e807ee050018b94a9dcfb469fe7d5186", func := "stanchion/stanchionlaw18.HashSums", spec := "hashSums", plainKeys := false, apart := false }
def HashSumsSaid : Prop := hashSumsRow.holds Try.pinned (OpenSpec.ofChange hashSumsSpec)

/-- ITS FALSE NEIGHBOUR: 'it returns false'. Refute it at one input. -/
def hashSumsWrong : ChangeSpec := { name := "hashSums", fn := fun _ => fun
  | [d1, d2, d3] => { results := [.lit (.bool false)], args := [d1, d2, d3] }
  | _ => none }
def HashSumsWrongFalsely : Prop := hashSumsRow.holds Try.pinned (OpenSpec.ofChange hashSumsWrong)

/-- 'stanchionlaw18.HashByte': WHATEVER THE INPUT: true; the input reads as it did. -/
def hashByteSpec : ChangeSpec := { name := "hashByte", fn := fun _ => fun
  | [d1, d2, d3] => { results := [.lit (.bool true)], args := [d1, d2, d3] }
  | _ => none }
def hashByteRow : OpenClaim := { program := "ytopcecgkbmdmeaa", sum := "800cce5b59029082cfed5666a082cf04e807ee050018b94a9dcfb469fe7d5186", func := "stanchion/stanchionlaw18.HashByte", spec := "hashByte", plainKeys := false, apart := false }
def HashByteSaid : Prop := hashByteRow.holds Try.pinned (OpenSpec.ofChange hashByteSpec)

/-- ITS FALSE NEIGHBOUR: 'it returns false'. Refute it at one input. -/
def hashByteWrong : ChangeSpec := { name := "hashByte", fn := fun _ => fun
  | [d1, d2, d3] => { results := [.lit (.bool false)], args := [d1, d2, d3] }
  | _ => none }
def HashByteWrongFalsely : Prop := hashByteRow.holds Try.pinned (OpenSpec.ofChange hashByteWrong)

/-- 'stanchionlaw01.NumPuts': WHATEVER THE INPUT: true; the input reads as it did. -/
def numPutsSpec : ChangeSpec := { name := "numPuts", fn := fun _ => fun
  | [d1, d2, d3] => { results := [.lit (.bool true)], args := [d1, d2, d3] }
  | _ => none }
def numPutsRow : OpenClaim := { program := "ytopcecgkbmdmeaa", sum := "800cce5b59029082cfed5666a082cf04e807ee050018b94a9dcfb469fe7d5186", func := "stanchion/stanchionlaw01.NumPuts", spec := "numPuts", plainKeys := false, apart := false }
def NumPutsSaid : Prop := numPutsRow.holds Try.pinned (OpenSpec.ofChange numPutsSpec)

/-- ITS FALSE NEIGHBOUR: 'it returns false'. Refute it at one input. -/
def numPutsWrong : ChangeSpec := { name := "numPuts", fn := fun _ => fun
  | [d1, d2, d3] => { results := [.lit (.bool false)], args := [d1, d2, d3] }
  | _ => none }
def NumPutsWrongFalsely : Prop := numPutsRow.holds Try.pinned (OpenSpec.ofChange numPutsWrong)

/-- 'stanchionlaw01.NumJoins': WHATEVER THE INPUT: true; the input reads as it did. -/
def numJoinsSpec : ChangeSpec := { name := "numJoins", fn := fun _ => fun
  | [d] => { results := [.lit (.bool true)], args := [d] }
  | _ => none }
def numJoinsRow : OpenClaim := { program := "ytopcecgkbmdmeaa", sum := "800cce5b59029082cfed5666a082cf04e807ee050018b94a9dcfb469fe7d5186", func := "stanchion/stanchionlaw01.NumJoins", spec := "numJoins", plainKeys := false, apart := false }
def NumJoinsSaid : Prop := numJoinsRow.holds Try.pinned (OpenSpec.ofChange numJoinsSpec)

/-- ITS FALSE NEIGHBOUR: 'it returns false'. Refute it at one input. -/
def numJoinsWrong : ChangeSpec := { name := "numJoins", fn := fun _ => fun
  | [d] => { results := [.lit (.bool false)], args := [d] }
  | _ => none }
def NumJoinsWrongFalsely : Prop := numJoinsRow.holds Try.pinned (OpenSpec.ofChange numJoinsWrong)

/-- 'stanchionlaw18.HashClients': WHATEVER THE INPUT: true; the input reads as it did. -/
def hashClientsSpec : ChangeSpec := { name := "hashClients", fn := fun _ => fun
  | [d1, d2] => { results := [.lit (.bool true)], args := [d1, d2] }
  | _ => none }
def hashClientsRow : OpenClaim := { program := "ytopcecgkbmdmeaa", sum := "800cce5b59029082cfed5666a082cf04e807ee050018b94a9dcfb469fe7d5186", func := "stanchion/stanchionlaw18.HashClients", spec := "hashClients", plainKeys := false, apart := false }
def HashClientsSaid : Prop := hashClientsRow.holds Try.pinned (OpenSpec.ofChange hashClientsSpec)

/-- ITS FALSE NEIGHBOUR: 'it returns false'. Refute it at one input. -/
def hashClientsWrong : ChangeSpec := { name := "hashClients", fn := fun _ => fun
  | [d1, d2] => { results := [.lit (.bool false)], args := [d1, d2] }
  | _ => none }
def HashClientsWrongFalsely : Prop := hashClientsRow.holds Try.pinned (OpenSpec.ofChange hashClientsWrong)

/-- 'stanchionlaw21.HealthApart': WHATEVER THE INPUT: true; the input reads as it did. -/
def healthApartSpec : ChangeSpec := { name := "healthApart", fn := fun _ => fun
  | [d1, d2, d3] => { results := [.lit (.bool true)], args := [d1, d2, d3] }
  | _ => none }
def healthApartRow : OpenClaim := { program := "ytopcecgkbmdmeaa", sum := "800cce5b59029082cfed5666a082cf04e807ee050018b94a9dcfb469fe7d5186", func := "stanchion/stanchionlaw21.HealthApart", spec := "healthApart", plainKeys := false, apart := false }
def HealthApartSaid : Prop := healthApartRow.holds Try.pinned (OpenSpec.ofChange healthApartSpec)

/-- ITS FALSE NEIGHBOUR: 'it returns false'. Refute it at one input. -/
def healthApartWrong : ChangeSpec := { name := "healthApart", fn := fun _ => fun
  | [d1, d2, d3] => { results := [.lit (.bool false)], args := [d1, d2, d3] }
  | _ => none }
def HealthApartWrongFalsely : Prop := healthApartRow.holds Try.pinned (OpenSpec.ofChange healthApartWrong)

/-- 'stanchionlaw01.NumGets': WHATEVER THE INPUT: true; the input reads as it did. -/
def numGetsSpec : ChangeSpec := { name := "numGets", fn := fun _ => fun
  | [d1, d2, d3] => { results := [.lit (.bool true)], args := [d1, d2, d3] }
  | _ => none }
def numGetsRow : OpenClaim := { program := "ytopcecgkbmdmeaa", sum := "800cce5b59029082cfed5666a082cf04e807ee050018b94a9dcfb469fe7d5186", func := "stanchion/stanchionlaw01.NumGets", spec := "numGets", plainKeys := false, apart := false }
def NumGetsSaid : Prop := numGetsRow.holds Try.pinned (OpenSpec.ofChange numGetsSpec)

/-- ITS FALSE NEIGHBOUR: 'it returns false'. Refute it at one input. -/
def numGetsWrong : ChangeSpec := { name := "numGets", fn := fun _ => fun
  | [d1, d2, d3] => { results := [.lit (.bool false)], args := [d1, d2, d3] }
  | _ => none }
def NumGetsWrongFalsely : Prop := numGetsRow.holds Try.pinned (OpenSpec.ofChange numGetsWrong)

/-- 'stanchionlaw01.NumBack': WHATEVER THE INPUT: true; the input reads as it did. -/
def numBackSpec : ChangeSpec := { name := "numBack", fn := fun _ => fun
  | [d1, d2, d3] => { results := [.lit (.bool true)], args := [d1, d2, d3] }
  | _ => none }
def numBackRow : OpenClaim := { program := "ytopcecgkbmdmeaa", sum := "800cce5b59029082cfed5666a082cf04e807ee050018b94a9dcfb469fe7d5186", func := "stanchion/stanchionlaw01.NumBack", spec := "numBack", plainKeys := false, apart := false }
def NumBackSaid : Prop := numBackRow.holds Try.pinned (OpenSpec.ofChange numBackSpec)

/-- ITS FALSE NEIGHBOUR: 'it returns false'. Refute it at one input. -/
def numBackWrong : ChangeSpec := { name := "numBack", fn := fun _ => fun
  | [d1, d2, d3] => { results := [.lit (.bool false)], args := [d1, d2, d3] }
  | _ => none }
def NumBackWrongFalsely : Prop := numBackRow.holds Try.pinned (OpenSpec.ofChange numBackWrong)

/-- 'stanchionlaw18.HashFlows': WHATEVER THE INPUT: true; the input reads as it did. -/
def hashFlowsSpec : ChangeSpec := { name := "hashFlows", fn := fun _ => fun
  | [d1, d2] => { results := [.lit (.bool true)], args := [d1, d2] }
  | _ => none }
def hashFlowsRow : OpenClaim := { program := "ytopcecgkbmdmeaa", sum := "800cce5b59029082cfed5666a082cf04e807ee050018b94a9dcfb469fe7d5186", func := "stanchion/stanchionlaw18.HashFlows", spec := "hashFlows", plainKeys := false, apart := false }
def HashFlowsSaid : Prop := hashFlowsRow.holds Try.pinned (OpenSpec.ofChange hashFlowsSpec)

/-- ITS FALSE NEIGHBOUR: 'it returns false'. Refute it at one input. -/
def hashFlowsWrong : ChangeSpec := { name := "hashFlows", fn := fun _ => fun
  | [d1, d2] => { results := [.lit (.bool false)], args := [d1, d2] }
  | _ => none }
def HashFlowsWrongFalsely : Prop := hashFlowsRow.holds Try.pinned (OpenSpec.ofChange hashFlowsWrong)

/- THE SECOND FORM. 'bulk': how many values and letters a reading holds, each counted each time it is reached (what is shared counts as often as it is met; a slice's spare places count too). A statement '..UptoSaid' is the law's where the arguments, and the package variables that the reading takes, are together of bulk at most 1048576: NARROWER than '..Said'. Prove '..Said' where nothing that the law and all that it calls make is longer than what came in: it says more and counts as full. Else prove '..UptoSaid'. A law counts once. -/
mutual
def uptoBulk {H : Type} : DataW H → Nat
  | .lit (.string bytes) => bytes.length + 1
  | .lit _ => 1
  | .nil => 1
  | .ptr d => uptoBulk d + 1
  | .slice elems spare => uptoBulkAll elems + uptoBulkAll spare + 1
  | .agg parts => uptoBulkAll parts + 1
  | .iface _ d => uptoBulk d + 1
  | .map entries => uptoBulkEntries entries + 1
  | .held _ => 1
def uptoBulkAll {H : Type} : List (DataW H) → Nat
  | [] => 0
  | d :: r => uptoBulk d + uptoBulkAll r
def uptoBulkEntries {H : Type} : List (Lit × DataW H) → Nat
  | [] => 0
  | x :: r => uptoBulkEntry x + uptoBulkEntries r
def uptoBulkEntry {H : Type} : Lit × DataW H → Nat
  | (.string bytes, d) => bytes.length + uptoBulk d + 1
  | (_, d) => uptoBulk d + 1
 end
def uptoSmall : (H : Type) → List (DataW H) → Bool := fun _ ds => decide (uptoBulkAll ds ≤ 1048576)
def OpenSpec.upto (s : _root_.Go.ChangeSpec) : _root_.Go.OpenSpec := { _root_.Go.OpenSpec.ofChange s with cond := some uptoSmall }

/-- 'stanchionlaw18.HashSums', WHERE WHAT IT READS IS OF BULK AT MOST 1048576: true; the input reads as it did. -/
def hashSumsUptoRow : OpenClaim := { program := "ytopcecgkbmdmeaa", sum := "800cce5b59029082cfed5666a082cf04e807ee050018b94a9dcfb469fe7d5186", func := "stanchion/stanchionlaw18.HashSums", spec := "hashSums", plainKeys := false, apart := false, narrowed := true }
def HashSumsUptoSaid : Prop := hashSumsUptoRow.holds Try.pinned (OpenSpec.upto hashSumsSpec)

/-- 'stanchionlaw18.HashByte', WHERE WHAT IT READS IS OF BULK AT MOST 1048576: true; the input reads as it did. -/
def hashByteUptoRow : OpenClaim := { program := "ytopcecgkbmdmeaa", sum := "800cce5b59029082cfed5666a082cf04e807ee050018b94a9dcfb469fe7d5186", func := "stanchion/stanchionlaw18.HashByte", spec := "hashByte", plainKeys := false, apart := false, narrowed := true }
def HashByteUptoSaid : Prop := hashByteUptoRow.holds Try.pinned (OpenSpec.upto hashByteSpec)

/-- 'stanchionlaw01.NumPuts', WHERE WHAT IT READS IS OF BULK AT MOST 1048576: true; the input reads as it did. -/
def numPutsUptoRow : OpenClaim := { program := "ytopcecgkbmdmeaa", sum := "800cce5b59029082cfed5666a082cf04e807ee050018b94a9dcfb469fe7d5186", func := "stanchion/stanchionlaw01.NumPuts", spec := "numPuts", plainKeys := false, apart := false, narrowed := true }
def NumPutsUptoSaid : Prop := numPutsUptoRow.holds Try.pinned (OpenSpec.upto numPutsSpec)

/-- 'stanchionlaw01.NumJoins', WHERE WHAT IT READS IS OF BULK AT MOST 1048576: true; the input reads as it did. -/
def numJoinsUptoRow : OpenClaim := { program := "ytopcecgkbmdmeaa", sum := "800cce5b59029082cfed5666a082cf04e807ee050018b94a9dcfb469fe7d5186", func := "stanchion/stanchionlaw01.NumJoins", spec := "numJoins", plainKeys := false, apart := false, narrowed := true }
def NumJoinsUptoSaid : Prop := numJoinsUptoRow.holds Try.pinned (OpenSpec.upto numJoinsSpec)

/-- 'stanchionlaw18.HashClients', WHERE WHAT IT READS IS OF BULK AT MOST 1048576: true; the input reads as it did. -/
def hashClientsUptoRow : OpenClaim := { program := "ytopcecgkbmdmeaa", sum := "800cce5b59029082cfed5666a082cf04e807ee050018b94a9dcfb469fe7d5186", func := "stanchion/stanchionlaw18.HashClients", spec := "hashClients", plainKeys := false, apart := false, narrowed := true }
def HashClientsUptoSaid : Prop := hashClientsUptoRow.holds Try.pinned (OpenSpec.upto hashClientsSpec)

/-- 'stanchionlaw21.HealthApart', WHERE WHAT IT READS IS OF BULK AT MOST 1048576: true; the input reads as it did. -/
def healthApartUptoRow : OpenClaim := { program := "ytopcecgkbmdmeaa", sum := "800cce5b59029082cfed5666a082cf04e807ee050018b94a9dcfb469fe7d5186", func := "stanchion/stanchionlaw21.HealthApart", spec := "healthApart", plainKeys := false, apart := false, narrowed := true }
def HealthApartUptoSaid : Prop := healthApartUptoRow.holds Try.pinned (OpenSpec.upto healthApartSpec)

/-- 'stanchionlaw01.NumGets', WHERE WHAT IT READS IS OF BULK AT MOST 1048576: true; the input reads as it did. -/
def numGetsUptoRow : OpenClaim := { program := "ytopcecgkbmdmeaa", sum := "800cce5b59029082cfed5666a082cf04e807ee050018b94a9dcfb469fe7d5186", func := "stanchion/stanchionlaw01.NumGets", spec := "numGets", plainKeys := false, apart := false, narrowed := true }
def NumGetsUptoSaid : Prop := numGetsUptoRow.holds Try.pinned (OpenSpec.upto numGetsSpec)

/-- 'stanchionlaw01.NumBack', WHERE WHAT IT READS IS OF BULK AT MOST 1048576: true; the input reads as it did. -/
def numBackUptoRow : OpenClaim := { program := "ytopcecgkbmdmeaa", sum := "800cce5b59029082cfed5666a082cf04e807ee050018b94a9dcfb469fe7d5186", func := "stanchion/stanchionlaw01.NumBack", spec := "numBack", plainKeys := false, apart := false, narrowed := true }
def NumBackUptoSaid : Prop := numBackUptoRow.holds Try.pinned (OpenSpec.upto numBackSpec)

/-- 'stanchionlaw18.HashFlows', WHERE WHAT IT READS IS OF BULK AT MOST 1048576: true; the input reads as it did. -/
def hashFlowsUptoRow : OpenClaim := { program := "ytopcecgkbmdmeaa", sum := "800cce5b59029082cfed5666a082cf04e807ee050018b94a9dcfb469fe7d5186", func := "stanchion/stanchionlaw18.HashFlows", spec := "hashFlows", plainKeys := false, apart := false, narrowed := true }
def HashFlowsUptoSaid : Prop := hashFlowsUptoRow.holds Try.pinned (OpenSpec.upto hashFlowsSpec)

end Rows
end Go.Proofs.Ytopcecgkbmdmeaa
