/-
  No cell of these rows narrows 'for every input' (looked for: loops, veiled, ifaces, maps, wideKeys, modest, calm, conditions, laid).
  DERIVED. THE GIVEN ROWS OF THIS SEAT. 18 by the template 'for every input the law returns true; each argument reads behind the call as it read before'; 0 by the template 'total and deterministic' (their statements: YteofjhjhaaafjaaTotals.lean).
  GIVEN WITH THE SEED: the statements are not yours to turn. If you find one false, say at which input.
  Laid BY PROGRAM, IN A SANDBOX (cutbox-rows.mjs): the forced cells as the released guide's own fill.sh prints them over the translation f831f7017c32f828… (all of the seat's roots in one cut). By AI agents, Wed Nov 11 2026. No macro, syntax, notation, axiom, sorry.
-/
import Derived.Test.YteofjhjhaaafjaaChecked
import GoSem.Claim
import GoSem.ClaimJoined
import GoSem.ClaimMapViews
import Derived.JoinedTies
import Derived.KernelRfl
namespace Go.Proofs.Yteofjhjhaaafjaa
/- THE CELL 'sum', in the pinned program and in every row, IS THE sha256 OF THE DUMP (.gsa) THAT YteofjhjhaaafjaaProg.lean LOADS. Nothing in Lean hashes anything: it is a label: what it is worth is what the hold of that sum in a sandbox is worth. -/
noncomputable def Try.pinned : Pinned := { name := "yteofjhjhaaafjaa", sum := "f831f7017c32f828a6d6f149c19c3bdad8593437447f5c3e38978c0ffb986741", checked := Try.checked }
namespace Rows
def none {H : Type} : Left H := { results := [], args := [] }

/-- 'stanchionlaw24.TmplUnlike': WHATEVER THE INPUT: true; the input reads as it did. -/
def tmplUnlikeSpec : ChangeSpec := { name := "tmplUnlike", fn := fun _ => fun
  | [d1, d2] => { results := [.lit (.bool true)], args := [d1, d2] }
  | _ => none }
def tmplUnlikeRow : OpenClaim := { program := "yteofjhjhaaafjaa", sum := "f831f7017c32f828a6d6f149c19c3bdad8593437447f5c3e38978c0ffb986741", func := "stanchion/stanchionlaw24.TmplUnlike", spec := "tmplUnlike", apart := false }
def TmplUnlikeSaid : Prop := tmplUnlikeRow.holds Try.pinned (OpenSpec.ofChange tmplUnlikeSpec)

/-- ITS FALSE NEIGHBOUR: 'it returns false'. Refute it at one input. -/
def tmplUnlikeWrong : ChangeSpec := { name := "tmplUnlike", fn := fun _ => fun
  | [d1, d2] => { results := [.lit (.bool false)], args := [d1, d2] }
  | _ => none }
def TmplUnlikeWrongFalsely : Prop := tmplUnlikeRow.holds Try.pinned (OpenSpec.ofChange tmplUnlikeWrong)

/-- 'stanchionlaw24.TmplSpans': WHATEVER THE INPUT: true; the input reads as it did. -/
def tmplSpansSpec : ChangeSpec := { name := "tmplSpans", fn := fun _ => fun
  | [d1, d2] => { results := [.lit (.bool true)], args := [d1, d2] }
  | _ => none }
def tmplSpansRow : OpenClaim := { program := "yteofjhjhaaafjaa", sum := "f831f7017c32f828a6d6f149c19c3bdad8593437447f5c3e38978c0ffb986741", func := "stanchion/stanchionlaw24.TmplSpans", spec := "tmplSpans", apart := false }
def TmplSpansSaid : Prop := tmplSpansRow.holds Try.pinned (OpenSpec.ofChange tmplSpansSpec)

/-- ITS FALSE NEIGHBOUR: 'it returns false'. Refute it at one input. -/
def tmplSpansWrong : ChangeSpec := { name := "tmplSpans", fn := fun _ => fun
  | [d1, d2] => { results := [.lit (.bool false)], args := [d1, d2] }
  | _ => none }
def TmplSpansWrongFalsely : Prop := tmplSpansRow.holds Try.pinned (OpenSpec.ofChange tmplSpansWrong)

/-- 'stanchionlaw24.TmplReads': WHATEVER THE INPUT: true; the input reads as it did. -/
def tmplReadsSpec : ChangeSpec := { name := "tmplReads", fn := fun _ => fun
  | [d1, d2] => { results := [.lit (.bool true)], args := [d1, d2] }
  | _ => none }
def tmplReadsRow : OpenClaim := { program := "yteofjhjhaaafjaa", sum := "f831f7017c32f828a6d6f149c19c3bdad8593437447f5c3e38978c0ffb986741", func := "stanchion/stanchionlaw24.TmplReads", spec := "tmplReads", apart := false }
def TmplReadsSaid : Prop := tmplReadsRow.holds Try.pinned (OpenSpec.ofChange tmplReadsSpec)

/-- ITS FALSE NEIGHBOUR: 'it returns false'. Refute it at one input. -/
def tmplReadsWrong : ChangeSpec := { name := "tmplReads", fn := fun _ => fun
  | [d1, d2] => { results := [.lit (.bool false)], args := [d1, d2] }
  | _ => none }
def TmplReadsWrongFalsely : Prop := tmplReadsRow.holds Try.pinned (OpenSpec.ofChange tmplReadsWrong)

/-- 'stanchionlaw24.TmplWrites': WHATEVER THE INPUT: true; the input reads as it did. -/
def tmplWritesSpec : ChangeSpec := { name := "tmplWrites", fn := fun _ => fun
  | [d] => { results := [.lit (.bool true)], args := [d] }
  | _ => none }
def tmplWritesRow : OpenClaim := { program := "yteofjhjhaaafjaa", sum := "f831f7017c32f828a6d6f149c19c3bdad8593437447f5c3e38978c0ffb986741", func := "stanchion/stanchionlaw24.TmplWrites", spec := "tmplWrites", apart := false }
def TmplWritesSaid : Prop := tmplWritesRow.holds Try.pinned (OpenSpec.ofChange tmplWritesSpec)

/-- ITS FALSE NEIGHBOUR: 'it returns false'. Refute it at one input. -/
def tmplWritesWrong : ChangeSpec := { name := "tmplWrites", fn := fun _ => fun
  | [d] => { results := [.lit (.bool false)], args := [d] }
  | _ => none }
def TmplWritesWrongFalsely : Prop := tmplWritesRow.holds Try.pinned (OpenSpec.ofChange tmplWritesWrong)

/-- 'stanchionlaw14.IpsixPassed': WHATEVER THE INPUT: true; the input reads as it did. -/
def ipsixPassedSpec : ChangeSpec := { name := "ipsixPassed", fn := fun _ => fun
  | [d1, d2, d3] => { results := [.lit (.bool true)], args := [d1, d2, d3] }
  | _ => none }
def ipsixPassedRow : OpenClaim := { program := "yteofjhjhaaafjaa", sum := "f831f7017c32f828a6d6f149c19c3bdad8593437447f5c3e38978c0ffb986741", func := "stanchion/stanchionlaw14.IpsixPassed", spec := "ipsixPassed", apart := false }
def IpsixPassedSaid : Prop := ipsixPassedRow.holds Try.pinned (OpenSpec.ofChange ipsixPassedSpec)

/-- ITS FALSE NEIGHBOUR: 'it returns false'. Refute it at one input. -/
def ipsixPassedWrong : ChangeSpec := { name := "ipsixPassed", fn := fun _ => fun
  | [d1, d2, d3] => { results := [.lit (.bool false)], args := [d1, d2, d3] }
  | _ => none }
def IpsixPassedWrongFalsely : Prop := ipsixPassedRow.holds Try.pinned (OpenSpec.ofChange ipsixPassedWrong)

/-- 'stanchionlaw14.IpsixCut': WHATEVER THE INPUT: true; the input reads as it did. -/
def ipsixCutSpec : ChangeSpec := { name := "ipsixCut", fn := fun _ => fun
  | [d1, d2, d3] => { results := [.lit (.bool true)], args := [d1, d2, d3] }
  | _ => none }
def ipsixCutRow : OpenClaim := { program := "yteofjhjhaaafjaa", sum := "f831f7017c32f828a6d6f149c19c3bdad8593437447f5c3e38978c0ffb986741", func := "stanchion/stanchionlaw14.IpsixCut", spec := "ipsixCut", apart := false }
def IpsixCutSaid : Prop := ipsixCutRow.holds Try.pinned (OpenSpec.ofChange ipsixCutSpec)

/-- ITS FALSE NEIGHBOUR: 'it returns false'. Refute it at one input. -/
def ipsixCutWrong : ChangeSpec := { name := "ipsixCut", fn := fun _ => fun
  | [d1, d2, d3] => { results := [.lit (.bool false)], args := [d1, d2, d3] }
  | _ => none }
def IpsixCutWrongFalsely : Prop := ipsixCutRow.holds Try.pinned (OpenSpec.ofChange ipsixCutWrong)

/-- 'stanchionlaw13.IpfourReads': WHATEVER THE INPUT: true; the input reads as it did. -/
def ipfourReadsSpec : ChangeSpec := { name := "ipfourReads", fn := fun _ => fun
  | [d] => { results := [.lit (.bool true)], args := [d] }
  | _ => none }
def ipfourReadsRow : OpenClaim := { program := "yteofjhjhaaafjaa", sum := "f831f7017c32f828a6d6f149c19c3bdad8593437447f5c3e38978c0ffb986741", func := "stanchion/stanchionlaw13.IpfourReads", spec := "ipfourReads", apart := false }
def IpfourReadsSaid : Prop := ipfourReadsRow.holds Try.pinned (OpenSpec.ofChange ipfourReadsSpec)

/-- ITS FALSE NEIGHBOUR: 'it returns false'. Refute it at one input. -/
def ipfourReadsWrong : ChangeSpec := { name := "ipfourReads", fn := fun _ => fun
  | [d] => { results := [.lit (.bool false)], args := [d] }
  | _ => none }
def IpfourReadsWrongFalsely : Prop := ipfourReadsRow.holds Try.pinned (OpenSpec.ofChange ipfourReadsWrong)

/-- 'stanchionlaw13.IpfourSpoilt': WHATEVER THE INPUT: true; the input reads as it did. -/
def ipfourSpoiltSpec : ChangeSpec := { name := "ipfourSpoilt", fn := fun _ => fun
  | [d1, d2, d3] => { results := [.lit (.bool true)], args := [d1, d2, d3] }
  | _ => none }
def ipfourSpoiltRow : OpenClaim := { program := "yteofjhjhaaafjaa", sum := "f831f7017c32f828a6d6f149c19c3bdad8593437447f5c3e38978c0ffb986741", func := "stanchion/stanchionlaw13.IpfourSpoilt", spec := "ipfourSpoilt", apart := false }
def IpfourSpoiltSaid : Prop := ipfourSpoiltRow.holds Try.pinned (OpenSpec.ofChange ipfourSpoiltSpec)

/-- ITS FALSE NEIGHBOUR: 'it returns false'. Refute it at one input. -/
def ipfourSpoiltWrong : ChangeSpec := { name := "ipfourSpoilt", fn := fun _ => fun
  | [d1, d2, d3] => { results := [.lit (.bool false)], args := [d1, d2, d3] }
  | _ => none }
def IpfourSpoiltWrongFalsely : Prop := ipfourSpoiltRow.holds Try.pinned (OpenSpec.ofChange ipfourSpoiltWrong)

/-- 'stanchionlaw13.IpfourCut': WHATEVER THE INPUT: true; the input reads as it did. -/
def ipfourCutSpec : ChangeSpec := { name := "ipfourCut", fn := fun _ => fun
  | [d1, d2, d3] => { results := [.lit (.bool true)], args := [d1, d2, d3] }
  | _ => none }
def ipfourCutRow : OpenClaim := { program := "yteofjhjhaaafjaa", sum := "f831f7017c32f828a6d6f149c19c3bdad8593437447f5c3e38978c0ffb986741", func := "stanchion/stanchionlaw13.IpfourCut", spec := "ipfourCut", apart := false }
def IpfourCutSaid : Prop := ipfourCutRow.holds Try.pinned (OpenSpec.ofChange ipfourCutSpec)

/-- ITS FALSE NEIGHBOUR: 'it returns false'. Refute it at one input. -/
def ipfourCutWrong : ChangeSpec := { name := "ipfourCut", fn := fun _ => fun
  | [d1, d2, d3] => { results := [.lit (.bool false)], args := [d1, d2, d3] }
  | _ => none }
def IpfourCutWrongFalsely : Prop := ipfourCutRow.holds Try.pinned (OpenSpec.ofChange ipfourCutWrong)

/-- 'stanchionlaw15.SegReads': WHATEVER THE INPUT: true; the input reads as it did. -/
def segReadsSpec : ChangeSpec := { name := "segReads", fn := fun _ => fun
  | [d1, d2] => { results := [.lit (.bool true)], args := [d1, d2] }
  | _ => none }
def segReadsRow : OpenClaim := { program := "yteofjhjhaaafjaa", sum := "f831f7017c32f828a6d6f149c19c3bdad8593437447f5c3e38978c0ffb986741", func := "stanchion/stanchionlaw15.SegReads", spec := "segReads", apart := false }
def SegReadsSaid : Prop := segReadsRow.holds Try.pinned (OpenSpec.ofChange segReadsSpec)

/-- ITS FALSE NEIGHBOUR: 'it returns false'. Refute it at one input. -/
def segReadsWrong : ChangeSpec := { name := "segReads", fn := fun _ => fun
  | [d1, d2] => { results := [.lit (.bool false)], args := [d1, d2] }
  | _ => none }
def SegReadsWrongFalsely : Prop := segReadsRow.holds Try.pinned (OpenSpec.ofChange segReadsWrong)

/-- 'stanchionlaw15.SegSpoilt': WHATEVER THE INPUT: true; the input reads as it did. -/
def segSpoiltSpec : ChangeSpec := { name := "segSpoilt", fn := fun _ => fun
  | [d1, d2, d3] => { results := [.lit (.bool true)], args := [d1, d2, d3] }
  | _ => none }
def segSpoiltRow : OpenClaim := { program := "yteofjhjhaaafjaa", sum := "f831f7017c32f828a6d6f149c19c3bdad8593437447f5c3e38978c0ffb986741", func := "stanchion/stanchionlaw15.SegSpoilt", spec := "segSpoilt", apart := false }
def SegSpoiltSaid : Prop := segSpoiltRow.holds Try.pinned (OpenSpec.ofChange segSpoiltSpec)

/-- ITS FALSE NEIGHBOUR: 'it returns false'. Refute it at one input. -/
def segSpoiltWrong : ChangeSpec := { name := "segSpoilt", fn := fun _ => fun
  | [d1, d2, d3] => { results := [.lit (.bool false)], args := [d1, d2, d3] }
  | _ => none }
def SegSpoiltWrongFalsely : Prop := segSpoiltRow.holds Try.pinned (OpenSpec.ofChange segSpoiltWrong)

/-- 'stanchionlaw15.SegOther': WHATEVER THE INPUT: true; the input reads as it did. -/
def segOtherSpec : ChangeSpec := { name := "segOther", fn := fun _ => fun
  | [d1, d2, d3] => { results := [.lit (.bool true)], args := [d1, d2, d3] }
  | _ => none }
def segOtherRow : OpenClaim := { program := "yteofjhjhaaafjaa", sum := "f831f7017c32f828a6d6f149c19c3bdad8593437447f5c3e38978c0ffb986741", func := "stanchion/stanchionlaw15.SegOther", spec := "segOther", apart := false }
def SegOtherSaid : Prop := segOtherRow.holds Try.pinned (OpenSpec.ofChange segOtherSpec)

/-- ITS FALSE NEIGHBOUR: 'it returns false'. Refute it at one input. -/
def segOtherWrong : ChangeSpec := { name := "segOther", fn := fun _ => fun
  | [d1, d2, d3] => { results := [.lit (.bool false)], args := [d1, d2, d3] }
  | _ => none }
def SegOtherWrongFalsely : Prop := segOtherRow.holds Try.pinned (OpenSpec.ofChange segOtherWrong)

/-- 'stanchionlaw15.SegPseudo': WHATEVER THE INPUT: true; the input reads as it did. -/
def segPseudoSpec : ChangeSpec := { name := "segPseudo", fn := fun _ => fun
  | [d1, d2] => { results := [.lit (.bool true)], args := [d1, d2] }
  | _ => none }
def segPseudoRow : OpenClaim := { program := "yteofjhjhaaafjaa", sum := "f831f7017c32f828a6d6f149c19c3bdad8593437447f5c3e38978c0ffb986741", func := "stanchion/stanchionlaw15.SegPseudo", spec := "segPseudo", apart := false }
def SegPseudoSaid : Prop := segPseudoRow.holds Try.pinned (OpenSpec.ofChange segPseudoSpec)

/-- ITS FALSE NEIGHBOUR: 'it returns false'. Refute it at one input. -/
def segPseudoWrong : ChangeSpec := { name := "segPseudo", fn := fun _ => fun
  | [d1, d2] => { results := [.lit (.bool false)], args := [d1, d2] }
  | _ => none }
def SegPseudoWrongFalsely : Prop := segPseudoRow.holds Try.pinned (OpenSpec.ofChange segPseudoWrong)

/-- 'stanchionlaw36.IcmpReads': WHATEVER THE INPUT: true; the input reads as it did. -/
def icmpReadsSpec : ChangeSpec := { name := "icmpReads", fn := fun _ => fun
  | [d] => { results := [.lit (.bool true)], args := [d] }
  | _ => none }
def icmpReadsRow : OpenClaim := { program := "yteofjhjhaaafjaa", sum := "f831f7017c32f828a6d6f149c19c3bdad8593437447f5c3e38978c0ffb986741", func := "stanchion/stanchionlaw36.IcmpReads", spec := "icmpReads", apart := false }
def IcmpReadsSaid : Prop := icmpReadsRow.holds Try.pinned (OpenSpec.ofChange icmpReadsSpec)

/-- ITS FALSE NEIGHBOUR: 'it returns false'. Refute it at one input. -/
def icmpReadsWrong : ChangeSpec := { name := "icmpReads", fn := fun _ => fun
  | [d] => { results := [.lit (.bool false)], args := [d] }
  | _ => none }
def IcmpReadsWrongFalsely : Prop := icmpReadsRow.holds Try.pinned (OpenSpec.ofChange icmpReadsWrong)

/-- 'stanchionlaw16.PktReads': WHATEVER THE INPUT: true; the input reads as it did. -/
def pktReadsSpec : ChangeSpec := { name := "pktReads", fn := fun _ => fun
  | [d] => { results := [.lit (.bool true)], args := [d] }
  | _ => none }
def pktReadsRow : OpenClaim := { program := "yteofjhjhaaafjaa", sum := "f831f7017c32f828a6d6f149c19c3bdad8593437447f5c3e38978c0ffb986741", func := "stanchion/stanchionlaw16.PktReads", spec := "pktReads", apart := false }
def PktReadsSaid : Prop := pktReadsRow.holds Try.pinned (OpenSpec.ofChange pktReadsSpec)

/-- ITS FALSE NEIGHBOUR: 'it returns false'. Refute it at one input. -/
def pktReadsWrong : ChangeSpec := { name := "pktReads", fn := fun _ => fun
  | [d] => { results := [.lit (.bool false)], args := [d] }
  | _ => none }
def PktReadsWrongFalsely : Prop := pktReadsRow.holds Try.pinned (OpenSpec.ofChange pktReadsWrong)

/-- 'stanchionlaw16.PktSpoilt': WHATEVER THE INPUT: true; the input reads as it did. -/
def pktSpoiltSpec : ChangeSpec := { name := "pktSpoilt", fn := fun _ => fun
  | [d1, d2, d3] => { results := [.lit (.bool true)], args := [d1, d2, d3] }
  | _ => none }
def pktSpoiltRow : OpenClaim := { program := "yteofjhjhaaafjaa", sum := "f831f7017c32f828a6d6f149c19c3bdad8593437447f5c3e38978c0ffb986741", func := "stanchion/stanchionlaw16.PktSpoilt", spec := "pktSpoilt", apart := false }
def PktSpoiltSaid : Prop := pktSpoiltRow.holds Try.pinned (OpenSpec.ofChange pktSpoiltSpec)

/-- ITS FALSE NEIGHBOUR: 'it returns false'. Refute it at one input. -/
def pktSpoiltWrong : ChangeSpec := { name := "pktSpoilt", fn := fun _ => fun
  | [d1, d2, d3] => { results := [.lit (.bool false)], args := [d1, d2, d3] }
  | _ => none }
def PktSpoiltWrongFalsely : Prop := pktSpoiltRow.holds Try.pinned (OpenSpec.ofChange pktSpoiltWrong)

/-- 'stanchionlaw17.NatRewrites': WHATEVER THE INPUT: true; the input reads as it did. -/
def natRewritesSpec : ChangeSpec := { name := "natRewrites", fn := fun _ => fun
  | [d1, d2, d3] => { results := [.lit (.bool true)], args := [d1, d2, d3] }
  | _ => none }
def natRewritesRow : OpenClaim := { program := "yteofjhjhaaafjaa", sum := "f831f7017c32f828a6d6f149c19c3bdad8593437447f5c3e38978c0ffb986741", func := "stanchion/stanchionlaw17.NatRewrites", spec := "natRewrites", apart := false }
def NatRewritesSaid : Prop := natRewritesRow.holds Try.pinned (OpenSpec.ofChange natRewritesSpec)

/-- ITS FALSE NEIGHBOUR: 'it returns false'. Refute it at one input. -/
def natRewritesWrong : ChangeSpec := { name := "natRewrites", fn := fun _ => fun
  | [d1, d2, d3] => { results := [.lit (.bool false)], args := [d1, d2, d3] }
  | _ => none }
def NatRewritesWrongFalsely : Prop := natRewritesRow.holds Try.pinned (OpenSpec.ofChange natRewritesWrong)

/-- 'stanchionlaw16.PktBack': WHATEVER THE INPUT: true; the input reads as it did. -/
def pktBackSpec : ChangeSpec := { name := "pktBack", fn := fun _ => fun
  | [d] => { results := [.lit (.bool true)], args := [d] }
  | _ => none }
def pktBackRow : OpenClaim := { program := "yteofjhjhaaafjaa", sum := "f831f7017c32f828a6d6f149c19c3bdad8593437447f5c3e38978c0ffb986741", func := "stanchion/stanchionlaw16.PktBack", spec := "pktBack", apart := false }
def PktBackSaid : Prop := pktBackRow.holds Try.pinned (OpenSpec.ofChange pktBackSpec)

/-- ITS FALSE NEIGHBOUR: 'it returns false'. Refute it at one input. -/
def pktBackWrong : ChangeSpec := { name := "pktBack", fn := fun _ => fun
  | [d] => { results := [.lit (.bool false)], args := [d] }
  | _ => none }
def PktBackWrongFalsely : Prop := pktBackRow.holds Try.pinned (OpenSpec.ofChange pktBackWrong)

/- THE SECOND FORM. 'bulk': how many values and letters a reading holds, each counted each time it is reached (what is shared counts as often as it is met; a slice's spare places count too). A statement '..UptoSaid' is the law's where the arguments, and the package variables that the reading takes, are together of bulk at most 1048576: NARROWER than '..Said'. Prove '..Said' where nothing that the law and all that it calls make is longer than what came in: it says more and counts as full. Else prove '..UptoSaid'. A law counts once. -/
mutual
def uptoBulk {H : Type} : DataW H → Nat
  | .lit (.string bytes) => bytes.length + 1
  | .lit _ => 1
  | .nil => 1
  | .ptr d => uptoBulk d + 1
  | .slice elems spare => uptoBulkAll elems + uptoBulkAll spare + 1
  | .agg parts => uptoBulkAll parts + 1
  | .iface _ d => uptoBulk d + 1
  | .map entries => uptoBulkEntries entries + 1
  | .held _ => 1
def uptoBulkAll {H : Type} : List (DataW H) → Nat
  | [] => 0
  | d :: r => uptoBulk d + uptoBulkAll r
def uptoBulkEntries {H : Type} : List (Lit × DataW H) → Nat
  | [] => 0
  | x :: r => uptoBulkEntry x + uptoBulkEntries r
def uptoBulkEntry {H : Type} : Lit × DataW H → Nat
  | (.string bytes, d) => bytes.length + uptoBulk d + 1
  | (_, d) => uptoBulk d + 1
 end
def uptoSmall : (H : Type) → List (DataW H) → Bool := fun _ ds => decide (uptoBulkAll ds ≤ 1048576)
def OpenSpec.upto (s : _root_.Go.ChangeSpec) : _root_.Go.OpenSpec := { _root_.Go.OpenSpec.ofChange s with cond := some uptoSmall }

/-- 'stanchionlaw24.TmplUnlike', WHERE WHAT IT READS IS OF BULK AT MOST 1048576: true; the input reads as it did. -/
def tmplUnlikeUptoRow : OpenClaim := { program := "yteofjhjhaaafjaa", sum := "f831f7017c32f828a6d6f149c19c3bdad8593437447f5c3e38978c0ffb986741", func := "stanchion/stanchionlaw24.TmplUnlike", spec := "tmplUnlike", apart := false, narrowed := true }
def TmplUnlikeUptoSaid : Prop := tmplUnlikeUptoRow.holds Try.pinned (OpenSpec.upto tmplUnlikeSpec)

/-- 'stanchionlaw24.TmplSpans', WHERE WHAT IT READS IS OF BULK AT MOST 1048576: true; the input reads as it did. -/
def tmplSpansUptoRow : OpenClaim := { program := "yteofjhjhaaafjaa", sum := "f831f7017c32f828a6d6f149c19c3bdad8593437447f5c3e38978c0ffb986741", func := "stanchion/stanchionlaw24.TmplSpans", spec := "tmplSpans", apart := false, narrowed := true }
def TmplSpansUptoSaid : Prop := tmplSpansUptoRow.holds Try.pinned (OpenSpec.upto tmplSpansSpec)

/-- 'stanchionlaw24.TmplReads', WHERE WHAT IT READS IS OF BULK AT MOST 1048576: true; the input reads as it did. -/
def tmplReadsUptoRow : OpenClaim := { program := "yteofjhjhaaafjaa", sum := "f831f7017c32f828a6d6f149c19c3bdad8593437447f5c3e38978c0ffb986741", func := "stanchion/stanchionlaw24.TmplReads", spec := "tmplReads", apart := false, narrowed := true }
def TmplReadsUptoSaid : Prop := tmplReadsUptoRow.holds Try.pinned (OpenSpec.upto tmplReadsSpec)

/-- 'stanchionlaw24.TmplWrites', WHERE WHAT IT READS IS OF BULK AT MOST 1048576: true; the input reads as it did. -/
def tmplWritesUptoRow : OpenClaim := { program := "yteofjhjhaaafjaa", sum := "f831f7017c32f828a6d6f149c19c3bdad8593437447f5c3e38978c0ffb986741", func := "stanchion/stanchionlaw24.TmplWrites", spec := "tmplWrites", apart := false, narrowed := true }
def TmplWritesUptoSaid : Prop := tmplWritesUptoRow.holds Try.pinned (OpenSpec.upto tmplWritesSpec)

/-- 'stanchionlaw14.IpsixPassed', WHERE WHAT IT READS IS OF BULK AT MOST 1048576: true; the input reads as it did. -/
def ipsixPassedUptoRow : OpenClaim := { program := "yteofjhjhaaafjaa", sum := "f831f7017c32f828a6d6f149c19c3bdad8593437447f5c3e38978c0ffb986741", func := "stanchion/stanchionlaw14.IpsixPassed", spec := "ipsixPassed", apart := false, narrowed := true }
def IpsixPassedUptoSaid : Prop := ipsixPassedUptoRow.holds Try.pinned (OpenSpec.upto ipsixPassedSpec)

/-- 'stanchionlaw14.IpsixCut', WHERE WHAT IT READS IS OF BULK AT MOST 1048576: true; the input reads as it did. -/
def ipsixCutUptoRow : OpenClaim := { program := "yteofjhjhaaafjaa", sum := "f831f7017c32f828a6d6f149c19c3bdad8593437447f5c3e38978c0ffb986741", func := "stanchion/stanchionlaw14.IpsixCut", spec := "ipsixCut", apart := false, narrowed := true }
def IpsixCutUptoSaid : Prop := ipsixCutUptoRow.holds Try.pinned (OpenSpec.upto ipsixCutSpec)

/-- 'stanchionlaw13.IpfourReads', WHERE WHAT IT READS IS OF BULK AT MOST 1048576: true; the input reads as it did. -/
def ipfourReadsUptoRow : OpenClaim := { program := "yteofjhjhaaafjaa", sum := "f831f7017c32f828a6d6f149c19c3bdad8593437447f5c3e38978c0ffb986741", func := "stanchion/stanchionlaw13.IpfourReads", spec := "ipfourReads", apart := false, narrowed := true }
def IpfourReadsUptoSaid : Prop := ipfourReadsUptoRow.holds Try.pinned (OpenSpec.upto ipfourReadsSpec)

/-- 'stanchionlaw13.IpfourSpoilt', WHERE WHAT IT READS IS OF BULK AT MOST 1048576: true; the input reads as it did. -/
def ipfourSpoiltUptoRow : OpenClaim := { program := "yteofjhjhaaafjaa", sum := "f831f7017c32f828a6d6f149c19c3bdad8593437447f5c3e38978c0ffb986741", func := "stanchion/stanchionlaw13.IpfourSpoilt", spec := "ipfourSpoilt", apart := false, narrowed := true }
def IpfourSpoiltUptoSaid : Prop := ipfourSpoiltUptoRow.holds Try.pinned (OpenSpec.upto ipfourSpoiltSpec)

/-- 'stanchionlaw13.IpfourCut', WHERE WHAT IT READS IS OF BULK AT MOST 1048576: true; the input reads as it did. -/
def ipfourCutUptoRow : OpenClaim := { program := "yteofjhjhaaafjaa", sum := "f831f7017c32f828a6d6f149c19c3bdad8593437447f5c3e38978c0ffb986741", func := "stanchion/stanchionlaw13.IpfourCut", spec := "ipfourCut", apart := false, narrowed := true }
def IpfourCutUptoSaid : Prop := ipfourCutUptoRow.holds Try.pinned (OpenSpec.upto ipfourCutSpec)

/-- 'stanchionlaw15.SegReads', WHERE WHAT IT READS IS OF BULK AT MOST 1048576: true; the input reads as it did. -/
def segReadsUptoRow : OpenClaim := { program := "yteofjhjhaaafjaa", sum := "f831f7017c32f828a6d6f149c19c3bdad8593437447f5c3e38978c0ffb986741", func := "stanchion/stanchionlaw15.SegReads", spec := "segReads", apart := false, narrowed := true }
def SegReadsUptoSaid : Prop := segReadsUptoRow.holds Try.pinned (OpenSpec.upto segReadsSpec)

/-- 'stanchionlaw15.SegSpoilt', WHERE WHAT IT READS IS OF BULK AT MOST 1048576: true; the input reads as it did. -/
def segSpoiltUptoRow : OpenClaim := { program := "yteofjhjhaaafjaa", sum := "f831f7017c32f828a6d6f149c19c3bdad8593437447f5c3e38978c0ffb986741", func := "stanchion/stanchionlaw15.SegSpoilt", spec := "segSpoilt", apart := false, narrowed := true }
def SegSpoiltUptoSaid : Prop := segSpoiltUptoRow.holds Try.pinned (OpenSpec.upto segSpoiltSpec)

/-- 'stanchionlaw15.SegOther', WHERE WHAT IT READS IS OF BULK AT MOST 1048576: true; the input reads as it did. -/
def segOtherUptoRow : OpenClaim := { program := "yteofjhjhaaafjaa", sum := "f831f7017c32f828a6d6f149c19c3bdad8593437447f5c3e38978c0ffb986741", func := "stanchion/stanchionlaw15.SegOther", spec := "segOther", apart := false, narrowed := true }
def SegOtherUptoSaid : Prop := segOtherUptoRow.holds Try.pinned (OpenSpec.upto segOtherSpec)

/-- 'stanchionlaw15.SegPseudo', WHERE WHAT IT READS IS OF BULK AT MOST 1048576: true; the input reads as it did. -/
def segPseudoUptoRow : OpenClaim := { program := "yteofjhjhaaafjaa", sum := "f831f7017c32f828a6d6f149c19c3bdad8593437447f5c3e38978c0ffb986741", func := "stanchion/stanchionlaw15.SegPseudo", spec := "segPseudo", apart := false, narrowed := true }
def SegPseudoUptoSaid : Prop := segPseudoUptoRow.holds Try.pinned (OpenSpec.upto segPseudoSpec)

/-- 'stanchionlaw36.IcmpReads', WHERE WHAT IT READS IS OF BULK AT MOST 1048576: true; the input reads as it did. -/
def icmpReadsUptoRow : OpenClaim := { program := "yteofjhjhaaafjaa", sum := "f831f7017c32f828a6d6f149c19c3bdad8593437447f5c3e38978c0ffb986741", func := "stanchion/stanchionlaw36.IcmpReads", spec := "icmpReads", apart := false, narrowed := true }
def IcmpReadsUptoSaid : Prop := icmpReadsUptoRow.holds Try.pinned (OpenSpec.upto icmpReadsSpec)

/-- 'stanchionlaw16.PktReads', WHERE WHAT IT READS IS OF BULK AT MOST 1048576: true; the input reads as it did. -/
def pktReadsUptoRow : OpenClaim := { program := "yteofjhjhaaafjaa", sum := "f831f7017c32f828a6d6f149c19c3bdad8593437447f5c3e38978c0ffb986741", func := "stanchion/stanchionlaw16.PktReads", spec := "pktReads", apart := false, narrowed := true }
def PktReadsUptoSaid : Prop := pktReadsUptoRow.holds Try.pinned (OpenSpec.upto pktReadsSpec)

/-- 'stanchionlaw16.PktSpoilt', WHERE WHAT IT READS IS OF BULK AT MOST 1048576: true; the input reads as it did. -/
def pktSpoiltUptoRow : OpenClaim := { program := "yteofjhjhaaafjaa", sum := "f831f7017c32f828a6d6f149c19c3bdad8593437447f5c3e38978c0ffb986741", func := "stanchion/stanchionlaw16.PktSpoilt", spec := "pktSpoilt", apart := false, narrowed := true }
def PktSpoiltUptoSaid : Prop := pktSpoiltUptoRow.holds Try.pinned (OpenSpec.upto pktSpoiltSpec)

/-- 'stanchionlaw17.NatRewrites', WHERE WHAT IT READS IS OF BULK AT MOST 1048576: true; the input reads as it did. -/
def natRewritesUptoRow : OpenClaim := { program := "yteofjhjhaaafjaa", sum := "f831f7017c32f828a6d6f149c19c3bdad8593437447f5c3e38978c0ffb986741", func := "stanchion/stanchionlaw17.NatRewrites", spec := "natRewrites", apart := false, narrowed := true }
def NatRewritesUptoSaid : Prop := natRewritesUptoRow.holds Try.pinned (OpenSpec.upto natRewritesSpec)

/-- 'stanchionlaw16.PktBack', WHERE WHAT IT READS IS OF BULK AT MOST 1048576: true; the input reads as it did. -/
def pktBackUptoRow : OpenClaim := { program := "yteofjhjhaaafjaa", sum := "f831f7017c32f828a6d6f149c19c3bdad8593437447f5c3e38978c0ffb986741", func := "stanchion/stanchionlaw16.PktBack", spec := "pktBack", apart := false, narrowed := true }
def PktBackUptoSaid : Prop := pktBackUptoRow.holds Try.pinned (OpenSpec.upto pktBackSpec)

end Rows
end Go.Proofs.Yteofjhjhaaafjaa
