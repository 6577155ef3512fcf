/-
  No cell of these rows narrows 'for every input' (looked for: loops, veiled, ifaces, maps, wideKeys, modest, calm, conditions, laid).
  DERIVED. THE GIVEN ROWS OF THIS SEAT. 9 by the template 'for every input the law returns true; each argument reads behind the call as it read before'; 0 by the template 'total and deterministic' (their statements: YtepmikgjnmjheaaTotals.lean).
  GIVEN WITH THE SEED: the statements are not yours to turn. If you find one false, say at which input.
  Laid BY PROGRAM, IN A SANDBOX (cutbox-rows.mjs): the forced cells as the released guide's own fill.sh prints them over the translation 33ed45418e02de7f… (all of the seat's roots in one cut). By AI agents, Wed Nov 11 2026. No macro, syntax, notation, axiom, sorry.
-/
import Derived.Test.YtepmikgjnmjheaaChecked
import GoSem.Claim
import GoSem.ClaimJoined
import GoSem.ClaimMapViews
import Derived.JoinedTies
import Derived.KernelRfl
namespace Go.Proofs.Ytepmikgjnmjheaa
/- THE CELL 'sum', in the pinned program and in every row, IS THE sha256 OF THE DUMP (.gsa) THAT YtepmikgjnmjheaaProg.lean LOADS. Nothing in Lean hashes anything: it is a label: what it is worth is what the hold of that sum in a sandbox is worth. -/
noncomputable def Try.pinned : Pinned := { name := "ytepmikgjnmjheaa", sum := "33ed45418e02de7fdd094492182679d24c9e493ccc179eeee0d8cec0ed72e653", checked := Try.checked }
namespace Rows
def none {H : Type} : Left H := { results := [], args := [] }

/-- 'stanchionlaw03.DevFlushed': WHATEVER THE INPUT: true; the input reads as it did. -/
def devFlushedSpec : ChangeSpec := { name := "devFlushed", fn := fun _ => fun
  | [d1, d2, d3] => { results := [.lit (.bool true)], args := [d1, d2, d3] }
  | _ => none }
def devFlushedRow : OpenClaim := { program := "ytepmikgjnmjheaa", sum := "33ed45418e02de7fdd094492182679d24c9e493ccc179eeee0d8cec0ed72e653", func := "stanchion/stanchionlaw03.DevFlushed", spec := "devFlushed", unfollowed := true, recurses := true, apart := false }
def DevFlushedSaid : Prop := devFlushedRow.holds Try.pinned (OpenSpec.ofChange devFlushedSpec)

/-- ITS FALSE NEIGHBOUR: 'it returns false'. Refute it at one input. -/
def devFlushedWrong : ChangeSpec := { name := "devFlushed", fn := fun _ => fun
  | [d1, d2, d3] => { results := [.lit (.bool false)], args := [d1, d2, d3] }
  | _ => none }
def DevFlushedWrongFalsely : Prop := devFlushedRow.holds Try.pinned (OpenSpec.ofChange devFlushedWrong)

/-- 'stanchionlaw03.DevKept': WHATEVER THE INPUT: true; the input reads as it did. -/
def devKeptSpec : ChangeSpec := { name := "devKept", fn := fun _ => fun
  | [d1, d2] => { results := [.lit (.bool true)], args := [d1, d2] }
  | _ => none }
def devKeptRow : OpenClaim := { program := "ytepmikgjnmjheaa", sum := "33ed45418e02de7fdd094492182679d24c9e493ccc179eeee0d8cec0ed72e653", func := "stanchion/stanchionlaw03.DevKept", spec := "devKept", unfollowed := true, recurses := true, apart := false }
def DevKeptSaid : Prop := devKeptRow.holds Try.pinned (OpenSpec.ofChange devKeptSpec)

/-- ITS FALSE NEIGHBOUR: 'it returns false'. Refute it at one input. -/
def devKeptWrong : ChangeSpec := { name := "devKept", fn := fun _ => fun
  | [d1, d2] => { results := [.lit (.bool false)], args := [d1, d2] }
  | _ => none }
def DevKeptWrongFalsely : Prop := devKeptRow.holds Try.pinned (OpenSpec.ofChange devKeptWrong)

/-- 'stanchionlaw03.DevPlays': WHATEVER THE INPUT: true; the input reads as it did. -/
def devPlaysSpec : ChangeSpec := { name := "devPlays", fn := fun _ => fun
  | [d1, d2] => { results := [.lit (.bool true)], args := [d1, d2] }
  | _ => none }
def devPlaysRow : OpenClaim := { program := "ytepmikgjnmjheaa", sum := "33ed45418e02de7fdd094492182679d24c9e493ccc179eeee0d8cec0ed72e653", func := "stanchion/stanchionlaw03.DevPlays", spec := "devPlays", unfollowed := true, recurses := true, apart := false }
def DevPlaysSaid : Prop := devPlaysRow.holds Try.pinned (OpenSpec.ofChange devPlaysSpec)

/-- ITS FALSE NEIGHBOUR: 'it returns false'. Refute it at one input. -/
def devPlaysWrong : ChangeSpec := { name := "devPlays", fn := fun _ => fun
  | [d1, d2] => { results := [.lit (.bool false)], args := [d1, d2] }
  | _ => none }
def DevPlaysWrongFalsely : Prop := devPlaysRow.holds Try.pinned (OpenSpec.ofChange devPlaysWrong)

/-- 'stanchionlaw03.DevNone': WHATEVER THE INPUT: true; the input reads as it did. -/
def devNoneSpec : ChangeSpec := { name := "devNone", fn := fun _ => fun
  | [d] => { results := [.lit (.bool true)], args := [d] }
  | _ => none }
def devNoneRow : OpenClaim := { program := "ytepmikgjnmjheaa", sum := "33ed45418e02de7fdd094492182679d24c9e493ccc179eeee0d8cec0ed72e653", func := "stanchion/stanchionlaw03.DevNone", spec := "devNone", unfollowed := true, recurses := true, apart := false }
def DevNoneSaid : Prop := devNoneRow.holds Try.pinned (OpenSpec.ofChange devNoneSpec)

/-- ITS FALSE NEIGHBOUR: 'it returns false'. Refute it at one input. -/
def devNoneWrong : ChangeSpec := { name := "devNone", fn := fun _ => fun
  | [d] => { results := [.lit (.bool false)], args := [d] }
  | _ => none }
def DevNoneWrongFalsely : Prop := devNoneRow.holds Try.pinned (OpenSpec.ofChange devNoneWrong)

/-- 'stanchionlaw05.CachePinned': WHATEVER THE INPUT: true; the input reads as it did. -/
def cachePinnedSpec : ChangeSpec := { name := "cachePinned", fn := fun _ => fun
  | [d1, d2] => { results := [.lit (.bool true)], args := [d1, d2] }
  | _ => none }
def cachePinnedRow : OpenClaim := { program := "ytepmikgjnmjheaa", sum := "33ed45418e02de7fdd094492182679d24c9e493ccc179eeee0d8cec0ed72e653", func := "stanchion/stanchionlaw05.CachePinned", spec := "cachePinned", unfollowed := true, recurses := true, apart := false }
def CachePinnedSaid : Prop := cachePinnedRow.holds Try.pinned (OpenSpec.ofChange cachePinnedSpec)

/-- ITS FALSE NEIGHBOUR: 'it returns false'. Refute it at one input. -/
def cachePinnedWrong : ChangeSpec := { name := "cachePinned", fn := fun _ => fun
  | [d1, d2] => { results := [.lit (.bool false)], args := [d1, d2] }
  | _ => none }
def CachePinnedWrongFalsely : Prop := cachePinnedRow.holds Try.pinned (OpenSpec.ofChange cachePinnedWrong)

/-- 'stanchionlaw05.CacheThrough': WHATEVER THE INPUT: true; the input reads as it did. -/
def cacheThroughSpec : ChangeSpec := { name := "cacheThrough", fn := fun _ => fun
  | [d] => { results := [.lit (.bool true)], args := [d] }
  | _ => none }
def cacheThroughRow : OpenClaim := { program := "ytepmikgjnmjheaa", sum := "33ed45418e02de7fdd094492182679d24c9e493ccc179eeee0d8cec0ed72e653", func := "stanchion/stanchionlaw05.CacheThrough", spec := "cacheThrough", unfollowed := true, recurses := true, apart := false }
def CacheThroughSaid : Prop := cacheThroughRow.holds Try.pinned (OpenSpec.ofChange cacheThroughSpec)

/-- ITS FALSE NEIGHBOUR: 'it returns false'. Refute it at one input. -/
def cacheThroughWrong : ChangeSpec := { name := "cacheThrough", fn := fun _ => fun
  | [d] => { results := [.lit (.bool false)], args := [d] }
  | _ => none }
def CacheThroughWrongFalsely : Prop := cacheThroughRow.holds Try.pinned (OpenSpec.ofChange cacheThroughWrong)

/-- 'stanchionlaw05.CacheNone': WHATEVER THE INPUT: true; the input reads as it did. -/
def cacheNoneSpec : ChangeSpec := { name := "cacheNone", fn := fun _ => fun
  | [d1, d2] => { results := [.lit (.bool true)], args := [d1, d2] }
  | _ => none }
def cacheNoneRow : OpenClaim := { program := "ytepmikgjnmjheaa", sum := "33ed45418e02de7fdd094492182679d24c9e493ccc179eeee0d8cec0ed72e653", func := "stanchion/stanchionlaw05.CacheNone", spec := "cacheNone", unfollowed := true, recurses := true, apart := false }
def CacheNoneSaid : Prop := cacheNoneRow.holds Try.pinned (OpenSpec.ofChange cacheNoneSpec)

/-- ITS FALSE NEIGHBOUR: 'it returns false'. Refute it at one input. -/
def cacheNoneWrong : ChangeSpec := { name := "cacheNone", fn := fun _ => fun
  | [d1, d2] => { results := [.lit (.bool false)], args := [d1, d2] }
  | _ => none }
def CacheNoneWrongFalsely : Prop := cacheNoneRow.holds Try.pinned (OpenSpec.ofChange cacheNoneWrong)

/-- 'stanchionlaw05.CacheSynced': WHATEVER THE INPUT: true; the input reads as it did. -/
def cacheSyncedSpec : ChangeSpec := { name := "cacheSynced", fn := fun _ => fun
  | [d] => { results := [.lit (.bool true)], args := [d] }
  | _ => none }
def cacheSyncedRow : OpenClaim := { program := "ytepmikgjnmjheaa", sum := "33ed45418e02de7fdd094492182679d24c9e493ccc179eeee0d8cec0ed72e653", func := "stanchion/stanchionlaw05.CacheSynced", spec := "cacheSynced", unfollowed := true, recurses := true, apart := false }
def CacheSyncedSaid : Prop := cacheSyncedRow.holds Try.pinned (OpenSpec.ofChange cacheSyncedSpec)

/-- ITS FALSE NEIGHBOUR: 'it returns false'. Refute it at one input. -/
def cacheSyncedWrong : ChangeSpec := { name := "cacheSynced", fn := fun _ => fun
  | [d] => { results := [.lit (.bool false)], args := [d] }
  | _ => none }
def CacheSyncedWrongFalsely : Prop := cacheSyncedRow.holds Try.pinned (OpenSpec.ofChange cacheSyncedWrong)

/-- 'stanchionlaw05.CachePlays': WHATEVER THE INPUT: true; the input reads as it did. -/
def cachePlaysSpec : ChangeSpec := { name := "cachePlays", fn := fun _ => fun
  | [d1, d2] => { results := [.lit (.bool true)], args := [d1, d2] }
  | _ => none }
def cachePlaysRow : OpenClaim := { program := "ytepmikgjnmjheaa", sum := "33ed45418e02de7fdd094492182679d24c9e493ccc179eeee0d8cec0ed72e653", func := "stanchion/stanchionlaw05.CachePlays", spec := "cachePlays", unfollowed := true, recurses := true, apart := false }
def CachePlaysSaid : Prop := cachePlaysRow.holds Try.pinned (OpenSpec.ofChange cachePlaysSpec)

/-- ITS FALSE NEIGHBOUR: 'it returns false'. Refute it at one input. -/
def cachePlaysWrong : ChangeSpec := { name := "cachePlays", fn := fun _ => fun
  | [d1, d2] => { results := [.lit (.bool false)], args := [d1, d2] }
  | _ => none }
def CachePlaysWrongFalsely : Prop := cachePlaysRow.holds Try.pinned (OpenSpec.ofChange cachePlaysWrong)

/- THE SECOND FORM. 'bulk': how many values and letters a reading holds, each counted each time it is reached (what is shared counts as often as it is met; a slice's spare places count too). A statement '..UptoSaid' is the law's where the arguments, and the package variables that the reading takes, are together of bulk at most 1048576: NARROWER than '..Said'. Prove '..Said' where nothing that the law and all that it calls make is longer than what came in: it says more and counts as full. Else prove '..UptoSaid'. A law counts once. -/
mutual
def uptoBulk {H : Type} : DataW H → Nat
  | .lit (.string bytes) => bytes.length + 1
  | .lit _ => 1
  | .nil => 1
  | .ptr d => uptoBulk d + 1
  | .slice elems spare => uptoBulkAll elems + uptoBulkAll spare + 1
  | .agg parts => uptoBulkAll parts + 1
  | .iface _ d => uptoBulk d + 1
  | .map entries => uptoBulkEntries entries + 1
  | .held _ => 1
def uptoBulkAll {H : Type} : List (DataW H) → Nat
  | [] => 0
  | d :: r => uptoBulk d + uptoBulkAll r
def uptoBulkEntries {H : Type} : List (Lit × DataW H) → Nat
  | [] => 0
  | x :: r => uptoBulkEntry x + uptoBulkEntries r
def uptoBulkEntry {H : Type} : Lit × DataW H → Nat
  | (.string bytes, d) => bytes.length + uptoBulk d + 1
  | (_, d) => uptoBulk d + 1
 end
def uptoSmall : (H : Type) → List (DataW H) → Bool := fun _ ds => decide (uptoBulkAll ds ≤ 1048576)
def OpenSpec.upto (s : _root_.Go.ChangeSpec) : _root_.Go.OpenSpec := { _root_.Go.OpenSpec.ofChange s with cond := some uptoSmall }

/-- 'stanchionlaw03.DevFlushed', WHERE WHAT IT READS IS OF BULK AT MOST 1048576: true; the input reads as it did. -/
def devFlushedUptoRow : OpenClaim := { program := "ytepmikgjnmjheaa", sum := "33ed45418e02de7fdd094492182679d24c9e493ccc179eeee0d8cec0ed72e653", func := "stanchion/stanchionlaw03.DevFlushed", spec := "devFlushed", unfollowed := true, recurses := true, apart := false, narrowed := true }
def DevFlushedUptoSaid : Prop := devFlushedUptoRow.holds Try.pinned (OpenSpec.upto devFlushedSpec)

/-- 'stanchionlaw03.DevKept', WHERE WHAT IT READS IS OF BULK AT MOST 1048576: true; the input reads as it did. -/
def devKeptUptoRow : OpenClaim := { program := "ytepmikgjnmjheaa", sum := "33ed45418e02de7fdd094492182679d24c9e493ccc179eeee0d8cec0ed72e653", func := "stanchion/stanchionlaw03.DevKept", spec := "devKept", unfollowed := true, recurses := true, apart := false, narrowed := true }
def DevKeptUptoSaid : Prop := devKeptUptoRow.holds Try.pinned (OpenSpec.upto devKeptSpec)

/-- 'stanchionlaw03.DevPlays', WHERE WHAT IT READS IS OF BULK AT MOST 1048576: true; the input reads as it did. -/
def devPlaysUptoRow : OpenClaim := { program := "ytepmikgjnmjheaa", sum := "33ed45418e02de7fdd094492182679d24c9e493ccc179eeee0d8cec0ed72e653", func := "stanchion/stanchionlaw03.DevPlays", spec := "devPlays", unfollowed := true, recurses := true, apart := false, narrowed := true }
def DevPlaysUptoSaid : Prop := devPlaysUptoRow.holds Try.pinned (OpenSpec.upto devPlaysSpec)

/-- 'stanchionlaw03.DevNone', WHERE WHAT IT READS IS OF BULK AT MOST 1048576: true; the input reads as it did. -/
def devNoneUptoRow : OpenClaim := { program := "ytepmikgjnmjheaa", sum := "33ed45418e02de7fdd094492182679d24c9e493ccc179eeee0d8cec0ed72e653", func := "stanchion/stanchionlaw03.DevNone", spec := "devNone", unfollowed := true, recurses := true, apart := false, narrowed := true }
def DevNoneUptoSaid : Prop := devNoneUptoRow.holds Try.pinned (OpenSpec.upto devNoneSpec)

/-- 'stanchionlaw05.CachePinned', WHERE WHAT IT READS IS OF BULK AT MOST 1048576: true; the input reads as it did. -/
def cachePinnedUptoRow : OpenClaim := { program := "ytepmikgjnmjheaa", sum := "33ed45418e02de7fdd094492182679d24c9e493ccc179eeee0d8cec0ed72e653", func := "stanchion/stanchionlaw05.CachePinned", spec := "cachePinned", unfollowed := true, recurses := true, apart := false, narrowed := true }
def CachePinnedUptoSaid : Prop := cachePinnedUptoRow.holds Try.pinned (OpenSpec.upto cachePinnedSpec)

/-- 'stanchionlaw05.CacheThrough', WHERE WHAT IT READS IS OF BULK AT MOST 1048576: true; the input reads as it did. -/
def cacheThroughUptoRow : OpenClaim := { program := "ytepmikgjnmjheaa", sum := "33ed45418e02de7fdd094492182679d24c9e493ccc179eeee0d8cec0ed72e653", func := "stanchion/stanchionlaw05.CacheThrough", spec := "cacheThrough", unfollowed := true, recurses := true, apart := false, narrowed := true }
def CacheThroughUptoSaid : Prop := cacheThroughUptoRow.holds Try.pinned (OpenSpec.upto cacheThroughSpec)

/-- 'stanchionlaw05.CacheNone', WHERE WHAT IT READS IS OF BULK AT MOST 1048576: true; the input reads as it did. -/
def cacheNoneUptoRow : OpenClaim := { program := "ytepmikgjnmjheaa", sum := "33ed45418e02de7fdd094492182679d24c9e493ccc179eeee0d8cec0ed72e653", func := "stanchion/stanchionlaw05.CacheNone", spec := "cacheNone", unfollowed := true, recurses := true, apart := false, narrowed := true }
def CacheNoneUptoSaid : Prop := cacheNoneUptoRow.holds Try.pinned (OpenSpec.upto cacheNoneSpec)

/-- 'stanchionlaw05.CacheSynced', WHERE WHAT IT READS IS OF BULK AT MOST 1048576: true; the input reads as it did. -/
def cacheSyncedUptoRow : OpenClaim := { program := "ytepmikgjnmjheaa", sum := "33ed45418e02de7fdd094492182679d24c9e493ccc179eeee0d8cec0ed72e653", func := "stanchion/stanchionlaw05.CacheSynced", spec := "cacheSynced", unfollowed := true, recurses := true, apart := false, narrowed := true }
def CacheSyncedUptoSaid : Prop := cacheSyncedUptoRow.holds Try.pinned (OpenSpec.upto cacheSyncedSpec)

/-- 'stanchionlaw05.CachePlays', WHERE WHAT IT READS IS OF BULK AT MOST 1048576: true; the input reads as it did. -/
def cachePlaysUptoRow : OpenClaim := { program := "ytepmikgjnmjheaa", sum := "33ed45418e02de7fdd094492182679d24c9e493ccc179eeee0d8cec0ed72e653", func := "stanchion/stanchionlaw05.CachePlays", spec := "cachePlays", unfollowed := true, recurses := true, apart := false, narrowed := true }
def CachePlaysUptoSaid : Prop := cachePlaysUptoRow.holds Try.pinned (OpenSpec.upto cachePlaysSpec)

end Rows
end Go.Proofs.Ytepmikgjnmjheaa
