/-
  No cell of these rows narrows 'for every input' (looked for: loops, veiled, ifaces, maps, wideKeys, modest, calm, conditions, laid).
  DERIVED. THE GIVEN ROWS OF THIS SEAT. 17 by the template 'for every input the law returns true; each argument reads behind the call as it read before'; 0 by the template 'total and deterministic' (their statements: YtghbfplcagmdhaaTotals.lean).
  GIVEN WITH THE SEED: the statements are not yours to turn. If you find one false, say at which input.
  Laid BY PROGRAM, IN A SANDBOX (cutbox-rows.mjs): the forced cells as the released guide's own fill.sh prints them over the translation ee053125dd6de7e6… (all of the seat's roots in one cut). By AI agents, Wed Nov 11 2026. No macro, syntax, notation, axiom, sorry.
-/
import Derived.Test.YtghbfplcagmdhaaChecked
import GoSem.Claim
import GoSem.ClaimJoined
import GoSem.ClaimMapViews
import Derived.JoinedTies
import Derived.KernelRfl
namespace Go.Proofs.Ytghbfplcagmdhaa
/- THE CELL 'sum', in the pinned program and in every row, IS THE sha256 OF THE DUMP (.gsa) THAT YtghbfplcagmdhaaProg.lean LOADS. Nothing in Lean hashes anything: it is a label: what it is worth is what the hold of that sum in a sandbox is worth. -/
noncomputable def Try.pinned : Pinned := { name := "ytghbfplcagmdhaa", sum := "ee053125dd6de7e63a72b3158d2bce17fdf688759f8d1e548eaf5078e0fec955", checked := Try.checked }
namespace Rows
def none {H : Type} : Left H := { results := [], args := [] }

/-- 'stanchionlaw23.FlowsFull': WHATEVER THE INPUT: true; the input reads as it did. -/
def flowsFullSpec : ChangeSpec := { name := "flowsFull", fn := fun _ => fun
  | [d1, d2] => { results := [.lit (.bool true)], args := [d1, d2] }
  | _ => none }
def flowsFullRow : OpenClaim := { program := "ytghbfplcagmdhaa", sum := "ee053125dd6de7e63a72b3158d2bce17fdf688759f8d1e548eaf5078e0fec955", func := "stanchion/stanchionlaw23.FlowsFull", spec := "flowsFull", unfollowed := true, recurses := true, plainKeys := false, apart := false }
def FlowsFullSaid : Prop := flowsFullRow.holds Try.pinned (OpenSpec.ofChange flowsFullSpec)

/-- ITS FALSE NEIGHBOUR: 'it returns false'. Refute it at one input. -/
def flowsFullWrong : ChangeSpec := { name := "flowsFull", fn := fun _ => fun
  | [d1, d2] => { results := [.lit (.bool false)], args := [d1, d2] }
  | _ => none }
def FlowsFullWrongFalsely : Prop := flowsFullRow.holds Try.pinned (OpenSpec.ofChange flowsFullWrong)

/-- 'stanchionlaw33.BucketPlays': WHATEVER THE INPUT: true; the input reads as it did. -/
def bucketPlaysSpec : ChangeSpec := { name := "bucketPlays", fn := fun _ => fun
  | [d1, d2] => { results := [.lit (.bool true)], args := [d1, d2] }
  | _ => none }
def bucketPlaysRow : OpenClaim := { program := "ytghbfplcagmdhaa", sum := "ee053125dd6de7e63a72b3158d2bce17fdf688759f8d1e548eaf5078e0fec955", func := "stanchion/stanchionlaw33.BucketPlays", spec := "bucketPlays", plainKeys := false, apart := false }
def BucketPlaysSaid : Prop := bucketPlaysRow.holds Try.pinned (OpenSpec.ofChange bucketPlaysSpec)

/-- ITS FALSE NEIGHBOUR: 'it returns false'. Refute it at one input. -/
def bucketPlaysWrong : ChangeSpec := { name := "bucketPlays", fn := fun _ => fun
  | [d1, d2] => { results := [.lit (.bool false)], args := [d1, d2] }
  | _ => none }
def BucketPlaysWrongFalsely : Prop := bucketPlaysRow.holds Try.pinned (OpenSpec.ofChange bucketPlaysWrong)

/-- 'stanchionlaw21.HealthPlays': WHATEVER THE INPUT: true; the input reads as it did. -/
def healthPlaysSpec : ChangeSpec := { name := "healthPlays", fn := fun _ => fun
  | [d1, d2, d3] => { results := [.lit (.bool true)], args := [d1, d2, d3] }
  | _ => none }
def healthPlaysRow : OpenClaim := { program := "ytghbfplcagmdhaa", sum := "ee053125dd6de7e63a72b3158d2bce17fdf688759f8d1e548eaf5078e0fec955", func := "stanchion/stanchionlaw21.HealthPlays", spec := "healthPlays", unfollowed := true, recurses := true, plainKeys := false, apart := false }
def HealthPlaysSaid : Prop := healthPlaysRow.holds Try.pinned (OpenSpec.ofChange healthPlaysSpec)

/-- ITS FALSE NEIGHBOUR: 'it returns false'. Refute it at one input. -/
def healthPlaysWrong : ChangeSpec := { name := "healthPlays", fn := fun _ => fun
  | [d1, d2, d3] => { results := [.lit (.bool false)], args := [d1, d2, d3] }
  | _ => none }
def HealthPlaysWrongFalsely : Prop := healthPlaysRow.holds Try.pinned (OpenSpec.ofChange healthPlaysWrong)

/-- 'stanchionlaw38.TopkBounds': WHATEVER THE INPUT: true; the input reads as it did. -/
def topkBoundsSpec : ChangeSpec := { name := "topkBounds", fn := fun _ => fun
  | [d1, d2] => { results := [.lit (.bool true)], args := [d1, d2] }
  | _ => none }
def topkBoundsRow : OpenClaim := { program := "ytghbfplcagmdhaa", sum := "ee053125dd6de7e63a72b3158d2bce17fdf688759f8d1e548eaf5078e0fec955", func := "stanchion/stanchionlaw38.TopkBounds", spec := "topkBounds", inPlace := ["internal/bytealg.Compare"], unfollowed := true, recurses := true, plainKeys := false, apart := false }
def TopkBoundsSaid : Prop := topkBoundsRow.holds Try.pinned (OpenSpec.ofChange topkBoundsSpec)

/-- ITS FALSE NEIGHBOUR: 'it returns false'. Refute it at one input. -/
def topkBoundsWrong : ChangeSpec := { name := "topkBounds", fn := fun _ => fun
  | [d1, d2] => { results := [.lit (.bool false)], args := [d1, d2] }
  | _ => none }
def TopkBoundsWrongFalsely : Prop := topkBoundsRow.holds Try.pinned (OpenSpec.ofChange topkBoundsWrong)

/-- 'stanchionlaw23.FlowsOne': WHATEVER THE INPUT: true; the input reads as it did. -/
def flowsOneSpec : ChangeSpec := { name := "flowsOne", fn := fun _ => fun
  | [d1, d2] => { results := [.lit (.bool true)], args := [d1, d2] }
  | _ => none }
def flowsOneRow : OpenClaim := { program := "ytghbfplcagmdhaa", sum := "ee053125dd6de7e63a72b3158d2bce17fdf688759f8d1e548eaf5078e0fec955", func := "stanchion/stanchionlaw23.FlowsOne", spec := "flowsOne", inPlace := ["internal/bytealg.Compare"], unfollowed := true, recurses := true, plainKeys := false, apart := false }
def FlowsOneSaid : Prop := flowsOneRow.holds Try.pinned (OpenSpec.ofChange flowsOneSpec)

/-- ITS FALSE NEIGHBOUR: 'it returns false'. Refute it at one input. -/
def flowsOneWrong : ChangeSpec := { name := "flowsOne", fn := fun _ => fun
  | [d1, d2] => { results := [.lit (.bool false)], args := [d1, d2] }
  | _ => none }
def FlowsOneWrongFalsely : Prop := flowsOneRow.holds Try.pinned (OpenSpec.ofChange flowsOneWrong)

/-- 'stanchionlaw23.FlowsPlays': WHATEVER THE INPUT: true; the input reads as it did. -/
def flowsPlaysSpec : ChangeSpec := { name := "flowsPlays", fn := fun _ => fun
  | [d1, d2] => { results := [.lit (.bool true)], args := [d1, d2] }
  | _ => none }
def flowsPlaysRow : OpenClaim := { program := "ytghbfplcagmdhaa", sum := "ee053125dd6de7e63a72b3158d2bce17fdf688759f8d1e548eaf5078e0fec955", func := "stanchion/stanchionlaw23.FlowsPlays", spec := "flowsPlays", inPlace := ["internal/bytealg.Compare"], unfollowed := true, recurses := true, plainKeys := false, apart := false }
def FlowsPlaysSaid : Prop := flowsPlaysRow.holds Try.pinned (OpenSpec.ofChange flowsPlaysSpec)

/-- ITS FALSE NEIGHBOUR: 'it returns false'. Refute it at one input. -/
def flowsPlaysWrong : ChangeSpec := { name := "flowsPlays", fn := fun _ => fun
  | [d1, d2] => { results := [.lit (.bool false)], args := [d1, d2] }
  | _ => none }
def FlowsPlaysWrongFalsely : Prop := flowsPlaysRow.holds Try.pinned (OpenSpec.ofChange flowsPlaysWrong)

/-- 'stanchionlaw38.TopkPlays': WHATEVER THE INPUT: true; the input reads as it did. -/
def topkPlaysSpec : ChangeSpec := { name := "topkPlays", fn := fun _ => fun
  | [d1, d2, d3] => { results := [.lit (.bool true)], args := [d1, d2, d3] }
  | _ => none }
def topkPlaysRow : OpenClaim := { program := "ytghbfplcagmdhaa", sum := "ee053125dd6de7e63a72b3158d2bce17fdf688759f8d1e548eaf5078e0fec955", func := "stanchion/stanchionlaw38.TopkPlays", spec := "topkPlays", inPlace := ["internal/bytealg.Compare"], unfollowed := true, recurses := true, plainKeys := false, apart := false }
def TopkPlaysSaid : Prop := topkPlaysRow.holds Try.pinned (OpenSpec.ofChange topkPlaysSpec)

/-- ITS FALSE NEIGHBOUR: 'it returns false'. Refute it at one input. -/
def topkPlaysWrong : ChangeSpec := { name := "topkPlays", fn := fun _ => fun
  | [d1, d2, d3] => { results := [.lit (.bool false)], args := [d1, d2, d3] }
  | _ => none }
def TopkPlaysWrongFalsely : Prop := topkPlaysRow.holds Try.pinned (OpenSpec.ofChange topkPlaysWrong)

/-- 'stanchionlaw38.TopkNone': WHATEVER THE INPUT: true; the input reads as it did. -/
def topkNoneSpec : ChangeSpec := { name := "topkNone", fn := fun _ => fun
  | [d1, d2] => { results := [.lit (.bool true)], args := [d1, d2] }
  | _ => none }
def topkNoneRow : OpenClaim := { program := "ytghbfplcagmdhaa", sum := "ee053125dd6de7e63a72b3158d2bce17fdf688759f8d1e548eaf5078e0fec955", func := "stanchion/stanchionlaw38.TopkNone", spec := "topkNone", inPlace := ["internal/bytealg.Compare"], unfollowed := true, recurses := true, plainKeys := false, apart := false }
def TopkNoneSaid : Prop := topkNoneRow.holds Try.pinned (OpenSpec.ofChange topkNoneSpec)

/-- ITS FALSE NEIGHBOUR: 'it returns false'. Refute it at one input. -/
def topkNoneWrong : ChangeSpec := { name := "topkNone", fn := fun _ => fun
  | [d1, d2] => { results := [.lit (.bool false)], args := [d1, d2] }
  | _ => none }
def TopkNoneWrongFalsely : Prop := topkNoneRow.holds Try.pinned (OpenSpec.ofChange topkNoneWrong)

/-- 'stanchionlaw03.DevFlushed': WHATEVER THE INPUT: true; the input reads as it did. -/
def devFlushedSpec : ChangeSpec := { name := "devFlushed", fn := fun _ => fun
  | [d1, d2, d3] => { results := [.lit (.bool true)], args := [d1, d2, d3] }
  | _ => none }
def devFlushedRow : OpenClaim := { program := "ytghbfplcagmdhaa", sum := "ee053125dd6de7e63a72b3158d2bce17fdf688759f8d1e548eaf5078e0fec955", func := "stanchion/stanchionlaw03.DevFlushed", spec := "devFlushed", unfollowed := true, recurses := true, plainKeys := false, apart := false }
def DevFlushedSaid : Prop := devFlushedRow.holds Try.pinned (OpenSpec.ofChange devFlushedSpec)

/-- ITS FALSE NEIGHBOUR: 'it returns false'. Refute it at one input. -/
def devFlushedWrong : ChangeSpec := { name := "devFlushed", fn := fun _ => fun
  | [d1, d2, d3] => { results := [.lit (.bool false)], args := [d1, d2, d3] }
  | _ => none }
def DevFlushedWrongFalsely : Prop := devFlushedRow.holds Try.pinned (OpenSpec.ofChange devFlushedWrong)

/-- 'stanchionlaw03.DevKept': WHATEVER THE INPUT: true; the input reads as it did. -/
def devKeptSpec : ChangeSpec := { name := "devKept", fn := fun _ => fun
  | [d1, d2] => { results := [.lit (.bool true)], args := [d1, d2] }
  | _ => none }
def devKeptRow : OpenClaim := { program := "ytghbfplcagmdhaa", sum := "ee053125dd6de7e63a72b3158d2bce17fdf688759f8d1e548eaf5078e0fec955", func := "stanchion/stanchionlaw03.DevKept", spec := "devKept", unfollowed := true, recurses := true, plainKeys := false, apart := false }
def DevKeptSaid : Prop := devKeptRow.holds Try.pinned (OpenSpec.ofChange devKeptSpec)

/-- ITS FALSE NEIGHBOUR: 'it returns false'. Refute it at one input. -/
def devKeptWrong : ChangeSpec := { name := "devKept", fn := fun _ => fun
  | [d1, d2] => { results := [.lit (.bool false)], args := [d1, d2] }
  | _ => none }
def DevKeptWrongFalsely : Prop := devKeptRow.holds Try.pinned (OpenSpec.ofChange devKeptWrong)

/-- 'stanchionlaw03.DevPlays': WHATEVER THE INPUT: true; the input reads as it did. -/
def devPlaysSpec : ChangeSpec := { name := "devPlays", fn := fun _ => fun
  | [d1, d2] => { results := [.lit (.bool true)], args := [d1, d2] }
  | _ => none }
def devPlaysRow : OpenClaim := { program := "ytghbfplcagmdhaa", sum := "ee053125dd6de7e63a72b3158d2bce17fdf688759f8d1e548eaf5078e0fec955", func := "stanchion/stanchionlaw03.DevPlays", spec := "devPlays", unfollowed := true, recurses := true, plainKeys := false, apart := false }
def DevPlaysSaid : Prop := devPlaysRow.holds Try.pinned (OpenSpec.ofChange devPlaysSpec)

/-- ITS FALSE NEIGHBOUR: 'it returns false'. Refute it at one input. -/
def devPlaysWrong : ChangeSpec := { name := "devPlays", fn := fun _ => fun
  | [d1, d2] => { results := [.lit (.bool false)], args := [d1, d2] }
  | _ => none }
def DevPlaysWrongFalsely : Prop := devPlaysRow.holds Try.pinned (OpenSpec.ofChange devPlaysWrong)

/-- 'stanchionlaw03.DevNone': WHATEVER THE INPUT: true; the input reads as it did. -/
def devNoneSpec : ChangeSpec := { name := "devNone", fn := fun _ => fun
  | [d] => { results := [.lit (.bool true)], args := [d] }
  | _ => none }
def devNoneRow : OpenClaim := { program := "ytghbfplcagmdhaa", sum := "ee053125dd6de7e63a72b3158d2bce17fdf688759f8d1e548eaf5078e0fec955", func := "stanchion/stanchionlaw03.DevNone", spec := "devNone", unfollowed := true, recurses := true, plainKeys := false, apart := false }
def DevNoneSaid : Prop := devNoneRow.holds Try.pinned (OpenSpec.ofChange devNoneSpec)

/-- ITS FALSE NEIGHBOUR: 'it returns false'. Refute it at one input. -/
def devNoneWrong : ChangeSpec := { name := "devNone", fn := fun _ => fun
  | [d] => { results := [.lit (.bool false)], args := [d] }
  | _ => none }
def DevNoneWrongFalsely : Prop := devNoneRow.holds Try.pinned (OpenSpec.ofChange devNoneWrong)

/-- 'stanchionlaw05.CachePinned': WHATEVER THE INPUT: true; the input reads as it did. -/
def cachePinnedSpec : ChangeSpec := { name := "cachePinned", fn := fun _ => fun
  | [d1, d2] => { results := [.lit (.bool true)], args := [d1, d2] }
  | _ => none }
def cachePinnedRow : OpenClaim := { program := "ytghbfplcagmdhaa", sum := "ee053125dd6de7e63a72b3158d2bce17fdf688759f8d1e548eaf5078e0fec955", func := "stanchion/stanchionlaw05.CachePinned", spec := "cachePinned", unfollowed := true, recurses := true, plainKeys := false, apart := false }
def CachePinnedSaid : Prop := cachePinnedRow.holds Try.pinned (OpenSpec.ofChange cachePinnedSpec)

/-- ITS FALSE NEIGHBOUR: 'it returns false'. Refute it at one input. -/
def cachePinnedWrong : ChangeSpec := { name := "cachePinned", fn := fun _ => fun
  | [d1, d2] => { results := [.lit (.bool false)], args := [d1, d2] }
  | _ => none }
def CachePinnedWrongFalsely : Prop := cachePinnedRow.holds Try.pinned (OpenSpec.ofChange cachePinnedWrong)

/-- 'stanchionlaw05.CacheThrough': WHATEVER THE INPUT: true; the input reads as it did. -/
def cacheThroughSpec : ChangeSpec := { name := "cacheThrough", fn := fun _ => fun
  | [d] => { results := [.lit (.bool true)], args := [d] }
  | _ => none }
def cacheThroughRow : OpenClaim := { program := "ytghbfplcagmdhaa", sum := "ee053125dd6de7e63a72b3158d2bce17fdf688759f8d1e548eaf5078e0fec955", func := "stanchion/stanchionlaw05.CacheThrough", spec := "cacheThrough", unfollowed := true, recurses := true, plainKeys := false, apart := false }
def CacheThroughSaid : Prop := cacheThroughRow.holds Try.pinned (OpenSpec.ofChange cacheThroughSpec)

/-- ITS FALSE NEIGHBOUR: 'it returns false'. Refute it at one input. -/
def cacheThroughWrong : ChangeSpec := { name := "cacheThrough", fn := fun _ => fun
  | [d] => { results := [.lit (.bool false)], args := [d] }
  | _ => none }
def CacheThroughWrongFalsely : Prop := cacheThroughRow.holds Try.pinned (OpenSpec.ofChange cacheThroughWrong)

/-- 'stanchionlaw05.CacheNone': WHATEVER THE INPUT: true; the input reads as it did. -/
def cacheNoneSpec : ChangeSpec := { name := "cacheNone", fn := fun _ => fun
  | [d1, d2] => { results := [.lit (.bool true)], args := [d1, d2] }
  | _ => none }
def cacheNoneRow : OpenClaim := { program := "ytghbfplcagmdhaa", sum := "ee053125dd6de7e63a72b3158d2bce17fdf688759f8d1e548eaf5078e0fec955", func := "stanchion/stanchionlaw05.CacheNone", spec := "cacheNone", unfollowed := true, recurses := true, plainKeys := false, apart := false }
def CacheNoneSaid : Prop := cacheNoneRow.holds Try.pinned (OpenSpec.ofChange cacheNoneSpec)

/-- ITS FALSE NEIGHBOUR: 'it returns false'. Refute it at one input. -/
def cacheNoneWrong : ChangeSpec := { name := "cacheNone", fn := fun _ => fun
  | [d1, d2] => { results := [.lit (.bool false)], args := [d1, d2] }
  | _ => none }
def CacheNoneWrongFalsely : Prop := cacheNoneRow.holds Try.pinned (OpenSpec.ofChange cacheNoneWrong)

/-- 'stanchionlaw05.CacheSynced': WHATEVER THE INPUT: true; the input reads as it did. -/
def cacheSyncedSpec : ChangeSpec := { name := "cacheSynced", fn := fun _ => fun
  | [d] => { results := [.lit (.bool true)], args := [d] }
  | _ => none }
def cacheSyncedRow : OpenClaim := { program := "ytghbfplcagmdhaa", sum := "ee053125dd6de7e63a72b3158d2bce17fdf688759f8d1e548eaf5078e0fec955", func := "stanchion/stanchionlaw05.CacheSynced", spec := "cacheSynced", unfollowed := true, recurses := true, plainKeys := false, apart := false }
def CacheSyncedSaid : Prop := cacheSyncedRow.holds Try.pinned (OpenSpec.ofChange cacheSyncedSpec)

/-- ITS FALSE NEIGHBOUR: 'it returns false'. Refute it at one input. -/
def cacheSyncedWrong : ChangeSpec := { name := "cacheSynced", fn := fun _ => fun
  | [d] => { results := [.lit (.bool false)], args := [d] }
  | _ => none }
def CacheSyncedWrongFalsely : Prop := cacheSyncedRow.holds Try.pinned (OpenSpec.ofChange cacheSyncedWrong)

/-- 'stanchionlaw05.CachePlays': WHATEVER THE INPUT: true; the input reads as it did. -/
def cachePlaysSpec : ChangeSpec := { name := "cachePlays", fn := fun _ => fun
  | [d1, d2] => { results := [.lit (.bool true)], args := [d1, d2] }
  | _ => none }
def cachePlaysRow : OpenClaim := { program := "ytghbfplcagmdhaa", sum := "ee053125dd6de7e63a72b3158d2bce17fdf688759f8d1e548eaf5078e0fec955", func := "stanchion/stanchionlaw05.CachePlays", spec := "cachePlays", unfollowed := true, recurses := true, plainKeys := false, apart := false }
def CachePlaysSaid : Prop := cachePlaysRow.holds Try.pinned (OpenSpec.ofChange cachePlaysSpec)

/-- ITS FALSE NEIGHBOUR: 'it returns false'. Refute it at one input. -/
def cachePlaysWrong : ChangeSpec := { name := "cachePlays", fn := fun _ => fun
  | [d1, d2] => { results := [.lit (.bool false)], args := [d1, d2] }
  | _ => none }
def CachePlaysWrongFalsely : Prop := cachePlaysRow.holds Try.pinned (OpenSpec.ofChange cachePlaysWrong)

/- THE SECOND FORM. 'bulk': how many values and letters a reading holds, each counted each time it is reached (what is shared counts as often as it is met; a slice's spare places count too). A statement '..UptoSaid' is the law's where the arguments, and the package variables that the reading takes, are together of bulk at most 1048576: NARROWER than '..Said'. Prove '..Said' where nothing that the law and all that it calls make is longer than what came in: it says more and counts as full. Else prove '..UptoSaid'. A law counts once. -/
mutual
def uptoBulk {H : Type} : DataW H → Nat
  | .lit (.string bytes) => bytes.length + 1
  | .lit _ => 1
  | .nil => 1
  | .ptr d => uptoBulk d + 1
  | .slice elems spare => uptoBulkAll elems + uptoBulkAll spare + 1
  | .agg parts => uptoBulkAll parts + 1
  | .iface _ d => uptoBulk d + 1
  | .map entries => uptoBulkEntries entries + 1
  | .held _ => 1
def uptoBulkAll {H : Type} : List (DataW H) → Nat
  | [] => 0
  | d :: r => uptoBulk d + uptoBulkAll r
def uptoBulkEntries {H : Type} : List (Lit × DataW H) → Nat
  | [] => 0
  | x :: r => uptoBulkEntry x + uptoBulkEntries r
def uptoBulkEntry {H : Type} : Lit × DataW H → Nat
  | (.string bytes, d) => bytes.length + uptoBulk d + 1
  | (_, d) => uptoBulk d + 1
 end
def uptoSmall : (H : Type) → List (DataW H) → Bool := fun _ ds => decide (uptoBulkAll ds ≤ 1048576)
def OpenSpec.upto (s : _root_.Go.ChangeSpec) : _root_.Go.OpenSpec := { _root_.Go.OpenSpec.ofChange s with cond := some uptoSmall }

/-- 'stanchionlaw23.FlowsFull', WHERE WHAT IT READS IS OF BULK AT MOST 1048576: true; the input reads as it did. -/
def flowsFullUptoRow : OpenClaim := { program := "ytghbfplcagmdhaa", sum := "ee053125dd6de7e63a72b3158d2bce17fdf688759f8d1e548eaf5078e0fec955", func := "stanchion/stanchionlaw23.FlowsFull", spec := "flowsFull", unfollowed := true, recurses := true, plainKeys := false, apart := false, narrowed := true }
def FlowsFullUptoSaid : Prop := flowsFullUptoRow.holds Try.pinned (OpenSpec.upto flowsFullSpec)

/-- 'stanchionlaw33.BucketPlays', WHERE WHAT IT READS IS OF BULK AT MOST 1048576: true; the input reads as it did. -/
def bucketPlaysUptoRow : OpenClaim := { program := "ytghbfplcagmdhaa", sum := "ee053125dd6de7e63a72b3158d2bce17fdf688759f8d1e548eaf5078e0fec955", func := "stanchion/stanchionlaw33.BucketPlays", spec := "bucketPlays", plainKeys := false, apart := false, narrowed := true }
def BucketPlaysUptoSaid : Prop := bucketPlaysUptoRow.holds Try.pinned (OpenSpec.upto bucketPlaysSpec)

/-- 'stanchionlaw21.HealthPlays', WHERE WHAT IT READS IS OF BULK AT MOST 1048576: true; the input reads as it did. -/
def healthPlaysUptoRow : OpenClaim := { program := "ytghbfplcagmdhaa", sum := "ee053125dd6de7e63a72b3158d2bce17fdf688759f8d1e548eaf5078e0fec955", func := "stanchion/stanchionlaw21.HealthPlays", spec := "healthPlays", unfollowed := true, recurses := true, plainKeys := false, apart := false, narrowed := true }
def HealthPlaysUptoSaid : Prop := healthPlaysUptoRow.holds Try.pinned (OpenSpec.upto healthPlaysSpec)

/-- 'stanchionlaw38.TopkBounds', WHERE WHAT IT READS IS OF BULK AT MOST 1048576: true; the input reads as it did. -/
def topkBoundsUptoRow : OpenClaim := { program := "ytghbfplcagmdhaa", sum := "ee053125dd6de7e63a72b3158d2bce17fdf688759f8d1e548eaf5078e0fec955", func := "stanchion/stanchionlaw38.TopkBounds", spec := "topkBounds", inPlace := ["internal/bytealg.Compare"], unfollowed := true, recurses := true, plainKeys := false, apart := false, narrowed := true }
def TopkBoundsUptoSaid : Prop := topkBoundsUptoRow.holds Try.pinned (OpenSpec.upto topkBoundsSpec)

/-- 'stanchionlaw23.FlowsOne', WHERE WHAT IT READS IS OF BULK AT MOST 1048576: true; the input reads as it did. -/
def flowsOneUptoRow : OpenClaim := { program := "ytghbfplcagmdhaa", sum := "ee053125dd6de7e63a72b3158d2bce17fdf688759f8d1e548eaf5078e0fec955", func := "stanchion/stanchionlaw23.FlowsOne", spec := "flowsOne", inPlace := ["internal/bytealg.Compare"], unfollowed := true, recurses := true, plainKeys := false, apart := false, narrowed := true }
def FlowsOneUptoSaid : Prop := flowsOneUptoRow.holds Try.pinned (OpenSpec.upto flowsOneSpec)

/-- 'stanchionlaw23.FlowsPlays', WHERE WHAT IT READS IS OF BULK AT MOST 1048576: true; the input reads as it did. -/
def flowsPlaysUptoRow : OpenClaim := { program := "ytghbfplcagmdhaa", sum := "ee053125dd6de7e63a72b3158d2bce17fdf688759f8d1e548eaf5078e0fec955", func := "stanchion/stanchionlaw23.FlowsPlays", spec := "flowsPlays", inPlace := ["internal/bytealg.Compare"], unfollowed := true, recurses := true, plainKeys := false, apart := false, narrowed := true }
def FlowsPlaysUptoSaid : Prop := flowsPlaysUptoRow.holds Try.pinned (OpenSpec.upto flowsPlaysSpec)

/-- 'stanchionlaw38.TopkPlays', WHERE WHAT IT READS IS OF BULK AT MOST 1048576: true; the input reads as it did. -/
def topkPlaysUptoRow : OpenClaim := { program := "ytghbfplcagmdhaa", sum := "ee053125dd6de7e63a72b3158d2bce17fdf688759f8d1e548eaf5078e0fec955", func := "stanchion/stanchionlaw38.TopkPlays", spec := "topkPlays", inPlace := ["internal/bytealg.Compare"], unfollowed := true, recurses := true, plainKeys := false, apart := false, narrowed := true }
def TopkPlaysUptoSaid : Prop := topkPlaysUptoRow.holds Try.pinned (OpenSpec.upto topkPlaysSpec)

/-- 'stanchionlaw38.TopkNone', WHERE WHAT IT READS IS OF BULK AT MOST 1048576: true; the input reads as it did. -/
def topkNoneUptoRow : OpenClaim := { program := "ytghbfplcagmdhaa", sum := "ee053125dd6de7e63a72b3158d2bce17fdf688759f8d1e548eaf5078e0fec955", func := "stanchion/stanchionlaw38.TopkNone", spec := "topkNone", inPlace := ["internal/bytealg.Compare"], unfollowed := true, recurses := true, plainKeys := false, apart := false, narrowed := true }
def TopkNoneUptoSaid : Prop := topkNoneUptoRow.holds Try.pinned (OpenSpec.upto topkNoneSpec)

/-- 'stanchionlaw03.DevFlushed', WHERE WHAT IT READS IS OF BULK AT MOST 1048576: true; the input reads as it did. -/
def devFlushedUptoRow : OpenClaim := { program := "ytghbfplcagmdhaa", sum := "ee053125dd6de7e63a72b3158d2bce17fdf688759f8d1e548eaf5078e0fec955", func := "stanchion/stanchionlaw03.DevFlushed", spec := "devFlushed", unfollowed := true, recurses := true, plainKeys := false, apart := false, narrowed := true }
def DevFlushedUptoSaid : Prop := devFlushedUptoRow.holds Try.pinned (OpenSpec.upto devFlushedSpec)

/-- 'stanchionlaw03.DevKept', WHERE WHAT IT READS IS OF BULK AT MOST 1048576: true; the input reads as it did. -/
def devKeptUptoRow : OpenClaim := { program := "ytghbfplcagmdhaa", sum := "ee053125dd6de7e63a72b3158d2bce17fdf688759f8d1e548eaf5078e0fec955", func := "stanchion/stanchionlaw03.DevKept", spec := "devKept", unfollowed := true, recurses := true, plainKeys := false, apart := false, narrowed := true }
def DevKeptUptoSaid : Prop := devKeptUptoRow.holds Try.pinned (OpenSpec.upto devKeptSpec)

/-- 'stanchionlaw03.DevPlays', WHERE WHAT IT READS IS OF BULK AT MOST 1048576: true; the input reads as it did. -/
def devPlaysUptoRow : OpenClaim := { program := "ytghbfplcagmdhaa", sum := "ee053125dd6de7e63a72b3158d2bce17fdf688759f8d1e548eaf5078e0fec955", func := "stanchion/stanchionlaw03.DevPlays", spec := "devPlays", unfollowed := true, recurses := true, plainKeys := false, apart := false, narrowed := true }
def DevPlaysUptoSaid : Prop := devPlaysUptoRow.holds Try.pinned (OpenSpec.upto devPlaysSpec)

/-- 'stanchionlaw03.DevNone', WHERE WHAT IT READS IS OF BULK AT MOST 1048576: true; the input reads as it did. -/
def devNoneUptoRow : OpenClaim := { program := "ytghbfplcagmdhaa", sum := "ee053125dd6de7e63a72b3158d2bce17fdf688759f8d1e548eaf5078e0fec955", func := "stanchion/stanchionlaw03.DevNone", spec := "devNone", unfollowed := true, recurses := true, plainKeys := false, apart := false, narrowed := true }
def DevNoneUptoSaid : Prop := devNoneUptoRow.holds Try.pinned (OpenSpec.upto devNoneSpec)

/-- 'stanchionlaw05.CachePinned', WHERE WHAT IT READS IS OF BULK AT MOST 1048576: true; the input reads as it did. -/
def cachePinnedUptoRow : OpenClaim := { program := "ytghbfplcagmdhaa", sum := "ee053125dd6de7e63a72b3158d2bce17fdf688759f8d1e548eaf5078e0fec955", func := "stanchion/stanchionlaw05.CachePinned", spec := "cachePinned", unfollowed := true, recurses := true, plainKeys := false, apart := false, narrowed := true }
def CachePinnedUptoSaid : Prop := cachePinnedUptoRow.holds Try.pinned (OpenSpec.upto cachePinnedSpec)

/-- 'stanchionlaw05.CacheThrough', WHERE WHAT IT READS IS OF BULK AT MOST 1048576: true; the input reads as it did. -/
def cacheThroughUptoRow : OpenClaim := { program := "ytghbfplcagmdhaa", sum := "ee053125dd6de7e63a72b3158d2bce17fdf688759f8d1e548eaf5078e0fec955", func := "stanchion/stanchionlaw05.CacheThrough", spec := "cacheThrough", unfollowed := true, recurses := true, plainKeys := false, apart := false, narrowed := true }
def CacheThroughUptoSaid : Prop := cacheThroughUptoRow.holds Try.pinned (OpenSpec.upto cacheThroughSpec)

/-- 'stanchionlaw05.CacheNone', WHERE WHAT IT READS IS OF BULK AT MOST 1048576: true; the input reads as it did. -/
def cacheNoneUptoRow : OpenClaim := { program := "ytghbfplcagmdhaa", sum := "ee053125dd6de7e63a72b3158d2bce17fdf688759f8d1e548eaf5078e0fec955", func := "stanchion/stanchionlaw05.CacheNone", spec := "cacheNone", unfollowed := true, recurses := true, plainKeys := false, apart := false, narrowed := true }
def CacheNoneUptoSaid : Prop := cacheNoneUptoRow.holds Try.pinned (OpenSpec.upto cacheNoneSpec)

/-- 'stanchionlaw05.CacheSynced', WHERE WHAT IT READS IS OF BULK AT MOST 1048576: true; the input reads as it did. -/
def cacheSyncedUptoRow : OpenClaim := { program := "ytghbfplcagmdhaa", sum := "ee053125dd6de7e63a72b3158d2bce17fdf688759f8d1e548eaf5078e0fec955", func := "stanchion/stanchionlaw05.CacheSynced", spec := "cacheSynced", unfollowed := true, recurses := true, plainKeys := false, apart := false, narrowed := true }
def CacheSyncedUptoSaid : Prop := cacheSyncedUptoRow.holds Try.pinned (OpenSpec.upto cacheSyncedSpec)

/-- 'stanchionlaw05.CachePlays', WHERE WHAT IT READS IS OF BULK AT MOST 1048576: true; the input reads as it did. -/
def cachePlaysUptoRow : OpenClaim := { program := "ytghbfplcagmdhaa", sum := "ee053125dd6de7e63a72b3158d2bce17fdf688759f8d1e548eaf5078e0fec955", func := "stanchion/stanchionlaw05.CachePlays", spec := "cachePlays", unfollowed := true, recurses := true, plainKeys := false, apart := false, narrowed := true }
def CachePlaysUptoSaid : Prop := cachePlaysUptoRow.holds Try.pinned (OpenSpec.upto cachePlaysSpec)

end Rows
end Go.Proofs.Ytghbfplcagmdhaa
