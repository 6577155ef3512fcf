/-
  DERIVED. GIVEN WITH THE SEED: THE CARDS: each row of YtagedgcdonodfaaDoorRows.lean that lists a variable, with what it lists TIED to the program's text (the seventh form; the later family's looks); each row that meets fmt, with fmt's text TOLD by the authors' own Lean function (tested against real Go, not proved from fmt's source: count such statements apart). THE CARD IS WHAT COUNTS. Prove the row's statement (the work); the ties are given (YtagedgcdonodfaaDoorTie.lean); close each card by the builder's one call (the guide's Derived/Test/ToyasCard.lean, 'card_holds'). Laid BY PROGRAM, IN A SANDBOX (cutbox-door.mjs). By AI agents, Wed Nov 11 2026. No macro, syntax, notation, axiom, sorry.
-/
import Derived.Test.YtagedgcdonodfaaDoorRows
import GoSem.ClaimSeven
namespace Go.Proofs.YtagedgcdonodfaaDoor
namespace Rows

/-- THE TIED CARD OF 'stanchionlaw30.ReportSums'. -/
def reportSumsCard : Claim7 := { stood := { row := reportSumsRow, standIns := [], harness := (true, "db98041ddd86fa94c00685fcbfc8a5876c6a24b67120998d2efc15ce805f0319"), looks := true }, kinds := [], alts := [], laidByText := true, laidKinds := [.data, .data, .data, .listed, .data], laidTests := true, laidLooks := .later }
def ReportSumsCardSaid : Prop := Claim7.holds Tryd.pinned (.plain (OpenSpec.ofChange reportSumsSpec)) reportSumsCard

/-- THE TIED CARD OF 'stanchionlaw30.ReportCounts'. -/
def reportCountsCard : Claim7 := { stood := { row := reportCountsRow, standIns := [], harness := (true, "db98041ddd86fa94c00685fcbfc8a5876c6a24b67120998d2efc15ce805f0319"), looks := true }, kinds := [], alts := [], laidByText := true, laidKinds := [.data, .data, .data, .listed, .data], laidTests := true, laidLooks := .later }
def ReportCountsCardSaid : Prop := Claim7.holds Tryd.pinned (.plain (OpenSpec.ofChange reportCountsSpec)) reportCountsCard

/-- THE TIED CARD OF 'stanchionlaw30.ReportMerges'. -/
def reportMergesCard : Claim7 := { stood := { row := reportMergesRow, standIns := [], harness := (true, "db98041ddd86fa94c00685fcbfc8a5876c6a24b67120998d2efc15ce805f0319"), looks := true }, kinds := [], alts := [], laidByText := true, laidKinds := [.data, .data, .data, .listed, .data], laidTests := true, laidLooks := .later }
def ReportMergesCardSaid : Prop := Claim7.holds Tryd.pinned (.plain (OpenSpec.ofChange reportMergesSpec)) reportMergesCard

/-- THE TIED CARD OF 'stanchionlaw30.ReportNone'. -/
def reportNoneCard : Claim7 := { stood := { row := reportNoneRow, standIns := [], harness := (true, "db98041ddd86fa94c00685fcbfc8a5876c6a24b67120998d2efc15ce805f0319"), looks := true }, kinds := [], alts := [], laidByText := true, laidKinds := [.data, .data, .data, .listed, .data], laidTests := true, laidLooks := .later }
def ReportNoneCardSaid : Prop := Claim7.holds Tryd.pinned (.plain (OpenSpec.ofChange reportNoneSpec)) reportNoneCard

/-- THE SECOND FORM's CARD OF 'stanchionlaw30.ReportSums'. -/
def reportSumsUptoCard : Claim7 := { stood := { row := reportSumsUptoRow, standIns := [], harness := (true, "db98041ddd86fa94c00685fcbfc8a5876c6a24b67120998d2efc15ce805f0319"), looks := true }, kinds := [], alts := [], laidByText := true, laidKinds := [.data, .data, .data, .listed, .data], laidTests := true, laidLooks := .later }
def ReportSumsUptoCardSaid : Prop := Claim7.holds Tryd.pinned (.plain (OpenSpec.upto reportSumsSpec)) reportSumsUptoCard

/-- THE SECOND FORM's CARD OF 'stanchionlaw30.ReportCounts'. -/
def reportCountsUptoCard : Claim7 := { stood := { row := reportCountsUptoRow, standIns := [], harness := (true, "db98041ddd86fa94c00685fcbfc8a5876c6a24b67120998d2efc15ce805f0319"), looks := true }, kinds := [], alts := [], laidByText := true, laidKinds := [.data, .data, .data, .listed, .data], laidTests := true, laidLooks := .later }
def ReportCountsUptoCardSaid : Prop := Claim7.holds Tryd.pinned (.plain (OpenSpec.upto reportCountsSpec)) reportCountsUptoCard

/-- THE SECOND FORM's CARD OF 'stanchionlaw30.ReportMerges'. -/
def reportMergesUptoCard : Claim7 := { stood := { row := reportMergesUptoRow, standIns := [], harness := (true, "db98041ddd86fa94c00685fcbfc8a5876c6a24b67120998d2efc15ce805f0319"), looks := true }, kinds := [], alts := [], laidByText := true, laidKinds := [.data, .data, .data, .listed, .data], laidTests := true, laidLooks := .later }
def ReportMergesUptoCardSaid : Prop := Claim7.holds Tryd.pinned (.plain (OpenSpec.upto reportMergesSpec)) reportMergesUptoCard

/-- THE SECOND FORM's CARD OF 'stanchionlaw30.ReportNone'. -/
def reportNoneUptoCard : Claim7 := { stood := { row := reportNoneUptoRow, standIns := [], harness := (true, "db98041ddd86fa94c00685fcbfc8a5876c6a24b67120998d2efc15ce805f0319"), looks := true }, kinds := [], alts := [], laidByText := true, laidKinds := [.data, .data, .data, .listed, .data], laidTests := true, laidLooks := .later }
def ReportNoneUptoCardSaid : Prop := Claim7.holds Tryd.pinned (.plain (OpenSpec.upto reportNoneSpec)) reportNoneUptoCard
end Rows
end Go.Proofs.YtagedgcdonodfaaDoor
