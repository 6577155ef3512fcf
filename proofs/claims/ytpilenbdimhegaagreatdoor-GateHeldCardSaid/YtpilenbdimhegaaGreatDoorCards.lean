/-
  DERIVED. GIVEN WITH THE SEED: THE CARDS: each row of YtpilenbdimhegaaGreatDoorRows.lean that lists a variable, with what it lists TIED to the program's text (the seventh form; the later family's looks); each row that meets fmt, with fmt's text TOLD by the authors' own Lean function (tested against real Go, not proved from fmt's source: count such statements apart). THE CARD IS WHAT COUNTS. Prove the row's statement (the work); the ties are given (YtpilenbdimhegaaGreatDoorTie.lean); close each card by the builder's one call (the guide's Derived/Test/ToyasCard.lean, 'card_holds'). Laid BY PROGRAM, IN A SANDBOX (cutbox-door.mjs). By AI agents, Wed Nov 11 2026. No macro, syntax, notation, axiom, sorry.
-/
import Derived.Test.YtpilenbdimhegaaGreatDoorRows
import GoSem.ClaimSeven
namespace Go.Proofs.YtpilenbdimhegaaGreatDoor
namespace Rows

/-- THE TIED CARD OF 'stanchionlaw42.GateFormed'. -/
def gateFormedCard : Claim7 := { stood := { row := gateFormedRow, standIns := [], harness := (true, "da90effdec05283f5c303f57d837f5ac57dfa710752aa5a28eb345431e965959"), looks := false }, kinds := [], alts := [], laidByText := true, laidKinds := [.data, .data, .data], laidTests := true, laidLooks := .later }
def GateFormedCardSaid : Prop := Claim7.holds Tryz.pinned (.plain (OpenSpec.ofChange gateFormedSpec)) gateFormedCard

/-- THE TIED CARD OF 'stanchionlaw42.GateHeld'. -/
def gateHeldCard : Claim7 := { stood := { row := gateHeldRow, standIns := [], harness := (true, "da90effdec05283f5c303f57d837f5ac57dfa710752aa5a28eb345431e965959"), looks := false }, kinds := [], alts := [], laidByText := true, laidKinds := [.data, .data, .data], laidTests := true, laidLooks := .later }
def GateHeldCardSaid : Prop := Claim7.holds Tryz.pinned (.plain (OpenSpec.ofChange gateHeldSpec)) gateHeldCard

/-- THE TIED CARD OF 'stanchionlaw42.GatePlays'. -/
def gatePlaysCard : Claim7 := { stood := { row := gatePlaysRow, standIns := [], harness := (true, "da90effdec05283f5c303f57d837f5ac57dfa710752aa5a28eb345431e965959"), looks := false }, kinds := [], alts := [], laidByText := true, laidKinds := [.data, .data, .data], laidTests := true, laidLooks := .later }
def GatePlaysCardSaid : Prop := Claim7.holds Tryz.pinned (.plain (OpenSpec.ofChange gatePlaysSpec)) gatePlaysCard

/-- THE TIED CARD OF 'stanchionlaw42.GateNone'. -/
def gateNoneCard : Claim7 := { stood := { row := gateNoneRow, standIns := [], harness := (true, "da90effdec05283f5c303f57d837f5ac57dfa710752aa5a28eb345431e965959"), looks := false }, kinds := [], alts := [], laidByText := true, laidKinds := [.data, .data, .data], laidTests := true, laidLooks := .later }
def GateNoneCardSaid : Prop := Claim7.holds Tryz.pinned (.plain (OpenSpec.ofChange gateNoneSpec)) gateNoneCard

/-- THE SECOND FORM's CARD OF 'stanchionlaw42.GateFormed'. -/
def gateFormedUptoCard : Claim7 := { stood := { row := gateFormedUptoRow, standIns := [], harness := (true, "da90effdec05283f5c303f57d837f5ac57dfa710752aa5a28eb345431e965959"), looks := false }, kinds := [], alts := [], laidByText := true, laidKinds := [.data, .data, .data], laidTests := true, laidLooks := .later }
def GateFormedUptoCardSaid : Prop := Claim7.holds Tryz.pinned (.plain (OpenSpec.upto gateFormedSpec)) gateFormedUptoCard

/-- THE SECOND FORM's CARD OF 'stanchionlaw42.GateHeld'. -/
def gateHeldUptoCard : Claim7 := { stood := { row := gateHeldUptoRow, standIns := [], harness := (true, "da90effdec05283f5c303f57d837f5ac57dfa710752aa5a28eb345431e965959"), looks := false }, kinds := [], alts := [], laidByText := true, laidKinds := [.data, .data, .data], laidTests := true, laidLooks := .later }
def GateHeldUptoCardSaid : Prop := Claim7.holds Tryz.pinned (.plain (OpenSpec.upto gateHeldSpec)) gateHeldUptoCard

/-- THE SECOND FORM's CARD OF 'stanchionlaw42.GatePlays'. -/
def gatePlaysUptoCard : Claim7 := { stood := { row := gatePlaysUptoRow, standIns := [], harness := (true, "da90effdec05283f5c303f57d837f5ac57dfa710752aa5a28eb345431e965959"), looks := false }, kinds := [], alts := [], laidByText := true, laidKinds := [.data, .data, .data], laidTests := true, laidLooks := .later }
def GatePlaysUptoCardSaid : Prop := Claim7.holds Tryz.pinned (.plain (OpenSpec.upto gatePlaysSpec)) gatePlaysUptoCard

/-- THE SECOND FORM's CARD OF 'stanchionlaw42.GateNone'. -/
def gateNoneUptoCard : Claim7 := { stood := { row := gateNoneUptoRow, standIns := [], harness := (true, "da90effdec05283f5c303f57d837f5ac57dfa710752aa5a28eb345431e965959"), looks := false }, kinds := [], alts := [], laidByText := true, laidKinds := [.data, .data, .data], laidTests := true, laidLooks := .later }
def GateNoneUptoCardSaid : Prop := Claim7.holds Tryz.pinned (.plain (OpenSpec.upto gateNoneSpec)) gateNoneUptoCard
end Rows
end Go.Proofs.YtpilenbdimhegaaGreatDoor
