/- Closed facts of the program, each once. -/
import Derived.Test.YtnkhcdmkkcpheaaRows
import Derived.ProofKit
import Derived.OpenShut
namespace Go.Proofs.Ytnkhcdmkkcpheaa
open Go.ChangeShapes Go.WideShapes Go.ChangeAt Go.RowKit
theorem Try.enters : Try.prog.mayEnter = true := by kernel_rfl
theorem Try.lifts : (Rows.healthApartRow.lifted == Try.prog.liftsFinal) = true := by kernel_rfl
theorem Try.made : (Try.prog.make == some Rows.healthApartRow.make) = true := by kernel_rfl
theorem lifts_of {x} (h : Rows.healthApartRow.lifted = x) : (x == Try.prog.liftsFinal) = true := h ▸ Try.lifts
theorem made_of {x} (h : Rows.healthApartRow.make = x) : (Try.prog.make == some x) = true := h ▸ Try.made
end Go.Proofs.Ytnkhcdmkkcpheaa
