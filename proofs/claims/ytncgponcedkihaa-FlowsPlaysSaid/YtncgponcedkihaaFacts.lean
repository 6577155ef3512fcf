/- Closed facts of the program, each once. -/
import Derived.Test.YtncgponcedkihaaRows
import Derived.ProofKit
import Derived.OpenShut
namespace Go.Proofs.Ytncgponcedkihaa
open Go.ChangeShapes Go.WideShapes Go.ChangeAt Go.RowKit
theorem Try.enters : Try.prog.mayEnter = true := by kernel_rfl
theorem Try.lifts : (Rows.healthPlaysRow.lifted == Try.prog.liftsFinal) = true := by kernel_rfl
theorem Try.made : (Try.prog.make == some Rows.healthPlaysRow.make) = true := by kernel_rfl
theorem lifts_of {x} (h : Rows.healthPlaysRow.lifted = x) : (x == Try.prog.liftsFinal) = true := h ▸ Try.lifts
theorem made_of {x} (h : Rows.healthPlaysRow.make = x) : (Try.prog.make == some x) = true := h ▸ Try.made
end Go.Proofs.Ytncgponcedkihaa
