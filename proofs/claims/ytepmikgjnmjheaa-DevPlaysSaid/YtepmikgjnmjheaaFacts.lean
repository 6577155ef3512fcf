/- Closed facts of the program, each once. -/
import Derived.Test.YtepmikgjnmjheaaRows
import Derived.ProofKit
import Derived.OpenShut
namespace Go.Proofs.Ytepmikgjnmjheaa
open Go.ChangeShapes Go.WideShapes Go.ChangeAt Go.RowKit
theorem Try.enters : Try.prog.mayEnter = true := by kernel_rfl
end Go.Proofs.Ytepmikgjnmjheaa
