/- Closed facts of the program, each once. -/
import Derived.Test.YtpjfkomicehinaaRows
import Derived.ProofKit
import Derived.OpenShut
namespace Go.Proofs.Ytpjfkomicehinaa
open Go.ChangeShapes Go.WideShapes Go.ChangeAt Go.RowKit
theorem Try.enters : Try.prog.mayEnter = true := by kernel_rfl
end Go.Proofs.Ytpjfkomicehinaa
