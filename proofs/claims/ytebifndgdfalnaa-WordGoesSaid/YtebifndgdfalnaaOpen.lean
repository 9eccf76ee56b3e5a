/- How the arguments of the laws read: nothing yet. -/
import Derived.Test.YtebifndgdfalnaaProg
import Derived.WalkKit
import Derived.ProofKit
import Derived.OpenShut
namespace Go.Proofs.Ytebifndgdfalnaa
open Go.RowKit Go.ChangeShapes Go.WideShapes
end Go.Proofs.Ytebifndgdfalnaa
