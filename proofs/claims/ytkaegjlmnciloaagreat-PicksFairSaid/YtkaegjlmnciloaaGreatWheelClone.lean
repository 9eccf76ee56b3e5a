/- The wheel's clone. -/
import Derived.Test.YtkaegjlmnciloaaGreatWheel2
import Derived.Test.YtkaegjlmnciloaaGreatWheelLay
namespace Go.Proofs.YtkaegjlmnciloaaGreat
open Go.RowKit Go.Maps
set_option linter.unusedVariables false
set_option linter.unusedSimpArgs false

end Go.Proofs.YtkaegjlmnciloaaGreat
