/- The wheel's clone. -/
import Derived.Test.YtonfaojmphidpaaGreatDoorWheel2
import Derived.Test.YtonfaojmphidpaaGreatDoorWheelLay
namespace Go.Proofs.YtonfaojmphidpaaGreatDoor
open Go.RowKit Go.Maps
set_option linter.unusedVariables false
set_option linter.unusedSimpArgs false

end Go.Proofs.YtonfaojmphidpaaGreatDoor
