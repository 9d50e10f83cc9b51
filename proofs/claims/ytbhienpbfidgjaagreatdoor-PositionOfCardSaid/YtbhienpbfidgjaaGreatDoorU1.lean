/- Stipulations: the usual side to move. Conditions: a position that lies in memory. -/
import Derived.Test.YtbhienpbfidgjaaGreatDoorV4
import Derived.Test.YtbhienpbfidgjaaGreatDoorS3
set_option linter.unusedVariables false
set_option linter.unusedSimpArgs false
namespace Go.Proofs.YtbhienpbfidgjaaGreatDoor
open Go.RowKit
end Go.Proofs.YtbhienpbfidgjaaGreatDoor
