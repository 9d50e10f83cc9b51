/- The reference of stipulations: All, Parse. Conditions: none. -/
import Derived.Test.YtbhienpbfidgjaaGreatDoorT6
import Derived.Test.YtbhienpbfidgjaaGreatDoorF4
set_option linter.unusedVariables false
set_option linter.unusedSimpArgs false
namespace Go.Proofs.YtbhienpbfidgjaaGreatDoor
open Go.RowKit
end Go.Proofs.YtbhienpbfidgjaaGreatDoor
