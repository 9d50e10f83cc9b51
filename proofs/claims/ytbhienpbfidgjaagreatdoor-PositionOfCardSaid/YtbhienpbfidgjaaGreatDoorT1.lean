/- Stipulations: the heads of texts. Conditions: none. -/
import Derived.Test.YtbhienpbfidgjaaGreatDoorR
import Derived.Test.YtbhienpbfidgjaaGreatDoorS1
set_option linter.unusedVariables false
set_option linter.unusedSimpArgs false
namespace Go.Proofs.YtbhienpbfidgjaaGreatDoor
open Go.RowKit
end Go.Proofs.YtbhienpbfidgjaaGreatDoor
