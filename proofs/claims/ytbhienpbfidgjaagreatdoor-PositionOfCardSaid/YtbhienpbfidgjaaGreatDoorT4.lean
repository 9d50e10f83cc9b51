/- Stipulations: Parse, the walk. Conditions: the library's CutPrefix, CutSuffix, Atoi as said. -/
import Derived.Test.YtbhienpbfidgjaaGreatDoorT3
import Derived.Test.YtbhienpbfidgjaaGreatDoorT5
import Derived.Test.YtbhienpbfidgjaaGreatDoorR
set_option linter.unusedVariables false
set_option linter.unusedSimpArgs false
namespace Go.Proofs.YtbhienpbfidgjaaGreatDoor
open Go.RowKit
end Go.Proofs.YtbhienpbfidgjaaGreatDoor
