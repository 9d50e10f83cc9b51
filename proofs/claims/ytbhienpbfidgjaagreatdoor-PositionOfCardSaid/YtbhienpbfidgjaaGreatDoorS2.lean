/- Contracts of the package stipulation and its reference: Plies, Giver, Next, Usual. No condition. -/
import Derived.Test.YtbhienpbfidgjaaGreatDoorS1
set_option linter.unusedVariables false
set_option linter.unusedSimpArgs false
namespace Go.Proofs.YtbhienpbfidgjaaGreatDoor
open Go.RowKit
end Go.Proofs.YtbhienpbfidgjaaGreatDoor
