/- Contracts of the package stipulation and its reference: GiverOf, Usual of the reference, Next. No condition. -/
import Derived.Test.YtbhienpbfidgjaaGreatDoorS2
set_option linter.unusedVariables false
set_option linter.unusedSimpArgs false
namespace Go.Proofs.YtbhienpbfidgjaaGreatDoor
open Go.RowKit
end Go.Proofs.YtbhienpbfidgjaaGreatDoor
