/- Contracts of the package stipulation and its reference, but for texts: Valid, Plies, Giver, Next. No condition. -/
import Derived.Test.YtbhienpbfidgjaaGreatDoorA
set_option linter.unusedVariables false
set_option linter.unusedSimpArgs false
namespace Go.Proofs.YtbhienpbfidgjaaGreatDoor
open Go.RowKit
structure Stip where
  play : Int
  goal : Int
  moves : Int
  half : Bool
def Stip.v (s : Stip) : Value := .agg #[.int .i64 s.play, .int .i64 s.goal, .int .i64 s.moves, .bool s.half]
def Stip.valid (s : Stip) : Bool := decide (1 ≤ s.play) && decide (s.play ≤ 4) && (s.goal == 1 || s.goal == 2) && decide (1 ≤ s.moves) && decide (s.moves ≤ 20) && (s.play == 2 || !s.half)
end Go.Proofs.YtbhienpbfidgjaaGreatDoor
