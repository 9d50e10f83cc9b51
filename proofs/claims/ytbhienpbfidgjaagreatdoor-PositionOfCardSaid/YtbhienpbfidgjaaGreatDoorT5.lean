/- Stipulations: all of them, and the plain law of Parse: what Parse reads is the first one with the text. Conditions: none. -/
import Derived.Test.YtbhienpbfidgjaaGreatDoorT3
set_option linter.unusedVariables false
set_option linter.unusedSimpArgs false
namespace Go.Proofs.YtbhienpbfidgjaaGreatDoor
open Go.RowKit
theorem ba_beq {a b : ByteArray} : (a == b) = true ↔ a = b := by
  obtain ⟨a⟩ := a
  obtain ⟨b⟩ := b
  show (a == b) = true ↔ _
  simp
def Stip.text (s : Stip) : ByteArray := s.textB (digB s.moves)
end Go.Proofs.YtbhienpbfidgjaaGreatDoor
