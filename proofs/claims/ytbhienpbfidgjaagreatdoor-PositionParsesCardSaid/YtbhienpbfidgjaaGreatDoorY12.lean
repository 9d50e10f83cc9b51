/- The card of a law: whatever the arguments, it returns true and the input reads as it did. No condition. -/
import Derived.Test.YtbhienpbfidgjaaGreatDoorY12A
import Derived.Test.YtbhienpbfidgjaaGreatDoorTie
import Derived.Test.YtbhienpbfidgjaaGreatDoorCards
import Derived.ProofKit
set_option linter.unusedVariables false
set_option linter.unusedSimpArgs false
set_option maxRecDepth 1000000
namespace Go.Proofs.YtbhienpbfidgjaaGreatDoor
open Go.ChangeShapes Go.WideShapes Go.ChangeAt Go.RowKit Go.ChangeMaps
theorem positionParses_card : Rows.PositionParsesCardSaid :=
  Claim7.holds_tied_plain_at .later [] [.data, .data, .data, .data, .data, .widerDeep, .widerDeep, .widerDeep, .sentinel, .sentinel, .data, .pinned] true Rows.positionParsesCard.stood.harness true
    positionParses_holds (fun _ h => by cases h) (by kernel_rfl) (fun _ h => by cases h) positionParses_row_tie rfl ⟨rfl, rfl⟩ (by kernel_rfl) rfl
    (fun f fn hf hfn => by
      obtain rfl : f = 5 := Option.some.inj ((show Tryz.prog.funcNamed Rows.positionParsesRow.func = some 5 by kernel_rfl).symm.trans hf) |>.symm
      obtain rfl : fn = Tryz.f5 := (Option.some.inj (Tryz.func5.symm.trans hfn)).symm
      exact ⟨by kernel_rfl, fun j t ht => by
        rw [Tryz.params5] at ht
        have hm : t ∈ Tryz.f5.params.toList := by rw [Tryz.params5]; simpa using Array.mem_of_getElem? ht
        have hall : ((Tryz.f5.params.toList).all fun u => !Tryz.prog.wantsStandIn u) = true := by kernel_rfl
        exact (show Tryz.prog.wantsStandIn t = false by simpa using List.all_eq_true.1 hall t hm)⟩)
    (by kernel_rfl)
#print axioms positionParses_card
end Go.Proofs.YtbhienpbfidgjaaGreatDoor
