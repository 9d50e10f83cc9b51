/- The reference of stipulations: Text. Conditions: none. -/
import Derived.Test.YtbhienpbfidgjaaGreatDoorT5
import Derived.Test.YtbhienpbfidgjaaGreatDoorR
import Derived.Test.YtbhienpbfidgjaaGreatDoorS2
set_option linter.unusedVariables false
set_option linter.unusedSimpArgs false
namespace Go.Proofs.YtbhienpbfidgjaaGreatDoor
open Go.RowKit
def p1 (i : Nat) : ByteArray := (#[⟨#[]⟩, ⟨#[104]⟩, ⟨#[115]⟩, ⟨#[114]⟩] : Array ByteArray).getD i ⟨#[]⟩
def p2 (i : Nat) : ByteArray := (#[⟨#[35]⟩, ⟨#[61]⟩] : Array ByteArray).getD i ⟨#[]⟩
end Go.Proofs.YtbhienpbfidgjaaGreatDoor
