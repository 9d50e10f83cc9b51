/- Stipulations: texts. Conditions: Itoa as said. -/
import Derived.Test.YtbhienpbfidgjaaGreatDoorT1
import Derived.Test.YtbhienpbfidgjaaGreatDoorS2
import Derived.Lib.ItoaNum
set_option linter.unusedVariables false
set_option linter.unusedSimpArgs false
namespace Go.Proofs.YtbhienpbfidgjaaGreatDoor
open Go.RowKit
def Stip.head (s : Stip) : ByteArray := ((#[#[⟨#[35]⟩, ⟨#[61]⟩], #[⟨#[104, 35]⟩, ⟨#[104, 61]⟩], #[⟨#[115, 35]⟩, ⟨#[115, 61]⟩], #[⟨#[114, 35]⟩, ⟨#[114, 61]⟩]] : Array (Array ByteArray)).getD (s.play - 1).toNat #[]).getD (s.goal - 1).toNat ⟨#[]⟩
def Stip.textB (s : Stip) (d : ByteArray) : ByteArray := if s.half then s.head ++ d ++ ⟨#[46, 53]⟩ else s.head ++ d
def Stip.textV (s : Stip) (d : ByteArray) : Value := if s.valid then .tuple #[.string (s.textB d), .int .i64 0] else .tuple #[.string ⟨#[]⟩, .int .i64 2]
def digB (m : Int) : ByteArray := ⟨(Lib.decDigits m.toNat).toArray⟩
def ItoaOK : Prop := ∀ (i : Nat) (w : World), i < 100 → Pure 71 #[.int .i64 i] w (.string ⟨(Lib.decDigits i).toArray⟩)
end Go.Proofs.YtbhienpbfidgjaaGreatDoor
