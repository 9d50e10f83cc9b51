/- Stipulations: Parse. Conditions: the library's CutPrefix, CutSuffix, Atoi as said. -/
import Derived.Test.YtbhienpbfidgjaaGreatDoorT2
import Derived.Shelf.Small.Wraps
import Derived.Shelf.Strconv.AtoiAll
set_option linter.unusedVariables false
set_option linter.unusedSimpArgs false
namespace Go.Proofs.YtbhienpbfidgjaaGreatDoor
open Go.RowKit
def CutPOK : Prop := ∀ (s p : ByteArray) (w : World), Pure 95 #[.string s, .string p] w (.tuple #[.string ⟨(Lib.trimPrefix s.data.toList p.data.toList).toArray⟩, .bool (Lib.hasPrefix s.data.toList p.data.toList)])
def CutSOK : Prop := ∀ (s p : ByteArray) (w : World), s.size ≤ 1000000 → Pure 96 #[.string s, .string p] w (.tuple #[.string ⟨(Lib.trimSuffix s.data.toList p.data.toList).toArray⟩, .bool (Lib.hasSuffix s.data.toList p.data.toList)])
def AtoiAt (w : World) : Prop := ∀ (W : World) (s : ByteArray), Below w.heap.size w W → s.size ≤ 281474976710656 → ∃ v, Calls Tryz.prog 83 #[.string s] W fun e w' => (∃ ev, e = .returned (.tuple #[.int .i64 v, ev]) ∧
  ((Lib.atoiAll s.data.toList = .ok v ∧ ev = .nilIface) ∨ ((∀ n, Lib.atoiAll s.data.toList ≠ .ok n) ∧ ∃ t p, ev = .iface t p))) ∧ Below W.heap.size W w'
def headB (i k : Nat) : ByteArray := ((#[#[⟨#[35]⟩, ⟨#[61]⟩], #[⟨#[104, 35]⟩, ⟨#[104, 61]⟩], #[⟨#[115, 35]⟩, ⟨#[115, 61]⟩], #[⟨#[114, 35]⟩, ⟨#[114, 61]⟩]] : Array (Array ByteArray)).getD i #[]).getD k ⟨#[]⟩
def tryHead (t : ByteArray) (i k : Nat) : Option Stip :=
  if Lib.hasPrefix t.data.toList (headB i k).data.toList then
    let rest := Lib.trimPrefix t.data.toList (headB i k).data.toList
    match Lib.atoiAll (Lib.trimSuffix rest [46, 53]) with
    | .ok n => let s : Stip := ⟨i + 1, k + 1, n, Lib.hasSuffix rest [46, 53]⟩; if s.valid && s.textB (digB n) == t then some s else none
    | _ => none
  else none
def parseO (t : ByteArray) : Option Stip :=
  (tryHead t 0 0).or <| (tryHead t 0 1).or <| (tryHead t 1 0).or <| (tryHead t 1 1).or <| (tryHead t 2 0).or <| (tryHead t 2 1).or <| (tryHead t 3 0).or <| tryHead t 3 1
end Go.Proofs.YtbhienpbfidgjaaGreatDoor
