/- Stipulations: Parse. Conditions: the library's CutPrefix, CutSuffix, Atoi as said. -/
import Derived.Test.YtbhienpbfidgjaaGreatDoorT2
import Derived.Shelf.Small.Wraps
import Derived.Shelf.Strconv.AtoiAll
set_option linter.unusedVariables false
set_option linter.unusedSimpArgs false
namespace Go.Proofs.YtbhienpbfidgjaaGreatDoor
open Go.RowKit
def CutPOK : Prop := ∀ (s p : ByteArray) (w : World), Pure 95 #[.string s, .string p] w (.tuple #[.string ⟨(Lib.trimPrefix s.data.toList p.data.toList).toArray⟩, .bool (Lib.hasPrefix s.data.toList p.data.toList)])
def CutSOK : Prop := ∀ (s p : ByteArray) (w : World), s.size ≤ 1000000 → Pure 96 #[.string s, .string p] w (.tuple #[.string ⟨(Lib.trimSuffix s.data.toList p.data.toList).toArray⟩, .bool (Lib.hasSuffix s.data.toList p.data.toList)])
/-- Atoi at w and at what stands over it -/
def AtoiAt (w : World) : Prop := ∀ (W : World) (s : ByteArray), Below w.heap.size w W → s.size ≤ 281474976710656 → ∃ v, Calls Tryz.prog 83 #[.string s] W fun e w' => (∃ ev, e = .returned (.tuple #[.int .i64 v, ev]) ∧
  ((Lib.atoiAll s.data.toList = .ok v ∧ ev = .nilIface) ∨ ((∀ n, Lib.atoiAll s.data.toList ≠ .ok n) ∧ ∃ t p, ev = .iface t p))) ∧ Below W.heap.size W w'
def headB (i k : Nat) : ByteArray := ((#[#[⟨#[35]⟩, ⟨#[61]⟩], #[⟨#[104, 35]⟩, ⟨#[104, 61]⟩], #[⟨#[115, 35]⟩, ⟨#[115, 61]⟩], #[⟨#[114, 35]⟩, ⟨#[114, 61]⟩]] : Array (Array ByteArray)).getD i #[]).getD k ⟨#[]⟩
/-- a text with a head -/
def tryHead (t : ByteArray) (i k : Nat) : Option Stip :=
  if Lib.hasPrefix t.data.toList (headB i k).data.toList then
    let rest := Lib.trimPrefix t.data.toList (headB i k).data.toList
    match Lib.atoiAll (Lib.trimSuffix rest [46, 53]) with
    | .ok n => let s : Stip := ⟨i + 1, k + 1, n, Lib.hasSuffix rest [46, 53]⟩; if s.valid && s.textB (digB n) == t then some s else none
    | _ => none
  else none
theorem headIx (w : World) (i : Nat) (h : i < 4) : (Instr.index 118 (.agg headsC) (.int .i64 i)).run Tryz.prog w = .ok (.agg #[.string (headB i 0), .string (headB i 1)]) w := by
  rcases (by omega : i = 0 ∨ i = 1 ∨ i = 2 ∨ i = 3) with rfl | rfl | rfl | rfl
  · exact headI0 w
  · exact headI1 w
  · exact headI2 w
  · exact headI3 w
theorem headJx (w : World) (a b : ByteArray) (k : Nat) (h : k < 2) : (Instr.index 117 (.agg #[.string a, .string b]) (.int .i64 k)).run Tryz.prog w = .ok (.string (if k = 0 then a else b)) w := by
  rcases (by omega : k = 0 ∨ k = 1) with rfl | rfl
  · exact headJ0 w a b
  · exact headJ1 w a b
theorem headB_k (i k : Nat) (h : k < 2) : (if k = 0 then headB i 0 else headB i 1) = headB i k := by
  rcases (by omega : k = 0 ∨ k = 1) with rfl | rfl <;> rfl
/-- the stipulation with a text, as the heads come -/
def parseO (t : ByteArray) : Option Stip :=
  (tryHead t 0 0).or <| (tryHead t 0 1).or <| (tryHead t 1 0).or <| (tryHead t 1 1).or <| (tryHead t 2 0).or <| (tryHead t 2 1).or <| (tryHead t 3 0).or <| tryHead t 3 1
def parseV (t : ByteArray) : Value := match parseO t with
  | some s => .tuple #[s.v, .int .i64 0]
  | none => .tuple #[.agg #[.int .i64 0, .int .i64 0, .int .i64 0, .bool false], .int .i64 6]
theorem parse_hit {t : ByteArray} {i k : Nat} {s : Stip} (hi : i < 4) (hk : k < 2) (h1 : ∀ i' < i, ∀ k' < 2, tryHead t i' k' = none) (h2 : ∀ k' < k, tryHead t i k' = none) (h : tryHead t i k = some s) : parseO t = some s := by
  unfold parseO
  have a0 : ∀ k' < 2, 0 < i → tryHead t 0 k' = none := fun k' hk' hh => h1 0 hh k' hk'
  have a1 : ∀ k' < 2, 1 < i → tryHead t 1 k' = none := fun k' hk' hh => h1 1 hh k' hk'
  have a2 : ∀ k' < 2, 2 < i → tryHead t 2 k' = none := fun k' hk' hh => h1 2 hh k' hk'
  clear h1
  rcases (by omega : i = 0 ∨ i = 1 ∨ i = 2 ∨ i = 3) with rfl | rfl | rfl | rfl <;> rcases (by omega : k = 0 ∨ k = 1) with rfl | rfl <;>
    simp_all
theorem parse_miss {t : ByteArray} (h : ∀ i < 4, ∀ k < 2, tryHead t i k = none) : parseO t = none := by
  unfold parseO
  simp [h 0 (by decide) 0 (by decide), h 0 (by decide) 1 (by decide), h 1 (by decide) 0 (by decide), h 1 (by decide) 1 (by decide), h 2 (by decide) 0 (by decide), h 2 (by decide) 1 (by decide), h 3 (by decide) 0 (by decide), h 3 (by decide) 1 (by decide)]
end Go.Proofs.YtbhienpbfidgjaaGreatDoor
