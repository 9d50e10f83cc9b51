/- Positions: what Parse computes. Conditions: none. -/
import Derived.Test.YtbhienpbfidgjaaGreatDoorF9
import Derived.Test.YtbhienpbfidgjaaGreatDoorF7
import Derived.Lib.AtoiAll
set_option linter.unusedVariables false
set_option linter.unusedSimpArgs false
namespace Go.Proofs.YtbhienpbfidgjaaGreatDoor
open Go.RowKit
def hasL (s : ByteArray) (c : UInt8) : Bool := decide (0 ≤ Lib.indexByte s.data.toList c)
def ContOK : Prop := ∀ (s : ByteArray) (c : UInt8) (W : World), Pure 81 #[.string s, .string ⟨#[c]⟩] W (.bool (hasL s c))
def atoiI (s : ByteArray) : Int := match Lib.atoiAll s.data.toList with
  | .ok v => v
  | .range => Lib.atoiSat s.data.toList
  | _ => 0
def AtoiIs (w : World) : Prop := ∀ (W : World) (s : ByteArray), Below w.heap.size w W → s.size ≤ 100000 → Calls Tryz.prog 83 #[.string s] W fun e w' => (∃ ev, e = .returned (.tuple #[.int .i64 (atoiI s), ev])) ∧ Below W.heap.size W w'
def castN (s : ByteArray) (k : Nat) : Nat := (if 0 < k ∧ hasL s 75 then 1 else 0) + (if 1 < k ∧ hasL s 81 then 2 else 0) + (if 2 < k ∧ hasL s 107 then 4 else 0) + (if 3 < k ∧ hasL s 113 then 8 else 0)
theorem castN_le (s : ByteArray) (k : Nat) : castN s k ≤ 15 := by
  unfold castN
  split <;> split <;> split <;> split <;> omega
theorem castN_next (s : ByteArray) : castN s 0 = 0 ∧ (hasL s 75 = false → castN s 1 = castN s 0) ∧ (hasL s 75 = true → (bits .or .u8 ((castN s 0 : Nat) : Int) 1 = ((castN s 1 : Nat) : Int))) ∧
    (hasL s 81 = false → castN s 2 = castN s 1) ∧ (hasL s 81 = true → (bits .or .u8 ((castN s 1 : Nat) : Int) 2 = ((castN s 2 : Nat) : Int))) ∧
    (hasL s 107 = false → castN s 3 = castN s 2) ∧ (hasL s 107 = true → (bits .or .u8 ((castN s 2 : Nat) : Int) 4 = ((castN s 3 : Nat) : Int))) ∧
    (hasL s 113 = false → castN s 4 = castN s 3) ∧ (hasL s 113 = true → (bits .or .u8 ((castN s 3 : Nat) : Int) 8 = ((castN s 4 : Nat) : Int))) := by
  unfold castN
  cases hasL s 75 <;> cases hasL s 81 <;> cases hasL s 107 <;> cases hasL s 113 <;> (refine ⟨by decide, ?_, ?_, ?_, ?_, ?_, ?_, ?_, ?_⟩ <;> intro h <;> first | (exact absurd h (by decide)) | rfl | decide | kernel_rfl)
def posW (f r : Nat) (ps : List Int) (s2 s3 s4 s5 s6 : ByteArray) : Pos := ⟨f, r, ps, s2.toList == [98], ((castN s3 4 : Nat) : Int), (match sqO f r s4 with | some a => a | none => -1), atoiI s5, atoiI s6⟩
def posO (t : ByteArray) : Option Pos :=
  match splitS t ⟨#[32]⟩ with
  | [_, s1, s2, s3, s4, s5, s6] => match boardO s1 with
    | none => none
    | some (f, r, ps) => if (posW f r ps s2 s3 s4 s5 s6).valid && (posW f r ps s2 s3 s4 s5 s6).text == t then some (posW f r ps s2 s3 s4 s5 s6) else none
  | _ => none
def noPosC : Array Value := #[.int .i64 0, .int .i64 0, .slice none 0 0, .bool false, .int .u8 0, .int .i64 0, .int .i64 0, .int .i64 0]
def PosIs (B : Nat) (t : ByteArray) (e : Ending) (W : World) : Prop := match posO t with
  | some p => ∃ po cap, e = .returned (.tuple #[.agg (p.cells po cap), .int .i64 0]) ∧ PosAt W p po cap ∧ ∀ a, po = some a → B ≤ a.block
  | none => e = .returned (.tuple #[.agg noPosC, .int .i64 6])
theorem posO_len {t : ByteArray} (h : (splitS t ⟨#[32]⟩).length ≠ 7) : posO t = none := by
  unfold posO
  split
  · rename_i e; rw [e] at h; exact absurd rfl h
  · rfl
theorem posO_board {t s0 s1 s2 s3 s4 s5 s6 : ByteArray} (h : splitS t ⟨#[32]⟩ = [s0, s1, s2, s3, s4, s5, s6]) (hb : boardO s1 = none) : posO t = none := by
  unfold posO
  rw [h]
  dsimp only
  rw [hb]
theorem posO_words {t s0 s1 s2 s3 s4 s5 s6 : ByteArray} {f r : Nat} {ps : List Int} (h : splitS t ⟨#[32]⟩ = [s0, s1, s2, s3, s4, s5, s6]) (hb : boardO s1 = some (f, r, ps)) :
    posO t = if (posW f r ps s2 s3 s4 s5 s6).valid && (posW f r ps s2 s3 s4 s5 s6).text == t then some (posW f r ps s2 s3 s4 s5 s6) else none := by
  unfold posO
  rw [h]
  dsimp only
  rw [hb]
theorem boardO_valid {t : ByteArray} {f r : Nat} {ps : List Int} (h : boardO t = some (f, r, ps)) : bvalid f r ps = true := by
  unfold boardO at h
  split at h
  · cases h
  · split at h
    · cases h
    · split at h
      · rename_i hc
        simp only [Bool.and_eq_true] at hc
        simp only [Option.some.injEq, Prod.mk.injEq] at h
        obtain ⟨rfl, rfl, rfl⟩ := h
        exact hc.1
      · cases h
theorem list7 {α : Type} (l : List α) (h : l.length = 7) : ∃ a b c d e f g, l = [a, b, c, d, e, f, g] := by
  match l, h with
  | [a, b, c, d, e, f, g], _ => exact ⟨a, b, c, d, e, f, g, rfl⟩
end Go.Proofs.YtbhienpbfidgjaaGreatDoor
