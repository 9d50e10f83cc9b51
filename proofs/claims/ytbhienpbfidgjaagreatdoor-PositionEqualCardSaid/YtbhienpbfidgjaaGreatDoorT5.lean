/- Stipulations: all of them, and the plain law of Parse: what Parse reads is the first one with the text. Conditions: none. -/
import Derived.Test.YtbhienpbfidgjaaGreatDoorT3
set_option linter.unusedVariables false
set_option linter.unusedSimpArgs false
namespace Go.Proofs.YtbhienpbfidgjaaGreatDoor
open Go.RowKit
theorem ba_beq {a b : ByteArray} : (a == b) = true ↔ a = b := by
  obtain ⟨a⟩ := a
  obtain ⟨b⟩ := b
  show (a == b) = true ↔ _
  simp
/-- the stipulations of a number -/
def rowL (i : Nat) : List Stip :=
  let s : Stip := ⟨((i / 40 + 1 : Nat) : Int), ((i / 20 % 2 + 1 : Nat) : Int), ((i % 20 + 1 : Nat) : Int), false⟩
  if i / 40 + 1 = 2 then [s, { s with half := true }] else [s]
def upTo (n : Nat) : List Stip := (List.range n).flatMap rowL
theorem upTo_succ (n : Nat) : upTo (n + 1) = upTo n ++ rowL n := by simp [upTo, List.range_succ, List.flatMap_append]
def allL : List Stip := upTo 160
def Stip.text (s : Stip) : ByteArray := s.textB (digB s.moves)
/-- the first one with a text -/
def refO (t : ByteArray) : Option Stip := allL.find? fun s => s.text == t
def Stip.same (a b : Stip) : Bool := a.play == b.play && a.goal == b.goal && a.moves == b.moves && a.half == b.half
theorem Stip.of_same {a b : Stip} (h : a.same b = true) : a = b := by
  obtain ⟨p, g, m, x⟩ := a
  obtain ⟨p2, g2, m2, x2⟩ := b
  simp only [Stip.same, Bool.and_eq_true, beq_iff_eq] at h
  obtain ⟨⟨⟨rfl, rfl⟩, rfl⟩, rfl⟩ := h
  rfl
theorem all_back : (allL.all fun s => match parseO s.text with | some x => x.same s | none => false) = true := by kernel_rfl
theorem back {s : Stip} (h : s ∈ allL) : parseO s.text = some s := by
  have := List.all_eq_true.1 all_back s h
  split at this
  · rename_i x e; rw [e, Stip.of_same this]
  · cases this
theorem all_valid : (allL.all fun s => s.valid) = true := by kernel_rfl
theorem mem_all {s : Stip} (h : s.valid = true) : s ∈ allL := by
  obtain ⟨p1, p2, g, m1, m2, hh⟩ := Stip.of_valid h
  obtain ⟨p, g', m, x⟩ := s
  dsimp only at *
  obtain ⟨a, rfl⟩ : ∃ a : Nat, p = ((a + 1 : Nat) : Int) := ⟨(p - 1).toNat, by omega⟩
  obtain ⟨b, rfl⟩ : ∃ b : Nat, g' = ((b + 1 : Nat) : Int) := ⟨(g' - 1).toNat, by omega⟩
  obtain ⟨c, rfl⟩ : ∃ c : Nat, m = ((c + 1 : Nat) : Int) := ⟨(m - 1).toNat, by omega⟩
  refine List.mem_flatMap.2 ⟨40 * a + 20 * b + c, by simp; omega, ?_⟩
  unfold rowL
  have e1 : (40 * a + 20 * b + c) / 40 = a := by omega
  have e2 : (40 * a + 20 * b + c) / 20 % 2 = b := by omega
  have e3 : (40 * a + 20 * b + c) % 20 = c := by omega
  dsimp only
  rw [e1, e2, e3]
  cases x
  · split <;> simp
  · have : a + 1 = 2 := by simp at hh; omega
    rw [if_pos this]
    simp
theorem try_some {t : ByteArray} {i k : Nat} {s : Stip} (h : tryHead t i k = some s) : s.valid = true ∧ s.text = t := by
  unfold tryHead at h
  split at h
  · dsimp only at h
    split at h
    · split at h
      · rename_i n _ hc
        simp only [Bool.and_eq_true, ba_beq] at hc
        cases h
        exact ⟨hc.1, hc.2⟩
      · cases h
    · cases h
  · cases h
theorem parse_some {t : ByteArray} {s : Stip} (h : parseO t = some s) : s.valid = true ∧ s.text = t := by
  unfold parseO at h
  simp only [Option.or_eq_some_iff] at h
  rcases h with h | ⟨-, h | ⟨-, h | ⟨-, h | ⟨-, h | ⟨-, h | ⟨-, h | ⟨-, h⟩⟩⟩⟩⟩⟩⟩ <;> exact try_some h
/-- what Parse reads is the first one with the text -/
theorem parse_ref (t : ByteArray) : parseO t = refO t := by
  cases h : parseO t with
  | some s =>
    obtain ⟨hv, ht⟩ := parse_some h
    cases hr : refO t with
    | none =>
      unfold refO at hr
      rw [List.find?_eq_none] at hr
      have := hr s (mem_all hv)
      rw [ht] at this
      exact absurd (ba_beq.2 rfl) this
    | some x =>
      have h1 := List.find?_some hr
      have h2 := List.mem_of_find?_eq_some hr
      have h3 := back h2
      simp only [ba_beq] at h1
      rw [h1, h] at h3
      exact h3
  | none =>
    cases hr : refO t with
    | none => rfl
    | some x =>
      have h1 := List.find?_some hr
      have h2 := List.mem_of_find?_eq_some hr
      have h3 := back h2
      simp only [ba_beq] at h1
      rw [h1, h] at h3
      cases h3
/-- a valid stipulation's text is read as it -/
theorem parse_text {s : Stip} (h : s.valid = true) : parseO s.text = some s := back (mem_all h)
end Go.Proofs.YtbhienpbfidgjaaGreatDoor
