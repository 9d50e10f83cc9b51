/- Contracts of the package stipulation and its reference, but for texts: Valid, Plies, Giver, Next. No condition. -/
import Derived.Test.YtbhienpbfidgjaaGreatDoorA
set_option linter.unusedVariables false
set_option linter.unusedSimpArgs false
namespace Go.Proofs.YtbhienpbfidgjaaGreatDoor
open Go.RowKit
/-- a stipulation -/
structure Stip where
  play : Int
  goal : Int
  moves : Int
  half : Bool
def Stip.v (s : Stip) : Value := .agg #[.int .i64 s.play, .int .i64 s.goal, .int .i64 s.moves, .bool s.half]
def Stip.valid (s : Stip) : Bool := decide (1 ≤ s.play) && decide (s.play ≤ 4) && (s.goal == 1 || s.goal == 2) && decide (1 ≤ s.moves) && decide (s.moves ≤ 20) && (s.play == 2 || !s.half)
def Stip.plies (s : Stip) : Int := if s.half then 2 * s.moves + 1 else if s.play = 1 then 2 * s.moves - 1 else 2 * s.moves
theorem svalid_c (w : World) (s : Stip) : Pure 36 #[s.v] w (.bool s.valid) := by
  obtain ⟨p, g, m, h⟩ := s
  dsimp only [Stip.v, Stip.valid]
  unfold Pure
  go_enter Tryz.func36, Tryz.ntmps36
  go_wp2
  all_goals
    go_ret
    refine ⟨ret_bool ?_, ?_⟩
    · first | (simp [*]; done) | (simp [*]; omega) | (simp_all; done) | (simp_all; omega)
    · repeat (first | (with_reducible assumption) | (with_reducible exact Below.refl _ _) | (with_reducible apply below_drewN) | (with_reducible apply Below.drew) | (with_reducible apply Below.alloc) | (with_reducible apply Below.setCell))
      all_goals first | omega | (dsimp only; omega) | (simp; done) | (simp; omega)
theorem rvalid_c (w : World) (s : Stip) : Pure 37 #[s.v] w (.bool s.valid) := by
  obtain ⟨p, g, m, h⟩ := s
  dsimp only [Stip.v, Stip.valid]
  unfold Pure
  go_enter Tryz.func37, Tryz.ntmps37
  go_wp2
  all_goals
    go_ret
    refine ⟨ret_bool ?_, ?_⟩
    · first | (simp [*]; done) | (simp [*]; omega) | (simp_all; done) | (simp_all; omega)
    · repeat (first | (with_reducible assumption) | (with_reducible exact Below.refl _ _) | (with_reducible apply below_drewN) | (with_reducible apply Below.drew) | (with_reducible apply Below.alloc) | (with_reducible apply Below.setCell))
      all_goals first | omega | (dsimp only; omega) | (simp; done) | (simp; omega)
theorem splies_c (w : World) (s : Stip) (h1 : 1 ≤ s.moves) (h2 : s.moves ≤ 20) : Pure 98 #[s.v] w (.int .i64 s.plies) := by
  obtain ⟨p, g, m, h⟩ := s
  dsimp only [Stip.v, Stip.plies] at *
  cases h
  all_goals
    unfold Pure
    go_enter Tryz.func98, Tryz.ntmps98
    go_wp2
    all_goals
      go_ret
      refine ⟨ret_int ?_, ?_⟩
      · first | (simp [*]; done) | (simp [*]; omega) | (simp_all; done) | (simp_all; omega)
      · repeat (first | (with_reducible assumption) | (with_reducible exact Below.refl _ _) | (with_reducible apply below_drewN) | (with_reducible apply Below.drew) | (with_reducible apply Below.alloc) | (with_reducible apply Below.setCell))
        all_goals first | omega | (dsimp only; omega) | (simp; done) | (simp; omega)
theorem rplies_c (w : World) (s : Stip) (h1 : 1 ≤ s.moves) (h2 : s.moves ≤ 20) (hv : s.play = 2 ∨ s.half = false) : Pure 99 #[s.v] w (.int .i64 s.plies) := by
  obtain ⟨p, g, m, h⟩ := s
  dsimp only [Stip.v, Stip.plies] at *
  cases h
  all_goals
    unfold Pure
    go_enter Tryz.func99, Tryz.ntmps99
    go_wp2
    all_goals
      go_ret
      refine ⟨ret_int ?_, ?_⟩
      · first | (simp [*]; done) | (simp [*]; omega) | (simp_all; done) | (simp_all; omega)
      · repeat (first | (with_reducible assumption) | (with_reducible exact Below.refl _ _) | (with_reducible apply below_drewN) | (with_reducible apply Below.drew) | (with_reducible apply Below.alloc) | (with_reducible apply Below.setCell))
        all_goals first | omega | (dsimp only; omega) | (simp; done) | (simp; omega)
end Go.Proofs.YtbhienpbfidgjaaGreatDoor
