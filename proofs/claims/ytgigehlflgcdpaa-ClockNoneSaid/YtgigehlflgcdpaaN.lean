/- Contracts of all calls on a nil or a zero clock. No condition but that it is one. -/
import Derived.Test.YtgigehlflgcdpaaC
set_option linter.unusedVariables false
set_option linter.unusedSimpArgs false
namespace Go.Proofs.Ytgigehlflgcdpaa
-- nil and zero clocks
open Go.RowKit
/-- a clock that is nil or zero -/
def NoClk (w : World) (v : Value) : Prop := v = .pointer none ∨ ∃ b, v = .pointer (some ⟨b, 0, none⟩) ∧ w.cell? ⟨b, 0, none⟩ = some (.pointer none)
theorem none_n {w : World} {v : Value} (h : NoClk w v) : Quiet 43 #[v] w (.bool true) := by
  rcases h with rfl | ⟨b, rfl, hb⟩
  · try unfold Quiet
    go_enter Try.func43, Try.ntmps43
    go_wp2_with fail
    go_wp2
    go_ret
    exact ⟨rfl, 0, rfl⟩
  · try unfold Quiet
    go_enter Try.func43, Try.ntmps43
    go_wp2_with fail
    go_wp2
    go_ret
    exact ⟨rfl, 0, rfl⟩
theorem when_n {w : World} {v : Value} (h : NoClk w v) (now : Int) : Quiet 34 #[v, .int .i64 now] w (.int .i64 1) := by
  try unfold Quiet
  go_enter Try.func34, Try.ntmps34
  go_wp2_with fail
  refine (none_n h).mono ?_
  rintro e w' ⟨rfl, n, rfl⟩
  go_wp2
  go_ret
  exact ⟨rfl, _, rfl⟩
theorem flag_n {w : World} {v : Value} (h : NoClk w v) (now : Int) : Quiet 19 #[v, .int .i64 now] w (.tuple #[.bool false, .int .i64 1]) := by
  try unfold Quiet
  go_enter Try.func19, Try.ntmps19
  go_wp2_with fail
  refine (when_n h now).mono ?_
  rintro e w' ⟨rfl, n, rfl⟩
  go_wp2
  go_ret2
  exact ⟨rfl, _, rfl⟩
theorem left_n {w : World} {v : Value} (h : NoClk w v) (s now : Int) : Quiet 20 #[v, .int .i64 s, .int .i64 now] w (.tuple #[.int .i64 0, .int .i64 1]) := by
  try unfold Quiet
  go_enter Try.func20, Try.ntmps20
  go_wp2_with fail
  refine (none_n h).mono ?_
  rintro e w' ⟨rfl, n, rfl⟩
  go_wp2
  go_ret2
  exact ⟨rfl, _, rfl⟩
theorem moves_n {w : World} {v : Value} (h : NoClk w v) (s : Int) : Quiet 24 #[v, .int .i64 s] w (.tuple #[.int .i64 0, .int .i64 0, .int .i64 1]) := by
  try unfold Quiet
  go_enter Try.func24, Try.ntmps24
  go_wp2_with fail
  refine (none_n h).mono ?_
  rintro e w' ⟨rfl, n, rfl⟩
  go_wp2
  go_ret3
  exact ⟨rfl, _, rfl⟩
theorem move_n {w : World} {v : Value} (h : NoClk w v) : Quiet 21 #[v] w (.tuple #[.int .i64 0, .bool false]) := by
  try unfold Quiet
  go_enter Try.func21, Try.ntmps21
  go_wp2_with fail
  refine (none_n h).mono ?_
  rintro e w' ⟨rfl, n, rfl⟩
  go_wp2
  go_ret2
  exact ⟨rfl, _, rfl⟩
theorem start_n {w : World} {v : Value} (h : NoClk w v) (now : Int) : Quiet 16 #[v, .int .i64 now] w (.int .i64 1) := by
  try unfold Quiet
  go_enter Try.func16, Try.ntmps16
  go_wp2_with fail
  refine (when_n h now).mono ?_
  rintro e w' ⟨rfl, n, rfl⟩
  go_wp2
  go_ret
  exact ⟨rfl, _, rfl⟩
theorem stop_n {w : World} {v : Value} (h : NoClk w v) (now : Int) : Quiet 18 #[v, .int .i64 now] w (.int .i64 1) := by
  try unfold Quiet
  go_enter Try.func18, Try.ntmps18
  go_wp2_with fail
  refine (when_n h now).mono ?_
  rintro e w' ⟨rfl, n, rfl⟩
  go_wp2
  go_ret
  exact ⟨rfl, _, rfl⟩
theorem press_n {w : World} {v : Value} (h : NoClk w v) (now : Int) : Quiet 17 #[v, .int .i64 now] w (.int .i64 1) := by
  try unfold Quiet
  go_enter Try.func17, Try.ntmps17
  go_wp2_with fail
  refine (when_n h now).mono ?_
  rintro e w' ⟨rfl, n, rfl⟩
  go_wp2
  go_ret
  exact ⟨rfl, _, rfl⟩
theorem add_n {w : World} {v : Value} (h : NoClk w v) (s t : Int) : Quiet 25 #[v, .int .i64 s, .int .i64 t] w (.int .i64 1) := by
  try unfold Quiet
  go_enter Try.func25, Try.ntmps25
  go_wp2_with fail
  refine (none_n h).mono ?_
  rintro e w' ⟨rfl, n, rfl⟩
  go_wp2
  go_ret
  exact ⟨rfl, _, rfl⟩
theorem copy_n {w : World} {v : Value} (h : NoClk w v) : Quiet 23 #[v] w (.pointer none) := by
  try unfold Quiet
  go_enter Try.func23, Try.ntmps23
  go_wp2_with fail
  refine (none_n h).mono ?_
  rintro e w' ⟨rfl, n, rfl⟩
  go_wp2
  go_ret
  exact ⟨rfl, _, rfl⟩
end Go.Proofs.Ytgigehlflgcdpaa
