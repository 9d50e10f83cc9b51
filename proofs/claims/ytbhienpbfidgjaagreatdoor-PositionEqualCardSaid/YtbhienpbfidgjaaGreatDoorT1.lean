/- Stipulations: the heads of texts. Conditions: none. -/
import Derived.Test.YtbhienpbfidgjaaGreatDoorR
import Derived.Test.YtbhienpbfidgjaaGreatDoorS1
set_option linter.unusedVariables false
set_option linter.unusedSimpArgs false
namespace Go.Proofs.YtbhienpbfidgjaaGreatDoor
open Go.RowKit
def headsC : Array Value := #[.string { data := #[35] }, .string { data := #[61] }, .string { data := #[104, 35] }, .string { data := #[104, 61] }, .string { data := #[115, 35] }, .string { data := #[115, 61] }, .string { data := #[114, 35] }, .string { data := #[114, 61] }]
def headsV : Value := .agg headsC
theorem sizeH : (Tryz.prog.info? 118).map (·.size) = some 8 := by kernel_rfl
theorem oneH : headsC.all (·.oneCell') = true := by simp [headsC, Value.oneCell']
theorem heads_c (w : World) : Pure 94 #[] w headsV := by
  have HZ := fun o => Lib.hid (blk_new (w := w) rfl o)
  unfold Pure
  go_enter Tryz.func94, Tryz.ntmps94
  go_wp2_with (refine store_row 118 (.tmp 0) (.tmp 5) rfl rfl headsC rfl (by rfl) _ (Hid.out (HZ _)) rfl sizeH oneH ?_)
  refine bodyPost_ret (results_cell_row rfl _ _ _ 118 headsC (0, 0) _ rfl (setCells_arr (Hid.out (HZ _)) rfl) Tryz.underlying118 rfl sizeH) rfl ⟨rfl, ?_⟩
  exact setCells_below (Nat.le_refl _) _ _ _ ((Below.refl _ _).alloc (Nat.le_refl _) _)
theorem headI0 (w : World) : (Instr.index 118 (.agg headsC) (.int .i64 0)).run Tryz.prog w = .ok (.agg #[.string { data := #[35] }, .string { data := #[61] }]) w := by kernel_rfl
theorem headI1 (w : World) : (Instr.index 118 (.agg headsC) (.int .i64 1)).run Tryz.prog w = .ok (.agg #[.string { data := #[104, 35] }, .string { data := #[104, 61] }]) w := by kernel_rfl
theorem headI2 (w : World) : (Instr.index 118 (.agg headsC) (.int .i64 2)).run Tryz.prog w = .ok (.agg #[.string { data := #[115, 35] }, .string { data := #[115, 61] }]) w := by kernel_rfl
theorem headI3 (w : World) : (Instr.index 118 (.agg headsC) (.int .i64 3)).run Tryz.prog w = .ok (.agg #[.string { data := #[114, 35] }, .string { data := #[114, 61] }]) w := by kernel_rfl
end Go.Proofs.YtbhienpbfidgjaaGreatDoor
