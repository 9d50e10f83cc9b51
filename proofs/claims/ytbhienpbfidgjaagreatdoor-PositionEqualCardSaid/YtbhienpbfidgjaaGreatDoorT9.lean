/- The examples of the chapter on stipulations. Conditions: the library as said; the tables lie in memory. -/
import Derived.Test.YtbhienpbfidgjaaGreatDoorT8
import Derived.Test.YtbhienpbfidgjaaGreatDoorT4
import Derived.Test.YtbhienpbfidgjaaGreatDoorS3
import Derived.Test.YtbhienpbfidgjaaGreatDoorU1
import Derived.Test.YtbhienpbfidgjaaGreatDoorF12
set_option linter.unusedVariables false
set_option linter.unusedSimpArgs false
namespace Go.Proofs.YtbhienpbfidgjaaGreatDoor
open Go.RowKit
/-- what is taken of the library -/
structure Libs : Prop where
  split : SplitOK
  rev : RevOK
  join : JoinOK
  cont : ContOK
  itoa : ItoaOK
  cutp : CutPOK
  cuts : CutSOK
/-- what lies in memory -/
structure Env (w : World) : Prop where
  max : MaxAt w
  kinds : KindsAt w
  itoa : ItoaAt w
  atois : AtoiIs w
  atoi : AtoiAt w
  rays : Rays w
  full : w.cell? ⟨0, 0, none⟩ = some (.int .i64 8) ∧ w.cell? ⟨0, 1, none⟩ = some (.int .i64 8)
theorem Env.below {w V : World} (h : Env w) (hb : Below w.heap.size w V) : Env V :=
  ⟨h.max.below hb, h.kinds.below hb, h.itoa.below hb, fun W s hW => h.atois W s (hb.trans (hW.mono hb.size)), fun W s hW => h.atoi W s (hb.trans (hW.mono hb.size)), h.rays.below hb, ⟨below_at hb h.full.1, below_at hb h.full.2⟩⟩
def ofV (t : ByteArray) : Value := match parseO t with
  | some s => s.v
  | none => .agg #[.int .i64 0, .int .i64 0, .int .i64 0, .bool false]
set_option maxHeartbeats 1000000 in
theorem of_s (w : World) (t : ByteArray) (s : Stip) (h : parseO t = some s) : Pure 93 #[.string t] w s.v := by
  have h1 := fun W => Lib.hid (rparse_c W t)
  unfold parseV at h1
  rw [h] at h1
  obtain ⟨p, g, m, f⟩ := s
  unfold Stip.v at *
  replace h := Lib.hid h
  unfold Pure
  go_enter Tryz.func93, Tryz.ntmps93
  go_wp2_with fail
  refine (h1 _).out.mono ?_
  rintro e V ⟨rfl, hV⟩
  have hX := box_of hV
  have hB := Lib.hid (below_of_alloc hV)
  have hX2 := fun o => Lib.hid (blk_alloc hX o)
  have hlt := lt_of_blk hX
  clear hV h1
  replace hX := Lib.hid hX
  go_wp2_with (refine store_row 54 (.tmp 2) (.tmp 10) rfl rfl #[.int .i64 p, .int .i64 g, .int .i64 m, .bool f] rfl (by rfl) _ (hX2 _).out rfl sizeSp (by simp [Value.oneCell']) ?_)
  refine bodyPost_ret (results_cell_row rfl _ _ _ 54 #[.int .i64 p, .int .i64 g, .int .i64 m, .bool f] (0, 0) _ rfl (setCells_arr (hX2 _).out rfl) Tryz.underlying54 rfl sizeSp) rfl ⟨rfl, ?_⟩
  exact setCells_below (Nat.le_refl _) _ _ _ (hB.out.alloc hB.out.size _)
set_option maxHeartbeats 1000000 in
theorem plies_t (w : World) (t : ByteArray) (n : Int) (s : Stip) (h : parseO t = some s) (hv : s.valid = true) (hn : s.plies = n) : Pure 91 #[.string t, .int .i64 n] w (.bool true) := by
  have h1 := fun W => Lib.hid (of_s W t s h)
  have h2 := fun W => Lib.hid (spliesOf_c W s)
  unfold Stip.pliesV at h2
  simp only [hv, if_true, hn] at h2
  obtain ⟨p, g, m, f⟩ := s
  unfold Stip.v at *
  replace h := Lib.hid h
  replace hv := Lib.hid hv
  replace hn := Lib.hid hn
  unfold Pure
  go_enter Tryz.func91, Tryz.ntmps91
  go_wp2_with fail
  refine (h1 _).out.mono ?_
  rintro e V ⟨rfl, hV⟩
  replace hV := Lib.hid hV
  go_wp2_with fail
  refine (h2 _).out.mono ?_
  rintro e V2 ⟨rfl, hV2⟩
  have hB := Lib.hid (hV.out.trans (hV2.mono hV.out.size))
  clear hV2 hV
  go_wp2
  go_ret
  exact ⟨by simp, hB.out⟩
set_option maxHeartbeats 1000000 in
theorem giver_t (w : World) (t : ByteArray) (b n : Bool) (s : Stip) (h : parseO t = some s) (hv : s.valid = true) (hn : s.giver b = n) : Pure 92 #[.string t, .bool b, .bool n] w (.bool true) := by
  have h1 := fun W => Lib.hid (of_s W t s h)
  have h2 := fun W => Lib.hid (sgiver_c W s b)
  unfold Stip.giverV at h2
  simp only [hv, if_true, hn] at h2
  obtain ⟨p, g, m, f⟩ := s
  unfold Stip.v at *
  replace h := Lib.hid h
  replace hv := Lib.hid hv
  replace hn := Lib.hid hn
  unfold Pure
  go_enter Tryz.func92, Tryz.ntmps92
  go_wp2_with fail
  refine (h1 _).out.mono ?_
  rintro e V ⟨rfl, hV⟩
  replace hV := Lib.hid hV
  go_wp2_with fail
  refine (h2 _).out.mono ?_
  rintro e V2 ⟨rfl, hV2⟩
  have hB := Lib.hid (hV.out.trans (hV2.mono hV.out.size))
  clear hV2 hV
  go_wp2
  go_ret
  exact ⟨by simp, hB.out⟩
end Go.Proofs.YtbhienpbfidgjaaGreatDoor
