/- The law on nil and zero clocks: its walk. No condition. -/
import Derived.Test.YtgigehlflgcdpaaK2
import Derived.Test.YtgigehlflgcdpaaN
set_option linter.unusedVariables false
set_option linter.unusedSimpArgs false
namespace Go.Proofs.Ytgigehlflgcdpaa
-- the law on nil and zero clocks: the walk
open Go.RowKit
theorem NoClk.grown {w w' : World} {v : Value} (h : NoClk w v) (hg : w.grownBy w' none) : NoClk w' v := by
  rcases h with h | ⟨b, h1, h2⟩
  · exact .inl h
  · exact .inr ⟨b, h1, hg.cell h2 (by simp)⟩
set_option maxHeartbeats 1000000 in
set_option maxRecDepth 100000 in
theorem none_law (now side : Int) (w : World) : Calls Try.prog 7 #[.int .i64 now, .int .i64 side] w fun e w' => e = .returned (.bool true) ∧ Below w.heap.size w w' := by
  go_enter Try.func7, Try.ntmps7
  go_wp2_with fail
  obtain ⟨W0, hW0⟩ : ∃ W0, W0 = ((w.alloc (.cells #[.pointer none, .int .i64 0, .int .i64 0, .int .i64 0, .int .i64 0, .int .i64 0, .int .i64 0, .int .i64 0, .int .i64 0, .int .i64 0, .int .i64 0, .int .i64 0, .int .i64 0, .bool false] 65)).alloc (.cells #[.pointer none, .pointer (some ⟨w.heap.size, 0, none⟩)] 27)) := ⟨_, rfl⟩
  rw [← hW0]
  have a0 : W0.cell? ⟨w.heap.size, 0, none⟩ = some (.pointer none) := by rw [hW0]; exact cell_past (cell_of (blk_new rfl _) 0 _ rfl) _
  have a1 : W0.cell? ⟨w.heap.size + 1, 0, none⟩ = some (.pointer none) := by rw [hW0]; exact cell_of (blk_new (by simp) _) 0 _ rfl
  have a2 : W0.cell? ⟨w.heap.size + 1, 1, none⟩ = some (.pointer (some ⟨w.heap.size, 0, none⟩)) := by rw [hW0]; exact cell_of (blk_new (by simp) _) 1 _ rfl
  have aB : Below w.heap.size w W0 := by
    rw [hW0]
    repeat (first | exact Below.refl _ _ | (with_reducible assumption) | (with_reducible apply below_drewN) | (with_reducible apply Below.drew) | (refine Below.alloc ?_ (by first | omega | (simp; done) | (simp; omega)) _) | (refine Below.setCell ?_ (by first | omega | (simp; done) | (simp; omega)) _))
  clear hW0
  go_loopw [20] (fun i wr => ∃ j : Nat, i = .int .i64 j ∧ j ≤ 2 ∧ Below W0.heap.size W0 wr) (fun i _ => 2 - (intOf i).toNat)
  case atStart => exact ⟨0, rfl, by omega, Below.refl _ _⟩
  case round =>
    obtain ⟨j, rfl, hj, hB⟩ := hrel
    by_cases hj2 : j = 2
    · subst hj2
      clear a0 a1 a2
      go_wp2_with fail
      refine (known_c _).mono ?_
      rintro e W ⟨rfl, hk⟩
      go_wp2
      go_ret
      exact ⟨rfl, aB.trans ((hB.trans (hk.mono hB.size)).mono aB.size)⟩
    · obtain ⟨v, hv, hV⟩ : ∃ v, wr.cell? ⟨w.heap.size + 1, j, none⟩ = some v ∧ NoClk wr v := by
        rcases (by omega : j = 0 ∨ j = 1) with rfl | rfl
        · exact ⟨_, below_at hB a1, .inl rfl⟩
        · exact ⟨_, below_at hB a2, .inr ⟨_, rfl, below_at hB a0⟩⟩
      have hlt := lt_of_cell hv
      have hjl : j < 2 := by omega
      clear hj2 a0 a1 a2
      go_wp2_with fail
      refine (Quiet.grown (left_n hV side now)).mono ?_
      rintro e W ⟨rfl, hg⟩
      replace hV := hV.grown hg
      replace hB := hB.trans ((below_grown hg).mono hB.size)
      clear hg
      go_wp2_with fail
      refine (Quiet.grown (flag_n hV now)).mono ?_
      rintro e W ⟨rfl, hg⟩
      replace hV := hV.grown hg
      replace hB := hB.trans ((below_grown hg).mono hB.size)
      clear hg
      go_wp2_with fail
      refine (Quiet.grown (moves_n hV side)).mono ?_
      rintro e W ⟨rfl, hg⟩
      replace hV := hV.grown hg
      replace hB := hB.trans ((below_grown hg).mono hB.size)
      clear hg
      go_wp2_with fail
      refine (Quiet.grown (move_n hV)).mono ?_
      rintro e W ⟨rfl, hg⟩
      replace hV := hV.grown hg
      replace hB := hB.trans ((below_grown hg).mono hB.size)
      clear hg
      go_wp2_with fail
      refine (Quiet.grown (start_n hV now)).mono ?_
      rintro e W ⟨rfl, hg⟩
      replace hV := hV.grown hg
      replace hB := hB.trans ((below_grown hg).mono hB.size)
      clear hg
      go_wp2_with fail
      refine (Quiet.grown (stop_n hV now)).mono ?_
      rintro e W ⟨rfl, hg⟩
      replace hV := hV.grown hg
      replace hB := hB.trans ((below_grown hg).mono hB.size)
      clear hg
      go_wp2_with fail
      refine (Quiet.grown (press_n hV now)).mono ?_
      rintro e W ⟨rfl, hg⟩
      replace hV := hV.grown hg
      replace hB := hB.trans ((below_grown hg).mono hB.size)
      clear hg
      go_wp2_with fail
      refine (Quiet.grown (add_n hV side now)).mono ?_
      rintro e W ⟨rfl, hg⟩
      replace hV := hV.grown hg
      replace hB := hB.trans ((below_grown hg).mono hB.size)
      clear hg
      go_wp2_with fail
      refine (Quiet.grown (copy_n hV)).mono ?_
      rintro e W ⟨rfl, hg⟩
      replace hB := hB.trans ((below_grown hg).mono hB.size)
      clear hg
      go_wp2
      go_roundw
      case rel =>
        first
          | (refine ⟨j + 1, by simp, by omega, ?_⟩)
          | ((repeat apply Exists.intro); refine And.intro ?_ rfl; refine ⟨j + 1, by simp, by omega, ?_⟩)
        exact hB
      case measure =>
        simp [intOf] <;> omega
end Go.Proofs.Ytgigehlflgcdpaa
