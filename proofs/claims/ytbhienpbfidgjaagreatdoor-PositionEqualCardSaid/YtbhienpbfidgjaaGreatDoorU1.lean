/- Stipulations: the usual side to move. Conditions: a position that lies in memory. -/
import Derived.Test.YtbhienpbfidgjaaGreatDoorV4
import Derived.Test.YtbhienpbfidgjaaGreatDoorS3
set_option linter.unusedVariables false
set_option linter.unusedSimpArgs false
namespace Go.Proofs.YtbhienpbfidgjaaGreatDoor
open Go.RowKit
def Stip.usualV (s : Stip) (p : Pos) : Value := if s.valid && p.valid then .tuple #[.bool (s.usual p.black), .int .i64 0] else .tuple #[.bool false, .int .i64 2]
set_option maxHeartbeats 4000000 in
theorem usual_g (w : World) (s : Stip) (p : Pos) (po : Option Addr) (cap : Nat) (h : s.valid = true → ∀ W, Below w.heap.size w W → Pure 18 #[.agg (p.cells po cap)] W (.bool p.valid)) :
    Pure 47 #[s.v, .agg (p.cells po cap)] w (s.usualV p) := by
  have h1 := fun W => Lib.hid (svalid_c W s)
  have h2 := fun W => Lib.hid (sgiver_c W s p.black)
  unfold Stip.usualV
  obtain ⟨v, hv⟩ : ∃ v, s.valid = v := ⟨_, rfl⟩
  obtain ⟨u, hu⟩ : ∃ u, p.valid = u := ⟨_, rfl⟩
  unfold Stip.giverV at h2
  rw [hv] at h1 h2 h ⊢
  rw [hu] at h ⊢
  replace h := fun e W hW => Lib.hid (h e W hW)
  unfold Stip.usual
  unfold Stip.v at *
  obtain ⟨g, hg⟩ : ∃ g, s.giver p.black = g := ⟨_, rfl⟩
  rw [hg] at h2 ⊢
  clear hg hu hv
  obtain ⟨play, goal, moves, half⟩ := s
  obtain ⟨f, r, ps, black, castle, passant, hf, full⟩ := p
  dsimp only [Pos.cells] at *
  generalize ps.length = n at *
  unfold Pure
  go_enter Tryz.func47, Tryz.ntmps47
  go_wp2_with fail
  refine ((h1 _).out).mono ?_
  rintro e V ⟨rfl, hV⟩
  obtain ⟨hX, hY⟩ := box_of2 hV
  have hB := Lib.hid (below_of_alloc2 hV)
  clear hV h1
  obtain ⟨x0, x1, x2, x3⟩ := (And.intro (cell_of hX 0 _ rfl) (And.intro (cell_of hX 1 _ rfl) (And.intro (cell_of hX 2 _ rfl) (cell_of hX 3 _ rfl))))
  have y0 := cell_of hY 0 _ rfl
  have y1 := cell_of hY 1 _ rfl
  have y2 := cell_of hY 2 _ rfl
  have y3 := cell_of hY 3 _ rfl
  have y4 := cell_of hY 4 _ rfl
  have y5 := cell_of hY 5 _ rfl
  have y6 := cell_of hY 6 _ rfl
  have y7 := cell_of hY 7 _ rfl
  replace hX := Lib.hid hX
  replace hY := Lib.hid hY
  cases v
  · clear h h2
    go_wp2
    go_ret2
    exact ⟨by simp, hB.out⟩
  · replace h := h rfl
    simp only [if_true] at h2
    go_wp2_with fail
    refine (h _ hB.out).out.mono ?_
    rintro e V2 ⟨rfl, hV2⟩
    have hB2 := Lib.hid (hB.out.trans (hV2.mono hB.out.size))
    have hX2 := below_blk hV2 hX.out
    have hY2 := below_blk hV2 hY.out
    clear x0 x1 x2 x3 y0 y1 y2 y3 y4 y5 y6 y7 hX hY hB h hV2
    obtain ⟨x0, x1, x2, x3⟩ := (And.intro (cell_of hX2 0 _ rfl) (And.intro (cell_of hX2 1 _ rfl) (And.intro (cell_of hX2 2 _ rfl) (cell_of hX2 3 _ rfl))))
    have y3 := cell_of hY2 3 _ rfl
    replace hX2 := Lib.hid hX2
    replace hY2 := Lib.hid hY2
    cases u
    · go_wp2
      go_ret2
      exact ⟨by simp, hB2.out⟩
    · by_cases e : play = 3 ∨ play = 4
      · rcases e with rfl | rfl <;> (go_wp2; go_ret2; exact ⟨by simp, hB2.out⟩)
      · have e3 : play ≠ 3 := fun h => e (Or.inl h)
        have e4 : play ≠ 4 := fun h => e (Or.inr h)
        go_wp2_with fail
        refine (h2 _).out.mono ?_
        rintro e V3 ⟨rfl, hV3⟩
        have hB3 := hB2.out.trans (hV3.mono hB2.out.size)
        go_wp2
        go_ret2
        exact ⟨by simp [e3, e4], hB3⟩
/-- Usual of a stipulation and a position that lies in memory -/
theorem usual_c (w : World) (s : Stip) (p : Pos) (po : Option Addr) (cap : Nat) (hP : PosAt w p po cap) (hfull : w.cell? ⟨0, 0, none⟩ = some (.int .i64 8) ∧ w.cell? ⟨0, 1, none⟩ = some (.int .i64 8)) :
    Pure 47 #[s.v, .agg (p.cells po cap)] w (s.usualV p) :=
  usual_g w s p po cap fun _ W hW => valid_c W p po cap (hP.below hW) ⟨below_at hW hfull.1, below_at hW hfull.2⟩
end Go.Proofs.YtbhienpbfidgjaaGreatDoor
