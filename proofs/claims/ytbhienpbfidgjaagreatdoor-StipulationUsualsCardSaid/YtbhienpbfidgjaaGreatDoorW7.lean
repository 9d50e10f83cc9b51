/- The law on the usual side, walked. Conditions: the library as said; the tables lie in memory. -/
import Derived.Test.YtbhienpbfidgjaaGreatDoorT10
set_option linter.unusedVariables false
set_option linter.unusedSimpArgs false
namespace Go.Proofs.YtbhienpbfidgjaaGreatDoor
open Go.RowKit
theorem usuals_law (L : Libs) (w : World) (hE : Env w) (s : Stip) (q : Pos) (po : Option Addr) (cap : Nat) (hS : SlcAt w po q.ps) (hl1 : q.ps.length ≤ cap) (hl2 : cap ≤ 9223372036854775807) (hcs : 0 ≤ q.castle ∧ q.castle ≤ 255) :
    Pure 13 #[s.v, .agg (q.cells po cap)] w (.bool true) := by
  have hk := Lib.hid (fun W (hW : Below w.heap.size w W) => known_c L W (hE.below hW))
  rcases Nat.lt_or_ge 70 q.ps.length with hl | hl
  · clear hE L hS hl2 hcs
    obtain ⟨p, g, m, h⟩ := s
    obtain ⟨f, r, ps, bl, ca, pa, ha, fu⟩ := q
    unfold Stip.v Pos.cells at *
    dsimp only at *
    have hl' : (70 < (ps.length : Int)) = True := by simp; omega
    replace hl := Lib.hid hl
    replace hl1 := Lib.hid hl1
    unfold Pure
    go_enter Tryz.func13, Tryz.ntmps13
    go_wp2_with fail
    have hN := Lib.hid (blk_alloc (blk_new (w := w) rfl (.cells #[.int .i64 p, .int .i64 g, .int .i64 m, .bool h] 54)) (.cells #[.int .i64 f, .int .i64 r, .slice po ps.length cap, .bool bl, .int .u8 ca, .int .i64 pa, .int .i64 ha, .int .i64 fu] 26))
    have hM := Lib.hid (blk_new (w := w.alloc (.cells #[.int .i64 p, .int .i64 g, .int .i64 m, .bool h] 54)) rfl (.cells #[.int .i64 f, .int .i64 r, .slice po ps.length cap, .bool bl, .int .u8 ca, .int .i64 pa, .int .i64 ha, .int .i64 fu] 26))
    have hB := Lib.hid (((Below.refl w.heap.size w).alloc (Nat.le_refl _) (.cells #[.int .i64 p, .int .i64 g, .int .i64 m, .bool h] 54)).alloc (by simp) (.cells #[.int .i64 f, .int .i64 r, .slice po ps.length cap, .bool bl, .int .u8 ca, .int .i64 pa, .int .i64 ha, .int .i64 fu] 26))
    rw [show (w.alloc (.cells #[.int .i64 p, .int .i64 g, .int .i64 m, .bool h] 54)).heap.size = w.heap.size + 1 from by simp] at hM
    obtain ⟨G, hG⟩ : ∃ G, w.heap.size = G := ⟨_, rfl⟩
    obtain ⟨G2, hG2⟩ : ∃ G2, G + 1 = G2 := ⟨_, rfl⟩
    obtain ⟨V0, hV0⟩ : ∃ V0, (w.alloc (.cells #[.int .i64 p, .int .i64 g, .int .i64 m, .bool h] 54)).alloc (.cells #[.int .i64 f, .int .i64 r, .slice po ps.length cap, .bool bl, .int .u8 ca, .int .i64 pa, .int .i64 ha, .int .i64 fu] 26) = V0 := ⟨_, rfl⟩
    rw [hG, hV0] at hN
    rw [hV0] at hB ⊢
    rw [hG, hG2, hV0] at hM
    rw [hG, hG2]
    clear hG hG2 hV0
    have y0 := cell_of hN.out 0 _ rfl
    have y1 := cell_of hN.out 1 _ rfl
    have y2 := cell_of hN.out 2 _ rfl
    have y3 := cell_of hN.out 3 _ rfl
    have z0 := cell_of hM.out 0 _ rfl
    have z1 := cell_of hM.out 1 _ rfl
    have z2 := cell_of hM.out 2 _ rfl
    have z3 := cell_of hM.out 3 _ rfl
    have z4 := cell_of hM.out 4 _ rfl
    have z5 := cell_of hM.out 5 _ rfl
    have z6 := cell_of hM.out 6 _ rfl
    have z7 := cell_of hM.out 7 _ rfl
    go_wp2_with fail
    clear y0 y1 y2 y3 z0 z1 z2 z3 z4 z5 z6 z7
    refine (hk.out _ (hB.out)).mono ?_
    rintro e V9 ⟨rfl, hV⟩
    replace hB := Lib.hid ((hB.out).trans (hV.mono (hB.out).size))
    clear hV
    go_wp2
    go_ret
    exact ⟨by simp, hB.out⟩
  · have hP : PosAt w q po cap := ⟨hS, by omega, hl1, hl2, hcs, hE.rays⟩
    have c1 := Lib.hid (fun W (hW : Below w.heap.size w W) => usual_c W s q po cap (hP.below hW) (hE.below hW).full)
    have c2 := fun W => Lib.hid (rvalid_c W s)
    have c3 := Lib.hid (fun W (hW : Below w.heap.size w W) => valid_c W q po cap (hP.below hW) (hE.below hW).full)
    have c4 := fun W hv => Lib.hid (rusual_c W s q.black hv)
    unfold Stip.usualV at c1
    obtain ⟨v, hv⟩ : ∃ v, s.valid = v := ⟨_, rfl⟩
    obtain ⟨u, hu⟩ : ∃ u, q.valid = u := ⟨_, rfl⟩
    obtain ⟨us, hus⟩ : ∃ us, s.usual q.black = us := ⟨_, rfl⟩
    rw [hv, hu, hus] at c1
    rw [hv] at c2 c4
    rw [hu] at c3
    rw [hus] at c4
    clear hv hu hus hE L hS hl2 hcs hP
    obtain ⟨p, g, m, h⟩ := s
    obtain ⟨f, r, ps, bl, ca, pa, ha, fu⟩ := q
    unfold Stip.v Pos.cells at *
    dsimp only at *
    have hl' : (70 < (ps.length : Int)) = False := by simp; omega
    replace hl := Lib.hid hl
    replace hl1 := Lib.hid hl1
    unfold Pure
    go_enter Tryz.func13, Tryz.ntmps13
    go_wp2_with fail
    have hN := Lib.hid (blk_alloc (blk_new (w := w) rfl (.cells #[.int .i64 p, .int .i64 g, .int .i64 m, .bool h] 54)) (.cells #[.int .i64 f, .int .i64 r, .slice po ps.length cap, .bool bl, .int .u8 ca, .int .i64 pa, .int .i64 ha, .int .i64 fu] 26))
    have hM := Lib.hid (blk_new (w := w.alloc (.cells #[.int .i64 p, .int .i64 g, .int .i64 m, .bool h] 54)) rfl (.cells #[.int .i64 f, .int .i64 r, .slice po ps.length cap, .bool bl, .int .u8 ca, .int .i64 pa, .int .i64 ha, .int .i64 fu] 26))
    have hB := Lib.hid (((Below.refl w.heap.size w).alloc (Nat.le_refl _) (.cells #[.int .i64 p, .int .i64 g, .int .i64 m, .bool h] 54)).alloc (by simp) (.cells #[.int .i64 f, .int .i64 r, .slice po ps.length cap, .bool bl, .int .u8 ca, .int .i64 pa, .int .i64 ha, .int .i64 fu] 26))
    rw [show (w.alloc (.cells #[.int .i64 p, .int .i64 g, .int .i64 m, .bool h] 54)).heap.size = w.heap.size + 1 from by simp] at hM
    obtain ⟨G, hG⟩ : ∃ G, w.heap.size = G := ⟨_, rfl⟩
    obtain ⟨G2, hG2⟩ : ∃ G2, G + 1 = G2 := ⟨_, rfl⟩
    obtain ⟨V0, hV0⟩ : ∃ V0, (w.alloc (.cells #[.int .i64 p, .int .i64 g, .int .i64 m, .bool h] 54)).alloc (.cells #[.int .i64 f, .int .i64 r, .slice po ps.length cap, .bool bl, .int .u8 ca, .int .i64 pa, .int .i64 ha, .int .i64 fu] 26) = V0 := ⟨_, rfl⟩
    rw [hG, hV0] at hN
    rw [hV0] at hB ⊢
    rw [hG, hG2, hV0] at hM
    rw [hG, hG2]
    clear hG hG2 hV0
    have y0 := cell_of hN.out 0 _ rfl
    have y1 := cell_of hN.out 1 _ rfl
    have y2 := cell_of hN.out 2 _ rfl
    have y3 := cell_of hN.out 3 _ rfl
    have z0 := cell_of hM.out 0 _ rfl
    have z1 := cell_of hM.out 1 _ rfl
    have z2 := cell_of hM.out 2 _ rfl
    have z3 := cell_of hM.out 3 _ rfl
    have z4 := cell_of hM.out 4 _ rfl
    have z5 := cell_of hM.out 5 _ rfl
    have z6 := cell_of hM.out 6 _ rfl
    have z7 := cell_of hM.out 7 _ rfl
    go_wp2_with fail
    clear y0 y1 y2 y3 z0 z1 z2 z3 z4 z5 z6 z7
    cases v
    · simp only [Bool.false_and, Bool.false_eq_true, if_false] at c1
      refine (c1.out _ hB.out).mono ?_
      rintro e V ⟨rfl, hV⟩
      replace hN := Lib.hid (below_blk hV hN.out)
      replace hM := Lib.hid (below_blk hV hM.out)
      replace hB := Lib.hid (hB.out.trans (hV.mono hB.out.size))
      clear hV
      have y0 := cell_of hN.out 0 _ rfl
      have y1 := cell_of hN.out 1 _ rfl
      have y2 := cell_of hN.out 2 _ rfl
      have y3 := cell_of hN.out 3 _ rfl
      have z0 := cell_of hM.out 0 _ rfl
      have z1 := cell_of hM.out 1 _ rfl
      have z2 := cell_of hM.out 2 _ rfl
      have z3 := cell_of hM.out 3 _ rfl
      have z4 := cell_of hM.out 4 _ rfl
      have z5 := cell_of hM.out 5 _ rfl
      have z6 := cell_of hM.out 6 _ rfl
      have z7 := cell_of hM.out 7 _ rfl
      go_wp2_with fail
      clear y0 y1 y2 y3 z0 z1 z2 z3 z4 z5 z6 z7
      refine (c2 _).out.mono ?_
      rintro e V ⟨rfl, hV⟩
      replace hN := Lib.hid (below_blk hV hN.out)
      replace hM := Lib.hid (below_blk hV hM.out)
      replace hB := Lib.hid (hB.out.trans (hV.mono hB.out.size))
      clear hV
      have y0 := cell_of hN.out 0 _ rfl
      have y1 := cell_of hN.out 1 _ rfl
      have y2 := cell_of hN.out 2 _ rfl
      have y3 := cell_of hN.out 3 _ rfl
      have z0 := cell_of hM.out 0 _ rfl
      have z1 := cell_of hM.out 1 _ rfl
      have z2 := cell_of hM.out 2 _ rfl
      have z3 := cell_of hM.out 3 _ rfl
      have z4 := cell_of hM.out 4 _ rfl
      have z5 := cell_of hM.out 5 _ rfl
      have z6 := cell_of hM.out 6 _ rfl
      have z7 := cell_of hM.out 7 _ rfl
      go_wp2_with fail
      clear y0 y1 y2 y3 z0 z1 z2 z3 z4 z5 z6 z7
      refine (hk.out _ (hB.out)).mono ?_
      rintro e V9 ⟨rfl, hV⟩
      replace hB := Lib.hid ((hB.out).trans (hV.mono (hB.out).size))
      clear hV
      go_wp2
      go_ret
      exact ⟨by simp, hB.out⟩
    · cases u
      · simp only [Bool.true_and, Bool.false_eq_true, if_false] at c1
        refine (c1.out _ hB.out).mono ?_
        rintro e V ⟨rfl, hV⟩
        replace hN := Lib.hid (below_blk hV hN.out)
        replace hM := Lib.hid (below_blk hV hM.out)
        replace hB := Lib.hid (hB.out.trans (hV.mono hB.out.size))
        clear hV
        have y0 := cell_of hN.out 0 _ rfl
        have y1 := cell_of hN.out 1 _ rfl
        have y2 := cell_of hN.out 2 _ rfl
        have y3 := cell_of hN.out 3 _ rfl
        have z0 := cell_of hM.out 0 _ rfl
        have z1 := cell_of hM.out 1 _ rfl
        have z2 := cell_of hM.out 2 _ rfl
        have z3 := cell_of hM.out 3 _ rfl
        have z4 := cell_of hM.out 4 _ rfl
        have z5 := cell_of hM.out 5 _ rfl
        have z6 := cell_of hM.out 6 _ rfl
        have z7 := cell_of hM.out 7 _ rfl
        go_wp2_with fail
        clear y0 y1 y2 y3 z0 z1 z2 z3 z4 z5 z6 z7
        refine (c2 _).out.mono ?_
        rintro e V ⟨rfl, hV⟩
        replace hN := Lib.hid (below_blk hV hN.out)
        replace hM := Lib.hid (below_blk hV hM.out)
        replace hB := Lib.hid (hB.out.trans (hV.mono hB.out.size))
        clear hV
        have y0 := cell_of hN.out 0 _ rfl
        have y1 := cell_of hN.out 1 _ rfl
        have y2 := cell_of hN.out 2 _ rfl
        have y3 := cell_of hN.out 3 _ rfl
        have z0 := cell_of hM.out 0 _ rfl
        have z1 := cell_of hM.out 1 _ rfl
        have z2 := cell_of hM.out 2 _ rfl
        have z3 := cell_of hM.out 3 _ rfl
        have z4 := cell_of hM.out 4 _ rfl
        have z5 := cell_of hM.out 5 _ rfl
        have z6 := cell_of hM.out 6 _ rfl
        have z7 := cell_of hM.out 7 _ rfl
        go_wp2_with fail
        clear y0 y1 y2 y3 z0 z1 z2 z3 z4 z5 z6 z7
        refine (c3.out _ hB.out).mono ?_
        rintro e V ⟨rfl, hV⟩
        replace hN := Lib.hid (below_blk hV hN.out)
        replace hM := Lib.hid (below_blk hV hM.out)
        replace hB := Lib.hid (hB.out.trans (hV.mono hB.out.size))
        clear hV
        have y0 := cell_of hN.out 0 _ rfl
        have y1 := cell_of hN.out 1 _ rfl
        have y2 := cell_of hN.out 2 _ rfl
        have y3 := cell_of hN.out 3 _ rfl
        have z0 := cell_of hM.out 0 _ rfl
        have z1 := cell_of hM.out 1 _ rfl
        have z2 := cell_of hM.out 2 _ rfl
        have z3 := cell_of hM.out 3 _ rfl
        have z4 := cell_of hM.out 4 _ rfl
        have z5 := cell_of hM.out 5 _ rfl
        have z6 := cell_of hM.out 6 _ rfl
        have z7 := cell_of hM.out 7 _ rfl
        go_wp2_with fail
        clear y0 y1 y2 y3 z0 z1 z2 z3 z4 z5 z6 z7
        refine (hk.out _ (hB.out)).mono ?_
        rintro e V9 ⟨rfl, hV⟩
        replace hB := Lib.hid ((hB.out).trans (hV.mono (hB.out).size))
        clear hV
        go_wp2
        go_ret
        exact ⟨by simp, hB.out⟩
      · simp only [Bool.true_and, if_true] at c1
        replace c4 := fun W => c4 W rfl
        refine (c1.out _ hB.out).mono ?_
        rintro e V ⟨rfl, hV⟩
        replace hN := Lib.hid (below_blk hV hN.out)
        replace hM := Lib.hid (below_blk hV hM.out)
        replace hB := Lib.hid (hB.out.trans (hV.mono hB.out.size))
        clear hV
        have y0 := cell_of hN.out 0 _ rfl
        have y1 := cell_of hN.out 1 _ rfl
        have y2 := cell_of hN.out 2 _ rfl
        have y3 := cell_of hN.out 3 _ rfl
        have z0 := cell_of hM.out 0 _ rfl
        have z1 := cell_of hM.out 1 _ rfl
        have z2 := cell_of hM.out 2 _ rfl
        have z3 := cell_of hM.out 3 _ rfl
        have z4 := cell_of hM.out 4 _ rfl
        have z5 := cell_of hM.out 5 _ rfl
        have z6 := cell_of hM.out 6 _ rfl
        have z7 := cell_of hM.out 7 _ rfl
        go_wp2_with fail
        clear y0 y1 y2 y3 z0 z1 z2 z3 z4 z5 z6 z7
        refine (c2 _).out.mono ?_
        rintro e V ⟨rfl, hV⟩
        replace hN := Lib.hid (below_blk hV hN.out)
        replace hM := Lib.hid (below_blk hV hM.out)
        replace hB := Lib.hid (hB.out.trans (hV.mono hB.out.size))
        clear hV
        have y0 := cell_of hN.out 0 _ rfl
        have y1 := cell_of hN.out 1 _ rfl
        have y2 := cell_of hN.out 2 _ rfl
        have y3 := cell_of hN.out 3 _ rfl
        have z0 := cell_of hM.out 0 _ rfl
        have z1 := cell_of hM.out 1 _ rfl
        have z2 := cell_of hM.out 2 _ rfl
        have z3 := cell_of hM.out 3 _ rfl
        have z4 := cell_of hM.out 4 _ rfl
        have z5 := cell_of hM.out 5 _ rfl
        have z6 := cell_of hM.out 6 _ rfl
        have z7 := cell_of hM.out 7 _ rfl
        go_wp2_with fail
        clear y0 y1 y2 y3 z0 z1 z2 z3 z4 z5 z6 z7
        refine (c3.out _ hB.out).mono ?_
        rintro e V ⟨rfl, hV⟩
        replace hN := Lib.hid (below_blk hV hN.out)
        replace hM := Lib.hid (below_blk hV hM.out)
        replace hB := Lib.hid (hB.out.trans (hV.mono hB.out.size))
        clear hV
        have y0 := cell_of hN.out 0 _ rfl
        have y1 := cell_of hN.out 1 _ rfl
        have y2 := cell_of hN.out 2 _ rfl
        have y3 := cell_of hN.out 3 _ rfl
        have z0 := cell_of hM.out 0 _ rfl
        have z1 := cell_of hM.out 1 _ rfl
        have z2 := cell_of hM.out 2 _ rfl
        have z3 := cell_of hM.out 3 _ rfl
        have z4 := cell_of hM.out 4 _ rfl
        have z5 := cell_of hM.out 5 _ rfl
        have z6 := cell_of hM.out 6 _ rfl
        have z7 := cell_of hM.out 7 _ rfl
        go_wp2_with fail
        clear y0 y1 y2 y3 z0 z1 z2 z3 z4 z5 z6 z7
        refine (c4 _).out.mono ?_
        rintro e V ⟨rfl, hV⟩
        replace hN := Lib.hid (below_blk hV hN.out)
        replace hM := Lib.hid (below_blk hV hM.out)
        replace hB := Lib.hid (hB.out.trans (hV.mono hB.out.size))
        clear hV
        have y0 := cell_of hN.out 0 _ rfl
        have y1 := cell_of hN.out 1 _ rfl
        have y2 := cell_of hN.out 2 _ rfl
        have y3 := cell_of hN.out 3 _ rfl
        have z0 := cell_of hM.out 0 _ rfl
        have z1 := cell_of hM.out 1 _ rfl
        have z2 := cell_of hM.out 2 _ rfl
        have z3 := cell_of hM.out 3 _ rfl
        have z4 := cell_of hM.out 4 _ rfl
        have z5 := cell_of hM.out 5 _ rfl
        have z6 := cell_of hM.out 6 _ rfl
        have z7 := cell_of hM.out 7 _ rfl
        go_wp2_with fail
        clear y0 y1 y2 y3 z0 z1 z2 z3 z4 z5 z6 z7
        refine (hk.out _ (hB.out)).mono ?_
        rintro e V9 ⟨rfl, hV⟩
        replace hB := Lib.hid ((hB.out).trans (hV.mono (hB.out).size))
        clear hV
        go_wp2
        go_ret
        exact ⟨by simp, hB.out⟩
end Go.Proofs.YtbhienpbfidgjaaGreatDoor
