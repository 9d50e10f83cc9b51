/- Contracts of the package stipulation and its reference: GiverOf, Usual of the reference, Next. No condition. -/
import Derived.Test.YtbhienpbfidgjaaGreatDoorS2
set_option linter.unusedVariables false
set_option linter.unusedSimpArgs false
namespace Go.Proofs.YtbhienpbfidgjaaGreatDoor
open Go.RowKit
theorem rgiverOf_c (w : World) (s : Stip) (black : Bool) : Pure 46 #[s.v, .bool black] w (s.giverV black) := by
  have hval := fun W => Lib.hid (rvalid_c W s)
  cases hv : s.valid
  · rw [hv] at hval
    unfold Stip.giverV
    rw [hv]
    replace hv := Lib.hid hv
    obtain ⟨p, g, m, h⟩ := s
    dsimp only [Stip.v] at *
    unfold Pure
    go_enter Tryz.func46, Tryz.ntmps46
    go_wp2_with fail
    refine ((hval _).out).mono ?_
    rintro e V ⟨rfl, hV⟩
    go_wp2
    go_ret2
    exact ⟨rfl, below_of_alloc hV⟩
  · rw [hv] at hval
    unfold Stip.giverV
    rw [hv]
    have hpl := fun W => Lib.hid (rgiver_c W s black hv)
    obtain ⟨n, hn⟩ : ∃ n, s.giver black = n := ⟨_, rfl⟩
    rw [hn] at hpl ⊢
    replace hn := Lib.hid hn
    replace hv := Lib.hid hv
    obtain ⟨p, g, m, h⟩ := s
    dsimp only [Stip.v] at *
    unfold Pure
    go_enter Tryz.func46, Tryz.ntmps46
    go_wp2_with fail
    refine ((hval _).out).mono ?_
    rintro e V ⟨rfl, hV⟩
    have hX := box_of hV
    have y0 := cell_of hX 0 _ rfl
    have y1 := cell_of hX 1 _ rfl
    have y2 := cell_of hX 2 _ rfl
    have y3 := cell_of hX 3 _ rfl
    have hB := Lib.hid (below_of_alloc hV)
    clear hX hV
    go_wp2_with fail
    refine ((hpl _).out).mono ?_
    rintro e V ⟨rfl, hV⟩
    go_wp2
    go_ret2
    exact ⟨rfl, hB.out.trans (hV.mono hB.out.size)⟩
def Stip.usual (s : Stip) (black : Bool) : Bool := if s.play = 3 ∨ s.play = 4 then !black else !s.giver black
theorem rusual_c (w : World) (s : Stip) (black : Bool) (hv : s.valid = true) : Pure 48 #[s.v, .bool black] w (.bool (s.usual black)) := by
  have hg := fun W => Lib.hid (rgiver_c W s black hv)
  unfold Stip.usual
  obtain ⟨n, hn⟩ : ∃ n, s.giver black = n := ⟨_, rfl⟩
  rw [hn] at hg ⊢
  replace hn := Lib.hid hn
  replace hv := Lib.hid hv
  by_cases h3 : s.play = 3
  · obtain ⟨p, g, m, h⟩ := s
    dsimp only [Stip.v] at *
    subst h3
    unfold Pure
    go_enter Tryz.func48, Tryz.ntmps48
    go_wp2
    go_ret
    refine ⟨by simp, ?_⟩
    repeat (first | (with_reducible assumption) | (with_reducible exact Below.refl _ _) | (with_reducible apply below_drewN) | (with_reducible apply Below.drew) | (with_reducible apply Below.alloc) | (with_reducible apply Below.setCell))
    all_goals first | omega | (dsimp only; omega) | (simp; done) | (simp; omega)
  · by_cases h4 : s.play = 4
    · obtain ⟨p, g, m, h⟩ := s
      dsimp only [Stip.v] at *
      subst h4
      unfold Pure
      go_enter Tryz.func48, Tryz.ntmps48
      go_wp2
      go_ret
      refine ⟨by simp, ?_⟩
      repeat (first | (with_reducible assumption) | (with_reducible exact Below.refl _ _) | (with_reducible apply below_drewN) | (with_reducible apply Below.drew) | (with_reducible apply Below.alloc) | (with_reducible apply Below.setCell))
      all_goals first | omega | (dsimp only; omega) | (simp; done) | (simp; omega)
    · obtain ⟨p, g, m, h⟩ := s
      dsimp only [Stip.v] at *
      rw [if_neg (by omega)]
      have h3 : (p == 3) = false := by simpa using h3
      have h4 : (p == 4) = false := by simpa using h4
      unfold Pure
      go_enter Tryz.func48, Tryz.ntmps48
      go_wp2_with fail
      refine ((hg _).out).mono ?_
      rintro e V ⟨rfl, hV⟩
      go_wp2
      go_ret
      exact ⟨rfl, below_of_alloc hV⟩
def Stip.nextV (s : Stip) : Value := if s.valid then (if s.moves = 1 then .tuple #[.agg #[.int .i64 0, .int .i64 0, .int .i64 0, .bool false], .int .i64 9] else .tuple #[({ s with moves := s.moves - 1 } : Stip).v, .int .i64 0]) else .tuple #[.agg #[.int .i64 0, .int .i64 0, .int .i64 0, .bool false], .int .i64 2]
theorem snext_c (w : World) (s : Stip) : Pure 49 #[s.v] w s.nextV := by
  have hval := fun W => Lib.hid (svalid_c W s)
  cases hv : s.valid
  · rw [hv] at hval
    unfold Stip.nextV
    rw [hv]
    replace hv := Lib.hid hv
    obtain ⟨p, g, m, h⟩ := s
    dsimp only [Stip.v] at *
    unfold Pure
    go_enter Tryz.func49, Tryz.ntmps49
    go_wp2_with fail
    refine ((hval _).out).mono ?_
    rintro e V ⟨rfl, hV⟩
    obtain ⟨hX, hX2⟩ := box_of2 hV
    have y0 := cell_of hX 0 _ rfl
    have y1 := cell_of hX 1 _ rfl
    have y2 := cell_of hX 2 _ rfl
    have y3 := cell_of hX 3 _ rfl
    have z0 := cell_of hX2 0 _ rfl
    have z1 := cell_of hX2 1 _ rfl
    have z2 := cell_of hX2 2 _ rfl
    have z3 := cell_of hX2 3 _ rfl
    have f := free_of hX2
    have f1 := free_of hX
    have hB := Lib.hid (below_of_alloc2 hV)
    clear hX hX2 hV
    go_wp2
    refine bodyPost_ret (v := .tuple #[.agg #[.int .i64 0, .int .i64 0, .int .i64 0, .bool false], .int .i64 2]) (by simp [results, Tryz.results49, go_sem, z0, z1, z2, z3]) rfl ⟨rfl, ?_⟩
    clear z0 z1 z2 z3 y0 y1 y2 y3 f f1
    replace hB := hB.out
    repeat (first | (with_reducible assumption) | (with_reducible exact Below.refl _ _) | (with_reducible apply below_drewN) | (with_reducible apply Below.drew) | (with_reducible apply Below.alloc) | (with_reducible apply Below.setCell))
    all_goals first | omega | (dsimp only; omega) | (simp; done) | (simp; omega)
  · rw [hv] at hval
    unfold Stip.nextV
    rw [hv]
    replace hv := Lib.hid hv
    by_cases hm1 : s.moves = 1
    · obtain ⟨p, g, m, h⟩ := s
      dsimp only [Stip.v] at *
      subst hm1
      unfold Pure
      go_enter Tryz.func49, Tryz.ntmps49
      go_wp2_with fail
      refine ((hval _).out).mono ?_
      rintro e V ⟨rfl, hV⟩
      obtain ⟨hX, hX2⟩ := box_of2 hV
      have y0 := cell_of hX 0 _ rfl
      have y1 := cell_of hX 1 _ rfl
      have y2 := cell_of hX 2 _ rfl
      have y3 := cell_of hX 3 _ rfl
      have z0 := cell_of hX2 0 _ rfl
      have z1 := cell_of hX2 1 _ rfl
      have z2 := cell_of hX2 2 _ rfl
      have z3 := cell_of hX2 3 _ rfl
      have f := free_of hX2
      have f1 := free_of hX
      have hB := Lib.hid (below_of_alloc2 hV)
      clear hX hX2 hV
      go_wp2
      refine bodyPost_ret (v := .tuple #[.agg #[.int .i64 0, .int .i64 0, .int .i64 0, .bool false], .int .i64 9]) (by simp [results, Tryz.results49, go_sem, z0, z1, z2, z3]) rfl ⟨by simp, ?_⟩
      clear z0 z1 z2 z3 y0 y1 y2 y3 f f1
      replace hB := hB.out
      repeat (first | (with_reducible assumption) | (with_reducible exact Below.refl _ _) | (with_reducible apply below_drewN) | (with_reducible apply Below.drew) | (with_reducible apply Below.alloc) | (with_reducible apply Below.setCell))
      all_goals first | omega | (dsimp only; omega) | (simp; done) | (simp; omega)
    · obtain ⟨b1, b2⟩ : 1 ≤ s.moves ∧ s.moves ≤ 20 := ⟨(Stip.of_valid hv.out).2.2.2.1, (Stip.of_valid hv.out).2.2.2.2.1⟩
      obtain ⟨p, g, m, h⟩ := s
      dsimp only [Stip.v] at *
      have hm : (m == 1) = false := by simpa using hm1
      simp only [if_true, if_neg hm1]
      clear hm1
      unfold Pure
      go_enter Tryz.func49, Tryz.ntmps49
      go_wp2_with fail
      refine ((hval _).out).mono ?_
      rintro e V ⟨rfl, hV⟩
      obtain ⟨hX, hX2⟩ := box_of2 hV
      have y0 := cell_of hX 0 _ rfl
      have y1 := cell_of hX 1 _ rfl
      have y2 := cell_of hX 2 _ rfl
      have y3 := cell_of hX 3 _ rfl
      have z0 := cell_of hX2 0 _ rfl
      have z1 := cell_of hX2 1 _ rfl
      have z2 := cell_of hX2 2 _ rfl
      have z3 := cell_of hX2 3 _ rfl
      have f := free_of hX2
      have f1 := free_of hX
      have hB := Lib.hid (below_of_alloc2 hV)
      clear hX hX2 hV
      go_wp2
      refine bodyPost_ret (v := .tuple #[.agg #[.int .i64 p, .int .i64 g, .int .i64 (m - 1), .bool h], .int .i64 0]) (by simp [results, Tryz.results49, go_sem, z0, z1, z2, z3]) rfl ⟨rfl, ?_⟩
      clear z0 z1 z2 z3 y0 y1 y2 y3 f f1
      replace hB := hB.out
      repeat (first | (with_reducible assumption) | (with_reducible exact Below.refl _ _) | (with_reducible apply below_drewN) | (with_reducible apply Below.drew) | (with_reducible apply Below.alloc) | (with_reducible apply Below.setCell))
      all_goals first | omega | (dsimp only; omega) | (simp; done) | (simp; omega)
theorem rnext_c (w : World) (s : Stip) : Pure 50 #[s.v] w s.nextV := by
  have hval := fun W => Lib.hid (rvalid_c W s)
  cases hv : s.valid
  · rw [hv] at hval
    unfold Stip.nextV
    rw [hv]
    replace hv := Lib.hid hv
    obtain ⟨p, g, m, h⟩ := s
    dsimp only [Stip.v] at *
    unfold Pure
    go_enter Tryz.func50, Tryz.ntmps50
    go_wp2_with fail
    refine ((hval _).out).mono ?_
    rintro e V ⟨rfl, hV⟩
    obtain ⟨hX, hX2⟩ := box_of2 hV
    have y0 := cell_of hX 0 _ rfl
    have y1 := cell_of hX 1 _ rfl
    have y2 := cell_of hX 2 _ rfl
    have y3 := cell_of hX 3 _ rfl
    have z0 := cell_of hX2 0 _ rfl
    have z1 := cell_of hX2 1 _ rfl
    have z2 := cell_of hX2 2 _ rfl
    have z3 := cell_of hX2 3 _ rfl
    have f := free_of hX2
    have f1 := free_of hX
    have hB := Lib.hid (below_of_alloc2 hV)
    clear hX hX2 hV
    go_wp2
    refine bodyPost_ret (v := .tuple #[.agg #[.int .i64 0, .int .i64 0, .int .i64 0, .bool false], .int .i64 2]) (by simp [results, Tryz.results50, go_sem, z0, z1, z2, z3]) rfl ⟨rfl, ?_⟩
    clear z0 z1 z2 z3 y0 y1 y2 y3 f f1
    replace hB := hB.out
    repeat (first | (with_reducible assumption) | (with_reducible exact Below.refl _ _) | (with_reducible apply below_drewN) | (with_reducible apply Below.drew) | (with_reducible apply Below.alloc) | (with_reducible apply Below.setCell))
    all_goals first | omega | (dsimp only; omega) | (simp; done) | (simp; omega)
  · rw [hv] at hval
    unfold Stip.nextV
    rw [hv]
    replace hv := Lib.hid hv
    by_cases hm1 : s.moves = 1
    · obtain ⟨p, g, m, h⟩ := s
      dsimp only [Stip.v] at *
      subst hm1
      unfold Pure
      go_enter Tryz.func50, Tryz.ntmps50
      go_wp2_with fail
      refine ((hval _).out).mono ?_
      rintro e V ⟨rfl, hV⟩
      obtain ⟨hX, hX2⟩ := box_of2 hV
      have y0 := cell_of hX 0 _ rfl
      have y1 := cell_of hX 1 _ rfl
      have y2 := cell_of hX 2 _ rfl
      have y3 := cell_of hX 3 _ rfl
      have z0 := cell_of hX2 0 _ rfl
      have z1 := cell_of hX2 1 _ rfl
      have z2 := cell_of hX2 2 _ rfl
      have z3 := cell_of hX2 3 _ rfl
      have f := free_of hX2
      have f1 := free_of hX
      have hB := Lib.hid (below_of_alloc2 hV)
      clear hX hX2 hV
      go_wp2
      refine bodyPost_ret (v := .tuple #[.agg #[.int .i64 0, .int .i64 0, .int .i64 0, .bool false], .int .i64 9]) (by simp [results, Tryz.results50, go_sem, z0, z1, z2, z3]) rfl ⟨by simp, ?_⟩
      clear z0 z1 z2 z3 y0 y1 y2 y3 f f1
      replace hB := hB.out
      repeat (first | (with_reducible assumption) | (with_reducible exact Below.refl _ _) | (with_reducible apply below_drewN) | (with_reducible apply Below.drew) | (with_reducible apply Below.alloc) | (with_reducible apply Below.setCell))
      all_goals first | omega | (dsimp only; omega) | (simp; done) | (simp; omega)
    · obtain ⟨b1, b2⟩ : 1 ≤ s.moves ∧ s.moves ≤ 20 := ⟨(Stip.of_valid hv.out).2.2.2.1, (Stip.of_valid hv.out).2.2.2.2.1⟩
      obtain ⟨p, g, m, h⟩ := s
      dsimp only [Stip.v] at *
      have hm : (m == 1) = false := by simpa using hm1
      simp only [if_true, if_neg hm1]
      clear hm1
      unfold Pure
      go_enter Tryz.func50, Tryz.ntmps50
      go_wp2_with fail
      refine ((hval _).out).mono ?_
      rintro e V ⟨rfl, hV⟩
      obtain ⟨hX, hX2⟩ := box_of2 hV
      have y0 := cell_of hX 0 _ rfl
      have y1 := cell_of hX 1 _ rfl
      have y2 := cell_of hX 2 _ rfl
      have y3 := cell_of hX 3 _ rfl
      have z0 := cell_of hX2 0 _ rfl
      have z1 := cell_of hX2 1 _ rfl
      have z2 := cell_of hX2 2 _ rfl
      have z3 := cell_of hX2 3 _ rfl
      have f := free_of hX2
      have f1 := free_of hX
      have hB := Lib.hid (below_of_alloc2 hV)
      clear hX hX2 hV
      go_wp2
      refine bodyPost_ret (v := .tuple #[.agg #[.int .i64 p, .int .i64 g, .int .i64 (m - 1), .bool h], .int .i64 0]) (by simp [results, Tryz.results50, go_sem, z0, z1, z2, z3]) rfl ⟨rfl, ?_⟩
      clear z0 z1 z2 z3 y0 y1 y2 y3 f f1
      replace hB := hB.out
      repeat (first | (with_reducible assumption) | (with_reducible exact Below.refl _ _) | (with_reducible apply below_drewN) | (with_reducible apply Below.drew) | (with_reducible apply Below.alloc) | (with_reducible apply Below.setCell))
      all_goals first | omega | (dsimp only; omega) | (simp; done) | (simp; omega)
end Go.Proofs.YtbhienpbfidgjaaGreatDoor
