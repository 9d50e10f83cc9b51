/- Contracts of the package square. No condition, but for numbers of a board of a valid size where it is said. -/
import Derived.Test.YtbhienpbfidgjaaGreatDoorA
set_option linter.unusedVariables false
set_option linter.unusedSimpArgs false
namespace Go.Proofs.YtbhienpbfidgjaaGreatDoor
open Go.RowKit
def sideB (n : Int) : Bool := decide (3 ≤ n) && decide (n ≤ 8)
def vsize (f r : Int) : Bool := sideB f && sideB r
theorem vsize_bd {f r : Int} (h : vsize f r = true) : 3 ≤ f ∧ f ≤ 8 ∧ 3 ≤ r ∧ r ≤ 8 := by
  simpa [vsize, sideB, and_assoc] using h
theorem vsize_mul {f r : Int} (h : vsize f r = true) : 9 ≤ f * r ∧ f * r ≤ 64 := by
  obtain ⟨h1, h2, h3, h4⟩ := vsize_bd h
  obtain rfl | rfl | rfl | rfl | rfl | rfl : f = 3 ∨ f = 4 ∨ f = 5 ∨ f = 6 ∨ f = 7 ∨ f = 8 := by omega
  all_goals omega
theorem side_c (w : World) (n : Int) : Same 156 #[.int .i64 n] w (.bool (sideB n)) := by
  unfold Same sideB
  by_cases h1 : 3 ≤ n
  · by_cases h2 : n ≤ 8
    · go_enter Tryz.func156, Tryz.ntmps156
      go_wp2
      go_ret
      exact ⟨by first | (simp [h1, h2]; done) | (simp [h1, h2]; omega), rfl⟩
    · go_enter Tryz.func156, Tryz.ntmps156
      go_wp2
      go_ret
      exact ⟨by first | (simp [h1, h2]; done) | (simp [h1, h2]; omega), rfl⟩
  · go_enter Tryz.func156, Tryz.ntmps156
    go_wp2
    go_ret
    exact ⟨by first | (simp [h1]; done) | (simp [h1]; omega), rfl⟩
theorem vsize_c (w : World) (f r : Int) : Pure 130 #[.agg #[.int .i64 f, .int .i64 r]] w (.bool (vsize f r)) := by
  have hs := fun W n => Lib.hid (side_c W n)
  unfold vsize
  cases hf : sideB f
  · have h1 := fun W => Lib.hid (side_c W f)
    rw [hf] at h1
    replace hf := Lib.hid hf
    unfold Pure
    go_enter Tryz.func130, Tryz.ntmps130
    go_wp2_with fail
    refine (h1 _).out.mono ?_
    rintro e V ⟨rfl, rfl⟩
    go_wp2
    go_ret
    refine ⟨by first | (simp; done) | (simp; omega), ?_⟩
    repeat (first | (with_reducible assumption) | (with_reducible exact Below.refl _ _) | (with_reducible apply below_drewN) | (with_reducible apply Below.drew) | (with_reducible apply Below.alloc) | (with_reducible apply Below.setCell))
    all_goals first | omega | (dsimp only; omega) | (simp; done) | (simp; omega)
  · have h1 := fun W => Lib.hid (side_c W f)
    rw [hf] at h1
    replace hf := Lib.hid hf
    unfold Pure
    go_enter Tryz.func130, Tryz.ntmps130
    go_wp2_with fail
    refine (h1 _).out.mono ?_
    rintro e V ⟨rfl, rfl⟩
    go_wp2_with fail
    refine (side_c _ r).mono ?_
    rintro e V ⟨rfl, rfl⟩
    go_wp2
    go_ret
    refine ⟨by first | (simp; done) | (simp; omega), ?_⟩
    repeat (first | (with_reducible assumption) | (with_reducible exact Below.refl _ _) | (with_reducible apply below_drewN) | (with_reducible apply Below.drew) | (with_reducible apply Below.alloc) | (with_reducible apply Below.setCell))
    all_goals first | omega | (dsimp only; omega) | (simp; done) | (simp; omega)
def vsq (f r a : Int) : Bool := vsize f r && decide (0 ≤ a) && decide (a < f * r)
theorem vsq_bd {f r a : Int} (h : vsq f r a = true) : vsize f r = true ∧ 0 ≤ a ∧ a < f * r := by
  simpa [vsq, and_assoc] using h
theorem vsq_c (w : World) (f r a : Int) : Pure 109 #[.agg #[.int .i64 f, .int .i64 r], .int .i64 a] w (.bool (vsq f r a)) := by
  have h1 := fun W => Lib.hid (vsize_c W f r)
  unfold vsq
  cases hv : vsize f r
  · rw [hv] at h1
    replace hv := Lib.hid hv
    unfold Pure
    go_enter Tryz.func109, Tryz.ntmps109
    go_wp2_with fail
    refine ((h1 _).out).mono ?_
    rintro e V ⟨rfl, hV⟩
    go_wp2
    go_ret
    exact ⟨by first | (simp; done) | (simp; omega), below_of_alloc hV⟩
  · rw [hv] at h1
    obtain ⟨m1, m2⟩ := vsize_mul hv
    replace hv := Lib.hid hv
    by_cases h0 : 0 ≤ a
    · by_cases h2 : a < f * r
      · unfold Pure
        go_enter Tryz.func109, Tryz.ntmps109
        go_wp2_with fail
        refine ((h1 _).out).mono ?_
        rintro e V ⟨rfl, hV⟩
        have hX := box_of hV
        have y0 := cell_of hX 0 _ rfl
        have y1 := cell_of hX 1 _ rfl
        have hB := Lib.hid (below_of_alloc hV)
        clear hX hV
        go_wp2
        go_ret
        exact ⟨by first | (simp [h0, h2]; done) | (simp [h0, h2]; omega), hB.out⟩
      · unfold Pure
        go_enter Tryz.func109, Tryz.ntmps109
        go_wp2_with fail
        refine ((h1 _).out).mono ?_
        rintro e V ⟨rfl, hV⟩
        have hX := box_of hV
        have y0 := cell_of hX 0 _ rfl
        have y1 := cell_of hX 1 _ rfl
        have hB := Lib.hid (below_of_alloc hV)
        clear hX hV
        go_wp2
        go_ret
        exact ⟨by first | (simp [h0, h2]; done) | (simp [h0, h2]; omega), hB.out⟩
    · unfold Pure
      go_enter Tryz.func109, Tryz.ntmps109
      go_wp2_with fail
      refine ((h1 _).out).mono ?_
      rintro e V ⟨rfl, hV⟩
      go_wp2
      go_ret
      exact ⟨by first | (simp [h0]; done) | (simp [h0]; omega), below_of_alloc hV⟩
def countV (f r : Int) : Value := if vsize f r then .tuple #[.int .i64 (f * r), .int .i64 0] else .tuple #[.int .i64 0, .int .i64 2]
theorem count_c (w : World) (f r : Int) : Pure 101 #[.agg #[.int .i64 f, .int .i64 r]] w (countV f r) := by
  have h1 := fun W => Lib.hid (vsize_c W f r)
  unfold countV
  cases hv : vsize f r
  · rw [hv] at h1
    replace hv := Lib.hid hv
    unfold Pure
    go_enter Tryz.func101, Tryz.ntmps101
    go_wp2_with fail
    refine ((h1 _).out).mono ?_
    rintro e V ⟨rfl, hV⟩
    go_wp2
    go_ret2
    exact ⟨rfl, below_of_alloc hV⟩
  · rw [hv] at h1
    obtain ⟨m1, m2⟩ := vsize_mul hv
    replace hv := Lib.hid hv
    unfold Pure
    go_enter Tryz.func101, Tryz.ntmps101
    go_wp2_with fail
    refine ((h1 _).out).mono ?_
    rintro e V ⟨rfl, hV⟩
    have hX := box_of hV
    have y0 := cell_of hX 0 _ rfl
    have y1 := cell_of hX 1 _ rfl
    have hB := Lib.hid (below_of_alloc hV)
    clear hX hV
    go_wp2
    go_ret2
    exact ⟨rfl, hB.out⟩
def onB (f r x y : Int) : Bool := decide (0 ≤ x) && decide (x < f) && decide (0 ≤ y) && decide (y < r)
theorem on_c (w : World) (f r x y : Int) : Pure 131 #[.agg #[.int .i64 f, .int .i64 r], .int .i64 x, .int .i64 y] w (.bool (onB f r x y)) := by
  unfold onB
  by_cases h1 : 0 ≤ x
  · by_cases h2 : x < f
    · by_cases h3 : 0 ≤ y
      · by_cases h4 : y < r
        · unfold Pure
          go_enter Tryz.func131, Tryz.ntmps131
          go_wp2
          go_ret
          refine ⟨by first | (simp [*]; done) | (simp [*]; omega), ?_⟩
          repeat (first | (with_reducible assumption) | (with_reducible exact Below.refl _ _) | (with_reducible apply below_drewN) | (with_reducible apply Below.drew) | (with_reducible apply Below.alloc) | (with_reducible apply Below.setCell))
          all_goals first | omega | (dsimp only; omega) | (simp; done) | (simp; omega)
        · unfold Pure
          go_enter Tryz.func131, Tryz.ntmps131
          go_wp2
          go_ret
          refine ⟨by first | (simp [*]; done) | (simp [*]; omega), ?_⟩
          repeat (first | (with_reducible assumption) | (with_reducible exact Below.refl _ _) | (with_reducible apply below_drewN) | (with_reducible apply Below.drew) | (with_reducible apply Below.alloc) | (with_reducible apply Below.setCell))
          all_goals first | omega | (dsimp only; omega) | (simp; done) | (simp; omega)
      · unfold Pure
        go_enter Tryz.func131, Tryz.ntmps131
        go_wp2
        go_ret
        refine ⟨by first | (simp [*]; done) | (simp [*]; omega), ?_⟩
        repeat (first | (with_reducible assumption) | (with_reducible exact Below.refl _ _) | (with_reducible apply below_drewN) | (with_reducible apply Below.drew) | (with_reducible apply Below.alloc) | (with_reducible apply Below.setCell))
        all_goals first | omega | (dsimp only; omega) | (simp; done) | (simp; omega)
    · unfold Pure
      go_enter Tryz.func131, Tryz.ntmps131
      go_wp2
      go_ret
      refine ⟨by first | (simp [*]; done) | (simp [*]; omega), ?_⟩
      repeat (first | (with_reducible assumption) | (with_reducible exact Below.refl _ _) | (with_reducible apply below_drewN) | (with_reducible apply Below.drew) | (with_reducible apply Below.alloc) | (with_reducible apply Below.setCell))
      all_goals first | omega | (dsimp only; omega) | (simp; done) | (simp; omega)
  · unfold Pure
    go_enter Tryz.func131, Tryz.ntmps131
    go_wp2
    go_ret
    refine ⟨by first | (simp [*]; done) | (simp [*]; omega), ?_⟩
    repeat (first | (with_reducible assumption) | (with_reducible exact Below.refl _ _) | (with_reducible apply below_drewN) | (with_reducible apply Below.drew) | (with_reducible apply Below.alloc) | (with_reducible apply Below.setCell))
    all_goals first | omega | (dsimp only; omega) | (simp; done) | (simp; omega)
def atV (f r x y : Int) : Value := if vsize f r then (if onB f r x y then .tuple #[.int .i64 (x + y * f), .int .i64 0] else .tuple #[.int .i64 0, .int .i64 3]) else .tuple #[.int .i64 0, .int .i64 2]
theorem onB_bd {f r x y : Int} (h : onB f r x y = true) : 0 ≤ x ∧ x < f ∧ 0 ≤ y ∧ y < r := by simpa [onB, and_assoc] using h
theorem on_mul {f r x y : Int} (hv : vsize f r = true) (h : onB f r x y = true) : 0 ≤ y * f ∧ y * f ≤ 61 ∧ 0 ≤ x + y * f ∧ x + y * f < f * r := by
  obtain ⟨h1, h2, h3, h4⟩ := vsize_bd hv
  obtain ⟨x1, x2, y1, y2⟩ := onB_bd h
  have e : y * f + f ≤ f * r := by
    have : (y + 1) * f ≤ r * f := Int.mul_le_mul_of_nonneg_right (by omega) (by omega)
    rw [Int.add_mul, Int.one_mul] at this
    rw [Int.mul_comm f r]
    exact this
  have e0 : 0 ≤ y * f := Int.mul_nonneg y1 (by omega)
  obtain ⟨m1, m2⟩ := vsize_mul hv
  refine ⟨e0, ?_, ?_, ?_⟩ <;> omega
theorem at_c (w : World) (f r x y : Int) : Pure 223 #[.agg #[.int .i64 f, .int .i64 r], .int .i64 x, .int .i64 y] w (atV f r x y) := by
  have h1 := fun W => Lib.hid (vsize_c W f r)
  unfold atV
  cases hv : vsize f r
  · rw [hv] at h1
    replace hv := Lib.hid hv
    unfold Pure
    go_enter Tryz.func223, Tryz.ntmps223
    go_wp2_with fail
    refine ((h1 _).out).mono ?_
    rintro e V ⟨rfl, hV⟩
    go_wp2
    go_ret2
    exact ⟨rfl, below_of_alloc hV⟩
  · rw [hv] at h1
    have h2 := fun W => Lib.hid (on_c W f r x y)
    cases ho : onB f r x y
    · rw [ho] at h2
      replace hv := Lib.hid hv
      replace ho := Lib.hid ho
      unfold Pure
      go_enter Tryz.func223, Tryz.ntmps223
      go_wp2_with fail
      refine ((h1 _).out).mono ?_
      rintro e V ⟨rfl, hV⟩
      have hX := box_of hV
      have y0 := cell_of hX 0 _ rfl
      have y1 := cell_of hX 1 _ rfl
      have hB := Lib.hid (below_of_alloc hV)
      clear hX hV
      go_wp2_with fail
      refine ((h2 _).out).mono ?_
      rintro e V ⟨rfl, hV⟩
      go_wp2
      go_ret2
      exact ⟨rfl, hB.out.trans (hV.mono hB.out.size)⟩
    · rw [ho] at h2
      obtain ⟨m1, m2, m3, m4⟩ := on_mul hv ho
      obtain ⟨x1, x2, y1, y2⟩ := onB_bd ho
      obtain ⟨k1, k2⟩ := vsize_mul hv
      replace hv := Lib.hid hv
      replace ho := Lib.hid ho
      unfold Pure
      go_enter Tryz.func223, Tryz.ntmps223
      go_wp2_with fail
      refine ((h1 _).out).mono ?_
      rintro e V ⟨rfl, hV⟩
      have hX := box_of hV
      have y0 := cell_of hX 0 _ rfl
      have y1 := cell_of hX 1 _ rfl
      have hB := Lib.hid (below_of_alloc hV)
      clear hV
      go_wp2_with fail
      refine ((h2 _).out).mono ?_
      rintro e V ⟨rfl, hV⟩
      replace hX := below_blk hV hX
      clear y0 y1
      have y0 := cell_of hX 0 _ rfl
      have y1 := cell_of hX 1 _ rfl
      clear hX
      replace hB := Lib.hid (hB.out.trans (hV.mono hB.out.size))
      clear hV
      go_wp2
      go_ret2
      exact ⟨rfl, hB.out⟩
def placeV (f r a : Int) : Value := if vsq f r a then .tuple #[.int .i64 (a % f), .int .i64 (a / f), .int .i64 0] else .tuple #[.int .i64 0, .int .i64 0, .int .i64 2]
theorem place_c (w : World) (f r a : Int) : Pure 125 #[.agg #[.int .i64 f, .int .i64 r], .int .i64 a] w (placeV f r a) := by
  have h1 := fun W => Lib.hid (vsq_c W f r a)
  unfold placeV
  cases hv : vsq f r a
  · rw [hv] at h1
    replace hv := Lib.hid hv
    unfold Pure
    go_enter Tryz.func125, Tryz.ntmps125
    go_wp2_with fail
    refine ((h1 _).out).mono ?_
    rintro e V ⟨rfl, hV⟩
    go_wp2
    go_ret3
    exact ⟨rfl, below_of_alloc hV⟩
  · rw [hv] at h1
    obtain ⟨hz, a0, a1⟩ := vsq_bd hv
    obtain ⟨b1, b2, b3, b4⟩ := vsize_bd hz
    obtain ⟨k1, k2⟩ := vsize_mul hz
    have hq : (f == 0) = false := by simp; omega
    have q1 : a / f ≤ a := Int.ediv_le_self _ a0
    have q2 : 0 ≤ a / f := Int.ediv_nonneg a0 (by omega)
    replace hv := Lib.hid hv
    clear hz
    unfold Pure
    go_enter Tryz.func125, Tryz.ntmps125
    go_wp2_with fail
    refine ((h1 _).out).mono ?_
    rintro e V ⟨rfl, hV⟩
    have hX := box_of hV
    have y0 := cell_of hX 0 _ rfl
    have hB := Lib.hid (below_of_alloc hV)
    clear hX hV
    go_wp2
    go_quiet (fail)
    go_wp2
    go_ret3
    refine ⟨rfl, ?_⟩
    replace hB := hB.out
    repeat (first | (with_reducible assumption) | (with_reducible exact Below.refl _ _) | (with_reducible apply below_drewN) | (with_reducible apply Below.drew) | (with_reducible apply Below.alloc) | (with_reducible apply Below.setCell))
    all_goals first | omega | (dsimp only; omega) | (simp; done) | (simp; omega)
end Go.Proofs.YtbhienpbfidgjaaGreatDoor
