/- Contracts of the package stipulation and its reference: Plies, Giver, Next, Usual. No condition. -/
import Derived.Test.YtbhienpbfidgjaaGreatDoorS1
set_option linter.unusedVariables false
set_option linter.unusedSimpArgs false
namespace Go.Proofs.YtbhienpbfidgjaaGreatDoor
open Go.RowKit
theorem Stip.of_valid {s : Stip} (h : s.valid = true) : 1 ≤ s.play ∧ s.play ≤ 4 ∧ (s.goal = 1 ∨ s.goal = 2) ∧ 1 ≤ s.moves ∧ s.moves ≤ 20 ∧ (s.play = 2 ∨ s.half = false) := by
  simpa [Stip.valid, and_assoc] using h
theorem Stip.plies_bd {s : Stip} (h : s.valid = true) : 1 ≤ s.plies ∧ s.plies ≤ 41 := by
  obtain ⟨_, _, _, h1, h2, _⟩ := Stip.of_valid h
  unfold Stip.plies
  split
  · omega
  · split <;> omega
def Stip.pliesV (s : Stip) : Value := if s.valid then .tuple #[.int .i64 s.plies, .int .i64 0] else .tuple #[.int .i64 0, .int .i64 2]
theorem spliesOf_c (w : World) (s : Stip) : Pure 43 #[s.v] w s.pliesV := by
  have hval := fun W => Lib.hid (svalid_c W s)
  cases hv : s.valid
  · rw [hv] at hval
    unfold Stip.pliesV
    rw [hv]
    replace hv := Lib.hid hv
    obtain ⟨p, g, m, h⟩ := s
    dsimp only [Stip.v] at *
    unfold Pure
    go_enter Tryz.func43, Tryz.ntmps43
    go_wp2_with fail
    refine ((hval _).out).mono ?_
    rintro e V ⟨rfl, hV⟩
    go_wp2
    go_ret2
    exact ⟨rfl, below_of_alloc hV⟩
  · rw [hv] at hval
    unfold Stip.pliesV
    rw [hv]
    have hpl := fun W => Lib.hid (splies_c W s (Stip.of_valid hv).2.2.2.1 (Stip.of_valid hv).2.2.2.2.1 )
    obtain ⟨n, hn⟩ : ∃ n, s.plies = n := ⟨_, rfl⟩
    rw [hn] at hpl ⊢
    replace hn := Lib.hid hn
    replace hv := Lib.hid hv
    obtain ⟨p, g, m, h⟩ := s
    dsimp only [Stip.v] at *
    unfold Pure
    go_enter Tryz.func43, Tryz.ntmps43
    go_wp2_with fail
    refine ((hval _).out).mono ?_
    rintro e V ⟨rfl, hV⟩
    have hX := box_of hV
    have y0 := cell_of hX 0 _ rfl
    have y1 := cell_of hX 1 _ rfl
    have y2 := cell_of hX 2 _ rfl
    have y3 := cell_of hX 3 _ rfl
    have hB := Lib.hid (below_of_alloc hV)
    clear hX hV
    go_wp2_with fail
    refine ((hpl _).out).mono ?_
    rintro e V ⟨rfl, hV⟩
    go_wp2
    go_ret2
    exact ⟨rfl, hB.out.trans (hV.mono hB.out.size)⟩
theorem rpliesOf_c (w : World) (s : Stip) : Pure 44 #[s.v] w s.pliesV := by
  have hval := fun W => Lib.hid (rvalid_c W s)
  cases hv : s.valid
  · rw [hv] at hval
    unfold Stip.pliesV
    rw [hv]
    replace hv := Lib.hid hv
    obtain ⟨p, g, m, h⟩ := s
    dsimp only [Stip.v] at *
    unfold Pure
    go_enter Tryz.func44, Tryz.ntmps44
    go_wp2_with fail
    refine ((hval _).out).mono ?_
    rintro e V ⟨rfl, hV⟩
    go_wp2
    go_ret2
    exact ⟨rfl, below_of_alloc hV⟩
  · rw [hv] at hval
    unfold Stip.pliesV
    rw [hv]
    have hpl := fun W => Lib.hid (rplies_c W s (Stip.of_valid hv).2.2.2.1 (Stip.of_valid hv).2.2.2.2.1 (Stip.of_valid hv).2.2.2.2.2)
    obtain ⟨n, hn⟩ : ∃ n, s.plies = n := ⟨_, rfl⟩
    rw [hn] at hpl ⊢
    replace hn := Lib.hid hn
    replace hv := Lib.hid hv
    obtain ⟨p, g, m, h⟩ := s
    dsimp only [Stip.v] at *
    unfold Pure
    go_enter Tryz.func44, Tryz.ntmps44
    go_wp2_with fail
    refine ((hval _).out).mono ?_
    rintro e V ⟨rfl, hV⟩
    have hX := box_of hV
    have y0 := cell_of hX 0 _ rfl
    have y1 := cell_of hX 1 _ rfl
    have y2 := cell_of hX 2 _ rfl
    have y3 := cell_of hX 3 _ rfl
    have hB := Lib.hid (below_of_alloc hV)
    clear hX hV
    go_wp2_with fail
    refine ((hpl _).out).mono ?_
    rintro e V ⟨rfl, hV⟩
    go_wp2
    go_ret2
    exact ⟨rfl, hB.out.trans (hV.mono hB.out.size)⟩
def Stip.giver (s : Stip) (black : Bool) : Bool := black == (s.plies % 2 == 1)
def Stip.giverV (s : Stip) (black : Bool) : Value := if s.valid then .tuple #[.bool (s.giver black), .int .i64 0] else .tuple #[.bool false, .int .i64 2]
theorem sgiver_c (w : World) (s : Stip) (black : Bool) : Pure 45 #[s.v, .bool black] w (s.giverV black) := by
  have hval := fun W => Lib.hid (svalid_c W s)
  cases hv : s.valid
  · rw [hv] at hval
    unfold Stip.giverV
    rw [hv]
    replace hv := Lib.hid hv
    obtain ⟨p, g, m, h⟩ := s
    dsimp only [Stip.v] at *
    unfold Pure
    go_enter Tryz.func45, Tryz.ntmps45
    go_wp2_with fail
    refine ((hval _).out).mono ?_
    rintro e V ⟨rfl, hV⟩
    go_wp2
    go_ret2
    exact ⟨rfl, below_of_alloc hV⟩
  · rw [hv] at hval
    unfold Stip.giverV
    rw [hv]
    have hpl := fun W => Lib.hid (splies_c W s (Stip.of_valid hv).2.2.2.1 (Stip.of_valid hv).2.2.2.2.1)
    obtain ⟨b1, b2⟩ := Stip.plies_bd hv
    unfold Stip.giver
    obtain ⟨n, hn⟩ : ∃ n, s.plies = n := ⟨_, rfl⟩
    rw [hn] at hpl b1 b2 ⊢
    replace hn := Lib.hid hn
    replace hv := Lib.hid hv
    obtain ⟨p, g, m, h⟩ := s
    dsimp only [Stip.v] at *
    unfold Pure
    go_enter Tryz.func45, Tryz.ntmps45
    go_wp2_with fail
    refine ((hval _).out).mono ?_
    rintro e V ⟨rfl, hV⟩
    have hX := box_of hV
    have y0 := cell_of hX 0 _ rfl
    have y1 := cell_of hX 1 _ rfl
    have y2 := cell_of hX 2 _ rfl
    have y3 := cell_of hX 3 _ rfl
    have hB := Lib.hid (below_of_alloc hV)
    clear hX hV
    go_wp2_with fail
    refine ((hpl _).out).mono ?_
    rintro e V ⟨rfl, hV⟩
    go_wp2
    go_ret2
    exact ⟨rfl, hB.out.trans (hV.mono hB.out.size)⟩
/-- whoever gives, side by side -/
def alt (black : Bool) : Nat → Bool
  | 0 => black
  | n + 1 => !alt black n
theorem alt_snoc (black : Bool) (n : Nat) : alt (!black) n = !alt black n := by
  induction n with
  | zero => rfl
  | succ n ih => simp [alt, ih]
theorem alt_eq (black : Bool) (n : Nat) : alt black n = (black == (n % 2 == 0)) := by
  induction n with
  | zero => simp [alt]
  | succ n ih =>
    rw [alt, ih]
    rcases Nat.mod_two_eq_zero_or_one n with h | h
    · have : (n + 1) % 2 = 1 := by omega
      rw [h, this]; cases black <;> rfl
    · have : (n + 1) % 2 = 0 := by omega
      rw [h, this]; cases black <;> rfl
set_option maxHeartbeats 400000 in
theorem rgiver_c (w : World) (s : Stip) (black : Bool) (hv : s.valid = true) : Pure 100 #[s.v, .bool black] w (.bool (s.giver black)) := by
  have hpl := fun W => Lib.hid (rplies_c W s (Stip.of_valid hv).2.2.2.1 (Stip.of_valid hv).2.2.2.2.1 (Stip.of_valid hv).2.2.2.2.2)
  obtain ⟨b1, b2⟩ := Stip.plies_bd hv
  unfold Stip.giver
  obtain ⟨n, hn⟩ : ∃ n : Nat, s.plies = (n : Int) + 1 := ⟨(s.plies - 1).toNat, by omega⟩
  have hfin : Hid (alt black n = (black == ((s.plies) % 2 == 1))) := by
    refine Lib.hid ?_
    rw [alt_eq, hn]
    congr 1
    rw [Bool.eq_iff_iff]
    simp only [beq_iff_eq]
    omega
  rw [hn] at hpl b1 b2 hfin ⊢
  replace hn := Lib.hid hn
  replace hv := Lib.hid hv
  obtain ⟨p, g, m, h⟩ := s
  dsimp only [Stip.v] at *
  unfold Pure
  go_enter Tryz.func100, Tryz.ntmps100
  go_wp2_with fail
  obtain ⟨B, hB⟩ : ∃ B, w.heap.size = B := ⟨_, rfl⟩
  have hX0 : (w.alloc (.cells #[.int .i64 p, .int .i64 g, .int .i64 m, .bool h] 54)).heap[B]? = some (.cells #[.int .i64 p, .int .i64 g, .int .i64 m, .bool h] 54 (0, 0)) := blk_new hB.symm _
  have hB0 : Below w.heap.size w (w.alloc (.cells #[.int .i64 p, .int .i64 g, .int .i64 m, .bool h] 54)) := (Below.refl _ _).alloc (Nat.le_refl _) _
  rw [hB]
  replace hB := Lib.hid hB
  have hX0 := Lib.hid hX0
  have hB0 := Lib.hid hB0
  go_loopw [1, 5] (fun c i wr => ∃ k : Nat, k ≤ n ∧ c = .bool (alt black k) ∧ i = .int .i64 ((k : Int) + 1) ∧ wr.heap[B]? = some (.cells #[.int .i64 p, .int .i64 g, .int .i64 m, .bool h] 54 (0, 0)) ∧ Below w.heap.size w wr) (fun _ i _ => n + 1 - (intOf i).toNat)
  case atStart => exact ⟨0, by omega, rfl, rfl, hX0.out, hB0.out⟩
  case round =>
    obtain ⟨k, hk, rfl, rfl, hX, hBw⟩ := hrel
    have y0 := cell_of hX 0 _ rfl
    have y1 := cell_of hX 1 _ rfl
    have y2 := cell_of hX 2 _ rfl
    have y3 := cell_of hX 3 _ rfl
    replace hX := Lib.hid hX
    go_wp2_with fail
    refine ((hpl _).out).mono ?_
    rintro e V ⟨rfl, hV⟩
    have hB2 := Lib.hid (hBw.trans (hV.mono hBw.size))
    have hX2 := Lib.hid (below_blk hV hX.out)
    clear y0 y1 y2 y3 hV
    by_cases hkn : k = n
    · subst hkn
      go_wp2
      go_ret
      exact ⟨ret_bool hfin.out, hB2.out⟩
    · have hlt : k < n := by omega
      go_wp2
      go_roundw
      case rel => exact ⟨k + 1, by omega, by simp [alt], by simp, hX2.out, hB2.out⟩
      case measure => simp [intOf]; omega
end Go.Proofs.YtbhienpbfidgjaaGreatDoor
