/- The examples of the chapter: known returns true. No condition. -/
import Derived.Test.YtgigehlflgcdpaaK
set_option linter.unusedVariables false
set_option linter.unusedSimpArgs false
namespace Go.Proofs.Ytgigehlflgcdpaa
-- the chapter's examples: the walk
open Go.RowKit
theorem Quiet.grown {f : FuncId} {args : Array Value} {w : World} {v : Value} (h : Quiet f args w v) : Calls Try.prog f args w fun e w' => e = .returned v ∧ w.grownBy w' none :=
  h.mono fun _ _ ⟨he, n, hw⟩ => ⟨he, hw ▸ grown_drewN (grown_refl _ _) n⟩
set_option maxHeartbeats 1000000 in
theorem known_c (w : World) : Calls Try.prog 8 #[] w fun e w' => e = .returned (.bool true) ∧ Below w.heap.size w w' := by
  go_enter Try.func8, Try.ntmps8
  go_wp2_with fail
  refine (made_c 1 psC 2 _ _ _ (PerAt.of_block (blk_new rfl _) rfl) vld_c rfl).mono ?_
  rintro e V1 ⟨b1, L1, rfl, k1, p1, hO1, hB1⟩
  have hBw := below_of_alloc hB1
  obtain ⟨lo1, hi1, hO1, hw1, hh1⟩ : ∃ lo hi, Own lo hi V1 b1 L1 (Ck.new 10000) ∧ w.heap.size ≤ lo ∧ hi = V1.heap.size := ⟨_, _, hO1, by simp, rfl⟩
  have k1 := Lib.hid k1
  have p1 := Lib.hid p1
  clear hB1
  go_wp2_with fail
  refine (made_c 2 psD 1 _ _ _ (PerAt.of_block (blk_new rfl _) rfl) vld_d rfl).mono ?_
  rintro e V2 ⟨b2, L2, rfl, k2, p2, hO2, hB2⟩
  have hV := below_of_alloc hB2
  replace hBw := hBw.trans (hV.mono hBw.size)
  replace hO1 := hO1.past hV
  obtain ⟨lo2, hi2, hO2, hw2, hh2⟩ : ∃ lo hi, Own lo hi V2 b2 L2 (Ck.new 1000) ∧ hi1 ≤ lo ∧ hi = V2.heap.size := ⟨_, _, hO2, by simp; omega, rfl⟩
  have k2 := Lib.hid k2
  have p2 := Lib.hid p2
  clear hB2 hV hh1
  go_wp2_with fail
  refine (made_c 3 psD 1 _ _ _ (PerAt.of_block (blk_new rfl _) rfl) vld_f rfl).mono ?_
  rintro e V3 ⟨b3, L3, rfl, k3, p3, hO3, hB3⟩
  have hV := below_of_alloc hB3
  replace hBw := hBw.trans (hV.mono hBw.size)
  replace hO1 := hO1.past hV
  replace hO2 := hO2.past hV
  obtain ⟨lo3, hi3, hO3, hw3⟩ : ∃ lo hi, Own lo hi V3 b3 L3 (Ck.new 1000) ∧ hi2 ≤ lo := ⟨_, _, hO3, by simp; omega⟩
  have k3 := Lib.hid k3
  have p3 := Lib.hid p3
  clear hB3 hV hh2
  have hl1 : lo1 < hi1 := by have := hO1.bnd; omega
  have hl2 : lo2 < hi2 := by have := hO2.bnd; omega
  have g1 := Lib.hid (good_c k1.out p1.out)
  have g2 := Lib.hid (good_d k2.out p2.out)
  have g3 := Lib.hid (good_f k3.out p3.out)
  have i10 : Inv L1 (Ck.new 10000) := by have h := inv_new g1.out; rw [p1.out] at h; exact h
  have i20 : Inv L2 (Ck.new 1000) := by have h := inv_new g2.out; rw [p2.out] at h; exact h
  have i30 : Inv L3 (Ck.new 1000) := by have h := inv_new g3.out; rw [p3.out] at h; exact h
  have i11 : Inv L1 kc1 := by have h := inv_start i10 0; rw [ev_c1 k1.out p1.out] at h; exact h
  have i12 : Inv L1 kc2 := by have h := inv_press g1.out i11 4000; rw [ev_c2 k1.out p1.out] at h; exact h
  have i13 : Inv L1 kc3 := by have h := inv_press g1.out i12 5000; rw [ev_c3 k1.out p1.out] at h; exact h
  have i14 : Inv L1 kc4 := by have h := inv_press g1.out i13 6000; rw [ev_c4 k1.out p1.out] at h; exact h
  have i21 : Inv L2 kd1 := by have h := inv_start i20 0; rw [ev_d1 k2.out p2.out] at h; exact h
  have i31 : Inv L3 kd1 := by have h := inv_start i30 0; rw [ev_f1 k3.out p3.out] at h; exact h
  have i32 : Inv L3 kf2 := by have h := inv_press g3.out i31 200; rw [ev_f2 k3.out p3.out] at h; exact h
  have i33 : Inv L3 kf3 := by have h := inv_press g3.out i32 700; rw [ev_f3 k3.out p3.out] at h; exact h
  go_wp2_with fail
  have hs := start_o 0 hO1 i10
  rw [ev_c1 k1.out p1.out] at hs
  refine hs.mono ?_
  clear hs
  rintro e W ⟨rfl, hN, hg⟩
  replace hBw := hBw.trans (hO1.below hg (by omega))
  replace hO2 := hO2.far hg (by have := hO1.bnd; omega)
  replace hO3 := hO3.far hg (by have := hO1.bnd; omega)
  replace hO1 := hN
  clear hg hN
  go_wp2_with fail
  have hs := press_o 4000 hO1 i11 g1.out
  rw [ev_c2 k1.out p1.out] at hs
  refine hs.mono ?_
  clear hs
  rintro e W ⟨rfl, hN, hg⟩
  replace hBw := hBw.trans (hO1.below hg (by omega))
  replace hO2 := hO2.far hg (by have := hO1.bnd; omega)
  replace hO3 := hO3.far hg (by have := hO1.bnd; omega)
  replace hO1 := hN
  clear hg hN
  go_wp2_with fail
  refine (Quiet.grown (left_t false 0 4000 7000 hO1.clk hO1.ctl i12 rfl (ev_l1 k1.out p1.out))).mono ?_
  rintro e W ⟨rfl, hg⟩
  replace hBw := hBw.trans ((below_grown hg).mono hBw.size)
  replace hO1 := hO1.none hg
  replace hO2 := hO2.none hg
  replace hO3 := hO3.none hg
  clear hg
  go_wp2_with fail
  have hs := press_o 5000 hO1 i12 g1.out
  rw [ev_c3 k1.out p1.out] at hs
  refine hs.mono ?_
  clear hs
  rintro e W ⟨rfl, hN, hg⟩
  replace hBw := hBw.trans (hO1.below hg (by omega))
  replace hO2 := hO2.far hg (by have := hO1.bnd; omega)
  replace hO3 := hO3.far hg (by have := hO1.bnd; omega)
  replace hO1 := hN
  clear hg hN
  go_wp2_with fail
  have hs := press_o 6000 hO1 i13 g1.out
  rw [ev_c4 k1.out p1.out] at hs
  refine hs.mono ?_
  clear hs
  rintro e W ⟨rfl, hN, hg⟩
  replace hBw := hBw.trans (hO1.below hg (by omega))
  replace hO2 := hO2.far hg (by have := hO1.bnd; omega)
  replace hO3 := hO3.far hg (by have := hO1.bnd; omega)
  replace hO1 := hN
  clear hg hN
  go_wp2_with fail
  refine (Quiet.grown (left_t false 0 6000 12000 hO1.clk hO1.ctl i14 rfl (ev_l2 k1.out p1.out))).mono ?_
  rintro e W ⟨rfl, hg⟩
  replace hBw := hBw.trans ((below_grown hg).mono hBw.size)
  replace hO1 := hO1.none hg
  replace hO2 := hO2.none hg
  replace hO3 := hO3.none hg
  clear hg
  go_wp2_with fail
  have hm : Quiet 24 #[.pointer (some ⟨b1, 0, none⟩), .int .i64 0] _ (.tuple #[.int .i64 2, .int .i64 1, .int .i64 0]) := moves_c false hO1.clk
  refine (Quiet.grown (hm)).mono ?_
  rintro e W ⟨rfl, hg⟩
  replace hBw := hBw.trans ((below_grown hg).mono hBw.size)
  replace hO1 := hO1.none hg
  replace hO2 := hO2.none hg
  replace hO3 := hO3.none hg
  clear hg
  go_wp2_with fail
  clear hm
  have hs := start_o 0 hO2 i20
  rw [ev_d1 k2.out p2.out] at hs
  refine hs.mono ?_
  clear hs
  rintro e W ⟨rfl, hN, hg⟩
  replace hBw := hBw.trans (hO2.below hg (by omega))
  replace hO1 := hO1.far hg (by have := hO2.bnd; omega)
  replace hO3 := hO3.far hg (by have := hO2.bnd; omega)
  replace hO2 := hN
  clear hg hN
  go_wp2_with fail
  refine (Quiet.grown (left_t false 0 300 1000 hO2.clk hO2.ctl i21 rfl (ev_l3 k2.out p2.out))).mono ?_
  rintro e W ⟨rfl, hg⟩
  replace hBw := hBw.trans ((below_grown hg).mono hBw.size)
  replace hO1 := hO1.none hg
  replace hO2 := hO2.none hg
  replace hO3 := hO3.none hg
  clear hg
  go_wp2_with fail
  refine (Quiet.grown (left_t false 0 301 999 hO2.clk hO2.ctl i21 rfl (ev_l4 k2.out p2.out))).mono ?_
  rintro e W ⟨rfl, hg⟩
  replace hBw := hBw.trans ((below_grown hg).mono hBw.size)
  replace hO1 := hO1.none hg
  replace hO2 := hO2.none hg
  replace hO3 := hO3.none hg
  clear hg
  go_wp2_with fail
  have hf := flag_c 1299 hO2.clk hO2.ctl i21
  rw [ev_g1 k2.out p2.out] at hf
  refine (Quiet.grown (hf)).mono ?_
  rintro e W ⟨rfl, hg⟩
  replace hBw := hBw.trans ((below_grown hg).mono hBw.size)
  replace hO1 := hO1.none hg
  replace hO2 := hO2.none hg
  replace hO3 := hO3.none hg
  clear hg
  go_wp2_with fail
  clear hf
  have hf := flag_c 1300 hO2.clk hO2.ctl i21
  rw [ev_g2 k2.out p2.out] at hf
  refine (Quiet.grown (hf)).mono ?_
  rintro e W ⟨rfl, hg⟩
  replace hBw := hBw.trans ((below_grown hg).mono hBw.size)
  replace hO1 := hO1.none hg
  replace hO2 := hO2.none hg
  replace hO3 := hO3.none hg
  clear hg
  go_wp2_with fail
  clear hf
  have hs := press_o 1300 hO2 i21 g2.out
  rw [ev_d2 k2.out p2.out] at hs
  refine hs.mono ?_
  clear hs
  rintro e W ⟨rfl, hN, hg⟩
  replace hBw := hBw.trans (hO2.below hg (by omega))
  replace hO1 := hO1.far hg (by have := hO2.bnd; omega)
  replace hO3 := hO3.far hg (by have := hO2.bnd; omega)
  replace hO2 := hN
  clear hg hN
  go_wp2_with fail
  have hs := start_o 0 hO3 i30
  rw [ev_f1 k3.out p3.out] at hs
  refine hs.mono ?_
  clear hs
  rintro e W ⟨rfl, hN, hg⟩
  replace hBw := hBw.trans (hO3.below hg (by omega))
  replace hO1 := hO1.far hg (by have := hO3.bnd; omega)
  replace hO2 := hO2.far hg (by have := hO3.bnd; omega)
  replace hO3 := hN
  clear hg hN
  go_wp2_with fail
  have hs := press_o 200 hO3 i31 g3.out
  rw [ev_f2 k3.out p3.out] at hs
  refine hs.mono ?_
  clear hs
  rintro e W ⟨rfl, hN, hg⟩
  replace hBw := hBw.trans (hO3.below hg (by omega))
  replace hO1 := hO1.far hg (by have := hO3.bnd; omega)
  replace hO2 := hO2.far hg (by have := hO3.bnd; omega)
  replace hO3 := hN
  clear hg hN
  go_wp2_with fail
  refine (Quiet.grown (left_t false 0 200 1000 hO3.clk hO3.ctl i32 rfl (ev_l5 k3.out p3.out))).mono ?_
  rintro e W ⟨rfl, hg⟩
  replace hBw := hBw.trans ((below_grown hg).mono hBw.size)
  replace hO1 := hO1.none hg
  replace hO2 := hO2.none hg
  replace hO3 := hO3.none hg
  clear hg
  go_wp2_with fail
  have hs := press_o 700 hO3 i32 g3.out
  rw [ev_f3 k3.out p3.out] at hs
  refine hs.mono ?_
  clear hs
  rintro e W ⟨rfl, hN, hg⟩
  replace hBw := hBw.trans (hO3.below hg (by omega))
  replace hO1 := hO1.far hg (by have := hO3.bnd; omega)
  replace hO2 := hO2.far hg (by have := hO3.bnd; omega)
  replace hO3 := hN
  clear hg hN
  go_wp2_with fail
  refine (left_t true 1 700 800 hO3.clk hO3.ctl i33 rfl (ev_l6 k3.out p3.out)).mono ?_
  rintro e W ⟨rfl, m, rfl⟩
  go_wp2
  go_ret
  exact ⟨rfl, below_drewN hBw m⟩
end Go.Proofs.Ytgigehlflgcdpaa
