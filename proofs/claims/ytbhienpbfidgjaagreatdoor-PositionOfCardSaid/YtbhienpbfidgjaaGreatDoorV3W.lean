/- Positions: the square behind a pawn, White. Conditions: the pieces lie in memory. -/
import Derived.Test.YtbhienpbfidgjaaGreatDoorV3
set_option linter.unusedVariables false
set_option linter.unusedSimpArgs false
namespace Go.Proofs.YtbhienpbfidgjaaGreatDoor
open Go.RowKit
set_option maxRecDepth 100000 in
set_option maxHeartbeats 16000000 in
theorem passW (w : World) (p : Pos) (po : Option Addr) (cap : Nat) (hP : PosAt w p po cap) (hv : bvalid p.f p.r p.ps = true) (hpn : (p.passant == -1) = false) (hbl : p.black = false) :
    Pure 61 #[.agg (p.cells po cap)] w (.bool (p.passup (-p.f) (p.r - 3))) := by
  obtain ⟨hz, hl1, hn1⟩ := bvalid_len hv
  have hne : p.ps ≠ [] := by
    intro h
    have := vsize_mul hz
    rw [h] at hl1
    simp at hl1
    omega
  obtain ⟨b, off, rfl, hPc⟩ := hP.slc.resolve_left hne
  obtain ⟨hcap, hcap2⟩ := (⟨hP.cap1, hP.cap2⟩ : _ ∧ _)
  obtain ⟨zb1, zb2, zb3, zb4⟩ := vsize_bd hz
  have hrk := fun h => Lib.hid (pass_rank (f := p.f) (r := p.r) (a := p.passant) h)
  have hvqc := fun W => Lib.hid (vsq_c W p.f p.r p.passant)
  obtain ⟨f, r, ps, black, castle, passant, half, full⟩ := p
  dsimp only [Pos.cells] at *
  subst hbl
  clear hv hne hP
  replace hz := Lib.hid hz
  replace hPc := Lib.hid hPc
  obtain ⟨n, hln⟩ : ∃ n, ps.length = n := ⟨_, rfl⟩
  rw [hln] at hcap hn1 hl1 ⊢
  replace hln := Lib.hid hln
  replace hl1 := Lib.hid hl1
  obtain ⟨W, hW⟩ : ∃ W, w.alloc (.cells #[.int .i64 f, .int .i64 r, .slice (some ⟨b, off, none⟩) n cap, .bool false, .int .u8 castle, .int .i64 passant, .int .i64 half, .int .i64 full] 26) = W := ⟨_, rfl⟩
  have hX : W.heap[w.heap.size]? = some (.cells #[.int .i64 f, .int .i64 r, .slice (some ⟨b, off, none⟩) n cap, .bool false, .int .u8 castle, .int .i64 passant, .int .i64 half, .int .i64 full] 26 (0, 0)) := by rw [← hW]; exact blk_new rfl _
  have hB : Below w.heap.size w W := by rw [← hW]; exact (Below.refl _ _).alloc (Nat.le_refl _) _
  have hBs := hB.size
  have y0 := fun x : Ext W.heap.size W => cell_of (below_blk x.2 hX) 0 _ rfl
  have y1 := fun x : Ext W.heap.size W => cell_of (below_blk x.2 hX) 1 _ rfl
  have y2 := fun x : Ext W.heap.size W => cell_of (below_blk x.2 hX) 2 _ rfl
  have y3 := fun x : Ext W.heap.size W => cell_of (below_blk x.2 hX) 3 _ rfl
  have y5 := fun x : Ext W.heap.size W => cell_of (below_blk x.2 hX) 5 _ rfl
  have y6 := fun x : Ext W.heap.size W => cell_of (below_blk x.2 hX) 6 _ rfl
  replace hX := Lib.hid hX
  replace hB := Lib.hid hB
  replace hW := Lib.hid hW
  have hn1' : IntKind.i64.wrap (-f) = -f := IntWalk.i64_in _ (by omega)
  have hn3' : IntKind.i64.wrap (r - 3) = r - 3 := IntWalk.i64_in _ (by omega)
  have hpo := fun W => Lib.hid (pofp_c W true)
  simp only [if_true] at hpo
  by_cases h6 : ¬ 6 ≤ r
  · have h6' : decide (6 ≤ r) = false := by simp; omega
    have hfin : Hid ((Pos.mk f r ps false castle passant half full).passup (-f) (r - 3) = false) := Lib.hid (by unfold Pos.passup; dsimp only; rw [h6']; simp)
    rw [hfin.out]
    clear hrk
    have hvq := hvqc
    replace h6 := Lib.hid h6
    unfold Pure
    go_enter Tryz.func61, Tryz.ntmps61
    go_wp2_with fail
    rw [hW.out]
    refine ext_region (by kernel_rfl) (by kernel_rfl) ?_
    repeat ((refine wpQuiet_step (fun K hK => ?_)); go_simp; (refine ⟨_, fun _ => rfl, hK _ ?_⟩); clear hK K)
    refine wpQuiet_nil ?_
    rintro V5 ⟨x5, rfl⟩
    go_wp2_with fail
    refine ext_again x5 (by kernel_rfl) (by kernel_rfl) ?_
    repeat (first | (go_big_quiet_step ((first | (go_at_call 109; exact Pure.ext (Nat.le_refl _) (Hid.out (hvq _))) | (go_at_call 108; exact Pure.ext (Nat.le_refl _) (Same.pure (Hid.out (hpo _))))))) | ((refine wpQuiet_step (fun K hK => ?_)); go_simp; (refine ⟨_, fun _ => rfl, hK _ ?_⟩); clear hK K))
    refine wpQuiet_nil ?_
    rintro V3 ⟨x, hx⟩
    have hB3 : Below W.heap.size W V3 := hx ▸ x.2
    go_wp2
    go_ret
    exact ⟨by simp, hB.out.trans (hB3.mono hBs)⟩
  have h6 : 6 ≤ r := by omega
  have h6' : decide (6 ≤ r) = true := by simpa using h6
  cases h0 : (half == 0)
  · have hfin : Hid ((Pos.mk f r ps false castle passant half full).passup (-f) (r - 3) = false) := Lib.hid (by unfold Pos.passup; dsimp only; rw [h0]; simp)
    rw [hfin.out]
    clear hrk
    have hvq := hvqc
    unfold Pure
    go_enter Tryz.func61, Tryz.ntmps61
    go_wp2_with fail
    rw [hW.out]
    refine ext_region (by kernel_rfl) (by kernel_rfl) ?_
    repeat ((refine wpQuiet_step (fun K hK => ?_)); go_simp; (refine ⟨_, fun _ => rfl, hK _ ?_⟩); clear hK K)
    refine wpQuiet_nil ?_
    rintro V5 ⟨x5, rfl⟩
    go_wp2_with fail
    refine ext_again x5 (by kernel_rfl) (by kernel_rfl) ?_
    repeat (first | (go_big_quiet_step ((first | (go_at_call 109; exact Pure.ext (Nat.le_refl _) (Hid.out (hvq _))) | (go_at_call 108; exact Pure.ext (Nat.le_refl _) (Same.pure (Hid.out (hpo _))))))) | ((refine wpQuiet_step (fun K hK => ?_)); go_simp; (refine ⟨_, fun _ => rfl, hK _ ?_⟩); clear hK K))
    refine wpQuiet_nil ?_
    rintro V3 ⟨x, hx⟩
    have hB3 : Below W.heap.size W V3 := hx ▸ x.2
    go_wp2
    go_ret
    exact ⟨by simp, hB.out.trans (hB3.mono hBs)⟩
  cases hq : vsq f r passant
  · have hvq := hvqc
    rw [hq] at hvq
    have hfin : Hid ((Pos.mk f r ps false castle passant half full).passup (-f) (r - 3) = false) := Lib.hid (by unfold Pos.passup; dsimp only; rw [hq]; simp)
    rw [hfin.out]
    clear hrk hvqc
    replace hq := Lib.hid hq
    unfold Pure
    go_enter Tryz.func61, Tryz.ntmps61
    go_wp2_with fail
    rw [hW.out]
    refine ext_region (by kernel_rfl) (by kernel_rfl) ?_
    repeat ((refine wpQuiet_step (fun K hK => ?_)); go_simp; (refine ⟨_, fun _ => rfl, hK _ ?_⟩); clear hK K)
    refine wpQuiet_nil ?_
    rintro V5 ⟨x5, rfl⟩
    go_wp2_with fail
    refine ext_again x5 (by kernel_rfl) (by kernel_rfl) ?_
    repeat (first | (go_big_quiet_step ((first | (go_at_call 109; exact Pure.ext (Nat.le_refl _) (Hid.out (hvq _))) | (go_at_call 108; exact Pure.ext (Nat.le_refl _) (Same.pure (Hid.out (hpo _))))))) | ((refine wpQuiet_step (fun K hK => ?_)); go_simp; (refine ⟨_, fun _ => rfl, hK _ ?_⟩); clear hK K))
    refine wpQuiet_nil ?_
    rintro V3 ⟨x, hx⟩
    have hB3 : Below W.heap.size W V3 := hx ▸ x.2
    go_wp2
    go_ret
    exact ⟨by simp, hB.out.trans (hB3.mono hBs)⟩
  obtain ⟨q1, q2, q3, q4, q5⟩ := (hrk hq).out
  have hvq := hvqc
  rw [hq] at hvq
  clear hrk hvqc
  obtain ⟨hz', a0, a1⟩ := vsq_bd hq
  obtain ⟨k1, k2⟩ := vsize_mul hz'
  have hf0 : (f == 0) = false := by simp; omega
  have hf00 : (f = 0) = False := by simp; omega
  have hwr : IntKind.i64.wrap (passant.tdiv f) = passant / f := IntWalk.i64_quo passant f ⟨a0, by omega, by omega⟩
  have q6 : passant / f ≤ passant := Int.ediv_le_self _ a0
  replace hq := Lib.hid hq
  replace hz' := Lib.hid hz'
  replace q3 := Lib.hid q3
  cases hr2 : (passant / f == r - 3)
  · have hfin : Hid ((Pos.mk f r ps false castle passant half full).passup (-f) (r - 3) = false) := Lib.hid (by unfold Pos.passup; dsimp only; rw [hr2]; simp)
    rw [hfin.out]
    unfold Pure
    go_enter Tryz.func61, Tryz.ntmps61
    go_wp2_with fail
    rw [hW.out]
    refine ext_region (by kernel_rfl) (by kernel_rfl) ?_
    repeat ((refine wpQuiet_step (fun K hK => ?_)); go_simp; (refine ⟨_, fun _ => rfl, hK _ ?_⟩); clear hK K)
    refine wpQuiet_nil ?_
    rintro V5 ⟨x5, rfl⟩
    go_wp2_with fail
    refine ext_again x5 (by kernel_rfl) (by kernel_rfl) ?_
    repeat (first | (go_big_quiet_step ((first | (go_at_call 109; exact Pure.ext (Nat.le_refl _) (Hid.out (hvq _))) | (go_at_call 108; exact Pure.ext (Nat.le_refl _) (Same.pure (Hid.out (hpo _))))))) | ((refine wpQuiet_step (fun K hK => ?_)); go_simp; (refine ⟨_, fun _ => rfl, hK _ ?_⟩); clear hK K))
    refine wpQuiet_nil ?_
    rintro V3 ⟨x, hx⟩
    have hB3 : Below W.heap.size W V3 := hx ▸ x.2
    go_wp2
    go_ret
    exact ⟨by simp, hB.out.trans (hB3.mono hBs)⟩
  have hr2' : passant / f = r - 3 := by simpa using hr2
  have a1 : f * (r - 3) = f * r - 3 * f := by rw [Int.mul_sub]; omega
  have a2 : f * r - 3 * f ≤ passant := by have := q3.out; rw [hr2', a1] at this; omega
  have a3 : passant < f * r - 2 * f := by have := q3.out; rw [hr2', a1] at this; omega
  have a4 : f * 6 ≤ f * r := Int.mul_le_mul_of_nonneg_left h6 (by omega)
  obtain ⟨m, rfl⟩ : ∃ m : Nat, passant = (m : Int) := ⟨passant.toNat, by omega⟩
  obtain ⟨F, rfl⟩ : ∃ F : Nat, f = (F : Int) := ⟨f.toNat, by omega⟩
  have hnn : (n : Int) = F * r := hl1.out
  have m0 : m < n := by omega
  have m1 : m - F < n := by omega
  have m2 : m + F < n := by omega
  have m3 : F ≤ m := by omega
  obtain ⟨v1, hv1⟩ : ∃ v1, ps[m]? = some v1 := ⟨_, List.getElem?_eq_getElem (by rw [hln.out]; exact m0)⟩
  obtain ⟨v2, hv2⟩ : ∃ v2, ps[m - F]? = some v2 := ⟨_, List.getElem?_eq_getElem (by rw [hln.out]; exact m1)⟩
  obtain ⟨v3, hv3⟩ : ∃ v3, ps[m + F]? = some v3 := ⟨_, List.getElem?_eq_getElem (by rw [hln.out]; exact m2)⟩
  have x1 := fun x : Ext W.heap.size W => below_at (hB.out.trans (x.2.mono hBs)) (hPc.out m v1 hv1)
  have x2 := fun x : Ext W.heap.size W => below_at (hB.out.trans (x.2.mono hBs)) (hPc.out (m - F) v2 hv2)
  have x3 := fun x : Ext W.heap.size W => below_at (hB.out.trans (x.2.mono hBs)) (hPc.out (m + F) v3 hv3)
  have hfin : Hid ((Pos.mk F r ps false castle m half full).passup (-(F : Int)) (r - 3) = (v1 == 0 && v3 == 0 && v2 == -1)) := Lib.hid (by
    unfold Pos.passup
    dsimp only
    rw [h6', h0, hq.out, hr2, show ((m : Int) - -(F : Int)).toNat = m + F by omega, show ((m : Int) + -(F : Int)).toNat = m - F by omega, Int.toNat_natCast]
    simp only [List.getD_eq_getElem?_getD, hv1, hv2, hv3, Option.getD_some, Bool.true_and, if_true, Bool.false_eq_true, if_false])
  rw [hfin.out]
  have i1 : (0 : Int) ≤ (m : Int) - F := by omega
  have i2 : (m : Int) - F < n := by omega
  have i3 : (m : Int) + F < n := by omega
  have i4 : (m : Int) < n := by omega
  have w1 : IntKind.i64.wrap ((m : Int) - F) = (m : Int) - F := IntWalk.i64_in _ (by omega)
  have w2 : IntKind.i64.wrap ((m : Int) + F) = (m : Int) + F := IntWalk.i64_in _ (by omega)
  have w7 : IntKind.i64.wrap ((m : Int) + -(F : Int)) = (m : Int) - F := by rw [← Int.sub_eq_add_neg]; exact w1
  have w3 : ((m : Int) - F).toNat = m - F := by omega
  have w4 : ((m : Int) + F).toNat = m + F := by omega
  have w5 : (0 : Int) ≤ (m : Int) + F := by omega
  have w6 : (0 : Int) ≤ (m : Int) := by omega
  have g00 : (F = 0) = False := by simp; omega
  have gwr : IntKind.i64.wrap ((m : Int) / F) = (m : Int) / F := IntWalk.i64_in _ (by omega)
  replace hv1 := Lib.hid hv1
  replace hv2 := Lib.hid hv2
  replace hv3 := Lib.hid hv3
  replace hnn := Lib.hid hnn
  replace hr2' := Lib.hid hr2'
  cases e1 : (v1 == 0)
  · unfold Pure
    go_enter Tryz.func61, Tryz.ntmps61
    go_wp2_with fail
    rw [hW.out]
    refine ext_region (by kernel_rfl) (by kernel_rfl) ?_
    repeat ((refine wpQuiet_step (fun K hK => ?_)); go_simp; (refine ⟨_, fun _ => rfl, hK _ ?_⟩); clear hK K)
    refine wpQuiet_nil ?_
    rintro V5 ⟨x5, rfl⟩
    go_wp2_with fail
    refine ext_again x5 (by kernel_rfl) (by kernel_rfl) ?_
    repeat (first | (go_big_quiet_step ((first | (go_at_call 109; exact Pure.ext (Nat.le_refl _) (Hid.out (hvq _))) | (go_at_call 108; exact Pure.ext (Nat.le_refl _) (Same.pure (Hid.out (hpo _))))))) | ((refine wpQuiet_step (fun K hK => ?_)); go_simp; (refine ⟨_, fun _ => rfl, hK _ ?_⟩); clear hK K))
    refine wpQuiet_nil ?_
    rintro V3 ⟨x, hx⟩
    have hB3 : Below W.heap.size W V3 := hx ▸ x.2
    go_wp2
    go_ret
    exact ⟨by simp, hB.out.trans (hB3.mono hBs)⟩
  cases e2 : (v3 == 0)
  · unfold Pure
    go_enter Tryz.func61, Tryz.ntmps61
    go_wp2_with fail
    rw [hW.out]
    refine ext_region (by kernel_rfl) (by kernel_rfl) ?_
    repeat ((refine wpQuiet_step (fun K hK => ?_)); go_simp; (refine ⟨_, fun _ => rfl, hK _ ?_⟩); clear hK K)
    refine wpQuiet_nil ?_
    rintro V5 ⟨x5, rfl⟩
    go_wp2_with fail
    refine ext_again x5 (by kernel_rfl) (by kernel_rfl) ?_
    repeat (first | (go_big_quiet_step ((first | (go_at_call 109; exact Pure.ext (Nat.le_refl _) (Hid.out (hvq _))) | (go_at_call 108; exact Pure.ext (Nat.le_refl _) (Same.pure (Hid.out (hpo _))))))) | ((refine wpQuiet_step (fun K hK => ?_)); go_simp; (refine ⟨_, fun _ => rfl, hK _ ?_⟩); clear hK K))
    refine wpQuiet_nil ?_
    rintro V3 ⟨x, hx⟩
    have hB3 : Below W.heap.size W V3 := hx ▸ x.2
    go_wp2
    go_ret
    exact ⟨by simp, hB.out.trans (hB3.mono hBs)⟩
  cases e3 : (v2 == -1)
  · unfold Pure
    go_enter Tryz.func61, Tryz.ntmps61
    go_wp2_with fail
    rw [hW.out]
    refine ext_region (by kernel_rfl) (by kernel_rfl) ?_
    repeat ((refine wpQuiet_step (fun K hK => ?_)); go_simp; (refine ⟨_, fun _ => rfl, hK _ ?_⟩); clear hK K)
    refine wpQuiet_nil ?_
    rintro V5 ⟨x5, rfl⟩
    go_wp2_with fail
    refine ext_again x5 (by kernel_rfl) (by kernel_rfl) ?_
    repeat (first | (go_big_quiet_step ((first | (go_at_call 109; exact Pure.ext (Nat.le_refl _) (Hid.out (hvq _))) | (go_at_call 108; exact Pure.ext (Nat.le_refl _) (Same.pure (Hid.out (hpo _))))))) | ((refine wpQuiet_step (fun K hK => ?_)); go_simp; (refine ⟨_, fun _ => rfl, hK _ ?_⟩); clear hK K))
    refine wpQuiet_nil ?_
    rintro V3 ⟨x, hx⟩
    have hB3 : Below W.heap.size W V3 := hx ▸ x.2
    go_wp2
    go_ret
    exact ⟨by simp, hB.out.trans (hB3.mono hBs)⟩
  · unfold Pure
    go_enter Tryz.func61, Tryz.ntmps61
    go_wp2_with fail
    rw [hW.out]
    refine ext_region (by kernel_rfl) (by kernel_rfl) ?_
    repeat ((refine wpQuiet_step (fun K hK => ?_)); go_simp; (refine ⟨_, fun _ => rfl, hK _ ?_⟩); clear hK K)
    refine wpQuiet_nil ?_
    rintro V5 ⟨x5, rfl⟩
    go_wp2_with fail
    refine ext_again x5 (by kernel_rfl) (by kernel_rfl) ?_
    repeat (first | (go_big_quiet_step ((first | (go_at_call 109; exact Pure.ext (Nat.le_refl _) (Hid.out (hvq _))) | (go_at_call 108; exact Pure.ext (Nat.le_refl _) (Same.pure (Hid.out (hpo _))))))) | ((refine wpQuiet_step (fun K hK => ?_)); go_simp; (refine ⟨_, fun _ => rfl, hK _ ?_⟩); clear hK K))
    refine wpQuiet_nil ?_
    rintro V3 ⟨x, hx⟩
    have hB3 : Below W.heap.size W V3 := hx ▸ x.2
    go_wp2
    go_ret
    exact ⟨by simp, hB.out.trans (hB3.mono hBs)⟩
end Go.Proofs.YtbhienpbfidgjaaGreatDoor
