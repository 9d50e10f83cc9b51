/- Positions: the square behind a pawn. Conditions: the pieces lie in memory. -/
import Derived.Test.YtbhienpbfidgjaaGreatDoorV1
import Derived.IntWalk
set_option linter.unusedVariables false
set_option linter.unusedSimpArgs false
namespace Go.Proofs.YtbhienpbfidgjaaGreatDoor
open Go.RowKit
def Pos.passup (p : Pos) (up rank : Int) : Bool := decide (6 ≤ p.r) && p.half == 0 && vsq p.f p.r p.passant && p.passant / p.f == rank && p.ps.getD p.passant.toNat 0 == 0 && p.ps.getD (p.passant - up).toNat 0 == 0 && p.ps.getD (p.passant + up).toNat 0 == (if p.black then 1 else -1)
def Pos.passes (p : Pos) : Bool := p.passant == -1 || (if p.black then p.passup p.f 2 else p.passup (-p.f) (p.r - 3))
theorem pofp_c (w : World) (black : Bool) : Same 108 #[.int .i8 1, .bool black] w (.int .i8 (if black then -1 else 1)) := by
  unfold Same
  cases black
  · go_enter Tryz.func108, Tryz.ntmps108
    go_wp2
    go_ret
    exact ⟨by simp, rfl⟩
  · go_enter Tryz.func108, Tryz.ntmps108
    go_wp2
    go_ret
    exact ⟨by simp, rfl⟩
theorem ext_again {id B : Nat} {Q : Exit → Act → World → Prop} {a : Act} {w : World} {l : List Oper} (x : Ext B w) (hm : Tryz.prog.follows .mixedOrders = true) (hB : Region.lexB .any l.toArray = true)
    (h : wpQuiet Tryz.prog l.toArray (fun w' => ∃ y : Ext B w, w' = y.1) (fun a' => ∀ w', (∃ y : Ext B w, w' = y.1) → Q .normal a' w') l a) : (Code.region id l.toArray true).wp Tryz.prog Q a x.1 :=
  wp_region_quiet (C := fun w' => ∃ y : Ext B w, w' = y.1) hm hB ⟨⟨_, x.2.drew⟩, rfl⟩ (by simpa using h)
theorem pass_rank {f r a : Int} (hq : vsq f r a = true) : 0 ≤ a / f ∧ a / f < r ∧ a = a % f + f * (a / f) ∧ 0 ≤ a % f ∧ a % f < f := by
  obtain ⟨hz, a0, a1⟩ := vsq_bd hq
  obtain ⟨z1, z2, z3, z4⟩ := vsize_bd hz
  exact ⟨Int.ediv_nonneg a0 (by omega), Int.ediv_lt_of_lt_mul (by omega) (by rw [Int.mul_comm]; exact a1), (Int.emod_add_mul_ediv a f).symm, Int.emod_nonneg a (by omega), Int.emod_lt_of_pos a (by omega)⟩
set_option maxRecDepth 100000 in
set_option maxHeartbeats 4000000 in
theorem passB (w : World) (p : Pos) (po : Option Addr) (cap : Nat) (hP : PosAt w p po cap) (hv : bvalid p.f p.r p.ps = true) (hpn : (p.passant == -1) = false) (hbl : p.black = true) :
    Pure 61 #[.agg (p.cells po cap)] w (.bool (p.passup p.f 2)) := by
  obtain ⟨hz, hl1, hn1⟩ := bvalid_len hv
  have hne : p.ps ≠ [] := by
    intro h
    have := vsize_mul hz
    rw [h] at hl1
    simp at hl1
    omega
  obtain ⟨b, off, rfl, hPc⟩ := hP.slc.resolve_left hne
  obtain ⟨hcap, hcap2⟩ := (⟨hP.cap1, hP.cap2⟩ : _ ∧ _)
  obtain ⟨zb1, zb2, zb3, zb4⟩ := vsize_bd hz
  have hrk := fun h => Lib.hid (pass_rank (f := p.f) (r := p.r) (a := p.passant) h)
  have hvqc := fun W => Lib.hid (vsq_c W p.f p.r p.passant)
  obtain ⟨f, r, ps, black, castle, passant, half, full⟩ := p
  dsimp only [Pos.cells] at *
  subst hbl
  clear hv hne hP
  replace hz := Lib.hid hz
  replace hPc := Lib.hid hPc
  obtain ⟨n, hln⟩ : ∃ n, ps.length = n := ⟨_, rfl⟩
  rw [hln] at hcap hn1 hl1 ⊢
  replace hln := Lib.hid hln
  replace hl1 := Lib.hid hl1
  obtain ⟨W, hW⟩ : ∃ W, w.alloc (.cells #[.int .i64 f, .int .i64 r, .slice (some ⟨b, off, none⟩) n cap, .bool true, .int .u8 castle, .int .i64 passant, .int .i64 half, .int .i64 full] 26) = W := ⟨_, rfl⟩
  have hX : W.heap[w.heap.size]? = some (.cells #[.int .i64 f, .int .i64 r, .slice (some ⟨b, off, none⟩) n cap, .bool true, .int .u8 castle, .int .i64 passant, .int .i64 half, .int .i64 full] 26 (0, 0)) := by rw [← hW]; exact blk_new rfl _
  have hB : Below w.heap.size w W := by rw [← hW]; exact (Below.refl _ _).alloc (Nat.le_refl _) _
  have hBs := hB.size
  have y0 := fun x : Ext W.heap.size W => cell_of (below_blk x.2 hX) 0 _ rfl
  have y1 := fun x : Ext W.heap.size W => cell_of (below_blk x.2 hX) 1 _ rfl
  have y2 := fun x : Ext W.heap.size W => cell_of (below_blk x.2 hX) 2 _ rfl
  have y3 := fun x : Ext W.heap.size W => cell_of (below_blk x.2 hX) 3 _ rfl
  have y5 := fun x : Ext W.heap.size W => cell_of (below_blk x.2 hX) 5 _ rfl
  have y6 := fun x : Ext W.heap.size W => cell_of (below_blk x.2 hX) 6 _ rfl
  replace hX := Lib.hid hX
  replace hB := Lib.hid hB
  replace hW := Lib.hid hW
  have hpo := fun W => Lib.hid (pofp_c W false)
  simp only [Bool.false_eq_true, if_false] at hpo
  by_cases h6 : ¬ 6 ≤ r
  · have h6' : decide (6 ≤ r) = false := by simp; omega
    have hfin : Hid ((Pos.mk f r ps true castle passant half full).passup f 2 = false) := Lib.hid (by unfold Pos.passup; dsimp only; rw [h6']; simp)
    rw [hfin.out]
    clear hrk
    have hvq := hvqc
    replace h6 := Lib.hid h6
    unfold Pure
    go_enter Tryz.func61, Tryz.ntmps61
    go_wp2_with fail
    rw [hW.out]
    refine ext_region (by kernel_rfl) (by kernel_rfl) ?_
    repeat (first | (go_big_quiet_step ((first | (go_at_call 109; exact Pure.ext (Nat.le_refl _) (Hid.out (hvq _))) | (go_at_call 108; exact Pure.ext (Nat.le_refl _) (Same.pure (Hid.out (hpo _))))))) | ((refine wpQuiet_step (fun K hK => ?_)); go_simp; (refine ⟨_, fun _ => rfl, hK _ ?_⟩); clear hK K))
    refine wpQuiet_nil ?_
    rintro V3 ⟨x, hx⟩
    have hB3 : Below W.heap.size W V3 := hx ▸ x.2
    go_wp2
    go_ret
    exact ⟨by simp, hB.out.trans (hB3.mono hBs)⟩
  have h6 : 6 ≤ r := by omega
  have h6' : decide (6 ≤ r) = true := by simpa using h6
  cases h0 : (half == 0)
  · have hfin : Hid ((Pos.mk f r ps true castle passant half full).passup f 2 = false) := Lib.hid (by unfold Pos.passup; dsimp only; rw [h0]; simp)
    rw [hfin.out]
    clear hrk
    have hvq := hvqc
    unfold Pure
    go_enter Tryz.func61, Tryz.ntmps61
    go_wp2_with fail
    rw [hW.out]
    refine ext_region (by kernel_rfl) (by kernel_rfl) ?_
    repeat (first | (go_big_quiet_step ((first | (go_at_call 109; exact Pure.ext (Nat.le_refl _) (Hid.out (hvq _))) | (go_at_call 108; exact Pure.ext (Nat.le_refl _) (Same.pure (Hid.out (hpo _))))))) | ((refine wpQuiet_step (fun K hK => ?_)); go_simp; (refine ⟨_, fun _ => rfl, hK _ ?_⟩); clear hK K))
    refine wpQuiet_nil ?_
    rintro V3 ⟨x, hx⟩
    have hB3 : Below W.heap.size W V3 := hx ▸ x.2
    go_wp2
    go_ret
    exact ⟨by simp, hB.out.trans (hB3.mono hBs)⟩
  cases hq : vsq f r passant
  · have hvq := hvqc
    rw [hq] at hvq
    have hfin : Hid ((Pos.mk f r ps true castle passant half full).passup f 2 = false) := Lib.hid (by unfold Pos.passup; dsimp only; rw [hq]; simp)
    rw [hfin.out]
    clear hrk hvqc
    replace hq := Lib.hid hq
    unfold Pure
    go_enter Tryz.func61, Tryz.ntmps61
    go_wp2_with fail
    rw [hW.out]
    refine ext_region (by kernel_rfl) (by kernel_rfl) ?_
    repeat (first | (go_big_quiet_step ((first | (go_at_call 109; exact Pure.ext (Nat.le_refl _) (Hid.out (hvq _))) | (go_at_call 108; exact Pure.ext (Nat.le_refl _) (Same.pure (Hid.out (hpo _))))))) | ((refine wpQuiet_step (fun K hK => ?_)); go_simp; (refine ⟨_, fun _ => rfl, hK _ ?_⟩); clear hK K))
    refine wpQuiet_nil ?_
    rintro V3 ⟨x, hx⟩
    have hB3 : Below W.heap.size W V3 := hx ▸ x.2
    go_wp2
    go_ret
    exact ⟨by simp, hB.out.trans (hB3.mono hBs)⟩
  obtain ⟨q1, q2, q3, q4, q5⟩ := (hrk hq).out
  have hvq := hvqc
  rw [hq] at hvq
  clear hrk hvqc
  obtain ⟨hz', a0, a1⟩ := vsq_bd hq
  obtain ⟨k1, k2⟩ := vsize_mul hz'
  have hf0 : (f == 0) = false := by simp; omega
  have hf00 : (f = 0) = False := by simp; omega
  have hwr : IntKind.i64.wrap (passant.tdiv f) = passant / f := IntWalk.i64_quo passant f ⟨a0, by omega, by omega⟩
  have q6 : passant / f ≤ passant := Int.ediv_le_self _ a0
  replace hq := Lib.hid hq
  replace hz' := Lib.hid hz'
  replace q3 := Lib.hid q3
  cases hr2 : (passant / f == 2)
  · have hfin : Hid ((Pos.mk f r ps true castle passant half full).passup f 2 = false) := Lib.hid (by unfold Pos.passup; dsimp only; rw [hr2]; simp)
    rw [hfin.out]
    unfold Pure
    go_enter Tryz.func61, Tryz.ntmps61
    go_wp2_with fail
    rw [hW.out]
    refine ext_region (by kernel_rfl) (by kernel_rfl) ?_
    repeat (first | (go_big_quiet_step ((first | (go_at_call 109; exact Pure.ext (Nat.le_refl _) (Hid.out (hvq _))) | (go_at_call 108; exact Pure.ext (Nat.le_refl _) (Same.pure (Hid.out (hpo _))))))) | ((refine wpQuiet_step (fun K hK => ?_)); go_simp; (refine ⟨_, fun _ => rfl, hK _ ?_⟩); clear hK K))
    refine wpQuiet_nil ?_
    rintro V3 ⟨x, hx⟩
    have hB3 : Below W.heap.size W V3 := hx ▸ x.2
    go_wp2
    go_ret
    exact ⟨by simp, hB.out.trans (hB3.mono hBs)⟩
  have hr2' : passant / f = 2 := by simpa using hr2
  have a2 : 2 * f ≤ passant := by have := q3.out; rw [hr2'] at this; omega
  have a3 : passant < 3 * f := by have := q3.out; rw [hr2'] at this; omega
  have a4 : f * 6 ≤ f * r := Int.mul_le_mul_of_nonneg_left h6 (by omega)
  obtain ⟨m, rfl⟩ : ∃ m : Nat, passant = (m : Int) := ⟨passant.toNat, by omega⟩
  obtain ⟨F, rfl⟩ : ∃ F : Nat, f = (F : Int) := ⟨f.toNat, by omega⟩
  have hnn : (n : Int) = F * r := hl1.out
  have m0 : m < n := by omega
  have m1 : m - F < n := by omega
  have m2 : m + F < n := by omega
  have m3 : F ≤ m := by omega
  obtain ⟨v1, hv1⟩ : ∃ v1, ps[m]? = some v1 := ⟨_, List.getElem?_eq_getElem (by rw [hln.out]; exact m0)⟩
  obtain ⟨v2, hv2⟩ : ∃ v2, ps[m - F]? = some v2 := ⟨_, List.getElem?_eq_getElem (by rw [hln.out]; exact m1)⟩
  obtain ⟨v3, hv3⟩ : ∃ v3, ps[m + F]? = some v3 := ⟨_, List.getElem?_eq_getElem (by rw [hln.out]; exact m2)⟩
  have x1 := fun x : Ext W.heap.size W => below_at (hB.out.trans (x.2.mono hBs)) (hPc.out m v1 hv1)
  have x2 := fun x : Ext W.heap.size W => below_at (hB.out.trans (x.2.mono hBs)) (hPc.out (m - F) v2 hv2)
  have x3 := fun x : Ext W.heap.size W => below_at (hB.out.trans (x.2.mono hBs)) (hPc.out (m + F) v3 hv3)
  have hfin : Hid ((Pos.mk F r ps true castle m half full).passup F 2 = (v1 == 0 && v2 == 0 && v3 == 1)) := Lib.hid (by
    unfold Pos.passup
    dsimp only
    rw [h6', h0, hq.out, hr2, show ((m : Int) - F).toNat = m - F by omega, show ((m : Int) + F).toNat = m + F by omega, Int.toNat_natCast]
    simp only [List.getD_eq_getElem?_getD, hv1, hv2, hv3, Option.getD_some, Bool.true_and, if_true])
  rw [hfin.out]
  have i1 : (0 : Int) ≤ (m : Int) - F := by omega
  have i2 : (m : Int) - F < n := by omega
  have i3 : (m : Int) + F < n := by omega
  have i4 : (m : Int) < n := by omega
  have w1 : IntKind.i64.wrap ((m : Int) - F) = (m : Int) - F := IntWalk.i64_in _ (by omega)
  have w2 : IntKind.i64.wrap ((m : Int) + F) = (m : Int) + F := IntWalk.i64_in _ (by omega)
  have w3 : ((m : Int) - F).toNat = m - F := by omega
  have w4 : ((m : Int) + F).toNat = m + F := by omega
  have w5 : (0 : Int) ≤ (m : Int) + F := by omega
  have w6 : (0 : Int) ≤ (m : Int) := by omega
  have g00 : (F = 0) = False := by simp; omega
  have gwr : IntKind.i64.wrap ((m : Int) / F) = (m : Int) / F := IntWalk.i64_in _ (by omega)
  replace hv1 := Lib.hid hv1
  replace hv2 := Lib.hid hv2
  replace hv3 := Lib.hid hv3
  replace hnn := Lib.hid hnn
  replace hr2' := Lib.hid hr2'
  cases e1 : (v1 == 0)
  · unfold Pure
    go_enter Tryz.func61, Tryz.ntmps61
    go_wp2_with fail
    rw [hW.out]
    refine ext_region (by kernel_rfl) (by kernel_rfl) ?_
    repeat (first | (go_big_quiet_step ((first | (go_at_call 109; exact Pure.ext (Nat.le_refl _) (Hid.out (hvq _))) | (go_at_call 108; exact Pure.ext (Nat.le_refl _) (Same.pure (Hid.out (hpo _))))))) | ((refine wpQuiet_step (fun K hK => ?_)); go_simp; (refine ⟨_, fun _ => rfl, hK _ ?_⟩); clear hK K))
    refine wpQuiet_nil ?_
    rintro V3 ⟨x, hx⟩
    have hB3 : Below W.heap.size W V3 := hx ▸ x.2
    go_wp2
    go_ret
    exact ⟨by simp, hB.out.trans (hB3.mono hBs)⟩
  cases e2 : (v2 == 0)
  · unfold Pure
    go_enter Tryz.func61, Tryz.ntmps61
    go_wp2_with fail
    rw [hW.out]
    refine ext_region (by kernel_rfl) (by kernel_rfl) ?_
    repeat (first | (go_big_quiet_step ((first | (go_at_call 109; exact Pure.ext (Nat.le_refl _) (Hid.out (hvq _))) | (go_at_call 108; exact Pure.ext (Nat.le_refl _) (Same.pure (Hid.out (hpo _))))))) | ((refine wpQuiet_step (fun K hK => ?_)); go_simp; (refine ⟨_, fun _ => rfl, hK _ ?_⟩); clear hK K))
    refine wpQuiet_nil ?_
    rintro V3 ⟨x, hx⟩
    have hB3 : Below W.heap.size W V3 := hx ▸ x.2
    go_wp2
    go_ret
    exact ⟨by simp, hB.out.trans (hB3.mono hBs)⟩
  cases e3 : (v3 == 1)
  · unfold Pure
    go_enter Tryz.func61, Tryz.ntmps61
    go_wp2_with fail
    rw [hW.out]
    refine ext_region (by kernel_rfl) (by kernel_rfl) ?_
    repeat (first | (go_big_quiet_step ((first | (go_at_call 109; exact Pure.ext (Nat.le_refl _) (Hid.out (hvq _))) | (go_at_call 108; exact Pure.ext (Nat.le_refl _) (Same.pure (Hid.out (hpo _))))))) | ((refine wpQuiet_step (fun K hK => ?_)); go_simp; (refine ⟨_, fun _ => rfl, hK _ ?_⟩); clear hK K))
    refine wpQuiet_nil ?_
    rintro V3 ⟨x, hx⟩
    have hB3 : Below W.heap.size W V3 := hx ▸ x.2
    go_wp2
    go_ret
    exact ⟨by simp, hB.out.trans (hB3.mono hBs)⟩
  · unfold Pure
    go_enter Tryz.func61, Tryz.ntmps61
    go_wp2_with fail
    rw [hW.out]
    refine ext_region (by kernel_rfl) (by kernel_rfl) ?_
    repeat (first | (go_big_quiet_step ((first | (go_at_call 109; exact Pure.ext (Nat.le_refl _) (Hid.out (hvq _))) | (go_at_call 108; exact Pure.ext (Nat.le_refl _) (Same.pure (Hid.out (hpo _))))))) | ((refine wpQuiet_step (fun K hK => ?_)); go_simp; (refine ⟨_, fun _ => rfl, hK _ ?_⟩); clear hK K))
    refine wpQuiet_nil ?_
    rintro V3 ⟨x, hx⟩
    have hB3 : Below W.heap.size W V3 := hx ▸ x.2
    go_wp2
    go_ret
    exact ⟨by simp, hB.out.trans (hB3.mono hBs)⟩
end Go.Proofs.YtbhienpbfidgjaaGreatDoor
