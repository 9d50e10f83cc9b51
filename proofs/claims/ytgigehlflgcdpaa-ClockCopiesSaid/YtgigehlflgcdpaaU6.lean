/- One call on a clock and on the reference: step at Copy. Conditions: the numbers are within bounds. -/
import Derived.Test.YtgigehlflgcdpaaU5
import Derived.Test.YtgigehlflgcdpaaK2
import Derived.Test.YtgigehlflgcdpaaQ2
import Derived.Deep.DeepCutAuto
set_option linter.unusedVariables false
set_option linter.unusedSimpArgs false
namespace Go.Proofs.Ytgigehlflgcdpaa
open Go.RowKit
/-- what step leaves where it copies -/
def StepCopy (L : Ctl) (r : Rf) (b : Nat) (c : Ck) (w : World) (e : Ending) (w' : World) : Prop := ∃ b', e = .returned (SV L r b' c) ∧ ClkAt w' b' L c ∧ w.heap.size ≤ b' ∧ w.grownBy w' (some b)
theorem copy_q {w : World} {b : Nat} {L : Ctl} {c : Ck} (h : ClkAt w b L c) :
    Calls Try.prog 23 #[.pointer (some ⟨b, 0, none⟩)] w fun e w' => e = .returned (.pointer (some ⟨w.heap.size, 0, none⟩)) ∧ ClkAt w' w.heap.size L c ∧ w.grownBy w' none :=
  (copy_c h).mono fun e w' ⟨he, hw⟩ => ⟨he, by rw [hw]; exact blk_new rfl _, by rw [hw]; exact grown_alloc (grown_refl _ _) _⟩
theorem grown_row2 {a w : World} {b : Nat} (h : a.grownBy w none) : a.grownBy w (some b) := grown_row h
set_option maxHeartbeats 1500000 in
set_option maxRecDepth 100000 in
theorem step_5 {w : World} {b : Nat} {L : Ctl} {c : Ck} (r : Rf) (what now side time : Int) (h : ClkAt w b L c) (hL : CtlAt w L) (hI : Inv L c) (hbc : b ≠ L.cb) (hbp : b ≠ L.pb)
    (k0 : (what == 0) = false) (k1 : (what == 1) = false) (k2 : (what == 2) = false) (k3 : (what == 3) = false) (k4 : (what == 4) = false) :
    Calls Try.prog 22 #[.pointer (some ⟨b, 0, none⟩), .agg (c.rcells L r), .agg #[.int .i64 what, .int .i64 now, .int .i64 side, .int .i64 time]] w (StepCopy L r b c w) := by
  have ha := fun W (hc : ClkAt W b L c) => Lib.hid (add_c 0 7 hc hI)
  have i1 := inv_add hI 0 7
  have hs := fun W (hc : ClkAt W b L (c.add 0 7).1) (hl : CtlAt W L) => Lib.hid (start_c 1099511627776 hc hl i1)
  have hcp := fun W (hc : ClkAt W b L c) => Lib.hid (copy_q hc)
  generalize c.add 0 7 = R at *
  obtain ⟨c1, e1⟩ := R
  dsimp only at hs i1
  generalize c1.start L 1099511627776 = R at *
  obtain ⟨c2, e2⟩ := R
  clear i1 hI
  obtain ⟨lb, lp⟩ : L.cb < w.heap.size ∧ b < w.heap.size := ⟨(Array.getElem?_eq_some_iff.1 hL.ctl).1, (Array.getElem?_eq_some_iff.1 h).1⟩
  obtain ⟨cc, hcc⟩ : ∃ cc, c = cc := ⟨_, rfl⟩
  have hb : b < w.heap.size := (Array.getElem?_eq_some_iff.1 h).1
  have hh := Lib.hid h
  have hLL := Lib.hid hL
  obtain ⟨⟨sa, ma, pa, da⟩, ⟨sb, mb, pb, db⟩, sd, used, since, last, runs⟩ := c
  dsimp only [SV, Ck.rcells]
  go_enter Try.func22, Try.ntmps22
  go_wp2_with fail
  refine wp_forget_calls (fun W => w.grownBy W none ∧ W.heap[w.heap.size]? = some (.cells (Ck.rcells ⟨⟨sa, ma, pa, da⟩, ⟨sb, mb, pb, db⟩, sd, used, since, last, runs⟩ L r) 37 (0, 0)) ∧ W.heap[w.heap.size + 1]? = some (.cells #[.int .i64 what, .int .i64 now, .int .i64 side, .int .i64 time] 56 (0, 0)) ∧
    W.heap[w.heap.size + 1 + 1]? = some (.cells zeros 37 (0, 0))) ⟨?_, ?_, ?_, ?_⟩ ?_
  · repeat (first | exact grown_refl _ _ | refine grown_alloc ?_ _)
  · exact blk_alloc (blk_alloc (blk_alloc (blk_new (by simp) _) _) _) _
  · exact blk_alloc (blk_alloc (blk_new (by simp) _) _) _
  · exact blk_alloc (blk_new (by simp) _) _
  rintro W ⟨hG, hX, hA, hZ⟩
  refine (hcp W (hh.out.grown hG (by simp))).out.mono ?_
  rintro e W2 ⟨rfl, hN, hg⟩
  obtain ⟨nb, hnb⟩ : ∃ nb, nb = W.heap.size := ⟨_, rfl⟩
  rw [← hnb] at hN ⊢
  have hnb2 : w.heap.size + 1 + 1 < nb := by rw [hnb]; exact (Array.getElem?_eq_some_iff.1 hZ).1
  clear hnb
  replace hG := grown_trans hG hg
  replace hX := (hg.block _ (Array.getElem?_eq_some_iff.1 hX).1 (by simp)).trans hX
  replace hA := (hg.block _ (Array.getElem?_eq_some_iff.1 hA).1 (by simp)).trans hA
  replace hZ := (hg.block _ (Array.getElem?_eq_some_iff.1 hZ).1 (by simp)).trans hZ
  clear hg hcp
  go_wp2_with fail
  refine (ha W2 (hh.out.grown hG (by simp))).out.mono ?_
  rintro e W3 ⟨rfl, hC, hg⟩
  have hl3 := (hLL.out.grown hG (by simp) (by simp)).grown hg (by simpa using hbc.symm) (by simpa using hbp.symm)
  replace hN := hN.grown hg (by simp; omega)
  replace hG := grown_trans (grown_row2 hG) hg
  replace hX := (hg.block _ (Array.getElem?_eq_some_iff.1 hX).1 (by simp; omega)).trans hX
  replace hA := (hg.block _ (Array.getElem?_eq_some_iff.1 hA).1 (by simp; omega)).trans hA
  replace hZ := (hg.block _ (Array.getElem?_eq_some_iff.1 hZ).1 (by simp; omega)).trans hZ
  clear hg ha hh hLL
  go_wp2_with fail
  refine (hs W3 hC hl3).out.mono ?_
  rintro e W4 ⟨rfl, hC4, hg⟩
  replace hN := hN.grown hg (by simp; omega)
  replace hG := grown_trans hG hg
  replace hX := (hg.block _ (Array.getElem?_eq_some_iff.1 hX).1 (by simp; omega)).trans hX
  replace hA := (hg.block _ (Array.getElem?_eq_some_iff.1 hA).1 (by simp; omega)).trans hA
  replace hZ := (hg.block _ (Array.getElem?_eq_some_iff.1 hZ).1 (by simp; omega)).trans hZ
  clear hg hs hC hC4 hl3
  go_wp2_with fail
  have hS : Held2 w.heap.size (.cells (Ck.rcells ⟨⟨sa, ma, pa, da⟩, ⟨sb, mb, pb, db⟩, sd, used, since, last, runs⟩ L r) 37 (0, 0)) (.cells #[.int .i64 what, .int .i64 now, .int .i64 side, .int .i64 time] 56 (0, 0)) W4.drew := ⟨blk_drew hX, blk_drew hA⟩
  have HZ := Lib.hid (blk_drew hZ)
  have HN := Lib.hid (blk_drew (hblk hN))
  have HG := Lib.hid (grown_drew hG)
  have hlz : w.heap.size + 1 + 1 < W4.heap.size := (Array.getElem?_eq_some_iff.1 hZ).1
  clear hX hA hZ hN hG
  have HX := Lib.hid hS.1
  refine wp_region_held_drew (S := Held2 w.heap.size (.cells (Ck.rcells ⟨⟨sa, ma, pa, da⟩, ⟨sb, mb, pb, db⟩, sd, used, since, last, runs⟩ L r) 37 (0, 0)) (.cells #[.int .i64 what, .int .i64 now, .int .i64 side, .int .i64 time] 56 (0, 0))) (by kernel_rfl) hS ?_
  clear hS
  intro hS
  refine wpAnyH_take (i := 0) (v := .pointer (some ⟨nb, 0, none⟩)) rfl (by kernel_rfl) (by kernel_rfl) (by kernel_rfl) (fun _ _ _ h => h) (.inl ⟨by rfl, fun w' _ => by go_simp⟩) hS ?_
  refine wpAnyH_take (i := 1) rfl (by kernel_rfl) (by kernel_rfl) (by kernel_rfl) (fun _ _ _ h => h) (yields_row 37 (.tmp 4) rfl rfl w.heap.size (by go_simp) 37 (Ck.rcells ⟨⟨sa, ma, pa, da⟩, ⟨sb, mb, pb, db⟩, sd, used, since, last, runs⟩ L r) (0, 0) _ (fun _ h => h.1) Try.underlying37 rfl size37) hS ?_
  refine wpAnyH_take (i := 2) (v := .pointer (some ⟨nb, 0, none⟩)) rfl (by kernel_rfl) (by kernel_rfl) (by kernel_rfl) (fun _ _ _ h => h) (.inl ⟨by rfl, fun w' _ => by go_simp⟩) hS ?_
  refine wpAnyH_store (i := 3) 37 (.tmp 7) (.tmp 33) (by kernel_rfl) (by rfl) (Ck.rcells ⟨⟨sa, ma, pa, da⟩, ⟨sb, mb, pb, db⟩, sd, used, since, last, runs⟩ L r) (by go_simp) (by go_simp) zeros HZ.out rfl size37 (one37 _ _ _) ⟨(setCells_other (by omega) _ _ _).trans hS.1, (setCells_other (by omega) _ _ _).trans hS.2⟩ ?_
  have hS2 : Held2 w.heap.size (.cells (Ck.rcells ⟨⟨sa, ma, pa, da⟩, ⟨sb, mb, pb, db⟩, sd, used, since, last, runs⟩ L r) 37 (0, 0)) (.cells #[.int .i64 what, .int .i64 now, .int .i64 side, .int .i64 time] 56 (0, 0)) (W4.drew.setCells (w.heap.size + 1 + 1) 0 (Ck.rcells ⟨⟨sa, ma, pa, da⟩, ⟨sb, mb, pb, db⟩, sd, used, since, last, runs⟩ L r).toList) := ⟨(setCells_other (by omega) _ _ _).trans hS.1, (setCells_other (by omega) _ _ _).trans hS.2⟩
  have HZ3 := Lib.hid (setCells_same (vs := (Ck.rcells ⟨⟨sa, ma, pa, da⟩, ⟨sb, mb, pb, db⟩, sd, used, since, last, runs⟩ L r).toList) HZ.out (rsize3 _ _ _))
  have HN3 : Hid (ClkAt (W4.drew.setCells (w.heap.size + 1 + 1) 0 (Ck.rcells ⟨⟨sa, ma, pa, da⟩, ⟨sb, mb, pb, db⟩, sd, used, since, last, runs⟩ L r).toList) nb L ⟨⟨sa, ma, pa, da⟩, ⟨sb, mb, pb, db⟩, sd, used, since, last, runs⟩) := Lib.hid ((setCells_other (by omega) _ _ _).trans HN.out)
  have HG3 := Lib.hid (grown_setCells (g := w.heap.size + 1 + 1) (by omega) (Ck.rcells ⟨⟨sa, ma, pa, da⟩, ⟨sb, mb, pb, db⟩, sd, used, since, last, runs⟩ L r).toList 0 W4.drew HG.out)
  clear HZ HN HG HX hS
  generalize W4.drew.setCells (w.heap.size + 1 + 1) 0 (Ck.rcells ⟨⟨sa, ma, pa, da⟩, ⟨sb, mb, pb, db⟩, sd, used, since, last, runs⟩ L r).toList = V3 at *
  refine wpAnyH_take (i := 4) (v := .bool true) rfl (by kernel_rfl) (by kernel_rfl) (by kernel_rfl) (fun _ _ _ h => h) (.inl ⟨by rfl, fun w' _ => by go_simp⟩) hS2 ?_
  refine wpAnyH_done (by kernel_rfl) ?_ _
  go_simp
  clear hS2
  go_wp2
  exact bodyPost_ret (results_row3 (t := 37) rfl _ _ (w.heap.size + 1 + 1) _ _ rfl HZ3.out Try.underlying37 rfl size37) rfl ⟨nb, rfl, HN3.out, by omega, HG3.out⟩
end Go.Proofs.Ytgigehlflgcdpaa
