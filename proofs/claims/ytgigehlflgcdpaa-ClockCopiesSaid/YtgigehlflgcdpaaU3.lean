/- One call on a clock and on the reference: step at Press and at Add. Conditions: the numbers are within bounds. -/
import Derived.Test.YtgigehlflgcdpaaU2
set_option linter.unusedVariables false
set_option linter.unusedSimpArgs false
namespace Go.Proofs.Ytgigehlflgcdpaa
open Go.RowKit
set_option maxHeartbeats 4000000 in
set_option maxRecDepth 100000 in
theorem step_2 {w : World} {b : Nat} {L : Ctl} {c : Ck} (r : Rf) (now side time : Int) (h : ClkAt w b L c) (hL : CtlAt w L) (hP : PerAt w L.ps r.pb r.off) (hI : Inv L c) (hG : Good L) (hbc : b ≠ L.cb) (hbp : b ≠ L.pb) :
    Calls Try.prog 22 #[.pointer (some ⟨b, 0, none⟩), .agg (c.rcells L r), .agg #[.int .i64 2, .int .i64 now, .int .i64 side, .int .i64 time]] w fun e w' =>
      e = .returned (SV L r b (c.press L now).1) ∧ ClkAt w' b L (c.press L now).1 ∧ w.grownBy w' (some b) := by
  have hr := fun W (hb : Below w.heap.size w W) => Lib.hid (press_r r now (hP.below hb) hI hG)
  have hx := fun W (hc : ClkAt W b L c) (hl : CtlAt W L) => Lib.hid (press_c now hc hl hI hG)
  have hb : b < w.heap.size := (Array.getElem?_eq_some_iff.1 h).1
  generalize c.press L now = R at *
  obtain ⟨c', er⟩ := R
  have hh := Lib.hid h
  have hLL := Lib.hid hL
  clear hP hI hG h hL
  have hrc : c.rcells L r = #[.int .i64 L.k, .slice (some ⟨r.pb, r.off, none⟩) L.ps.length r.cap, .int .i64 c.a.stock, .int .i64 c.b.stock, .int .i64 c.a.moves, .int .i64 c.b.moves, .int .i64 c.a.period, .int .i64 c.b.period, .int .i64 c.a.done, .int .i64 c.b.done, .int .i64 (sideI c.side), .int .i64 c.used, .bool c.runs, .int .i64 c.since, .int .i64 c.last] := rfl
  rw [hrc] at hr ⊢
  clear hrc
  go_enter Try.func22, Try.ntmps22
  go_wp2_with fail
  refine wp_forget_calls (fun W => w.grownBy W none ∧ W.heap.size = w.heap.size + 4 ∧ W.heap[w.heap.size + 1]? = some (.cells #[.int .i64 2, .int .i64 now, .int .i64 side, .int .i64 time] 56 (0, 0)) ∧
    W.heap[w.heap.size + 1 + 1]? = some (.cells zeros 37 (0, 0)) ∧ W.heap[w.heap.size + 1 + 1 + 1]? = some (.cells (Ck.rcells c L r) 37 (0, 0))) ⟨?_, ?_, ?_, ?_, ?_⟩ ?_
  · repeat (first | exact grown_refl _ _ | refine grown_alloc ?_ _)
  · simp
  · exact blk_alloc (blk_alloc (blk_new (by simp) _) _) _
  · exact blk_alloc (blk_new (by simp) _) _
  · exact blk_new (by simp) _
  rintro W ⟨hg, hs, hA, hZ, hN⟩
  refine (hr W ⟨hg.os, hg.tape, hg.output, hg.size, fun k hk => hg.block k hk (by simp)⟩).out.mono ?_
  rintro e V ⟨rfl, hV⟩
  dsimp only [RV]
  have hgV := grown_trans hg (below_grown2 hV)
  replace hA := below_blk hV hA
  replace hZ := below_blk hV hZ
  replace hN := below_blk hV hN
  have hs2 := hV.size
  clear hr hV hg
  have HN := Lib.hid (⟨hgV, hA, hZ, hN⟩ : Stored w V (.cells #[.int .i64 2, .int .i64 now, .int .i64 side, .int .i64 time] 56 (0, 0)) (c.rcells L r))
  clear hgV hA hZ hN hs2 hs
  go_wp2_with (refine store_row 37 (.tmp 9) (.tmp 67) rfl rfl _ rfl rfl _ HN.out.new (rsize2 _ _ _ _ _ _) size37 (one37 _ _ _) ?_; refine wpl_forget (fun W2 => Stored w W2 (.cells #[.int .i64 2, .int .i64 now, .int .i64 side, .int .i64 time] 56 (0, 0)) (c'.rcells L r)) HN.out.set ?_; clear HN; rintro W2 hS; have a1 := cell_of hS.act 1 _ rfl; have a2 := cell_of hS.act 2 _ rfl; have a3 := cell_of hS.act 3 _ rfl; have hS := Lib.hid hS)
  refine (hx W2 (hh.out.grown hS.out.grown (by simp)) (hLL.out.grown hS.out.grown (by simp) (by simp))).out.mono ?_
  rintro e W3 ⟨rfl, hC, hg3⟩
  have hS3 := hS.out.row hb hg3
  have hG3 := grown_trans (grown_row hS.out.grown) hg3
  clear hx hh hLL a1 a2 a3 hS
  go_wp2_with fail
  refine wp_forget (fun W => ClkAt W b L c' ∧ w.grownBy W (some b) ∧ W.heap[w.heap.size + 1 + 1]? = some (.cells zeros 37 (0, 0)) ∧ W.heap[w.heap.size + 1 + 1 + 1]? = some (.cells (c'.rcells L r) 37 (0, 0))) ⟨hC, hG3, hS3.1, hS3.2⟩ ?_
  clear hC hG3 hS3 hg3
  rintro W ⟨hC, hG, hZ, hX⟩
  have hl : w.heap.size + 1 + 1 + 1 < W.heap.size := (Array.getElem?_eq_some_iff.1 hX).1
  obtain ⟨⟨sa, ma, pa, da⟩, ⟨sb, mb, pb, db⟩, sd, used, since, last, runs⟩ := c'
  obtain ⟨y0, y1, y2, y3, y4, y5, y6, y7, y8, y9, y10, y11, y12, y13, y14⟩ := rcells_all hX
  obtain ⟨z0, z1, z2, z3, z4, z5, z6, z7, z8, z9, z10, z11, z12, z13, z14⟩ := cells15 hZ
  obtain ⟨f0, f1, f2, f3, f4, f5, f6, f7, f8, f9, f10, f11, f12, f13, f14⟩ := free15 hZ
  dsimp only at y0 y1 y2 y3 y4 y5 y6 y7 y8 y9 y10 y11 y12 y13 y14
  go_region
  clear y0 y1 y2 y3 y4 y5 y6 y7 y8 y9 y10 y11 y12 y13 y14 z0 z1 z2 z3 z4 z5 z6 z7 z8 z9 z10 z11 z12 z13 z14 f0 f1 f2 f3 f4 f5 f6 f7 f8 f9 f10 f11 f12 f13 f14
  have HZ := Lib.hid hZ
  have HC := Lib.hid (hblk hC)
  have HG := Lib.hid hG
  clear hZ hX hC hG
  go_wp2
  refine bodyPost_ret (results_row3 (t := 37) rfl _ _ (w.heap.size + 1 + 1) (Ck.rcells ⟨⟨sa, ma, pa, da⟩, ⟨sb, mb, pb, db⟩, sd, used, since, last, runs⟩ L r) _ rfl ?_ Try.underlying37 rfl size37) rfl ⟨rfl, ?_, ?_⟩
  · apply blk_at
    · repeat (with_reducible first | exact HZ.out | apply blk_drew | apply blk_set)
    · exact zeros_set _ _ _ _ _ _ _ _ _ _ _ _ _ _ _
  · unfold ClkAt
    repeat (with_reducible first | exact HC.out | apply blk_drew | (refine blk_other ?_ (by dsimp only; omega) _))
  · repeat (with_reducible first | exact HG.out | apply grown_drew | (refine grown_set ?_ (by dsimp only; omega) _))
set_option maxHeartbeats 4000000 in
set_option maxRecDepth 100000 in
theorem step_3 {w : World} {b : Nat} {L : Ctl} {c : Ck} (r : Rf) (now side time : Int) (h : ClkAt w b L c) (hL : CtlAt w L) (hP : PerAt w L.ps r.pb r.off) (hI : Inv L c) (hG : Good L) (hbc : b ≠ L.cb) (hbp : b ≠ L.pb) :
    Calls Try.prog 22 #[.pointer (some ⟨b, 0, none⟩), .agg (c.rcells L r), .agg #[.int .i64 3, .int .i64 now, .int .i64 side, .int .i64 time]] w fun e w' =>
      e = .returned (SV L r b (c.add side time).1) ∧ ClkAt w' b L (c.add side time).1 ∧ w.grownBy w' (some b) := by
  have hr := fun W (hb : Below w.heap.size w W) => Lib.hid (add_r (w := W) r side time hI)
  have hx := fun W (hc : ClkAt W b L c) (hl : CtlAt W L) => Lib.hid (add_c side time hc hI)
  have hb : b < w.heap.size := (Array.getElem?_eq_some_iff.1 h).1
  generalize c.add side time = R at *
  obtain ⟨c', er⟩ := R
  have hh := Lib.hid h
  have hLL := Lib.hid hL
  clear hP hI hG h hL
  have hrc : c.rcells L r = #[.int .i64 L.k, .slice (some ⟨r.pb, r.off, none⟩) L.ps.length r.cap, .int .i64 c.a.stock, .int .i64 c.b.stock, .int .i64 c.a.moves, .int .i64 c.b.moves, .int .i64 c.a.period, .int .i64 c.b.period, .int .i64 c.a.done, .int .i64 c.b.done, .int .i64 (sideI c.side), .int .i64 c.used, .bool c.runs, .int .i64 c.since, .int .i64 c.last] := rfl
  rw [hrc] at hr ⊢
  clear hrc
  go_enter Try.func22, Try.ntmps22
  go_wp2_with fail
  refine wp_forget_calls (fun W => w.grownBy W none ∧ W.heap.size = w.heap.size + 4 ∧ W.heap[w.heap.size + 1]? = some (.cells #[.int .i64 3, .int .i64 now, .int .i64 side, .int .i64 time] 56 (0, 0)) ∧
    W.heap[w.heap.size + 1 + 1]? = some (.cells zeros 37 (0, 0)) ∧ W.heap[w.heap.size + 1 + 1 + 1]? = some (.cells (Ck.rcells c L r) 37 (0, 0))) ⟨?_, ?_, ?_, ?_, ?_⟩ ?_
  · repeat (first | exact grown_refl _ _ | refine grown_alloc ?_ _)
  · simp
  · exact blk_alloc (blk_alloc (blk_new (by simp) _) _) _
  · exact blk_alloc (blk_new (by simp) _) _
  · exact blk_new (by simp) _
  rintro W ⟨hg, hs, hA, hZ, hN⟩
  refine (hr W ⟨hg.os, hg.tape, hg.output, hg.size, fun k hk => hg.block k hk (by simp)⟩).out.mono ?_
  rintro e V ⟨rfl, hV⟩
  dsimp only [RV]
  have hgV := grown_trans hg (below_grown2 hV)
  replace hA := below_blk hV hA
  replace hZ := below_blk hV hZ
  replace hN := below_blk hV hN
  have hs2 := hV.size
  clear hr hV hg
  have HN := Lib.hid (⟨hgV, hA, hZ, hN⟩ : Stored w V (.cells #[.int .i64 3, .int .i64 now, .int .i64 side, .int .i64 time] 56 (0, 0)) (c.rcells L r))
  clear hgV hA hZ hN hs2 hs
  go_wp2_with (refine store_row 37 (.tmp 9) (.tmp 82) rfl rfl _ rfl rfl _ HN.out.new (rsize2 _ _ _ _ _ _) size37 (one37 _ _ _) ?_; refine wpl_forget (fun W2 => Stored w W2 (.cells #[.int .i64 3, .int .i64 now, .int .i64 side, .int .i64 time] 56 (0, 0)) (c'.rcells L r)) HN.out.set ?_; clear HN; rintro W2 hS; have a1 := cell_of hS.act 1 _ rfl; have a2 := cell_of hS.act 2 _ rfl; have a3 := cell_of hS.act 3 _ rfl; have hS := Lib.hid hS)
  refine (hx W2 (hh.out.grown hS.out.grown (by simp)) (hLL.out.grown hS.out.grown (by simp) (by simp))).out.mono ?_
  rintro e W3 ⟨rfl, hC, hg3⟩
  have hS3 := hS.out.row hb hg3
  have hG3 := grown_trans (grown_row hS.out.grown) hg3
  clear hx hh hLL a1 a2 a3 hS
  go_wp2_with fail
  refine wp_forget (fun W => ClkAt W b L c' ∧ w.grownBy W (some b) ∧ W.heap[w.heap.size + 1 + 1]? = some (.cells zeros 37 (0, 0)) ∧ W.heap[w.heap.size + 1 + 1 + 1]? = some (.cells (c'.rcells L r) 37 (0, 0))) ⟨hC, hG3, hS3.1, hS3.2⟩ ?_
  clear hC hG3 hS3 hg3
  rintro W ⟨hC, hG, hZ, hX⟩
  have hl : w.heap.size + 1 + 1 + 1 < W.heap.size := (Array.getElem?_eq_some_iff.1 hX).1
  obtain ⟨⟨sa, ma, pa, da⟩, ⟨sb, mb, pb, db⟩, sd, used, since, last, runs⟩ := c'
  obtain ⟨y0, y1, y2, y3, y4, y5, y6, y7, y8, y9, y10, y11, y12, y13, y14⟩ := rcells_all hX
  obtain ⟨z0, z1, z2, z3, z4, z5, z6, z7, z8, z9, z10, z11, z12, z13, z14⟩ := cells15 hZ
  obtain ⟨f0, f1, f2, f3, f4, f5, f6, f7, f8, f9, f10, f11, f12, f13, f14⟩ := free15 hZ
  dsimp only at y0 y1 y2 y3 y4 y5 y6 y7 y8 y9 y10 y11 y12 y13 y14
  go_region
  clear y0 y1 y2 y3 y4 y5 y6 y7 y8 y9 y10 y11 y12 y13 y14 z0 z1 z2 z3 z4 z5 z6 z7 z8 z9 z10 z11 z12 z13 z14 f0 f1 f2 f3 f4 f5 f6 f7 f8 f9 f10 f11 f12 f13 f14
  have HZ := Lib.hid hZ
  have HC := Lib.hid (hblk hC)
  have HG := Lib.hid hG
  clear hZ hX hC hG
  go_wp2
  refine bodyPost_ret (results_row3 (t := 37) rfl _ _ (w.heap.size + 1 + 1) (Ck.rcells ⟨⟨sa, ma, pa, da⟩, ⟨sb, mb, pb, db⟩, sd, used, since, last, runs⟩ L r) _ rfl ?_ Try.underlying37 rfl size37) rfl ⟨rfl, ?_, ?_⟩
  · apply blk_at
    · repeat (with_reducible first | exact HZ.out | apply blk_drew | apply blk_set)
    · exact zeros_set _ _ _ _ _ _ _ _ _ _ _ _ _ _ _
  · unfold ClkAt
    repeat (with_reducible first | exact HC.out | apply blk_drew | (refine blk_other ?_ (by dsimp only; omega) _))
  · repeat (with_reducible first | exact HG.out | apply grown_drew | (refine grown_set ?_ (by dsimp only; omega) _))
end Go.Proofs.Ytgigehlflgcdpaa
