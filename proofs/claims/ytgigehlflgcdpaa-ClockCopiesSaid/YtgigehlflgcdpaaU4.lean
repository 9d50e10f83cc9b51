/- One call on a clock and on the reference: step at Left, and at Copy. Conditions: the numbers are within bounds. -/
import Derived.Test.YtgigehlflgcdpaaU2
import Derived.Test.YtgigehlflgcdpaaK2
set_option linter.unusedVariables false
set_option linter.unusedSimpArgs false
namespace Go.Proofs.Ytgigehlflgcdpaa
open Go.RowKit
set_option maxHeartbeats 4000000 in
set_option maxRecDepth 100000 in
theorem step_4n {w : World} {b : Nat} {L : Ctl} {c : Ck} (r : Rf) (now side time : Int) (h : ClkAt w b L c) (hL : CtlAt w L) (hs : side < 0 ∨ 1 < side) :
    Calls Try.prog 22 #[.pointer (some ⟨b, 0, none⟩), .agg (c.rcells L r), .agg #[.int .i64 4, .int .i64 now, .int .i64 side, .int .i64 time]] w fun e w' =>
      e = .returned (SV L r b c) ∧ ClkAt w' b L c ∧ w.grownBy w' none := by
  have s0 : (side != 0) = true := by simp; omega
  have s1 : (side != 1) = true := by simp; omega
  have hl := fun W (hc : ClkAt W b L c) => Lib.hid (left_no side now hc hs)
  have hm := fun W (hc : ClkAt W b L c) => Lib.hid (moves_no side hc hs)
  have hb : b < w.heap.size := (Array.getElem?_eq_some_iff.1 h).1
  have hh := Lib.hid h
  have hLL := Lib.hid hL
  obtain ⟨⟨sa, ma, pa, da⟩, ⟨sb, mb, pb, db⟩, sd, used, since, last, runs⟩ := c
  dsimp only [SV, Ck.rcells]
  clear hs
  go_enter Try.func22, Try.ntmps22
  go_wp2_with fail
  refine wp_forget_calls (fun W => w.grownBy W none ∧ W.heap[w.heap.size]? = some (.cells (Ck.rcells ⟨⟨sa, ma, pa, da⟩, ⟨sb, mb, pb, db⟩, sd, used, since, last, runs⟩ L r) 37 (0, 0)) ∧ W.heap[w.heap.size + 1]? = some (.cells #[.int .i64 4, .int .i64 now, .int .i64 side, .int .i64 time] 56 (0, 0)) ∧
    W.heap[w.heap.size + 1 + 1]? = some (.cells zeros 37 (0, 0))) ⟨?_, ?_, ?_, ?_⟩ ?_
  · repeat (first | exact grown_refl _ _ | refine grown_alloc ?_ _)
  · exact blk_alloc (blk_alloc (blk_alloc (blk_new (by simp) _) _) _) _
  · exact blk_alloc (blk_alloc (blk_new (by simp) _) _) _
  · exact blk_alloc (blk_new (by simp) _) _
  rintro W ⟨hG, hX, hA, hZ⟩
  refine (Quiet.grown ((hl W (hh.out.grown hG (by simp))).out)).mono ?_
  rintro e W2 ⟨rfl, hg⟩
  replace hG := grown_trans hG hg
  replace hX := (hg.block _ (Array.getElem?_eq_some_iff.1 hX).1 (by simp)).trans hX
  replace hA := (hg.block _ (Array.getElem?_eq_some_iff.1 hA).1 (by simp)).trans hA
  replace hZ := (hg.block _ (Array.getElem?_eq_some_iff.1 hZ).1 (by simp)).trans hZ
  clear hg
  have a2 := cell_of hA 2 _ rfl
  go_wp2_with fail
  have hC := hh.out.grown hG (by simp)
  clear a2
  refine (Quiet.grown ((hm W2 hC).out)).mono ?_
  rintro e W3 ⟨rfl, hg⟩
  replace hG := grown_trans hG hg
  replace hC := hC.grown hg (by simp)
  replace hX := (hg.block _ (Array.getElem?_eq_some_iff.1 hX).1 (by simp)).trans hX
  replace hZ := (hg.block _ (Array.getElem?_eq_some_iff.1 hZ).1 (by simp)).trans hZ
  clear hg hA hl hm hLL hh W2
  obtain ⟨W2, rfl⟩ : ∃ W2 : World, W2 = W3 := ⟨_, rfl⟩
  have hl : w.heap.size + 1 + 1 < W2.heap.size := (Array.getElem?_eq_some_iff.1 hZ).1
  obtain ⟨y0, y1, y2, y3, y4, y5, y6, y7, y8, y9, y10, y11, y12, y13, y14⟩ := rcells_all hX
  obtain ⟨z0, z1, z2, z3, z4, z5, z6, z7, z8, z9, z10, z11, z12, z13, z14⟩ := cells15 hZ
  obtain ⟨f0, f1, f2, f3, f4, f5, f6, f7, f8, f9, f10, f11, f12, f13, f14⟩ := free15 hZ
  dsimp only at y0 y1 y2 y3 y4 y5 y6 y7 y8 y9 y10 y11 y12 y13 y14
  go_wp2_with fail
  go_region
  clear y0 y1 y2 y3 y4 y5 y6 y7 y8 y9 y10 y11 y12 y13 y14 z0 z1 z2 z3 z4 z5 z6 z7 z8 z9 z10 z11 z12 z13 z14 f0 f1 f2 f3 f4 f5 f6 f7 f8 f9 f10 f11 f12 f13 f14
  have HZ := Lib.hid hZ
  have HC := Lib.hid (hblk hC)
  have HG := Lib.hid hG
  clear hZ hX hC hG
  go_wp2
  refine bodyPost_ret (results_row3 (t := 37) rfl _ _ (w.heap.size + 1 + 1) (Ck.rcells ⟨⟨sa, ma, pa, da⟩, ⟨sb, mb, pb, db⟩, sd, used, since, last, runs⟩ L r) _ rfl ?_ Try.underlying37 rfl size37) rfl ⟨rfl, ?_, ?_⟩
  · apply blk_at
    · repeat (with_reducible first | exact HZ.out | apply blk_drew | apply blk_set)
    · exact zeros_set _ _ _ _ _ _ _ _ _ _ _ _ _ _ _
  · unfold ClkAt
    repeat (with_reducible first | exact HC.out | apply blk_drew | (refine blk_other ?_ (by dsimp only; omega) _))
  · repeat (with_reducible first | exact HG.out | apply grown_drew | (refine grown_setN ?_ (by dsimp only; omega) _))
set_option maxHeartbeats 4000000 in
set_option maxRecDepth 100000 in
theorem step_4a1 {w : World} {b : Nat} {L : Ctl} {c : Ck} (r : Rf) (now time : Int) (h : ClkAt w b L c) (hL : CtlAt w L) (hP : PerAt w L.ps r.pb r.off) (hI : Inv L c) (ht : c.intime now = false) (t : now < c.last) :
    Calls Try.prog 22 #[.pointer (some ⟨b, 0, none⟩), .agg (c.rcells L r), .agg #[.int .i64 4, .int .i64 now, .int .i64 0, .int .i64 time]] w fun e w' =>
      e = .returned (SV L r b c) ∧ ClkAt w' b L c ∧ w.grownBy w' none := by
  have hl := fun W (hc : ClkAt W b L c) (hl : CtlAt W L) => Lib.hid (left_i false 0 now rfl hc hl hI _ (leftV_f ht))
  skip
  have hb : b < w.heap.size := (Array.getElem?_eq_some_iff.1 h).1
  have hh := Lib.hid h
  have hLL := Lib.hid hL
  obtain ⟨⟨sa, ma, pa, da⟩, ⟨sb, mb, pb, db⟩, sd, used, since, last, runs⟩ := c
  dsimp only [SV, Ck.rcells]
  clear hI
  go_enter Try.func22, Try.ntmps22
  go_wp2_with fail
  refine wp_forget_calls (fun W => w.grownBy W none ∧ W.heap[w.heap.size]? = some (.cells (Ck.rcells ⟨⟨sa, ma, pa, da⟩, ⟨sb, mb, pb, db⟩, sd, used, since, last, runs⟩ L r) 37 (0, 0)) ∧ W.heap[w.heap.size + 1]? = some (.cells #[.int .i64 4, .int .i64 now, .int .i64 0, .int .i64 time] 56 (0, 0)) ∧
    W.heap[w.heap.size + 1 + 1]? = some (.cells zeros 37 (0, 0))) ⟨?_, ?_, ?_, ?_⟩ ?_
  · repeat (first | exact grown_refl _ _ | refine grown_alloc ?_ _)
  · exact blk_alloc (blk_alloc (blk_alloc (blk_new (by simp) _) _) _) _
  · exact blk_alloc (blk_alloc (blk_new (by simp) _) _) _
  · exact blk_alloc (blk_new (by simp) _) _
  rintro W ⟨hG, hX, hA, hZ⟩
  refine (Quiet.grown ((hl W (hh.out.grown hG (by simp)) (hLL.out.grown hG (by simp) (by simp))).out)).mono ?_
  rintro e W2 ⟨rfl, hg⟩
  replace hG := grown_trans hG hg
  replace hX := (hg.block _ (Array.getElem?_eq_some_iff.1 hX).1 (by simp)).trans hX
  replace hA := (hg.block _ (Array.getElem?_eq_some_iff.1 hA).1 (by simp)).trans hA
  replace hZ := (hg.block _ (Array.getElem?_eq_some_iff.1 hZ).1 (by simp)).trans hZ
  clear hg
  have a1 := cell_of hA 1 _ rfl
  have a2 := cell_of hA 2 _ rfl
  have hC := hh.out.grown hG (by simp)
  clear hl hh
  have hl : w.heap.size + 1 + 1 < W2.heap.size := (Array.getElem?_eq_some_iff.1 hZ).1
  obtain ⟨y0, y1, y2, y3, y4, y5, y6, y7, y8, y9, y10, y11, y12, y13, y14⟩ := rcells_all hX
  obtain ⟨z0, z1, z2, z3, z4, z5, z6, z7, z8, z9, z10, z11, z12, z13, z14⟩ := cells15 hZ
  obtain ⟨f0, f1, f2, f3, f4, f5, f6, f7, f8, f9, f10, f11, f12, f13, f14⟩ := free15 hZ
  dsimp only at y0 y1 y2 y3 y4 y5 y6 y7 y8 y9 y10 y11 y12 y13 y14
  clear ht
  go_wp2_with fail
  clear hA a1 a2
  go_region
  clear y0 y1 y2 y3 y4 y5 y6 y7 y8 y9 y10 y11 y12 y13 y14 z0 z1 z2 z3 z4 z5 z6 z7 z8 z9 z10 z11 z12 z13 z14 f0 f1 f2 f3 f4 f5 f6 f7 f8 f9 f10 f11 f12 f13 f14
  have HZ := Lib.hid hZ
  have HC := Lib.hid (hblk hC)
  have HG := Lib.hid hG
  clear hZ hX hC hG
  go_wp2
  refine bodyPost_ret (results_row3 (t := 37) rfl _ _ (w.heap.size + 1 + 1) (Ck.rcells ⟨⟨sa, ma, pa, da⟩, ⟨sb, mb, pb, db⟩, sd, used, since, last, runs⟩ L r) _ rfl ?_ Try.underlying37 rfl size37) rfl ⟨rfl, ?_, ?_⟩
  · apply blk_at
    · repeat (with_reducible first | exact HZ.out | apply blk_drew | apply blk_set)
    · exact zeros_set _ _ _ _ _ _ _ _ _ _ _ _ _ _ _
  · unfold ClkAt
    repeat (with_reducible first | exact HC.out | apply blk_drew | (refine blk_other ?_ (by dsimp only; omega) _))
  · repeat (with_reducible first | exact HG.out | apply grown_drew | (refine grown_setN ?_ (by dsimp only; omega) _))
set_option maxHeartbeats 4000000 in
set_option maxRecDepth 100000 in
theorem step_4a2 {w : World} {b : Nat} {L : Ctl} {c : Ck} (r : Rf) (now time : Int) (h : ClkAt w b L c) (hL : CtlAt w L) (hP : PerAt w L.ps r.pb r.off) (hI : Inv L c) (ht : c.intime now = false) (t1 : c.last ≤ now) (t2 : 1099511627776 < now) :
    Calls Try.prog 22 #[.pointer (some ⟨b, 0, none⟩), .agg (c.rcells L r), .agg #[.int .i64 4, .int .i64 now, .int .i64 0, .int .i64 time]] w fun e w' =>
      e = .returned (SV L r b c) ∧ ClkAt w' b L c ∧ w.grownBy w' none := by
  have hl := fun W (hc : ClkAt W b L c) (hl : CtlAt W L) => Lib.hid (left_i false 0 now rfl hc hl hI _ (leftV_f ht))
  skip
  have hb : b < w.heap.size := (Array.getElem?_eq_some_iff.1 h).1
  have hh := Lib.hid h
  have hLL := Lib.hid hL
  obtain ⟨⟨sa, ma, pa, da⟩, ⟨sb, mb, pb, db⟩, sd, used, since, last, runs⟩ := c
  dsimp only [SV, Ck.rcells]
  clear hI
  go_enter Try.func22, Try.ntmps22
  go_wp2_with fail
  refine wp_forget_calls (fun W => w.grownBy W none ∧ W.heap[w.heap.size]? = some (.cells (Ck.rcells ⟨⟨sa, ma, pa, da⟩, ⟨sb, mb, pb, db⟩, sd, used, since, last, runs⟩ L r) 37 (0, 0)) ∧ W.heap[w.heap.size + 1]? = some (.cells #[.int .i64 4, .int .i64 now, .int .i64 0, .int .i64 time] 56 (0, 0)) ∧
    W.heap[w.heap.size + 1 + 1]? = some (.cells zeros 37 (0, 0))) ⟨?_, ?_, ?_, ?_⟩ ?_
  · repeat (first | exact grown_refl _ _ | refine grown_alloc ?_ _)
  · exact blk_alloc (blk_alloc (blk_alloc (blk_new (by simp) _) _) _) _
  · exact blk_alloc (blk_alloc (blk_new (by simp) _) _) _
  · exact blk_alloc (blk_new (by simp) _) _
  rintro W ⟨hG, hX, hA, hZ⟩
  refine (Quiet.grown ((hl W (hh.out.grown hG (by simp)) (hLL.out.grown hG (by simp) (by simp))).out)).mono ?_
  rintro e W2 ⟨rfl, hg⟩
  replace hG := grown_trans hG hg
  replace hX := (hg.block _ (Array.getElem?_eq_some_iff.1 hX).1 (by simp)).trans hX
  replace hA := (hg.block _ (Array.getElem?_eq_some_iff.1 hA).1 (by simp)).trans hA
  replace hZ := (hg.block _ (Array.getElem?_eq_some_iff.1 hZ).1 (by simp)).trans hZ
  clear hg
  have a1 := cell_of hA 1 _ rfl
  have a2 := cell_of hA 2 _ rfl
  have hC := hh.out.grown hG (by simp)
  clear hl hh
  have hl : w.heap.size + 1 + 1 < W2.heap.size := (Array.getElem?_eq_some_iff.1 hZ).1
  obtain ⟨y0, y1, y2, y3, y4, y5, y6, y7, y8, y9, y10, y11, y12, y13, y14⟩ := rcells_all hX
  obtain ⟨z0, z1, z2, z3, z4, z5, z6, z7, z8, z9, z10, z11, z12, z13, z14⟩ := cells15 hZ
  obtain ⟨f0, f1, f2, f3, f4, f5, f6, f7, f8, f9, f10, f11, f12, f13, f14⟩ := free15 hZ
  dsimp only at y0 y1 y2 y3 y4 y5 y6 y7 y8 y9 y10 y11 y12 y13 y14
  clear ht
  go_wp2_with fail
  clear hA a1 a2
  go_region
  clear y0 y1 y2 y3 y4 y5 y6 y7 y8 y9 y10 y11 y12 y13 y14 z0 z1 z2 z3 z4 z5 z6 z7 z8 z9 z10 z11 z12 z13 z14 f0 f1 f2 f3 f4 f5 f6 f7 f8 f9 f10 f11 f12 f13 f14
  have HZ := Lib.hid hZ
  have HC := Lib.hid (hblk hC)
  have HG := Lib.hid hG
  clear hZ hX hC hG
  go_wp2
  refine bodyPost_ret (results_row3 (t := 37) rfl _ _ (w.heap.size + 1 + 1) (Ck.rcells ⟨⟨sa, ma, pa, da⟩, ⟨sb, mb, pb, db⟩, sd, used, since, last, runs⟩ L r) _ rfl ?_ Try.underlying37 rfl size37) rfl ⟨rfl, ?_, ?_⟩
  · apply blk_at
    · repeat (with_reducible first | exact HZ.out | apply blk_drew | apply blk_set)
    · exact zeros_set _ _ _ _ _ _ _ _ _ _ _ _ _ _ _
  · unfold ClkAt
    repeat (with_reducible first | exact HC.out | apply blk_drew | (refine blk_other ?_ (by dsimp only; omega) _))
  · repeat (with_reducible first | exact HG.out | apply grown_drew | (refine grown_setN ?_ (by dsimp only; omega) _))
set_option maxHeartbeats 4000000 in
set_option maxRecDepth 100000 in
theorem step_4b1 {w : World} {b : Nat} {L : Ctl} {c : Ck} (r : Rf) (now time : Int) (h : ClkAt w b L c) (hL : CtlAt w L) (hP : PerAt w L.ps r.pb r.off) (hI : Inv L c) (ht : c.intime now = false) (t : now < c.last) :
    Calls Try.prog 22 #[.pointer (some ⟨b, 0, none⟩), .agg (c.rcells L r), .agg #[.int .i64 4, .int .i64 now, .int .i64 1, .int .i64 time]] w fun e w' =>
      e = .returned (SV L r b c) ∧ ClkAt w' b L c ∧ w.grownBy w' none := by
  have hl := fun W (hc : ClkAt W b L c) (hl : CtlAt W L) => Lib.hid (left_i true 1 now rfl hc hl hI _ (leftV_f ht))
  skip
  have hb : b < w.heap.size := (Array.getElem?_eq_some_iff.1 h).1
  have hh := Lib.hid h
  have hLL := Lib.hid hL
  obtain ⟨⟨sa, ma, pa, da⟩, ⟨sb, mb, pb, db⟩, sd, used, since, last, runs⟩ := c
  dsimp only [SV, Ck.rcells]
  clear hI
  go_enter Try.func22, Try.ntmps22
  go_wp2_with fail
  refine wp_forget_calls (fun W => w.grownBy W none ∧ W.heap[w.heap.size]? = some (.cells (Ck.rcells ⟨⟨sa, ma, pa, da⟩, ⟨sb, mb, pb, db⟩, sd, used, since, last, runs⟩ L r) 37 (0, 0)) ∧ W.heap[w.heap.size + 1]? = some (.cells #[.int .i64 4, .int .i64 now, .int .i64 1, .int .i64 time] 56 (0, 0)) ∧
    W.heap[w.heap.size + 1 + 1]? = some (.cells zeros 37 (0, 0))) ⟨?_, ?_, ?_, ?_⟩ ?_
  · repeat (first | exact grown_refl _ _ | refine grown_alloc ?_ _)
  · exact blk_alloc (blk_alloc (blk_alloc (blk_new (by simp) _) _) _) _
  · exact blk_alloc (blk_alloc (blk_new (by simp) _) _) _
  · exact blk_alloc (blk_new (by simp) _) _
  rintro W ⟨hG, hX, hA, hZ⟩
  refine (Quiet.grown ((hl W (hh.out.grown hG (by simp)) (hLL.out.grown hG (by simp) (by simp))).out)).mono ?_
  rintro e W2 ⟨rfl, hg⟩
  replace hG := grown_trans hG hg
  replace hX := (hg.block _ (Array.getElem?_eq_some_iff.1 hX).1 (by simp)).trans hX
  replace hA := (hg.block _ (Array.getElem?_eq_some_iff.1 hA).1 (by simp)).trans hA
  replace hZ := (hg.block _ (Array.getElem?_eq_some_iff.1 hZ).1 (by simp)).trans hZ
  clear hg
  have a1 := cell_of hA 1 _ rfl
  have a2 := cell_of hA 2 _ rfl
  have hC := hh.out.grown hG (by simp)
  clear hl hh
  have hl : w.heap.size + 1 + 1 < W2.heap.size := (Array.getElem?_eq_some_iff.1 hZ).1
  obtain ⟨y0, y1, y2, y3, y4, y5, y6, y7, y8, y9, y10, y11, y12, y13, y14⟩ := rcells_all hX
  obtain ⟨z0, z1, z2, z3, z4, z5, z6, z7, z8, z9, z10, z11, z12, z13, z14⟩ := cells15 hZ
  obtain ⟨f0, f1, f2, f3, f4, f5, f6, f7, f8, f9, f10, f11, f12, f13, f14⟩ := free15 hZ
  dsimp only at y0 y1 y2 y3 y4 y5 y6 y7 y8 y9 y10 y11 y12 y13 y14
  clear ht
  go_wp2_with fail
  clear hA a1 a2
  go_region
  clear y0 y1 y2 y3 y4 y5 y6 y7 y8 y9 y10 y11 y12 y13 y14 z0 z1 z2 z3 z4 z5 z6 z7 z8 z9 z10 z11 z12 z13 z14 f0 f1 f2 f3 f4 f5 f6 f7 f8 f9 f10 f11 f12 f13 f14
  have HZ := Lib.hid hZ
  have HC := Lib.hid (hblk hC)
  have HG := Lib.hid hG
  clear hZ hX hC hG
  go_wp2
  refine bodyPost_ret (results_row3 (t := 37) rfl _ _ (w.heap.size + 1 + 1) (Ck.rcells ⟨⟨sa, ma, pa, da⟩, ⟨sb, mb, pb, db⟩, sd, used, since, last, runs⟩ L r) _ rfl ?_ Try.underlying37 rfl size37) rfl ⟨rfl, ?_, ?_⟩
  · apply blk_at
    · repeat (with_reducible first | exact HZ.out | apply blk_drew | apply blk_set)
    · exact zeros_set _ _ _ _ _ _ _ _ _ _ _ _ _ _ _
  · unfold ClkAt
    repeat (with_reducible first | exact HC.out | apply blk_drew | (refine blk_other ?_ (by dsimp only; omega) _))
  · repeat (with_reducible first | exact HG.out | apply grown_drew | (refine grown_setN ?_ (by dsimp only; omega) _))
set_option maxHeartbeats 4000000 in
set_option maxRecDepth 100000 in
theorem step_4b2 {w : World} {b : Nat} {L : Ctl} {c : Ck} (r : Rf) (now time : Int) (h : ClkAt w b L c) (hL : CtlAt w L) (hP : PerAt w L.ps r.pb r.off) (hI : Inv L c) (ht : c.intime now = false) (t1 : c.last ≤ now) (t2 : 1099511627776 < now) :
    Calls Try.prog 22 #[.pointer (some ⟨b, 0, none⟩), .agg (c.rcells L r), .agg #[.int .i64 4, .int .i64 now, .int .i64 1, .int .i64 time]] w fun e w' =>
      e = .returned (SV L r b c) ∧ ClkAt w' b L c ∧ w.grownBy w' none := by
  have hl := fun W (hc : ClkAt W b L c) (hl : CtlAt W L) => Lib.hid (left_i true 1 now rfl hc hl hI _ (leftV_f ht))
  skip
  have hb : b < w.heap.size := (Array.getElem?_eq_some_iff.1 h).1
  have hh := Lib.hid h
  have hLL := Lib.hid hL
  obtain ⟨⟨sa, ma, pa, da⟩, ⟨sb, mb, pb, db⟩, sd, used, since, last, runs⟩ := c
  dsimp only [SV, Ck.rcells]
  clear hI
  go_enter Try.func22, Try.ntmps22
  go_wp2_with fail
  refine wp_forget_calls (fun W => w.grownBy W none ∧ W.heap[w.heap.size]? = some (.cells (Ck.rcells ⟨⟨sa, ma, pa, da⟩, ⟨sb, mb, pb, db⟩, sd, used, since, last, runs⟩ L r) 37 (0, 0)) ∧ W.heap[w.heap.size + 1]? = some (.cells #[.int .i64 4, .int .i64 now, .int .i64 1, .int .i64 time] 56 (0, 0)) ∧
    W.heap[w.heap.size + 1 + 1]? = some (.cells zeros 37 (0, 0))) ⟨?_, ?_, ?_, ?_⟩ ?_
  · repeat (first | exact grown_refl _ _ | refine grown_alloc ?_ _)
  · exact blk_alloc (blk_alloc (blk_alloc (blk_new (by simp) _) _) _) _
  · exact blk_alloc (blk_alloc (blk_new (by simp) _) _) _
  · exact blk_alloc (blk_new (by simp) _) _
  rintro W ⟨hG, hX, hA, hZ⟩
  refine (Quiet.grown ((hl W (hh.out.grown hG (by simp)) (hLL.out.grown hG (by simp) (by simp))).out)).mono ?_
  rintro e W2 ⟨rfl, hg⟩
  replace hG := grown_trans hG hg
  replace hX := (hg.block _ (Array.getElem?_eq_some_iff.1 hX).1 (by simp)).trans hX
  replace hA := (hg.block _ (Array.getElem?_eq_some_iff.1 hA).1 (by simp)).trans hA
  replace hZ := (hg.block _ (Array.getElem?_eq_some_iff.1 hZ).1 (by simp)).trans hZ
  clear hg
  have a1 := cell_of hA 1 _ rfl
  have a2 := cell_of hA 2 _ rfl
  have hC := hh.out.grown hG (by simp)
  clear hl hh
  have hl : w.heap.size + 1 + 1 < W2.heap.size := (Array.getElem?_eq_some_iff.1 hZ).1
  obtain ⟨y0, y1, y2, y3, y4, y5, y6, y7, y8, y9, y10, y11, y12, y13, y14⟩ := rcells_all hX
  obtain ⟨z0, z1, z2, z3, z4, z5, z6, z7, z8, z9, z10, z11, z12, z13, z14⟩ := cells15 hZ
  obtain ⟨f0, f1, f2, f3, f4, f5, f6, f7, f8, f9, f10, f11, f12, f13, f14⟩ := free15 hZ
  dsimp only at y0 y1 y2 y3 y4 y5 y6 y7 y8 y9 y10 y11 y12 y13 y14
  clear ht
  go_wp2_with fail
  clear hA a1 a2
  go_region
  clear y0 y1 y2 y3 y4 y5 y6 y7 y8 y9 y10 y11 y12 y13 y14 z0 z1 z2 z3 z4 z5 z6 z7 z8 z9 z10 z11 z12 z13 z14 f0 f1 f2 f3 f4 f5 f6 f7 f8 f9 f10 f11 f12 f13 f14
  have HZ := Lib.hid hZ
  have HC := Lib.hid (hblk hC)
  have HG := Lib.hid hG
  clear hZ hX hC hG
  go_wp2
  refine bodyPost_ret (results_row3 (t := 37) rfl _ _ (w.heap.size + 1 + 1) (Ck.rcells ⟨⟨sa, ma, pa, da⟩, ⟨sb, mb, pb, db⟩, sd, used, since, last, runs⟩ L r) _ rfl ?_ Try.underlying37 rfl size37) rfl ⟨rfl, ?_, ?_⟩
  · apply blk_at
    · repeat (with_reducible first | exact HZ.out | apply blk_drew | apply blk_set)
    · exact zeros_set _ _ _ _ _ _ _ _ _ _ _ _ _ _ _
  · unfold ClkAt
    repeat (with_reducible first | exact HC.out | apply blk_drew | (refine blk_other ?_ (by dsimp only; omega) _))
  · repeat (with_reducible first | exact HG.out | apply grown_drew | (refine grown_setN ?_ (by dsimp only; omega) _))
end Go.Proofs.Ytgigehlflgcdpaa
