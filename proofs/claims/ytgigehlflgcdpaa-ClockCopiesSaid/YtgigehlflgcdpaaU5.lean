/- One call on a clock and on the reference: step at Left in time. Conditions: the numbers are within bounds. -/
import Derived.Test.YtgigehlflgcdpaaU2
import Derived.Test.YtgigehlflgcdpaaK2
import Derived.Test.YtgigehlflgcdpaaQ2
import Derived.Deep.DeepCutAuto
set_option linter.unusedVariables false
set_option linter.unusedSimpArgs false
namespace Go.Proofs.Ytgigehlflgcdpaa
open Go.RowKit
theorem rsize3 (c : Ck) (L : Ctl) (r : Rf) : zeros.size = (c.rcells L r).toList.length := rfl
/-- two blocks stand -/
def Held2 (n : Nat) (A B : Obj) (W : World) : Prop := W.heap[n]? = some A ∧ W.heap[n + 1]? = some B
theorem below_of_grown {w W : World} (h : w.grownBy W none) : Below w.heap.size w W := ⟨h.os, h.tape, h.output, h.size, fun k hk => h.block k hk (by simp)⟩
set_option maxHeartbeats 1000000 in
set_option maxRecDepth 100000 in
theorem step_4at {w : World} {b : Nat} {L : Ctl} {c : Ck} (r : Rf) (now time : Int) (h : ClkAt w b L c) (hL : CtlAt w L) (hP : PerAt w L.ps r.pb r.off) (hI : Inv L c) (ht : c.intime now = true) (t1 : c.last ≤ now) (t2 : now ≤ 1099511627776) :
    Calls Try.prog 22 #[.pointer (some ⟨b, 0, none⟩), .agg (c.rcells L r), .agg #[.int .i64 4, .int .i64 now, .int .i64 0, .int .i64 time]] w fun e w' =>
      e = .returned (SV L r b c) ∧ ClkAt w' b L c ∧ w.grownBy w' none := by
  have hl := fun W (hc : ClkAt W b L c) (hl : CtlAt W L) => Lib.hid (left_i false 0 now rfl hc hl hI _ (leftV_t ht))
  have hlr := fun W (hB : Below w.heap.size w W) => Lib.hid (leftr_i r false 0 now rfl (hP.below hB) hI t1 t2)
  have hb : b < w.heap.size := (Array.getElem?_eq_some_iff.1 h).1
  have hh := Lib.hid h
  have hLL := Lib.hid hL
  obtain ⟨⟨sa, ma, pa, da⟩, ⟨sb, mb, pb, db⟩, sd, used, since, last, runs⟩ := c
  dsimp only [SV, Ck.rcells]
  clear hI
  go_enter Try.func22, Try.ntmps22
  go_wp2_with fail
  refine wp_forget_calls (fun W => w.grownBy W none ∧ W.heap[w.heap.size]? = some (.cells (Ck.rcells ⟨⟨sa, ma, pa, da⟩, ⟨sb, mb, pb, db⟩, sd, used, since, last, runs⟩ L r) 37 (0, 0)) ∧ W.heap[w.heap.size + 1]? = some (.cells #[.int .i64 4, .int .i64 now, .int .i64 0, .int .i64 time] 56 (0, 0)) ∧
    W.heap[w.heap.size + 1 + 1]? = some (.cells zeros 37 (0, 0))) ⟨?_, ?_, ?_, ?_⟩ ?_
  · repeat (first | exact grown_refl _ _ | refine grown_alloc ?_ _)
  · exact blk_alloc (blk_alloc (blk_alloc (blk_new (by simp) _) _) _) _
  · exact blk_alloc (blk_alloc (blk_new (by simp) _) _) _
  · exact blk_alloc (blk_new (by simp) _) _
  rintro W ⟨hG, hX, hA, hZ⟩
  refine (Quiet.grown ((hl W (hh.out.grown hG (by simp)) (hLL.out.grown hG (by simp) (by simp))).out)).mono ?_
  rintro e W2 ⟨rfl, hg⟩
  replace hG := grown_trans hG hg
  replace hX := (hg.block _ (Array.getElem?_eq_some_iff.1 hX).1 (by simp)).trans hX
  replace hA := (hg.block _ (Array.getElem?_eq_some_iff.1 hA).1 (by simp)).trans hA
  replace hZ := (hg.block _ (Array.getElem?_eq_some_iff.1 hZ).1 (by simp)).trans hZ
  clear hg
  have a1 := cell_of hA 1 _ rfl
  have a2 := cell_of hA 2 _ rfl
  have hC := hh.out.grown hG (by simp)
  clear hl hh
  have hl : w.heap.size + 1 + 1 < W2.heap.size := (Array.getElem?_eq_some_iff.1 hZ).1
  obtain ⟨y0, y1, y2, y3, y4, y5, y6, y7, y8, y9, y10, y11, y12, y13, y14⟩ := rcells_all hX
  obtain ⟨z0, z1, z2, z3, z4, z5, z6, z7, z8, z9, z10, z11, z12, z13, z14⟩ := cells15 hZ
  obtain ⟨f0, f1, f2, f3, f4, f5, f6, f7, f8, f9, f10, f11, f12, f13, f14⟩ := free15 hZ
  dsimp only at y0 y1 y2 y3 y4 y5 y6 y7 y8 y9 y10 y11 y12 y13 y14
  clear ht
  generalize Ck.left L _ false now = lf at *
  dsimp only [Ck.rcells] at hlr
  go_upto_region 29 with (fail)
  have HZ := Lib.hid hZ
  have HC := Lib.hid (hblk hC)
  have HG := Lib.hid hG
  have hS0 : Held2 w.heap.size (.cells (Ck.rcells ⟨⟨sa, ma, pa, da⟩, ⟨sb, mb, pb, db⟩, sd, used, since, last, runs⟩ L r) 37 (0, 0)) (.cells #[.int .i64 4, .int .i64 now, .int .i64 0, .int .i64 time] 56 (0, 0)) W2.drew := ⟨blk_drew hX, blk_drew hA⟩
  have HB := Lib.hid (below_of_grown hG)
  clear hZ hC hG hX hA hl y0 y1 y2 y3 y4 y5 y6 y7 y8 y9 y10 y11 y12 y13 y14 z0 z1 z2 z3 z4 z5 z6 z7 z8 z9 z10 z11 z12 z13 z14 f0 f1 f2 f3 f4 f5 f6 f7 f8 f9 f10 f11 f12 f13 f14
  refine wp_region_held_drew (S := Held2 w.heap.size (.cells (Ck.rcells ⟨⟨sa, ma, pa, da⟩, ⟨sb, mb, pb, db⟩, sd, used, since, last, runs⟩ L r) 37 (0, 0)) (.cells #[.int .i64 4, .int .i64 now, .int .i64 0, .int .i64 time] 56 (0, 0))) (by kernel_rfl) hS0 ?_
  intro hS
  refine wpAnyH_take (i := 0) (v := .pointer (some ⟨b, 0, none⟩)) rfl (by kernel_rfl) (by kernel_rfl) (by kernel_rfl) (fun _ _ _ h => h) (.inl ⟨by rfl, fun w' _ => by go_simp⟩) hS ?_
  refine wpAnyH_take (i := 1) rfl (by kernel_rfl) (by kernel_rfl) (by kernel_rfl) (fun _ _ _ h => h) (yields_row 37 (.tmp 4) rfl rfl w.heap.size (by go_simp) 37 (Ck.rcells ⟨⟨sa, ma, pa, da⟩, ⟨sb, mb, pb, db⟩, sd, used, since, last, runs⟩ L r) (0, 0) _ (fun _ h => h.1) Try.underlying37 rfl size37) hS ?_
  refine wpAnyH_take (i := 2) (v := .int .i64 lf) rfl (by kernel_rfl) (by kernel_rfl) (by kernel_rfl) (fun _ _ _ h => h) (.inl ⟨by rfl, fun w' _ => by go_simp⟩) hS ?_
  refine wpAnyH_take (i := 3) rfl (by kernel_rfl) (by kernel_rfl) (by kernel_rfl) (fun _ _ _ h => h) (yields_row 37 (.tmp 4) rfl rfl w.heap.size (by go_simp) 37 (Ck.rcells ⟨⟨sa, ma, pa, da⟩, ⟨sb, mb, pb, db⟩, sd, used, since, last, runs⟩ L r) (0, 0) _ (fun _ h => h.1) Try.underlying37 rfl size37) hS ?_
  refine wpAnyH_take (i := 4) (v := .pointer (some ⟨w.heap.size + 1, 2, none⟩)) rfl (by kernel_rfl) (by kernel_rfl) (by kernel_rfl) (fun _ _ _ h => h) (.inl ⟨by rfl, fun w' _ => by go_simp⟩) hS ?_
  refine wpAnyH_take (i := 5) (v := .int .i64 0) rfl (by kernel_rfl) (by kernel_rfl) (by kernel_rfl) (fun _ _ _ h => h) (.inl ⟨by rfl, fun w' hh => by have hq := cell_of (show _ from And.right hh) 2 (.int .i64 0) rfl; clear hh; go_simp⟩) hS ?_
  refine wpAnyH_take (i := 6) (v := .pointer (some ⟨w.heap.size + 1, 1, none⟩)) rfl (by kernel_rfl) (by kernel_rfl) (by kernel_rfl) (fun _ _ _ h => h) (.inl ⟨by rfl, fun w' _ => by go_simp⟩) hS ?_
  refine wpAnyH_take (i := 7) (v := .int .i64 now) rfl (by kernel_rfl) (by kernel_rfl) (by kernel_rfl) (fun _ _ _ h => h) (.inl ⟨by rfl, fun w' hh => by have hq := cell_of (show _ from And.right hh) 1 (.int .i64 now) rfl; clear hh; go_simp⟩) hS ?_
  refine wpAnyH_only (i := 8) (by kernel_rfl) rfl (by rfl) ?_
  intro K hK
  unfold Oper.wp
  go_simp
  refine (hlr _ HB.out.drew).out.mono ?_
  rintro e V ⟨rfl, hV⟩
  have hS2 : Held2 w.heap.size (.cells (Ck.rcells ⟨⟨sa, ma, pa, da⟩, ⟨sb, mb, pb, db⟩, sd, used, since, last, runs⟩ L r) 37 (0, 0)) (.cells #[.int .i64 4, .int .i64 now, .int .i64 0, .int .i64 time] 56 (0, 0)) V := ⟨below_blk hV hS.1, below_blk hV hS.2⟩
  have HZ2 := Lib.hid (below_blk hV (blk_drew HZ.out))
  have HC2 := Lib.hid (below_blk hV (blk_drew HC.out))
  have HG2 := Lib.hid (grown_trans (grown_drew HG.out) (below_grown2 hV))
  clear HZ HC HG HB hS hlr
  refine hK.out _ _ hS2 ?_
  clear hK
  refine wpAnyH_take (i := 9) (v := .bool true) rfl (by kernel_rfl) (by kernel_rfl) (by kernel_rfl) (fun _ _ _ h => h) (.inl ⟨by rfl, fun w' _ => by go_simp⟩) hS2 ?_
  refine wpAnyH_take (i := 10) (v := .bool true) rfl (by kernel_rfl) (by kernel_rfl) (by kernel_rfl) (fun _ _ _ h => h) (.inl ⟨by rfl, fun w' _ => by go_simp⟩) hS2 ?_
  refine wpAnyH_take (i := 11) (v := .int .i64 0) rfl (by kernel_rfl) (by kernel_rfl) (by kernel_rfl) (fun _ _ _ h => h) (.inl ⟨by rfl, fun w' _ => by go_simp⟩) hS2 ?_
  refine wpAnyH_take (i := 12) (v := .bool true) rfl (by kernel_rfl) (by kernel_rfl) (by kernel_rfl) (fun _ _ _ h => h) (.inl ⟨by rfl, fun w' _ => by go_simp⟩) hS2 ?_
  refine wpAnyH_take (i := 13) (v := .bool true) rfl (by kernel_rfl) (by kernel_rfl) (by kernel_rfl) (fun _ _ _ h => h) (.inl ⟨by rfl, fun w' _ => by go_simp⟩) hS2 ?_
  refine wpAnyH_take (i := 14) (v := .pointer (some ⟨b, 0, none⟩)) rfl (by kernel_rfl) (by kernel_rfl) (by kernel_rfl) (fun _ _ _ h => h) (.inl ⟨by rfl, fun w' _ => by go_simp⟩) hS2 ?_
  refine wpAnyH_store (i := 15) 37 (.tmp 7) (.tmp 165) (by kernel_rfl) (by rfl) (Ck.rcells ⟨⟨sa, ma, pa, da⟩, ⟨sb, mb, pb, db⟩, sd, used, since, last, runs⟩ L r) (by go_simp) (by go_simp) zeros HZ2.out rfl size37 (one37 _ _ _) ⟨(setCells_other (by omega) _ _ _).trans hS2.1, (setCells_other (by omega) _ _ _).trans hS2.2⟩ ?_
  have hS3' : Held2 w.heap.size (.cells (Ck.rcells ⟨⟨sa, ma, pa, da⟩, ⟨sb, mb, pb, db⟩, sd, used, since, last, runs⟩ L r) 37 (0, 0)) (.cells #[.int .i64 4, .int .i64 now, .int .i64 0, .int .i64 time] 56 (0, 0)) (V.setCells (w.heap.size + 1 + 1) 0 (Ck.rcells ⟨⟨sa, ma, pa, da⟩, ⟨sb, mb, pb, db⟩, sd, used, since, last, runs⟩ L r).toList) := ⟨(setCells_other (by omega) _ _ _).trans hS2.1, (setCells_other (by omega) _ _ _).trans hS2.2⟩
  have hlz : w.heap.size + 1 + 1 < V.heap.size := (Array.getElem?_eq_some_iff.1 HZ2.out).1
  have HZ3 := Lib.hid (setCells_same (vs := (Ck.rcells ⟨⟨sa, ma, pa, da⟩, ⟨sb, mb, pb, db⟩, sd, used, since, last, runs⟩ L r).toList) HZ2.out (rsize3 _ _ _))
  have HC3 : Hid (ClkAt (V.setCells (w.heap.size + 1 + 1) 0 (Ck.rcells ⟨⟨sa, ma, pa, da⟩, ⟨sb, mb, pb, db⟩, sd, used, since, last, runs⟩ L r).toList) b L ⟨⟨sa, ma, pa, da⟩, ⟨sb, mb, pb, db⟩, sd, used, since, last, runs⟩) := Lib.hid ((setCells_other (by omega) _ _ _).trans HC2.out)
  have HG3 := Lib.hid (grown_setCells (g := w.heap.size + 1 + 1) (by omega) (Ck.rcells ⟨⟨sa, ma, pa, da⟩, ⟨sb, mb, pb, db⟩, sd, used, since, last, runs⟩ L r).toList 0 V HG2.out)
  clear HZ2 HC2 HG2
  generalize V.setCells (w.heap.size + 1 + 1) 0 (Ck.rcells ⟨⟨sa, ma, pa, da⟩, ⟨sb, mb, pb, db⟩, sd, used, since, last, runs⟩ L r).toList = V3 at *
  refine wpAnyH_take (i := 16) (v := .bool true) rfl (by kernel_rfl) (by kernel_rfl) (by kernel_rfl) (fun _ _ _ h => h) (.inl ⟨by rfl, fun w' _ => by go_simp⟩) hS3' ?_
  refine wpAnyH_done (by kernel_rfl) ?_ _
  go_simp
  clear hS2 hS3'
  go_wp2
  exact bodyPost_ret (results_row3 (t := 37) rfl _ _ (w.heap.size + 1 + 1) _ _ rfl HZ3.out Try.underlying37 rfl size37) rfl ⟨rfl, HC3.out, HG3.out⟩
set_option maxHeartbeats 1000000 in
set_option maxRecDepth 100000 in
theorem step_4bt {w : World} {b : Nat} {L : Ctl} {c : Ck} (r : Rf) (now time : Int) (h : ClkAt w b L c) (hL : CtlAt w L) (hP : PerAt w L.ps r.pb r.off) (hI : Inv L c) (ht : c.intime now = true) (t1 : c.last ≤ now) (t2 : now ≤ 1099511627776) :
    Calls Try.prog 22 #[.pointer (some ⟨b, 0, none⟩), .agg (c.rcells L r), .agg #[.int .i64 4, .int .i64 now, .int .i64 1, .int .i64 time]] w fun e w' =>
      e = .returned (SV L r b c) ∧ ClkAt w' b L c ∧ w.grownBy w' none := by
  have hl := fun W (hc : ClkAt W b L c) (hl : CtlAt W L) => Lib.hid (left_i true 1 now rfl hc hl hI _ (leftV_t ht))
  have hlr := fun W (hB : Below w.heap.size w W) => Lib.hid (leftr_i r true 1 now rfl (hP.below hB) hI t1 t2)
  have hb : b < w.heap.size := (Array.getElem?_eq_some_iff.1 h).1
  have hh := Lib.hid h
  have hLL := Lib.hid hL
  obtain ⟨⟨sa, ma, pa, da⟩, ⟨sb, mb, pb, db⟩, sd, used, since, last, runs⟩ := c
  dsimp only [SV, Ck.rcells]
  clear hI
  go_enter Try.func22, Try.ntmps22
  go_wp2_with fail
  refine wp_forget_calls (fun W => w.grownBy W none ∧ W.heap[w.heap.size]? = some (.cells (Ck.rcells ⟨⟨sa, ma, pa, da⟩, ⟨sb, mb, pb, db⟩, sd, used, since, last, runs⟩ L r) 37 (0, 0)) ∧ W.heap[w.heap.size + 1]? = some (.cells #[.int .i64 4, .int .i64 now, .int .i64 1, .int .i64 time] 56 (0, 0)) ∧
    W.heap[w.heap.size + 1 + 1]? = some (.cells zeros 37 (0, 0))) ⟨?_, ?_, ?_, ?_⟩ ?_
  · repeat (first | exact grown_refl _ _ | refine grown_alloc ?_ _)
  · exact blk_alloc (blk_alloc (blk_alloc (blk_new (by simp) _) _) _) _
  · exact blk_alloc (blk_alloc (blk_new (by simp) _) _) _
  · exact blk_alloc (blk_new (by simp) _) _
  rintro W ⟨hG, hX, hA, hZ⟩
  refine (Quiet.grown ((hl W (hh.out.grown hG (by simp)) (hLL.out.grown hG (by simp) (by simp))).out)).mono ?_
  rintro e W2 ⟨rfl, hg⟩
  replace hG := grown_trans hG hg
  replace hX := (hg.block _ (Array.getElem?_eq_some_iff.1 hX).1 (by simp)).trans hX
  replace hA := (hg.block _ (Array.getElem?_eq_some_iff.1 hA).1 (by simp)).trans hA
  replace hZ := (hg.block _ (Array.getElem?_eq_some_iff.1 hZ).1 (by simp)).trans hZ
  clear hg
  have a1 := cell_of hA 1 _ rfl
  have a2 := cell_of hA 2 _ rfl
  have hC := hh.out.grown hG (by simp)
  clear hl hh
  have hl : w.heap.size + 1 + 1 < W2.heap.size := (Array.getElem?_eq_some_iff.1 hZ).1
  obtain ⟨y0, y1, y2, y3, y4, y5, y6, y7, y8, y9, y10, y11, y12, y13, y14⟩ := rcells_all hX
  obtain ⟨z0, z1, z2, z3, z4, z5, z6, z7, z8, z9, z10, z11, z12, z13, z14⟩ := cells15 hZ
  obtain ⟨f0, f1, f2, f3, f4, f5, f6, f7, f8, f9, f10, f11, f12, f13, f14⟩ := free15 hZ
  dsimp only at y0 y1 y2 y3 y4 y5 y6 y7 y8 y9 y10 y11 y12 y13 y14
  clear ht
  generalize Ck.left L _ true now = lf at *
  dsimp only [Ck.rcells] at hlr
  go_upto_region 29 with (fail)
  have HZ := Lib.hid hZ
  have HC := Lib.hid (hblk hC)
  have HG := Lib.hid hG
  have hS0 : Held2 w.heap.size (.cells (Ck.rcells ⟨⟨sa, ma, pa, da⟩, ⟨sb, mb, pb, db⟩, sd, used, since, last, runs⟩ L r) 37 (0, 0)) (.cells #[.int .i64 4, .int .i64 now, .int .i64 1, .int .i64 time] 56 (0, 0)) W2.drew := ⟨blk_drew hX, blk_drew hA⟩
  have HB := Lib.hid (below_of_grown hG)
  clear hZ hC hG hX hA hl y0 y1 y2 y3 y4 y5 y6 y7 y8 y9 y10 y11 y12 y13 y14 z0 z1 z2 z3 z4 z5 z6 z7 z8 z9 z10 z11 z12 z13 z14 f0 f1 f2 f3 f4 f5 f6 f7 f8 f9 f10 f11 f12 f13 f14
  refine wp_region_held_drew (S := Held2 w.heap.size (.cells (Ck.rcells ⟨⟨sa, ma, pa, da⟩, ⟨sb, mb, pb, db⟩, sd, used, since, last, runs⟩ L r) 37 (0, 0)) (.cells #[.int .i64 4, .int .i64 now, .int .i64 1, .int .i64 time] 56 (0, 0))) (by kernel_rfl) hS0 ?_
  intro hS
  refine wpAnyH_take (i := 0) (v := .pointer (some ⟨b, 0, none⟩)) rfl (by kernel_rfl) (by kernel_rfl) (by kernel_rfl) (fun _ _ _ h => h) (.inl ⟨by rfl, fun w' _ => by go_simp⟩) hS ?_
  refine wpAnyH_take (i := 1) rfl (by kernel_rfl) (by kernel_rfl) (by kernel_rfl) (fun _ _ _ h => h) (yields_row 37 (.tmp 4) rfl rfl w.heap.size (by go_simp) 37 (Ck.rcells ⟨⟨sa, ma, pa, da⟩, ⟨sb, mb, pb, db⟩, sd, used, since, last, runs⟩ L r) (0, 0) _ (fun _ h => h.1) Try.underlying37 rfl size37) hS ?_
  refine wpAnyH_take (i := 2) (v := .int .i64 lf) rfl (by kernel_rfl) (by kernel_rfl) (by kernel_rfl) (fun _ _ _ h => h) (.inl ⟨by rfl, fun w' _ => by go_simp⟩) hS ?_
  refine wpAnyH_take (i := 3) rfl (by kernel_rfl) (by kernel_rfl) (by kernel_rfl) (fun _ _ _ h => h) (yields_row 37 (.tmp 4) rfl rfl w.heap.size (by go_simp) 37 (Ck.rcells ⟨⟨sa, ma, pa, da⟩, ⟨sb, mb, pb, db⟩, sd, used, since, last, runs⟩ L r) (0, 0) _ (fun _ h => h.1) Try.underlying37 rfl size37) hS ?_
  refine wpAnyH_take (i := 4) (v := .pointer (some ⟨w.heap.size + 1, 2, none⟩)) rfl (by kernel_rfl) (by kernel_rfl) (by kernel_rfl) (fun _ _ _ h => h) (.inl ⟨by rfl, fun w' _ => by go_simp⟩) hS ?_
  refine wpAnyH_take (i := 5) (v := .int .i64 1) rfl (by kernel_rfl) (by kernel_rfl) (by kernel_rfl) (fun _ _ _ h => h) (.inl ⟨by rfl, fun w' hh => by have hq := cell_of (show _ from And.right hh) 2 (.int .i64 1) rfl; clear hh; go_simp⟩) hS ?_
  refine wpAnyH_take (i := 6) (v := .pointer (some ⟨w.heap.size + 1, 1, none⟩)) rfl (by kernel_rfl) (by kernel_rfl) (by kernel_rfl) (fun _ _ _ h => h) (.inl ⟨by rfl, fun w' _ => by go_simp⟩) hS ?_
  refine wpAnyH_take (i := 7) (v := .int .i64 now) rfl (by kernel_rfl) (by kernel_rfl) (by kernel_rfl) (fun _ _ _ h => h) (.inl ⟨by rfl, fun w' hh => by have hq := cell_of (show _ from And.right hh) 1 (.int .i64 now) rfl; clear hh; go_simp⟩) hS ?_
  refine wpAnyH_only (i := 8) (by kernel_rfl) rfl (by rfl) ?_
  intro K hK
  unfold Oper.wp
  go_simp
  refine (hlr _ HB.out.drew).out.mono ?_
  rintro e V ⟨rfl, hV⟩
  have hS2 : Held2 w.heap.size (.cells (Ck.rcells ⟨⟨sa, ma, pa, da⟩, ⟨sb, mb, pb, db⟩, sd, used, since, last, runs⟩ L r) 37 (0, 0)) (.cells #[.int .i64 4, .int .i64 now, .int .i64 1, .int .i64 time] 56 (0, 0)) V := ⟨below_blk hV hS.1, below_blk hV hS.2⟩
  have HZ2 := Lib.hid (below_blk hV (blk_drew HZ.out))
  have HC2 := Lib.hid (below_blk hV (blk_drew HC.out))
  have HG2 := Lib.hid (grown_trans (grown_drew HG.out) (below_grown2 hV))
  clear HZ HC HG HB hS hlr
  refine hK.out _ _ hS2 ?_
  clear hK
  refine wpAnyH_take (i := 9) (v := .bool true) rfl (by kernel_rfl) (by kernel_rfl) (by kernel_rfl) (fun _ _ _ h => h) (.inl ⟨by rfl, fun w' _ => by go_simp⟩) hS2 ?_
  refine wpAnyH_take (i := 10) (v := .bool true) rfl (by kernel_rfl) (by kernel_rfl) (by kernel_rfl) (fun _ _ _ h => h) (.inl ⟨by rfl, fun w' _ => by go_simp⟩) hS2 ?_
  refine wpAnyH_take (i := 11) (v := .int .i64 0) rfl (by kernel_rfl) (by kernel_rfl) (by kernel_rfl) (fun _ _ _ h => h) (.inl ⟨by rfl, fun w' _ => by go_simp⟩) hS2 ?_
  refine wpAnyH_take (i := 12) (v := .bool true) rfl (by kernel_rfl) (by kernel_rfl) (by kernel_rfl) (fun _ _ _ h => h) (.inl ⟨by rfl, fun w' _ => by go_simp⟩) hS2 ?_
  refine wpAnyH_take (i := 13) (v := .bool true) rfl (by kernel_rfl) (by kernel_rfl) (by kernel_rfl) (fun _ _ _ h => h) (.inl ⟨by rfl, fun w' _ => by go_simp⟩) hS2 ?_
  refine wpAnyH_take (i := 14) (v := .pointer (some ⟨b, 0, none⟩)) rfl (by kernel_rfl) (by kernel_rfl) (by kernel_rfl) (fun _ _ _ h => h) (.inl ⟨by rfl, fun w' _ => by go_simp⟩) hS2 ?_
  refine wpAnyH_store (i := 15) 37 (.tmp 7) (.tmp 165) (by kernel_rfl) (by rfl) (Ck.rcells ⟨⟨sa, ma, pa, da⟩, ⟨sb, mb, pb, db⟩, sd, used, since, last, runs⟩ L r) (by go_simp) (by go_simp) zeros HZ2.out rfl size37 (one37 _ _ _) ⟨(setCells_other (by omega) _ _ _).trans hS2.1, (setCells_other (by omega) _ _ _).trans hS2.2⟩ ?_
  have hS3' : Held2 w.heap.size (.cells (Ck.rcells ⟨⟨sa, ma, pa, da⟩, ⟨sb, mb, pb, db⟩, sd, used, since, last, runs⟩ L r) 37 (0, 0)) (.cells #[.int .i64 4, .int .i64 now, .int .i64 1, .int .i64 time] 56 (0, 0)) (V.setCells (w.heap.size + 1 + 1) 0 (Ck.rcells ⟨⟨sa, ma, pa, da⟩, ⟨sb, mb, pb, db⟩, sd, used, since, last, runs⟩ L r).toList) := ⟨(setCells_other (by omega) _ _ _).trans hS2.1, (setCells_other (by omega) _ _ _).trans hS2.2⟩
  have hlz : w.heap.size + 1 + 1 < V.heap.size := (Array.getElem?_eq_some_iff.1 HZ2.out).1
  have HZ3 := Lib.hid (setCells_same (vs := (Ck.rcells ⟨⟨sa, ma, pa, da⟩, ⟨sb, mb, pb, db⟩, sd, used, since, last, runs⟩ L r).toList) HZ2.out (rsize3 _ _ _))
  have HC3 : Hid (ClkAt (V.setCells (w.heap.size + 1 + 1) 0 (Ck.rcells ⟨⟨sa, ma, pa, da⟩, ⟨sb, mb, pb, db⟩, sd, used, since, last, runs⟩ L r).toList) b L ⟨⟨sa, ma, pa, da⟩, ⟨sb, mb, pb, db⟩, sd, used, since, last, runs⟩) := Lib.hid ((setCells_other (by omega) _ _ _).trans HC2.out)
  have HG3 := Lib.hid (grown_setCells (g := w.heap.size + 1 + 1) (by omega) (Ck.rcells ⟨⟨sa, ma, pa, da⟩, ⟨sb, mb, pb, db⟩, sd, used, since, last, runs⟩ L r).toList 0 V HG2.out)
  clear HZ2 HC2 HG2
  generalize V.setCells (w.heap.size + 1 + 1) 0 (Ck.rcells ⟨⟨sa, ma, pa, da⟩, ⟨sb, mb, pb, db⟩, sd, used, since, last, runs⟩ L r).toList = V3 at *
  refine wpAnyH_take (i := 16) (v := .bool true) rfl (by kernel_rfl) (by kernel_rfl) (by kernel_rfl) (fun _ _ _ h => h) (.inl ⟨by rfl, fun w' _ => by go_simp⟩) hS3' ?_
  refine wpAnyH_done (by kernel_rfl) ?_ _
  go_simp
  clear hS2 hS3'
  go_wp2
  exact bodyPost_ret (results_row3 (t := 37) rfl _ _ (w.heap.size + 1 + 1) _ _ rfl HZ3.out Try.underlying37 rfl size37) rfl ⟨rfl, HC3.out, HG3.out⟩
end Go.Proofs.Ytgigehlflgcdpaa
