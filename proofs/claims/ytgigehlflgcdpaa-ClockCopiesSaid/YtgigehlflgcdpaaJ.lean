/- The reference: Press. Conditions: the numbers are within bounds. -/
import Derived.Test.YtgigehlflgcdpaaH
import Derived.Deep.DeepCutAuto
set_option linter.unusedVariables false
set_option linter.unusedSimpArgs false
namespace Go.Proofs.Ytgigehlflgcdpaa
open Go.RowKit
set_option maxHeartbeats 4000000 in
set_option maxRecDepth 100000 in
theorem press_ra {w : World} {L : Ctl} {c : Ck} (r : Rf) (now : Int) (hP : PerAt w L.ps r.pb r.off) (hI : Inv L c) (h8 : L.ps.length ≤ 8) (t1 : c.last ≤ now) (t2 : now ≤ 1099511627776) (hr : c.runs = true) (hf : c.fallen L now = false) (hs : c.side = false)
    (hmv : 0 < (c.per L).moves → (c.hand c.side).period + 1 < L.ps.length) : Pure 15 #[.agg (c.rcells L r), .int .i64 now] w (RV L r (c.press L now)) := by
  have hE : c.press L now = if 1099511627776 < (c.pressed L now).stock then (c, 7) else ({ c.setHand c.side (c.pressed L now) with side := !c.side, used := 0, since := now, last := now }, 0) := by
    unfold Ck.press
    rw [if_pos (by simp [Ck.intime, t1, t2]), if_pos hr, if_neg (by simp [hf])]
  rw [hE]
  clear hE
  have hat := Ck.per_at hI
  obtain ⟨p1, p2, p3, p4, p5, p6⟩ := per_bd hI
  obtain ⟨s1, s2⟩ := spent_bd now hI t1 t2
  obtain ⟨n1, n2⟩ := counted_bd now hI t1 t2
  obtain ⟨v1, v2, v3⟩ := hP.per _ _ hat
  have hps := hI.ps
  have hu := fun w' => Lib.hid (used_r (w := w') r now hI t1 t2)
  have hc := fun w' hp => Lib.hid (counted_r (w := w') r now hp hI t1 t2)
  have hfl := fun w' hp => Lib.hid (fallen_r (w := w') r now hp hI t1 t2)
  rw [hf] at hfl
  have hG : c.gain L now = if L.k = 1 then (c.per L).bonus else if L.k = 3 then min (c.spent now) (c.per L).bonus else 0 := rfl
  have hN : ∃ N, (c.hand c.side).stock + (c.gain L now - c.counted L now) = N := ⟨_, rfl⟩
  obtain ⟨N, hN⟩ := hN
  have EP : 0 < (c.per L).moves ∧ wrap64 ((c.hand c.side).done + 1) = (c.per L).moves → c.pressed L now = ⟨N + (L.ps.getD ((c.hand c.side).period + 1) ⟨0, 0, 0⟩).time, wrap64 ((c.hand c.side).moves + 1), (c.hand c.side).period + 1, 0⟩ := by
    intro hq
    rw [← hN]
    exact if_pos hq
  have EF : ¬ (0 < (c.per L).moves ∧ wrap64 ((c.hand c.side).done + 1) = (c.per L).moves) → c.pressed L now = ⟨N, wrap64 ((c.hand c.side).moves + 1), (c.hand c.side).period, wrap64 ((c.hand c.side).done + 1)⟩ := by
    intro hq
    rw [← hN]
    exact if_neg hq
  generalize c.pressed L now = Q at *
  rw [hG] at hN
  generalize c.per L = p at *
  obtain ⟨pm, pt, pbn⟩ := p
  dsimp only at p1 p2 p3 p4 p5 p6 v1 v2 v3 hmv hN EP EF
  clear hG hf
  generalize c.spent now = sp at *
  generalize c.counted L now = ct at *
  obtain ⟨i1, i2, i3, i4, i5, i6, i7, i8, i9, i10, i11, i12, i13, i14, i15⟩ := hI
  clear i15 i3 i4 i5 i6 i12
  obtain ⟨⟨sa, ma, pa, da⟩, ⟨sb, mb, pb, db⟩, side, used, since, last, runs⟩ := c
  dsimp only at hr hs i1 i2 i7 i8 i9 i10 i11 t1 p1 p2 p3 p4 p5 p6 v1 v2 v3 hmv hN EP EF
  subst hr
  subst hs
  dsimp only [Ck.hand, Ck.setHand] at hat hmv hN EP EF v1 v2 v3 ⊢
  have hpl := lt_of_cell v1
  obtain ⟨m1, hm1⟩ : ∃ x, wrap64 (ma + 1) = x := ⟨_, rfl⟩
  obtain ⟨d1, hd1⟩ : ∃ x, wrap64 (da + 1) = x := ⟨_, rfl⟩
  rw [hm1, hd1] at EP EF
  have hm1' := Lib.hid hm1
  have hd1' := Lib.hid hd1
  clear hm1 hd1
  have hN' := Lib.hid hN
  have EP' := Lib.hid EP
  have EF' := Lib.hid EF
  have hmv' := Lib.hid hmv
  have hps' := Lib.hid hps
  clear hN EP EF hmv hps hat
  dsimp only [Ck.rcells] at hfl hc hu ⊢
  unfold Pure
  go_enter Try.func15, Try.ntmps15
  go_wp2_with fail
  refine (Hid.out (hfl _ (hP.below (((Below.refl _ _).alloc (Nat.le_refl _) _).alloc (by simp) _)))).mono ?_
  rintro e V ⟨rfl, hV⟩
  have hB : Below w.heap.size w V := (((Below.refl w.heap.size w).alloc (Nat.le_refl _) _).alloc (by simp) _).trans (hV.mono (by simp; omega))
  have hX : V.heap[w.heap.size]? = some (.cells (Ck.rcells ⟨⟨sa, ma, pa, da⟩, ⟨sb, mb, pb, db⟩, false, used, since, last, true⟩ L r) 37 (0, 0)) := (hV.block _ (by simp; omega)).trans (blk_alloc (blk_new rfl _) _)
  have hZ : V.heap[w.heap.size + 1]? = some (.cells zeros 37 (0, 0)) := (hV.block _ (by simp)).trans (blk_new (by simp) _)
  clear hV
  have x0 := (rcells_all hX).1
  have x1 := (rcells_all hX).2.1
  have x6 := (rcells_all hX).2.2.2.2.2.2.1
  have x7 := (rcells_all hX).2.2.2.2.2.2.2.1
  have x10 := (rcells_all hX).2.2.2.2.2.2.2.2.2.2.1
  have z1 := below_at hB v1
  have z2 := below_at hB v2
  have z3 := below_at hB v3
  have zl := lt_of_cell z1
  dsimp only [sideI] at x10
  have hl : w.heap.size < V.heap.size := lt_of_cell x0
  have hl1 : w.heap.size + 1 < V.heap.size := (Array.getElem?_eq_some_iff.1 hZ).1
  go_wp2_with fail
  go_region
  go_wp2_with fail
  refine wp_forget (fun W => Below w.heap.size w W ∧ W.heap[w.heap.size]? = some (.cells (Ck.rcells ⟨⟨sa, ma, pa, da⟩, ⟨sb, mb, pb, db⟩, false, used, since, last, true⟩ L r) 37 (0, 0)) ∧ W.heap[w.heap.size + 1]? = some (.cells zeros 37 (0, 0)) ∧
    W.heap[V.heap.size]? = some (.cells #[.int .i64 pm, .int .i64 pt, .int .i64 pbn] 33 (0, 0))) ⟨?_, ?_, ?_, ?_⟩ ?_
  · exact (hB.alloc (by omega) _).drew
  · exact blk_alloc hX _
  · exact blk_alloc hZ _
  · exact blk_new rfl _
  have hs1 : w.heap.size < V.heap.size := hl
  have hs2 : w.heap.size + 1 < V.heap.size := hl1
  generalize V.heap.size = g at *
  clear x0 x1 x6 x7 x10 z1 z2 z3 zl hl hl1 hB hX hZ
  rintro W ⟨hB, hX, hZ, hG⟩
  have hl : w.heap.size < W.heap.size := (Array.getElem?_eq_some_iff.1 hX).1
  have ya := fun x : Ext W.heap.size W => rcells_all (c := ⟨⟨sa, ma, pa, da⟩, ⟨sb, mb, pb, db⟩, false, used, since, last, true⟩) (L := L) (r := r) ((x.2.block _ hl).trans hX)
  have y0 := fun x => (ya x).1
  have y1 := fun x => (ya x).2.1
  have y2 := fun x => (ya x).2.2.1
  have y3 := fun x => (ya x).2.2.2.1
  have y4 := fun x => (ya x).2.2.2.2.1
  have y5 := fun x => (ya x).2.2.2.2.2.1
  have y6 := fun x => (ya x).2.2.2.2.2.2.1
  have y7 := fun x => (ya x).2.2.2.2.2.2.2.1
  have y8 := fun x => (ya x).2.2.2.2.2.2.2.2.1
  have y9 := fun x => (ya x).2.2.2.2.2.2.2.2.2.1
  have y10 := fun x => (ya x).2.2.2.2.2.2.2.2.2.2.1
  have y11 := fun x => (ya x).2.2.2.2.2.2.2.2.2.2.2.1
  have y12 := fun x => (ya x).2.2.2.2.2.2.2.2.2.2.2.2.1
  have y13 := fun x => (ya x).2.2.2.2.2.2.2.2.2.2.2.2.2.1
  have y14 := fun x => (ya x).2.2.2.2.2.2.2.2.2.2.2.2.2.2
  clear ya
  dsimp only [sideI] at y0 y1 y2 y3 y4 y5 y6 y7 y8 y9 y10 y11 y12 y13 y14
  have hC := fun (q : Ext W.heap.size W) => hc q.1 ((hP.below hB).below q.2)
  refine ext_region (by kernel_rfl) (by kernel_rfl) ?_
  repeat (go_big_quiet_step ((go_at_call 32; exact Pure.ext (Nat.le_refl _) (Hid.out (hC _)))))
  refine wpQuiet_nil ?_
  rintro _ ⟨⟨V, hV⟩, rfl⟩
  clear y0 y1 y2 y3 y4 y5 y6 y7 y8 y9 y10 y11 y12 y13 y14 hC hl
  have gl : g < W.heap.size := (Array.getElem?_eq_some_iff.1 hG).1
  replace hX := below_blk hV hX
  replace hZ := below_blk hV hZ
  replace hG := below_blk hV hG
  replace hB := hB.trans (hV.mono hB.size)
  clear hV gl W
  have x0 := (rcells_all hX).1
  have q2 := cell_of hG 2 _ rfl
  go_upto_if 49 with (fail)
  obtain ⟨M, hM⟩ : ∃ M : Int, (if L.k = 1 then sa - ct + pbn else sa - ct) = M := ⟨_, rfl⟩
  have hM1 : -1099511627776 * 2 ≤ M ∧ M ≤ 1099511627776 * 2 := by rw [← hM]; split <;> omega
  obtain ⟨hM1, hM2⟩ := hM1
  have hM' := Lib.hid hM
  clear hM
  go_cut [8] (fun v wx => v = .int .i64 M ∧ Below w.heap.size w wx ∧ wx.heap[w.heap.size]? = some (.cells (Ck.rcells ⟨⟨sa, ma, pa, da⟩, ⟨sb, mb, pb, db⟩, false, used, since, last, true⟩ L r) 37 (0, 0)) ∧ wx.heap[w.heap.size + 1]? = some (.cells zeros 37 (0, 0)) ∧
    wx.heap[g]? = some (.cells #[.int .i64 pm, .int .i64 pt, .int .i64 pbn] 33 (0, 0)))
  case first =>
    by_cases hk1 : L.k = 1
    · have hk1b : (L.k == 1) = true := by simpa using hk1
      have hn := hM'.out
      rw [if_pos hk1] at hn
      replace hn := Lib.hid hn
      clear hk1
      go_wp2_with fail
      go_meet
      case rel => exact ⟨by rw [hn.out], hB, hX, hZ, hG⟩
    · have hk1b : (L.k == 1) = false := by simpa using hk1
      have hn := hM'.out
      rw [if_neg hk1] at hn
      replace hn := Lib.hid hn
      clear hk1
      go_wp2_with fail
      go_meet
      case rel => exact ⟨by rw [hn.out], hB, hX, hZ, hG⟩
  case rest =>
    obtain ⟨rfl, hB, hX, hZ, hG⟩ := hcut
    clear x0 q2
    have x0 := (rcells_all hX).1
    go_upto_if 57 with (fail)
    go_cut [8] (fun v wx => v = .int .i64 N ∧ Below w.heap.size w wx ∧ wx.heap[w.heap.size]? = some (.cells (Ck.rcells ⟨⟨sa, ma, pa, da⟩, ⟨sb, mb, pb, db⟩, false, used, since, last, true⟩ L r) 37 (0, 0)) ∧ wx.heap[w.heap.size + 1]? = some (.cells zeros 37 (0, 0)) ∧
      wx.heap[g]? = some (.cells #[.int .i64 pm, .int .i64 pt, .int .i64 pbn] 33 (0, 0)))
    case first =>
      by_cases hk3 : L.k = 3
      · have hk3b : (L.k == 3) = true := by simpa using hk3
        have hn : M + min pbn sp = N := by
          rw [← hN'.out, ← hM'.out, if_neg (by omega), if_neg (by omega), if_pos hk3]
          omega
        replace hn := Lib.hid hn
        clear hk3
        generalize hW : wc = W at *
        clear x0 hW
        have hl : w.heap.size < W.heap.size := (Array.getElem?_eq_some_iff.1 hX).1
        have ya := fun x : Ext W.heap.size W => rcells_all (c := ⟨⟨sa, ma, pa, da⟩, ⟨sb, mb, pb, db⟩, false, used, since, last, true⟩) (L := L) (r := r) ((x.2.block _ hl).trans hX)
        have y0 := fun x => (ya x).1
        have y1 := fun x => (ya x).2.1
        have y2 := fun x => (ya x).2.2.1
        have y3 := fun x => (ya x).2.2.2.1
        have y4 := fun x => (ya x).2.2.2.2.1
        have y5 := fun x => (ya x).2.2.2.2.2.1
        have y6 := fun x => (ya x).2.2.2.2.2.2.1
        have y7 := fun x => (ya x).2.2.2.2.2.2.2.1
        have y8 := fun x => (ya x).2.2.2.2.2.2.2.2.1
        have y9 := fun x => (ya x).2.2.2.2.2.2.2.2.2.1
        have y10 := fun x => (ya x).2.2.2.2.2.2.2.2.2.2.1
        have y11 := fun x => (ya x).2.2.2.2.2.2.2.2.2.2.2.1
        have y12 := fun x => (ya x).2.2.2.2.2.2.2.2.2.2.2.2.1
        have y13 := fun x => (ya x).2.2.2.2.2.2.2.2.2.2.2.2.2.1
        have y14 := fun x => (ya x).2.2.2.2.2.2.2.2.2.2.2.2.2.2
        clear ya
        dsimp only [sideI] at y0 y1 y2 y3 y4 y5 y6 y7 y8 y9 y10 y11 y12 y13 y14
        have gl : g < W.heap.size := (Array.getElem?_eq_some_iff.1 hG).1
        have q2 := fun x : Ext W.heap.size W => cell_of ((x.2.block _ gl).trans hG) 2 _ rfl
        go_wp2_with fail
        refine ext_region (by kernel_rfl) (by kernel_rfl) ?_
        repeat (go_big_quiet_step ((go_at_call 33; exact Pure.ext (Nat.le_refl _) (Hid.out (hu _)))))
        refine wpQuiet_nil ?_
        rintro _ ⟨⟨V, hV⟩, rfl⟩
        clear y0 y1 y2 y3 y4 y5 y6 y7 y8 y9 y10 y11 y12 y13 y14 q2 hl
        go_wp2_with fail
        all_goals
          go_meet
          case rel => exact ⟨congrArg (Value.int .i64) (by have := hn.out; omega), hB.trans (hV.mono hB.size), below_blk hV hX, below_blk hV hZ, below_blk hV hG⟩
      · have hk3b : (L.k == 3) = false := by simpa using hk3
        have hn : M = N := by
          rw [← hN'.out, ← hM'.out]
          rw [if_neg hk3]
          split <;> omega
        subst hn
        clear hk3
        go_wp2_with fail
        go_meet
        case rel => exact ⟨rfl, hB, hX, hZ, hG⟩
    case rest =>
      obtain ⟨rfl, hB, hX, hZ, hG⟩ := hcut
      clear x0
      obtain ⟨y0, y1, y2, y3, y4, y5, y6, y7, y8, y9, y10, y11, y12, y13, y14⟩ := rcells_all hX
      dsimp only [sideI] at y0 y1 y2 y3 y4 y5 y6 y7 y8 y9 y10 y11 y12 y13 y14
      have hl : w.heap.size < wc.heap.size := lt_of_cell y0
      have hl1 : w.heap.size + 1 < wc.heap.size := (Array.getElem?_eq_some_iff.1 hZ).1
      have gl : g < wc.heap.size := (Array.getElem?_eq_some_iff.1 hG).1
      go_wp2_with fail
      refine wp_forget (fun W => Below w.heap.size w W ∧ W.heap[w.heap.size]? = some (.cells (Ck.rcells ⟨⟨sa, ma, pa, da⟩, ⟨sb, mb, pb, db⟩, false, used, since, last, true⟩ L r) 37 (0, 0)) ∧ W.heap[w.heap.size + 1]? = some (.cells zeros 37 (0, 0)) ∧
        W.heap[g]? = some (.cells #[.int .i64 pm, .int .i64 pt, .int .i64 pbn] 33 (0, 0)) ∧ W.heap[wc.heap.size]? = some (.cells (Ck.rcells ⟨⟨sa, ma, pa, da⟩, ⟨sb, mb, pb, db⟩, false, used, since, last, true⟩ L r) 37 (0, 0))) ⟨?_, ?_, ?_, ?_, ?_⟩ ?_
      · exact hB.alloc (by omega) _
      · exact blk_alloc hX _
      · exact blk_alloc hZ _
      · exact blk_alloc hG _
      · exact blk_new rfl _
      clear y0 y1 y2 y3 y4 y5 y6 y7 y8 y9 y10 y11 y12 y13 y14 hB hX hZ hG
      generalize wc.heap.size = nb at *
      rintro W ⟨hB, hX, hZ, hG, hH⟩
      obtain ⟨y0, y1, y2, y3, y4, y5, y6, y7, y8, y9, y10, y11, y12, y13, y14⟩ := rcells_all hX
      obtain ⟨z0, z1, z2, z3, z4, z5, z6, z7, z8, z9, z10, z11, z12, z13, z14⟩ := rcells_all hH
      obtain ⟨f0, f1, f2, f3, f4, f5, f6, f7, f8, f9, f10, f11, f12, f13, f14⟩ := free15 hH
      dsimp only [sideI] at y0 y1 y2 y3 y4 y5 y6 y7 y8 y9 y10 y11 y12 y13 y14 z0 z1 z2 z3 z4 z5 z6 z7 z8 z9 z10 z11 z12 z13 z14
      have q0 := cell_of hG 0 _ rfl
      have hlh : nb < W.heap.size := lt_of_cell z0
      have hlg : g < W.heap.size := lt_of_cell q0
      have hlw : w.heap.size < W.heap.size := lt_of_cell y0
      go_region
      go_wp2_with fail
      rw [hm1'.out, hd1'.out]
      refine wp_forget (fun W => Below w.heap.size w W ∧ W.heap[w.heap.size]? = some (.cells (Ck.rcells ⟨⟨sa, ma, pa, da⟩, ⟨sb, mb, pb, db⟩, false, used, since, last, true⟩ L r) 37 (0, 0)) ∧ W.heap[w.heap.size + 1]? = some (.cells zeros 37 (0, 0)) ∧
        W.heap[g]? = some (.cells #[.int .i64 pm, .int .i64 pt, .int .i64 pbn] 33 (0, 0)) ∧ W.heap[nb]? = some (.cells (Ck.rcells ⟨⟨sa, m1, pa, d1⟩, ⟨sb, mb, pb, db⟩, false, used, since, last, true⟩ L r) 37 (0, 0))) ⟨?_, ?_, ?_, ?_, ?_⟩ ?_
      · exact ((hB.setCell (by dsimp only; omega) _).setCell (by dsimp only; omega) _).drew
      · exact blk_drew (blk_other (blk_other hX (by dsimp only; omega) _) (by dsimp only; omega) _)
      · exact blk_drew (blk_other (blk_other hZ (by dsimp only; omega) _) (by dsimp only; omega) _)
      · exact blk_drew (blk_other (blk_other hG (by dsimp only; omega) _) (by dsimp only; omega) _)
      · exact blk_drew (blk_at (blk_set (blk_set hH _ _) _ _) (by simp [Ck.rcells]))
      clear y0 y1 y2 y3 y4 y5 y6 y7 y8 y9 y10 y11 y12 y13 y14 z0 z1 z2 z3 z4 z5 z6 z7 z8 z9 z10 z11 z12 z13 z14 f0 f1 f2 f3 f4 f5 f6 f7 f8 f9 f10 f11 f12 f13 f14 q0 hlh hlg hlw hB hX hZ hG hH
      rintro W ⟨hB, hX, hZ, hG, hH⟩
      have q0 := cell_of hG 0 _ rfl
      have z8 := cell_of hH 8 (.int .i64 d1) rfl
      have hlg : g < W.heap.size := lt_of_cell q0
      go_upto_region 16 with (fail)
      go_cut [94] (fun v wx => v = .bool (decide (0 < pm ∧ d1 = pm)) ∧ Below w.heap.size w wx ∧ wx.heap[w.heap.size]? = some (.cells (Ck.rcells ⟨⟨sa, ma, pa, da⟩, ⟨sb, mb, pb, db⟩, false, used, since, last, true⟩ L r) 37 (0, 0)) ∧ wx.heap[w.heap.size + 1]? = some (.cells zeros 37 (0, 0)) ∧ wx.heap[nb]? = some (.cells (Ck.rcells ⟨⟨sa, m1, pa, d1⟩, ⟨sb, mb, pb, db⟩, false, used, since, last, true⟩ L r) 37 (0, 0)))
      case first =>
        have hbe := fun n => below_drewN (Below.refl w.heap.size W) n
        by_cases hp0 : 0 < pm
        · have hp0b : (pm != 0) = true := by simp; omega
          go_quiet (fail)
          go_wp2_with fail
          go_meet
          case rel => exact ⟨congrArg Value.bool (by rw [Bool.eq_iff_iff]; simp [hp0]), below_drewN hB _, blk_drewN hX _, blk_drewN hZ _, blk_drewN hH _⟩
        · have hp0b : (pm != 0) = false := by simp; omega
          go_quiet (fail)
          go_wp2_with fail
          go_meet
          case rel => exact ⟨congrArg Value.bool (decide_eq_false (by omega)).symm, below_drewN hB _, blk_drewN hX _, blk_drewN hZ _, blk_drewN hH _⟩
      case rest =>
        clear q0 z8 hlg hB hX hZ hG hH
        obtain ⟨cd, hcd⟩ : ∃ cd, decide (0 < pm ∧ d1 = pm) = cd := ⟨_, rfl⟩
        rw [hcd] at hcut
        replace hcd := Lib.hid hcd
        obtain ⟨rfl, hB, hX, hZ, hH⟩ := hcut
        go_upto_if 94 with (fail)
        go_cut [8] (fun v wx => v = .int .i64 Q.stock ∧ Below w.heap.size w wx ∧ wx.heap[w.heap.size]? = some (.cells (Ck.rcells ⟨⟨sa, ma, pa, da⟩, ⟨sb, mb, pb, db⟩, false, used, since, last, true⟩ L r) 37 (0, 0)) ∧ wx.heap[w.heap.size + 1]? = some (.cells zeros 37 (0, 0)) ∧ wx.heap[nb]? = some (.cells (Ck.rcells ⟨⟨sa, Q.moves, Q.period, Q.done⟩, ⟨sb, mb, pb, db⟩, false, used, since, last, true⟩ L r) 37 (0, 0)))
        case first =>
          cases cd
          · have hq := EF'.out (by have := hcd.out; simpa using this)
            replace hq := Lib.hid hq
            go_wp2_with fail
            go_meet
            case rel =>
              rw [hq.out]
              exact ⟨rfl, hB, hX, hZ, hH⟩
          · have hq1 : 0 < pm ∧ d1 = pm := by have := hcd.out; simpa using this
            have hq := EP'.out hq1
            have hlt := hmv'.out hq1.1
            obtain ⟨p', hp'⟩ : ∃ p', L.ps[pa + 1]? = some p' := ⟨_, List.getElem?_eq_getElem hlt⟩
            obtain ⟨_, _, b3, b4, _, _⟩ := hps'.out p' (List.mem_of_getElem? hp')
            have v2' := below_at hB (hP.per _ _ hp').2.1
            have hl2 := lt_of_cell v2'
            rw [show L.ps.getD (pa + 1) ⟨0, 0, 0⟩ = p' by simp [List.getD, hp']] at hq
            replace hq := Lib.hid hq
            obtain ⟨y0, y1, y2, y3, y4, y5, y6, y7, y8, y9, y10, y11, y12, y13, y14⟩ := rcells_all hX
            obtain ⟨z0, z1, z2, z3, z4, z5, z6, z7, z8, z9, z10, z11, z12, z13, z14⟩ := rcells_all hH
            obtain ⟨f0, f1, f2, f3, f4, f5, f6, f7, f8, f9, f10, f11, f12, f13, f14⟩ := free15 hH
            dsimp only [sideI] at y0 y1 y2 y3 y4 y5 y6 y7 y8 y9 y10 y11 y12 y13 y14 z0 z1 z2 z3 z4 z5 z6 z7 z8 z9 z10 z11 z12 z13 z14
            have hbh : nb < wc.heap.size := lt_of_cell z0
            have hrn : r.pb ≠ nb := by omega
            have hwn : w.heap.size ≠ nb := by omega
            have hN2 : -4398046511104 ≤ N ∧ N ≤ 4398046511104 := by
              have h1 := hN'.out
              have h2 := hM'.out
              omega
            obtain ⟨hN3, hN4⟩ := hN2
            clear hq1 hp'
            generalize p'.time = T at *
            go_wp2_with fail
            go_quiet (fail)
            go_wp2_with fail
            clear y0 y1 y2 y3 y4 y5 y6 y7 y8 y9 y10 y11 y12 y13 y14 z0 z1 z2 z3 z4 z5 z6 z7 z8 z9 z10 z11 z12 z13 z14 f0 f1 f2 f3 f4 f5 f6 f7 f8 f9 f10 f11 f12 f13 f14
            go_meet
            case rel =>
              rw [hq.out]
              exact ⟨rfl, below_drewN ((hB.setCell (by dsimp only; omega) _).setCell (by dsimp only; omega) _) _, blk_drewN (blk_other (blk_other hX (by dsimp only; omega) _) (by dsimp only; omega) _) _,
                blk_drewN (blk_other (blk_other hZ (by dsimp only; omega) _) (by dsimp only; omega) _) _, blk_drewN (blk_at (blk_set (blk_set hH _ _) _ _) (by simp [Ck.rcells])) _⟩
        case rest =>
          obtain ⟨rfl, hB, hX, hZ, hH⟩ := hcut
          have hRV : ∀ (P : Ck × Int), RV L r P = RV L r P := fun _ => rfl
          clear hRV
          by_cases hfull : 1099511627776 < Q.stock
          · have HX := Lib.hid hX
            have HZ := Lib.hid hZ
            clear hX hZ hH hfl hc hu hP hpl v1 v2 v3 hM' hN' EP' EF' hm1' hd1' hmv' hps'
            go_wp2_with (first | (refine load_row 37 (.tmp 2) rfl rfl rfl _ (Hid.out HX) _ Try.underlying37 rfl size37 ?_) | (refine store_row 37 (.tmp 4) (.tmp 120) rfl rfl _ rfl rfl _ (Hid.out HZ) rfl size37 (one37 _ _ _) ?_))
            refine bodyPost_ret (results_row rfl _ _ _ _ _ rfl (setCells_same HZ.out rfl) Try.underlying37 rfl size37) rfl ⟨rfl, ?_⟩
            exact setCells_below (by omega) _ _ _ hB
          · have z2 := cell_of hH 2 (.int .i64 sa) rfl
            have z10 := cell_of hH 10 (.int .i64 (sideI false)) rfl
            have z11 := cell_of hH 11 (.int .i64 used) rfl
            have z13 := cell_of hH 13 (.int .i64 since) rfl
            have z14 := cell_of hH 14 (.int .i64 last) rfl
            have f2 := free_of hH 2
            have f10 := free_of hH 10
            have f11 := free_of hH 11
            have f13 := free_of hH 13
            have f14 := free_of hH 14
            clear hfl hc hu hP hpl v1 v2 v3 hM' hN' EP' EF' hm1' hd1' hmv' hps'
            go_upto_region 23 with (fail)
            clear z2 z10 z11 z13 z14 f2 f10 f11 f13 f14
            refine wp_forget (fun W => Below w.heap.size w W ∧ W.heap[w.heap.size + 1]? = some (.cells zeros 37 (0, 0)) ∧ W.heap[nb]? = some (.cells (Ck.rcells ⟨Q, ⟨sb, mb, pb, db⟩, true, 0, now, now, true⟩ L r) 37 (0, 0))) ⟨?_, ?_, ?_⟩ ?_
            · exact ((((hB.setCell (by dsimp only; omega) _).setCell (by dsimp only; omega) _).setCell (by dsimp only; omega) _).setCell (by dsimp only; omega) _).setCell (by dsimp only; omega) _
            · exact blk_other (blk_other (blk_other (blk_other (blk_other hZ (by dsimp only; omega) _) (by dsimp only; omega) _) (by dsimp only; omega) _) (by dsimp only; omega) _) (by dsimp only; omega) _
            · exact blk_at (blk_set (blk_set (blk_set (blk_set (blk_set hH _ _) _ _) _ _) _ _) _ _) (by simp [Ck.rcells, sideI])
            clear hX hZ hH hB
            rintro W ⟨hB, hZ, hX⟩
            have HX := Lib.hid hX
            have HZ := Lib.hid hZ
            clear hX hZ
            go_wp2_with (first | (refine load_row 37 (.tmp 9) rfl rfl rfl _ (Hid.out HX) _ Try.underlying37 rfl size37 ?_) | (refine store_row 37 (.tmp 4) (.tmp 133) rfl rfl _ rfl rfl _ (Hid.out HZ) rfl size37 (one37 _ _ _) ?_))
            refine bodyPost_ret (results_row rfl _ _ _ _ _ rfl (setCells_same HZ.out rfl) Try.underlying37 rfl size37) rfl ⟨rfl, ?_⟩
            exact setCells_below (by omega) _ _ _ hB
end Go.Proofs.Ytgigehlflgcdpaa
