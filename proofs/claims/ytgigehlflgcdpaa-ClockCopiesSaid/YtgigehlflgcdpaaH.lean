/- The reference: Start and Stop. Conditions: the numbers are within bounds. -/
import Derived.Test.YtgigehlflgcdpaaG
import Derived.Laws.ResultCell
import Derived.Deep.DeepCutAuto
set_option linter.unusedVariables false
set_option linter.unusedSimpArgs false
namespace Go.Proofs.Ytgigehlflgcdpaa
open Go.RowKit



theorem results_row {P : Program} {fn : Func} {p u : Tmp} {ty t : TypeId} (h : fn.results = #[.cell p ty, .tmp u]) (tmps : Array Value) (w : World) (g : Nat) (cs : Array Value) (d : TypeDesc)
    (hp : tmps.getD p undef = .pointer (some ⟨g, 0, none⟩)) (hg : w.heap[g]? = some (.cells cs t (0, 0)))
    (hu : P.underlying ty = some d) (hd : (match d with | .struct _ | .array _ _ => true | _ => false) = true) (hi : (P.info? ty).map (·.size) = some cs.size) :
    (results fn tmps).run P w = .ok (.tuple #[.agg cs, tmps.getD u undef]) w := by
  rw [results_cell_tmp h]
  have hp' : tmps[p]?.getD undef = .pointer (some ⟨g, 0, none⟩) := by simpa using hp
  simp [hp', asAddr, run_loadVar_row w g t ty cs (0, 0) d hg hu hd hi]
theorem one37 (c : Ck) (L : Ctl) (r : Rf) : (c.rcells L r).all (·.oneCell') = true := by simp [Ck.rcells, Value.oneCell']
theorem size37 : (Try.prog.info? 37).map (·.size) = some 15 := by kernel_rfl

/-- what a reference's call gives: a clock and an error -/
def RV (L : Ctl) (r : Rf) (p : Ck × Int) : Value := .tuple #[.agg (p.1.rcells L r), .int .i64 p.2]
/-- a block of zeros for a result -/
def zeros : Array Value := #[.int .i64 0, .slice none 0 0, .int .i64 0, .int .i64 0, .int .i64 0, .int .i64 0, .int .i64 0, .int .i64 0, .int .i64 0, .int .i64 0, .int .i64 0, .int .i64 0, .bool false, .int .i64 0, .int .i64 0]

set_option maxHeartbeats 400000 in
theorem start_r {w : World} {L : Ctl} {c : Ck} (r : Rf) (now : Int) (hP : PerAt w L.ps r.pb r.off) (hI : Inv L c) :
    Pure 14 #[.agg (c.rcells L r), .int .i64 now] w (RV L r (c.start L now)) := by
  by_cases ht : c.intime now = true
  · obtain ⟨t1, t2⟩ := Ck.intime_t ht
    have hc := fun w' hp => Lib.hid (fallen_r (w := w') r now hp hI t1 t2)
    have e : c.start L now = if c.runs then (c, 8) else if c.fallen L now then (c, 410) else ({ c with runs := true, since := now, last := now }, 0) := by simp [Ck.start, ht]
    rw [e]
    generalize c.fallen L now = f at *
    clear e hI ht
    obtain ⟨⟨sa, ma, pa, da⟩, ⟨sb, mb, pb, db⟩, side, used, since, last, runs⟩ := c
    dsimp only [Ck.rcells] at *
    cases runs
    · cases f
      · simp only [Bool.false_eq_true, if_false]
        unfold Pure
        go_enter Try.func14, Try.ntmps14
        go_wp2_with fail
        refine (Hid.out (hc _ (hP.below (((Below.refl _ _).alloc (Nat.le_refl _) _).alloc (by simp) _)))).mono ?_
        rintro e V ⟨rfl, hV⟩
        have hB : Below w.heap.size w V := (((Below.refl w.heap.size w).alloc (Nat.le_refl _) _).alloc (by simp) _).trans (hV.mono (by simp; omega))
        have hX : V.heap[w.heap.size]? = some (.cells (Ck.rcells ⟨⟨sa, ma, pa, da⟩, ⟨sb, mb, pb, db⟩, side, used, since, last, false⟩ L r) 37 (0, 0)) := (hV.block _ (by simp; omega)).trans (blk_alloc (blk_new rfl _) _)
        have hZ : V.heap[w.heap.size + 1]? = some (.cells zeros 37 (0, 0)) := (hV.block _ (by simp)).trans (blk_new (by simp) _)
        clear hV
        clear hc
        have y12 := (rcells_all hX).2.2.2.2.2.2.2.2.2.2.2.2.1
        have y13 := (rcells_all hX).2.2.2.2.2.2.2.2.2.2.2.2.2.1
        have y14 := (rcells_all hX).2.2.2.2.2.2.2.2.2.2.2.2.2.2
        have q12 := free_of hX 12
        have q13 := free_of hX 13
        have q14 := free_of hX 14
        have hX' := blk_at (cs' := Ck.rcells ⟨⟨sa, ma, pa, da⟩, ⟨sb, mb, pb, db⟩, side, used, now, now, true⟩ L r) (blk_set (blk_set (blk_set hX 12 (.bool true)) 13 (.int .i64 now)) 14 (.int .i64 now)) (by simp [Ck.rcells])
        have hZ' := blk_other (blk_other (blk_other hZ (p := ⟨w.heap.size, 12, none⟩) (by dsimp only; omega) (.bool true)) (p := ⟨w.heap.size, 13, none⟩) (by dsimp only; omega) (.int .i64 now)) (p := ⟨w.heap.size, 14, none⟩) (by dsimp only; omega) (.int .i64 now)
        have HX := Lib.hid hX'
        have HZ := Lib.hid hZ'
        clear hX hZ hX' hZ'
        go_upto_region 8 with (fail)
        go_wp2_with (first | (refine load_row 37 (.tmp 2) rfl rfl rfl _ (Hid.out HX) _ Try.underlying37 rfl size37 ?_) | (refine store_row 37 (.tmp 4) (.tmp 27) rfl rfl _ rfl rfl _ (Hid.out HZ) rfl size37 (one37 _ _ _) ?_))
        refine bodyPost_ret (results_row rfl _ _ _ _ _ rfl (setCells_same HZ.out rfl) Try.underlying37 rfl size37) rfl ⟨rfl, ?_⟩
        refine setCells_below (by omega) _ _ _ ?_
        repeat (first | exact Below.refl _ _ | (with_reducible assumption) | (with_reducible apply below_drewN) | (with_reducible apply Below.drew) | (refine Below.alloc ?_ (by simp) _) | (refine Below.setCell ?_ (by simp) _))
      · simp only [Bool.false_eq_true, if_false, if_true]
        unfold Pure
        go_enter Try.func14, Try.ntmps14
        go_wp2_with fail
        refine (Hid.out (hc _ (hP.below (((Below.refl _ _).alloc (Nat.le_refl _) _).alloc (by simp) _)))).mono ?_
        rintro e V ⟨rfl, hV⟩
        have hB : Below w.heap.size w V := (((Below.refl w.heap.size w).alloc (Nat.le_refl _) _).alloc (by simp) _).trans (hV.mono (by simp; omega))
        have hX : V.heap[w.heap.size]? = some (.cells (Ck.rcells ⟨⟨sa, ma, pa, da⟩, ⟨sb, mb, pb, db⟩, side, used, since, last, false⟩ L r) 37 (0, 0)) := (hV.block _ (by simp; omega)).trans (blk_alloc (blk_new rfl _) _)
        have hZ : V.heap[w.heap.size + 1]? = some (.cells zeros 37 (0, 0)) := (hV.block _ (by simp)).trans (blk_new (by simp) _)
        clear hV
        clear hc
        have HX := Lib.hid hX
        have HZ := Lib.hid hZ
        clear hX hZ
        go_wp2_with (first | (refine load_row 37 (.tmp 2) rfl rfl rfl _ (Hid.out HX) _ Try.underlying37 rfl size37 ?_) | (refine store_row 37 (.tmp 4) (.tmp 21) rfl rfl _ rfl rfl _ (Hid.out HZ) rfl size37 (one37 _ _ _) ?_))
        refine bodyPost_ret (results_row rfl _ _ _ _ _ rfl (setCells_same HZ.out rfl) Try.underlying37 rfl size37) rfl ⟨rfl, ?_⟩
        refine setCells_below (by omega) _ _ _ ?_
        repeat (first | exact Below.refl _ _ | (with_reducible assumption) | (with_reducible apply below_drewN) | (with_reducible apply Below.drew) | (refine Below.alloc ?_ (by simp) _) | (refine Below.setCell ?_ (by simp) _))
    · simp only [if_true]
      unfold Pure
      go_enter Try.func14, Try.ntmps14
      go_wp2_with fail
      all_goals
        refine bodyPost_ret (v := RV L r (⟨⟨sa, ma, pa, da⟩, ⟨sb, mb, pb, db⟩, side, used, since, last, true⟩, 8)) (by simp [results, Try.results14, go_sem, RV, Ck.rcells]) rfl ⟨rfl, ?_⟩
        repeat (first | exact Below.refl _ _ | (with_reducible assumption) | (with_reducible apply below_drewN) | (with_reducible apply Below.drew) | (refine Below.alloc ?_ (by simp) _) | (refine Below.setCell ?_ (by simp) _))
  · have t := Ck.intime_f ht
    rw [show c.start L now = (c, 3) by simp [Ck.start, ht]]
    clear ht hI
    obtain ⟨⟨sa, ma, pa, da⟩, ⟨sb, mb, pb, db⟩, side, used, since, last, runs⟩ := c
    dsimp only [Ck.rcells] at *
    rcases t with t | t
    all_goals
      unfold Pure
      go_enter Try.func14, Try.ntmps14
      go_wp2_with fail
      all_goals
        refine bodyPost_ret (v := RV L r (⟨⟨sa, ma, pa, da⟩, ⟨sb, mb, pb, db⟩, side, used, since, last, runs⟩, 3)) (by simp [results, Try.results14, go_sem, RV, Ck.rcells]) rfl ⟨rfl, ?_⟩
        repeat (first | exact Below.refl _ _ | (with_reducible assumption) | (with_reducible apply below_drewN) | (with_reducible apply Below.drew) | (refine Below.alloc ?_ (by simp) _) | (refine Below.setCell ?_ (by simp) _))

set_option maxHeartbeats 400000 in
theorem stop_r {w : World} {L : Ctl} {c : Ck} (r : Rf) (now : Int) (hI : Inv L c) :
    Pure 44 #[.agg (c.rcells L r), .int .i64 now] w (RV L r (c.stop now)) := by
  by_cases ht : c.intime now = true
  · obtain ⟨t1, t2⟩ := Ck.intime_t ht
    have hc := fun w' => Lib.hid (used_r (w := w') r now hI t1 t2)
    have e : c.stop now = if c.runs then ({ c with used := c.spent now, runs := false, last := now }, 0) else (c, 8) := by simp [Ck.stop, ht]
    rw [e]
    generalize c.spent now = f at *
    clear e hI ht
    obtain ⟨⟨sa, ma, pa, da⟩, ⟨sb, mb, pb, db⟩, side, used, since, last, runs⟩ := c
    dsimp only [Ck.rcells] at *
    cases runs
    · simp only [Bool.false_eq_true, if_false]
      unfold Pure
      go_enter Try.func44, Try.ntmps44
      go_wp2_with fail
      all_goals
        refine bodyPost_ret (v := RV L r (⟨⟨sa, ma, pa, da⟩, ⟨sb, mb, pb, db⟩, side, used, since, last, false⟩, 8)) (by simp [results, Try.results44, go_sem, RV, Ck.rcells]) rfl ⟨rfl, ?_⟩
        repeat (first | exact Below.refl _ _ | (with_reducible assumption) | (with_reducible apply below_drewN) | (with_reducible apply Below.drew) | (refine Below.alloc ?_ (by simp) _) | (refine Below.setCell ?_ (by simp) _))
    · simp only [if_true]
      unfold Pure
      go_enter Try.func44, Try.ntmps44
      go_wp2_with fail
      refine (Hid.out (hc _)).mono ?_
      rintro e V ⟨rfl, hV⟩
      have hB : Below w.heap.size w V := (((Below.refl w.heap.size w).alloc (Nat.le_refl _) _).alloc (by simp) _).trans (hV.mono (by simp; omega))
      have hX : V.heap[w.heap.size]? = some (.cells (Ck.rcells ⟨⟨sa, ma, pa, da⟩, ⟨sb, mb, pb, db⟩, side, used, since, last, true⟩ L r) 37 (0, 0)) := (hV.block _ (by simp; omega)).trans (blk_alloc (blk_new rfl _) _)
      have hZ : V.heap[w.heap.size + 1]? = some (.cells zeros 37 (0, 0)) := (hV.block _ (by simp)).trans (blk_new (by simp) _)
      clear hV
      clear hc
      have y11 := (rcells_all hX).2.2.2.2.2.2.2.2.2.2.2.1
      have y12 := (rcells_all hX).2.2.2.2.2.2.2.2.2.2.2.2.1
      have y14 := (rcells_all hX).2.2.2.2.2.2.2.2.2.2.2.2.2.2
      have q11 := free_of hX 11
      have q12 := free_of hX 12
      have q14 := free_of hX 14
      have hX' := blk_at (cs' := Ck.rcells ⟨⟨sa, ma, pa, da⟩, ⟨sb, mb, pb, db⟩, side, f, since, now, false⟩ L r) (blk_set (blk_set (blk_set hX 11 (.int .i64 f)) 12 (.bool false)) 14 (.int .i64 now)) (by simp [Ck.rcells])
      have hZ' := blk_other (blk_other (blk_other hZ (p := ⟨w.heap.size, 11, none⟩) (by dsimp only; omega) (.int .i64 f)) (p := ⟨w.heap.size, 12, none⟩) (by dsimp only; omega) (.bool false)) (p := ⟨w.heap.size, 14, none⟩) (by dsimp only; omega) (.int .i64 now)
      have HX := Lib.hid hX'
      have HZ := Lib.hid hZ'
      clear hX hZ hX' hZ'
      go_upto_region 7 with (fail)
      go_wp2_with (first | (refine load_row 37 (.tmp 2) rfl rfl rfl _ (Hid.out HX) _ Try.underlying37 rfl size37 ?_) | (refine store_row 37 (.tmp 4) (.tmp 26) rfl rfl _ rfl rfl _ (Hid.out HZ) rfl size37 (one37 _ _ _) ?_))
      refine bodyPost_ret (results_row rfl _ _ _ _ _ rfl (setCells_same HZ.out rfl) Try.underlying37 rfl size37) rfl ⟨rfl, ?_⟩
      refine setCells_below (by omega) _ _ _ ?_
      repeat (first | exact Below.refl _ _ | (with_reducible assumption) | (with_reducible apply below_drewN) | (with_reducible apply Below.drew) | (refine Below.alloc ?_ (by simp) _) | (refine Below.setCell ?_ (by simp) _))
  · have t := Ck.intime_f ht
    rw [show c.stop now = (c, 3) by simp [Ck.stop, ht]]
    clear ht hI
    obtain ⟨⟨sa, ma, pa, da⟩, ⟨sb, mb, pb, db⟩, side, used, since, last, runs⟩ := c
    dsimp only [Ck.rcells] at *
    rcases t with t | t
    all_goals
      unfold Pure
      go_enter Try.func44, Try.ntmps44
      go_wp2_with fail
      all_goals
        refine bodyPost_ret (v := RV L r (⟨⟨sa, ma, pa, da⟩, ⟨sb, mb, pb, db⟩, side, used, since, last, runs⟩, 3)) (by simp [results, Try.results44, go_sem, RV, Ck.rcells]) rfl ⟨rfl, ?_⟩
        repeat (first | exact Below.refl _ _ | (with_reducible assumption) | (with_reducible apply below_drewN) | (with_reducible apply Below.drew) | (refine Below.alloc ?_ (by simp) _) | (refine Below.setCell ?_ (by simp) _))
end Go.Proofs.Ytgigehlflgcdpaa
