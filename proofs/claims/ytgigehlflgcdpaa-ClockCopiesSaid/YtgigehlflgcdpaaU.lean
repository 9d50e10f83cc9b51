/- One call on a clock and on the reference: the contract of step. Conditions: the numbers are within bounds. -/
import Derived.Test.YtgigehlflgcdpaaP
import Derived.Test.YtgigehlflgcdpaaJ
import Derived.Test.YtgigehlflgcdpaaJ2
import Derived.Test.YtgigehlflgcdpaaI
import Derived.Test.YtgigehlflgcdpaaT
import Derived.Test.YtgigehlflgcdpaaK

set_option linter.unusedVariables false
set_option linter.unusedSimpArgs false
namespace Go.Proofs.Ytgigehlflgcdpaa
open Go.RowKit
set_option maxHeartbeats 2000000 in
set_option maxRecDepth 100000 in
theorem press_r {w : World} {L : Ctl} {c : Ck} (r : Rf) (now : Int) (hP : PerAt w L.ps r.pb r.off) (hI : Inv L c) (hG : Good L) :
    Pure 15 #[.agg (c.rcells L r), .int .i64 now] w (RV L r (c.press L now)) := by
  by_cases ht : c.intime now = true
  · obtain ⟨t1, t2⟩ := Ck.intime_t ht
    by_cases hr : c.runs = true
    · by_cases hf : c.fallen L now = true
      · rw [show c.press L now = (c, 410) by simp [Ck.press, ht, hr, hf]]
        have hc := fun w' hp => Lib.hid (fallen_r (w := w') r now hp hI t1 t2)
        rw [hf] at hc
        clear ht hf hI
        obtain ⟨⟨sa, ma, pa, da⟩, ⟨sb, mb, pb, db⟩, side, used, since, last, runs⟩ := c
        dsimp only at hr
        subst hr
        dsimp only [Ck.rcells] at *
        unfold Pure
        go_enter Try.func15, Try.ntmps15
        go_wp2_with fail
        refine (Hid.out (hc _ (hP.below (((Below.refl _ _).alloc (Nat.le_refl _) _).alloc (by simp) _)))).mono ?_
        rintro e V ⟨rfl, hV⟩
        have hB : Below w.heap.size w V := (((Below.refl w.heap.size w).alloc (Nat.le_refl _) _).alloc (by simp) _).trans (hV.mono (by simp; omega))
        have hX : V.heap[w.heap.size]? = some (.cells (Ck.rcells ⟨⟨sa, ma, pa, da⟩, ⟨sb, mb, pb, db⟩, side, used, since, last, true⟩ L r) 37 (0, 0)) := (hV.block _ (by simp; omega)).trans (blk_alloc (blk_new rfl _) _)
        have hZ : V.heap[w.heap.size + 1]? = some (.cells zeros 37 (0, 0)) := (hV.block _ (by simp)).trans (blk_new (by simp) _)
        clear hV
        clear hc
        have HX := Lib.hid hX
        have HZ := Lib.hid hZ
        clear hX hZ
        go_wp2_with (first | (refine load_row 37 (.tmp 2) rfl rfl rfl _ (Hid.out HX) _ Try.underlying37 rfl size37 ?_) | (refine store_row 37 (.tmp 4) (.tmp 26) rfl rfl _ rfl rfl _ (Hid.out HZ) rfl size37 (one37 _ _ _) ?_))
        refine bodyPost_ret (results_row rfl _ _ _ _ _ rfl (setCells_same HZ.out rfl) Try.underlying37 rfl size37) rfl ⟨rfl, ?_⟩
        refine setCells_below (by omega) _ _ _ ?_
        repeat (first | exact Below.refl _ _ | (with_reducible assumption) | (with_reducible apply below_drewN) | (with_reducible apply Below.drew) | (refine Below.alloc ?_ (by simp) _) | (refine Below.setCell ?_ (by simp) _))
      · have hf' : c.fallen L now = false := by simpa using hf
        have hm := hmv_of hG hI
        have h8 := hG.hdr.2.1
        cases hs : c.side
        · exact press_ra r now hP hI h8 t1 t2 hr hf' hs hm
        · exact press_rb r now hP hI h8 t1 t2 hr hf' hs hm
    · have hr' : c.runs = false := by simpa using hr
      rw [show c.press L now = (c, 8) by simp [Ck.press, ht, hr']]
      clear ht hI hr
      obtain ⟨⟨sa, ma, pa, da⟩, ⟨sb, mb, pb, db⟩, side, used, since, last, runs⟩ := c
      dsimp only at hr'
      subst hr'
      dsimp only [Ck.rcells] at *
      unfold Pure
      go_enter Try.func15, Try.ntmps15
      go_wp2_with fail
      all_goals
        refine bodyPost_ret (v := RV L r (⟨⟨sa, ma, pa, da⟩, ⟨sb, mb, pb, db⟩, side, used, since, last, false⟩, 8)) (by simp [results, Try.results15, go_sem, RV, Ck.rcells]) rfl ⟨rfl, ?_⟩
        repeat (first | exact Below.refl _ _ | (with_reducible assumption) | (with_reducible apply below_drewN) | (with_reducible apply Below.drew) | (refine Below.alloc ?_ (by simp) _) | (refine Below.setCell ?_ (by simp) _))
  · have t := Ck.intime_f ht
    rw [show c.press L now = (c, 3) by simp [Ck.press, ht]]
    clear ht hI
    obtain ⟨⟨sa, ma, pa, da⟩, ⟨sb, mb, pb, db⟩, side, used, since, last, runs⟩ := c
    dsimp only [Ck.rcells] at *
    rcases t with t | t
    all_goals
      unfold Pure
      go_enter Try.func15, Try.ntmps15
      go_wp2_with fail
      all_goals
        refine bodyPost_ret (v := RV L r (⟨⟨sa, ma, pa, da⟩, ⟨sb, mb, pb, db⟩, side, used, since, last, runs⟩, 3)) (by simp [results, Try.results15, go_sem, RV, Ck.rcells]) rfl ⟨rfl, ?_⟩
        repeat (first | exact Below.refl _ _ | (with_reducible assumption) | (with_reducible apply below_drewN) | (with_reducible apply Below.drew) | (refine Below.alloc ?_ (by simp) _) | (refine Below.setCell ?_ (by simp) _))
end Go.Proofs.Ytgigehlflgcdpaa
