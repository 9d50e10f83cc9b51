/- The reference: what is left. Conditions: the numbers are within bounds. -/
import Derived.Test.YtgigehlflgcdpaaS
set_option linter.unusedVariables false
set_option linter.unusedSimpArgs false
namespace Go.Proofs.Ytgigehlflgcdpaa
open Go.RowKit


theorem cells15 {w : World} {s : Nat} {t : TypeId} {v0 v1 v2 v3 v4 v5 v6 v7 v8 v9 v10 v11 v12 v13 v14 : Value} (h : w.heap[s]? = some (.cells #[v0, v1, v2, v3, v4, v5, v6, v7, v8, v9, v10, v11, v12, v13, v14] t (0, 0))) :
    w.cell? ⟨s, 0, none⟩ = some v0 ∧ w.cell? ⟨s, 1, none⟩ = some v1 ∧ w.cell? ⟨s, 2, none⟩ = some v2 ∧ w.cell? ⟨s, 3, none⟩ = some v3 ∧ w.cell? ⟨s, 4, none⟩ = some v4 ∧ w.cell? ⟨s, 5, none⟩ = some v5 ∧ w.cell? ⟨s, 6, none⟩ = some v6 ∧ w.cell? ⟨s, 7, none⟩ = some v7 ∧ w.cell? ⟨s, 8, none⟩ = some v8 ∧ w.cell? ⟨s, 9, none⟩ = some v9 ∧ w.cell? ⟨s, 10, none⟩ = some v10 ∧ w.cell? ⟨s, 11, none⟩ = some v11 ∧ w.cell? ⟨s, 12, none⟩ = some v12 ∧ w.cell? ⟨s, 13, none⟩ = some v13 ∧ w.cell? ⟨s, 14, none⟩ = some v14 := by
  refine ⟨?_, ?_, ?_, ?_, ?_, ?_, ?_, ?_, ?_, ?_, ?_, ?_, ?_, ?_, ?_⟩ <;> exact cell_of h _ _ rfl
theorem free15 {w : World} {s : Nat} {t : TypeId} {cs : Array Value} (h : w.heap[s]? = some (.cells cs t (0, 0))) :
    w.frozen? ⟨s, 0, none⟩ = false ∧ w.frozen? ⟨s, 1, none⟩ = false ∧ w.frozen? ⟨s, 2, none⟩ = false ∧ w.frozen? ⟨s, 3, none⟩ = false ∧ w.frozen? ⟨s, 4, none⟩ = false ∧ w.frozen? ⟨s, 5, none⟩ = false ∧ w.frozen? ⟨s, 6, none⟩ = false ∧ w.frozen? ⟨s, 7, none⟩ = false ∧ w.frozen? ⟨s, 8, none⟩ = false ∧ w.frozen? ⟨s, 9, none⟩ = false ∧ w.frozen? ⟨s, 10, none⟩ = false ∧ w.frozen? ⟨s, 11, none⟩ = false ∧ w.frozen? ⟨s, 12, none⟩ = false ∧ w.frozen? ⟨s, 13, none⟩ = false ∧ w.frozen? ⟨s, 14, none⟩ = false := by
  refine ⟨?_, ?_, ?_, ?_, ?_, ?_, ?_, ?_, ?_, ?_, ?_, ?_, ?_, ?_, ?_⟩ <;> exact free_of h _
set_option maxHeartbeats 400000 in
theorem left_r {w : World} {L : Ctl} {c : Ck} (r : Rf) (s : Bool) (now : Int) (hP : PerAt w L.ps r.pb r.off) (hI : Inv L c) (hn0 : c.last ≤ now) (hn1 : now ≤ 1099511627776) :
    Pure 30 #[.agg (c.rcells L r), .int .i64 (sideI s), .int .i64 now] w (.int .i64 (c.left L s now)) := by
  obtain ⟨b1, b2⟩ := counted_bd now hI hn0 hn1
  have e : c.left L s now = max 0 ((c.hand s).stock - if s = c.side then c.counted L now else 0) := rfl
  rw [e]
  have hc := fun w' hp => Lib.hid (counted_r (w := w') r now hp hI hn0 hn1)
  obtain ⟨_, _, _, _, _, _, _, a1, a2, a3, a4, _, _, _, _⟩ := hI
  generalize c.counted L now = x at *
  clear e
  obtain ⟨⟨sa, ma, pa, da⟩, ⟨sb, mb, pb, db⟩, side, used, since, last, runs⟩ := c
  dsimp only [Ck.rcells] at *
  cases s <;> cases side <;> dsimp only [sideI, Ck.hand] at *
  all_goals
    unfold Pure
    go_enter Try.func30, Try.ntmps30
    go_wp2_with fail
    first
      | (refine (Hid.out (hc _ (hP.below ((Below.refl _ _).alloc (Nat.le_refl _) _)))).mono ?_
         rintro e V ⟨rfl, hV⟩
         have hB := below_of_alloc hV
         clear hc hV
         go_wp2
         all_goals (go_ret; exact ⟨ret_int (by first | (simp; done) | (simp; omega) | omega), hB⟩))
      | (go_wp2
         all_goals (go_ret; exact ⟨ret_int (by first | (simp; done) | (simp; omega) | omega), (Below.refl _ _).alloc (Nat.le_refl _) _⟩))

end Go.Proofs.Ytgigehlflgcdpaa
