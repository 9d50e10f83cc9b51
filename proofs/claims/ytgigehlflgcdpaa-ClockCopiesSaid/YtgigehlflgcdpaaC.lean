/- What Press computes, and its closures. Conditions: as in each theorem. -/
import Derived.Test.YtgigehlflgcdpaaB
import Derived.Test.YtgigehlflgcdpaaQ
import Derived.StillTailTactics
import Derived.Deep.RegionHeld3
import Derived.Laws.EntriesVeiled
set_option linter.unusedVariables false
set_option linter.unusedSimpArgs false
namespace Go.Proofs.Ytgigehlflgcdpaa
open Go.RowKit
theorem blk_new {w : World} {k : Nat} (h : k = w.heap.size) (o : Obj) : (w.alloc o).heap[k]? = some o := by subst h; exact Array.getElem?_push_size
theorem grown_setN {a w : World} {row : Option Nat} (h : a.grownBy w row) {p : Addr} (hp : a.heap.size ≤ p.block) (u : Value) : a.grownBy (w.setCell p u) row :=
  ⟨h.os, h.tape, h.output, by simpa [World.setCell] using h.size, fun i hi hne => (Below.heap_setCell w p u i (by omega)).trans (h.block i hi hne)⟩
theorem lt_of_cell {w : World} {b i : Nat} {v : Value} (h : w.cell? ⟨b, i, none⟩ = some v) : b < w.heap.size := by
  rcases Nat.lt_or_ge b w.heap.size with hl | hg
  · exact hl
  · simp [World.cell?, Array.getElem?_eq_none hg] at h
theorem grown_row {a w : World} {row : Option Nat} (h : a.grownBy w none) : a.grownBy w row :=
  ⟨h.os, h.tape, h.output, h.size, fun k hk _ => h.block k hk (by simp)⟩
@[go_sem] theorem alloc_drewN (w : World) (n : Nat) (o : Obj) : (w.drewN n).alloc o = (w.alloc o).drewN n := rfl
@[go_sem] theorem setCell_drewN (w : World) (n : Nat) (a : Addr) (v : Value) : (w.drewN n).setCell a v = (w.setCell a v).drewN n := rfl
section spec
variable (L : Ctl) (c : Ck)
def Ck.gain (now : Int) : Int := if L.k = 1 then (c.per L).bonus else if L.k = 3 then min (c.spent now) (c.per L).bonus else 0
/-- the hand of the side on the move behind a move -/
def Ck.pressed (now : Int) : Hand :=
  let h := c.hand c.side
  let n := h.stock + (c.gain L now - c.counted L now)
  let d := wrap64 (h.done + 1)
  if 0 < (c.per L).moves ∧ d = (c.per L).moves then ⟨n + (L.ps.getD (h.period + 1) ⟨0, 0, 0⟩).time, wrap64 (h.moves + 1), h.period + 1, 0⟩
  else ⟨n, wrap64 (h.moves + 1), h.period, d⟩
def Ck.press (now : Int) : Ck × Int :=
  if c.intime now then
    if c.runs then
      if c.fallen L now then (c, 410) else
      if 1099511627776 < (c.pressed L now).stock then (c, 7) else
        ({ c.setHand c.side (c.pressed L now) with side := !c.side, used := 0, since := now, last := now }, 0)
    else (c, 8)
  else (c, 3)
end spec

theorem cl38 (w : World) : Calls Try.prog 38 #[] w fun e w' => e = .returned (.int .i64 0) ∧ w = w' := by
  go_enter Try.func38, Try.ntmps38
  go_wp2
  go_ret
  exact ⟨rfl, rfl⟩
theorem cl40 (w : World) : Calls Try.prog 40 #[] w fun e w' => e = .returned (.int .i64 0) ∧ w = w' := by
  go_enter Try.func40, Try.ntmps40
  go_wp2
  go_ret
  exact ⟨rfl, rfl⟩
theorem cl39 (w : World) (a : Addr) (x : Int) (h : w.cell? a = some (.int .i64 x)) : Calls Try.prog 39 #[.pointer (some a)] w fun e w' => e = .returned (.int .i64 x) ∧ w = w' := by
  go_enter Try.func39, Try.ntmps39
  go_wp2
  go_ret
  exact ⟨rfl, rfl⟩
theorem cl41 (w : World) (a b : Addr) (x y : Int) (h : w.cell? a = some (.int .i64 x)) (h2 : w.cell? b = some (.int .i64 y)) :
    Calls Try.prog 41 #[.pointer (some a), .pointer (some b)] w fun e w' => e = .returned (.int .i64 (min x y)) ∧ w = w' := by
  go_enter Try.func41, Try.ntmps41
  go_wp2
  all_goals (go_ret; exact ⟨ret_int (by omega), rfl⟩)


theorem ClkAt.grown {w w' : World} {b : Nat} {L : Ctl} {c : Ck} {row : Option Nat} (h : ClkAt w b L c) (hg : w.grownBy w' row) (hne : some b ≠ row) : ClkAt w' b L c :=
  (hg.block b (Array.getElem?_eq_some_iff.1 h).1 hne).trans h
theorem CtlAt.grown {w w' : World} {L : Ctl} {row : Option Nat} (h : CtlAt w L) (hg : w.grownBy w' row) (hne : some L.cb ≠ row) (hne2 : some L.pb ≠ row) : CtlAt w' L :=
  ⟨h.len, (hg.block L.cb (Array.getElem?_eq_some_iff.1 h.ctl).1 hne).trans h.ctl, fun i p hp =>
    ⟨hg.cell (h.per i p hp).1 hne2, hg.cell (h.per i p hp).2.1 hne2, hg.cell (h.per i p hp).2.2 hne2⟩⟩


theorem Ck.per_at {L : Ctl} {c : Ck} (hI : Inv L c) : L.ps[(c.hand c.side).period]? = some (c.per L) := by
  have hlt : (c.hand c.side).period < L.ps.length := by cases hs : c.side <;> simp [Ck.hand, hI.pa, hI.pb]
  simp [Ck.per, hlt]

theorem write_a {V : World} {b : Nat} {L : Ctl} {c : Ck} (k : V.heap[b]? = some (.cells (c.cells L.cb) 65 (0, 0))) (N m d now : Int) (p : Nat) :
    (((((((((V.setCell ⟨b, 1, none⟩ (.int .i64 N)).setCell ⟨b, 2, none⟩ (.int .i64 m)).setCell ⟨b, 3, none⟩ (.int .i64 p)).setCell ⟨b, 4, none⟩ (.int .i64 d)).setCell ⟨b, 9, none⟩ (.int .i64 1)).setCell ⟨b, 10, none⟩ (.int .i64 0)).setCell ⟨b, 11, none⟩ (.int .i64 now)).setCell ⟨b, 12, none⟩ (.int .i64 now))).heap[b]? =
      some (.cells (({ c.setHand false ⟨N, m, p, d⟩ with side := !false, used := 0, since := now, last := now } : Ck).cells L.cb) 65 (0, 0)) := by
  apply blk_at
  · repeat (with_reducible first | exact k | apply blk_set)
  · obtain ⟨⟨sa, ma, pa, da⟩, ⟨sb, mb, pb, db⟩, side, used, since, last, runs⟩ := c
    simp [Ck.cells, Ck.setHand, sideI]
theorem write_b {V : World} {b : Nat} {L : Ctl} {c : Ck} (k : V.heap[b]? = some (.cells (c.cells L.cb) 65 (0, 0))) (N m d now : Int) (p : Nat) :
    (((((((((V.setCell ⟨b, 5, none⟩ (.int .i64 N)).setCell ⟨b, 6, none⟩ (.int .i64 m)).setCell ⟨b, 7, none⟩ (.int .i64 p)).setCell ⟨b, 8, none⟩ (.int .i64 d)).setCell ⟨b, 9, none⟩ (.int .i64 0)).setCell ⟨b, 10, none⟩ (.int .i64 0)).setCell ⟨b, 11, none⟩ (.int .i64 now)).setCell ⟨b, 12, none⟩ (.int .i64 now))).heap[b]? =
      some (.cells (({ c.setHand true ⟨N, m, p, d⟩ with side := !true, used := 0, since := now, last := now } : Ck).cells L.cb) 65 (0, 0)) := by
  apply blk_at
  · repeat (with_reducible first | exact k | apply blk_set)
  · obtain ⟨⟨sa, ma, pa, da⟩, ⟨sb, mb, pb, db⟩, side, used, since, last, runs⟩ := c
    simp [Ck.cells, Ck.setHand, sideI]
end Go.Proofs.Ytgigehlflgcdpaa
