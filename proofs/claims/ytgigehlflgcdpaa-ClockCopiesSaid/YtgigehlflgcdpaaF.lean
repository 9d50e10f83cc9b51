/- The reference: has the flag fallen. Conditions: the numbers are within bounds. -/
import Derived.Test.YtgigehlflgcdpaaE
set_option linter.unusedVariables false
set_option linter.unusedSimpArgs false
namespace Go.Proofs.Ytgigehlflgcdpaa
open Go.RowKit

instance ext_some (B : Nat) (w : World) : Nonempty (Ext B w) := ⟨⟨w, Below.refl B w⟩⟩
theorem ext_cell {B : Nat} {w : World} {b i : Nat} {v : Value} (h : w.cell? ⟨b, i, none⟩ = some v) (hb : b < B) : ∀ x : Ext B w, x.1.cell? ⟨b, i, none⟩ = some v :=
  fun x => (x.2.cell (p := ⟨b, i, none⟩) hb).trans h
theorem rcells_all {w : World} {s : Nat} {c : Ck} {L : Ctl} {r : Rf} (h : w.heap[s]? = some (.cells (c.rcells L r) 37 (0, 0))) :
    w.cell? ⟨s, 0, none⟩ = some (.int .i64 L.k) ∧ w.cell? ⟨s, 1, none⟩ = some (.slice (some ⟨r.pb, r.off, none⟩) L.ps.length r.cap) ∧
    w.cell? ⟨s, 2, none⟩ = some (.int .i64 c.a.stock) ∧ w.cell? ⟨s, 3, none⟩ = some (.int .i64 c.b.stock) ∧
    w.cell? ⟨s, 4, none⟩ = some (.int .i64 c.a.moves) ∧ w.cell? ⟨s, 5, none⟩ = some (.int .i64 c.b.moves) ∧
    w.cell? ⟨s, 6, none⟩ = some (.int .i64 c.a.period) ∧ w.cell? ⟨s, 7, none⟩ = some (.int .i64 c.b.period) ∧
    w.cell? ⟨s, 8, none⟩ = some (.int .i64 c.a.done) ∧ w.cell? ⟨s, 9, none⟩ = some (.int .i64 c.b.done) ∧
    w.cell? ⟨s, 10, none⟩ = some (.int .i64 (sideI c.side)) ∧ w.cell? ⟨s, 11, none⟩ = some (.int .i64 c.used) ∧
    w.cell? ⟨s, 12, none⟩ = some (.bool c.runs) ∧ w.cell? ⟨s, 13, none⟩ = some (.int .i64 c.since) ∧ w.cell? ⟨s, 14, none⟩ = some (.int .i64 c.last) := by
  refine ⟨?_, ?_, ?_, ?_, ?_, ?_, ?_, ?_, ?_, ?_, ?_, ?_, ?_, ?_, ?_⟩ <;> exact cell_of h _ _ rfl

set_option maxHeartbeats 400000 in
theorem fallen_r {w : World} {L : Ctl} {c : Ck} (r : Rf) (now : Int) (hP : PerAt w L.ps r.pb r.off) (hI : Inv L c) (hn0 : c.last ≤ now) (hn1 : now ≤ 1099511627776) :
    Pure 31 #[.agg (c.rcells L r), .int .i64 now] w (.bool (c.fallen L now)) := by
  have e : c.fallen L now = decide ((c.hand c.side).stock ≤ c.counted L now) := rfl
  rw [e]
  have hc := fun w' hp => Lib.hid (counted_r (w := w') r now hp hI hn0 hn1)
  generalize c.counted L now = x at *
  clear e hI
  obtain ⟨⟨sa, ma, pa, da⟩, ⟨sb, mb, pb, db⟩, side, used, since, last, runs⟩ := c
  simp only [Ck.hand] at *
  cases side
  · unfold Pure
    go_enter Try.func31, Try.ntmps31
    go_wp2_with fail
    refine wp_forget (fun W => Below w.heap.size w W ∧ W.heap[w.heap.size]? = some (.cells (Ck.rcells ⟨⟨sa, ma, pa, da⟩, ⟨sb, mb, pb, db⟩, false, used, since, last, runs⟩ L r) 37 (0, 0))) ⟨(Below.refl _ _).alloc (Nat.le_refl _) _, blk_new rfl _⟩ ?_
    rintro W ⟨hB, hX⟩
    have hl : w.heap.size < W.heap.size := (Array.getElem?_eq_some_iff.1 hX).1
    have ya := fun x : Ext W.heap.size W => rcells_all (c := ⟨⟨sa, ma, pa, da⟩, ⟨sb, mb, pb, db⟩, false, used, since, last, runs⟩) (L := L) (r := r) ((x.2.block _ hl).trans hX)
    have y0 := fun x => (ya x).1
    have y1 := fun x => (ya x).2.1
    have y2 := fun x => (ya x).2.2.1
    have y3 := fun x => (ya x).2.2.2.1
    have y4 := fun x => (ya x).2.2.2.2.1
    have y5 := fun x => (ya x).2.2.2.2.2.1
    have y6 := fun x => (ya x).2.2.2.2.2.2.1
    have y7 := fun x => (ya x).2.2.2.2.2.2.2.1
    have y8 := fun x => (ya x).2.2.2.2.2.2.2.2.1
    have y9 := fun x => (ya x).2.2.2.2.2.2.2.2.2.1
    have y10 := fun x => (ya x).2.2.2.2.2.2.2.2.2.2.1
    have y11 := fun x => (ya x).2.2.2.2.2.2.2.2.2.2.2.1
    have y12 := fun x => (ya x).2.2.2.2.2.2.2.2.2.2.2.2.1
    have y13 := fun x => (ya x).2.2.2.2.2.2.2.2.2.2.2.2.2.1
    have y14 := fun x => (ya x).2.2.2.2.2.2.2.2.2.2.2.2.2.2
    clear ya hX
    dsimp only [sideI] at y0 y1 y2 y3 y4 y5 y6 y7 y8 y9 y10 y11 y12 y13 y14
    have hC := fun (q : Ext W.heap.size W) => hc q.1 ((hP.below hB).below q.2)
    clear hc
    refine ext_region (by kernel_rfl) (by kernel_rfl) ?_
    repeat (go_big_quiet_step ((go_at_call 32; exact Pure.ext (Nat.le_refl _) (Hid.out (hC _)))))
    refine wpQuiet_nil ?_
    rintro _ ⟨⟨V, hV⟩, rfl⟩
    go_wp2
    go_ret
    exact ⟨rfl, hB.trans (hV.mono hB.size)⟩
  · unfold Pure
    go_enter Try.func31, Try.ntmps31
    go_wp2_with fail
    refine wp_forget (fun W => Below w.heap.size w W ∧ W.heap[w.heap.size]? = some (.cells (Ck.rcells ⟨⟨sa, ma, pa, da⟩, ⟨sb, mb, pb, db⟩, true, used, since, last, runs⟩ L r) 37 (0, 0))) ⟨(Below.refl _ _).alloc (Nat.le_refl _) _, blk_new rfl _⟩ ?_
    rintro W ⟨hB, hX⟩
    have hl : w.heap.size < W.heap.size := (Array.getElem?_eq_some_iff.1 hX).1
    have ya := fun x : Ext W.heap.size W => rcells_all (c := ⟨⟨sa, ma, pa, da⟩, ⟨sb, mb, pb, db⟩, true, used, since, last, runs⟩) (L := L) (r := r) ((x.2.block _ hl).trans hX)
    have y0 := fun x => (ya x).1
    have y1 := fun x => (ya x).2.1
    have y2 := fun x => (ya x).2.2.1
    have y3 := fun x => (ya x).2.2.2.1
    have y4 := fun x => (ya x).2.2.2.2.1
    have y5 := fun x => (ya x).2.2.2.2.2.1
    have y6 := fun x => (ya x).2.2.2.2.2.2.1
    have y7 := fun x => (ya x).2.2.2.2.2.2.2.1
    have y8 := fun x => (ya x).2.2.2.2.2.2.2.2.1
    have y9 := fun x => (ya x).2.2.2.2.2.2.2.2.2.1
    have y10 := fun x => (ya x).2.2.2.2.2.2.2.2.2.2.1
    have y11 := fun x => (ya x).2.2.2.2.2.2.2.2.2.2.2.1
    have y12 := fun x => (ya x).2.2.2.2.2.2.2.2.2.2.2.2.1
    have y13 := fun x => (ya x).2.2.2.2.2.2.2.2.2.2.2.2.2.1
    have y14 := fun x => (ya x).2.2.2.2.2.2.2.2.2.2.2.2.2.2
    clear ya hX
    dsimp only [sideI] at y0 y1 y2 y3 y4 y5 y6 y7 y8 y9 y10 y11 y12 y13 y14
    have hC := fun (q : Ext W.heap.size W) => hc q.1 ((hP.below hB).below q.2)
    clear hc
    refine ext_region (by kernel_rfl) (by kernel_rfl) ?_
    repeat (go_big_quiet_step ((go_at_call 32; exact Pure.ext (Nat.le_refl _) (Hid.out (hC _)))))
    refine wpQuiet_nil ?_
    rintro _ ⟨⟨V, hV⟩, rfl⟩
    go_wp2
    go_ret
    exact ⟨rfl, hB.trans (hV.mono hB.size)⟩
end Go.Proofs.Ytgigehlflgcdpaa
