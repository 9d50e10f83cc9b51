/- The reference: what is used and what is counted. Conditions: the numbers are within bounds. -/
import Derived.Test.YtgigehlflgcdpaaC
import Derived.RegionTactic
import Derived.BigRegion
set_option linter.unusedVariables false
set_option linter.unusedSimpArgs false
namespace Go.Proofs.Ytgigehlflgcdpaa
open Go.RowKit
-- the reference: a clock by value

/-- the worlds behind w in which all below B stands as it stood -/
def Ext (B : Nat) (w : World) := {w' : World // Below B w w'}
theorem ext_region {id : Nat} {Q : Exit → Act → World → Prop} {a : Act} {w : World} {l : List Oper} (hm : Try.prog.follows .mixedOrders = true) (hB : Region.lexB .any l.toArray = true)
    (h : wpQuiet Try.prog l.toArray (fun w' => ∃ x : Ext w.heap.size w, w' = x.1) (fun a' => ∀ w', (∃ x : Ext w.heap.size w, w' = x.1) → Q .normal a' w') l a) : (Code.region id l.toArray true).wp Try.prog Q a w :=
  wp_region_quiet (C := fun w' => ∃ x : Ext w.heap.size w, w' = x.1) hm hB ⟨⟨_, (Below.refl _ _).drew⟩, rfl⟩ (by simpa using h)
theorem ext_tail {id : Nat} {Q : Exit → Act → World → Prop} {a : Act} {w : World} {l : List Oper} (n : Nat) (hm : Try.prog.follows .mixedOrders = true) (hB : Region.lexTailB .any l.toArray n = true)
    (h : wpQuiet Try.prog l.toArray (fun w' => ∃ x : Ext w.heap.size w, w' = x.1) (fun a' => ∀ w', (∃ x : Ext w.heap.size w, w' = x.1) → wpList Try.prog l.toArray Q (l.drop n) a' w') (l.take n) a) : (Code.region id l.toArray true).wp Try.prog Q a w :=
  wp_region_quiet_tail (fun w' => ∃ x : Ext w.heap.size w, w' = x.1) n hm hB ⟨⟨_, (Below.refl _ _).drew⟩, rfl⟩ h

/-- a call that hands back v and leaves all that there was -/
def Pure (f : FuncId) (args : Array Value) (w : World) (v : Value) : Prop :=
  Calls Try.prog f args w fun e w' => e = .returned v ∧ Below w.heap.size w w'
theorem Pure.ext {f : FuncId} {args : Array Value} {B : Nat} {w : World} {v : Value} {x : Ext B w} (hB : B ≤ w.heap.size) (h : Pure f args x.1 v) :
    Calls Try.prog f args x.1 fun e w'' => e = .returned v ∧ ∃ y : Ext B w, w'' = y.1 :=
  h.mono fun _ w'' ⟨he, hb⟩ => ⟨he, ⟨w'', x.2.trans (hb.mono (Nat.le_trans hB x.2.size))⟩, rfl⟩
theorem Quiet.pure {f : FuncId} {args : Array Value} {w : World} {v : Value} (h : Quiet f args w v) : Pure f args w v :=
  h.mono fun _ _ ⟨he, _, hw⟩ => ⟨he, hw ▸ ⟨rfl, rfl, rfl, Nat.le_refl _, fun _ _ => rfl⟩⟩

/-- a control's periods at an address -/
structure PerAt (w : World) (ps : List Per) (pb off : Nat) : Prop where
  per : ∀ i p, ps[i]? = some p → w.cell? ⟨pb, off + i * 3, none⟩ = some (.int .i64 p.moves) ∧ w.cell? ⟨pb, off + i * 3 + 1, none⟩ = some (.int .i64 p.time) ∧ w.cell? ⟨pb, off + i * 3 + 2, none⟩ = some (.int .i64 p.bonus)
theorem PerAt.below {w w' : World} {ps : List Per} {pb off : Nat} (h : PerAt w ps pb off) (hb : Below w.heap.size w w') : PerAt w' ps pb off :=
  ⟨fun i p hp => by
    obtain ⟨a, b, c⟩ := h.per i p hp
    have hl := lt_of_cell a
    exact ⟨(hb.cell hl).trans a, (hb.cell hl).trans b, (hb.cell hl).trans c⟩⟩

theorem below_of_alloc {w V : World} {o : Obj} (h : Below (w.alloc o).heap.size (w.alloc o) V) : Below w.heap.size w V :=
  ((Below.refl w.heap.size w).alloc (Nat.le_refl _) o).trans (h.mono (by simp))
theorem box_of {w V : World} {o : Obj} (h : Below (w.alloc o).heap.size (w.alloc o) V) : V.heap[w.heap.size]? = some o :=
  (h.block _ (by simp)).trans (blk_new rfl o)
theorem below_at {w V : World} (h : Below w.heap.size w V) {b i : Nat} {v : Value} (hc : w.cell? ⟨b, i, none⟩ = some v) : V.cell? ⟨b, i, none⟩ = some v :=
  (h.cell (p := ⟨b, i, none⟩) (lt_of_cell hc)).trans hc
theorem below_blk {w V : World} (h : Below w.heap.size w V) {b : Nat} {o : Obj} (hc : w.heap[b]? = some o) : V.heap[b]? = some o :=
  (h.block b (Array.getElem?_eq_some_iff.1 hc).1).trans hc

/-- where the reference's control has its periods -/
structure Rf where
  pb : Nat
  off : Nat
  cap : Nat
def Ck.rcells (c : Ck) (L : Ctl) (r : Rf) : Array Value := #[.int .i64 L.k, .slice (some ⟨r.pb, r.off, none⟩) L.ps.length r.cap, .int .i64 c.a.stock, .int .i64 c.b.stock, .int .i64 c.a.moves, .int .i64 c.b.moves,
  .int .i64 c.a.period, .int .i64 c.b.period, .int .i64 c.a.done, .int .i64 c.b.done, .int .i64 (sideI c.side), .int .i64 c.used, .bool c.runs, .int .i64 c.since, .int .i64 c.last]

theorem below_drewN {B : Nat} {a w : World} (h : Below B a w) (n : Nat) : Below B a (w.drewN n) := ⟨h.os, h.tape, h.output, h.size, h.block⟩

set_option maxHeartbeats 400000 in
theorem used_r {w : World} {L : Ctl} {c : Ck} (r : Rf) (now : Int) (hI : Inv L c) (hn0 : c.last ≤ now) (hn1 : now ≤ 1099511627776) :
    Pure 33 #[.agg (c.rcells L r), .int .i64 now] w (.int .i64 (c.spent now)) := by
  obtain ⟨i1, i2, i3, i4, i5, i6, i7, i8, i9, i10, i11, i12, i13, i14, i15⟩ := hI
  clear i15 i14 i13 i12 i8 i9 i10 i11
  obtain ⟨⟨sa, ma, pa, da⟩, ⟨sb, mb, pb, db⟩, side, used, since, last, runs⟩ := c
  simp only [Ck.spent, Ck.rcells] at *
  cases runs
  · unfold Pure
    go_enter Try.func33, Try.ntmps33
    go_wp2_with fail
    go_wp2
    go_ret
    refine ⟨rfl, ?_⟩
    repeat (first | exact Below.refl _ _ | (with_reducible assumption) | (with_reducible apply below_drewN) | (with_reducible apply Below.drew) | (refine Below.alloc ?_ (by simp) _) | (refine Below.setCell ?_ (by simp) _))
  · unfold Pure
    go_enter Try.func33, Try.ntmps33
    go_wp2_with fail
    go_wp2
    go_ret
    refine ⟨rfl, ?_⟩
    repeat (first | exact Below.refl _ _ | (with_reducible assumption) | (with_reducible apply below_drewN) | (with_reducible apply Below.drew) | (refine Below.alloc ?_ (by simp) _) | (refine Below.setCell ?_ (by simp) _))

set_option maxHeartbeats 400000 in
theorem counted_r {w : World} {L : Ctl} {c : Ck} (r : Rf) (now : Int) (hP : PerAt w L.ps r.pb r.off) (hI : Inv L c) (hn0 : c.last ≤ now) (hn1 : now ≤ 1099511627776) :
    Pure 32 #[.agg (c.rcells L r), .int .i64 now] w (.int .i64 (c.counted L now)) := by
  obtain ⟨s1, s2⟩ := spent_bd now hI hn0 hn1
  obtain ⟨_, _, _, _, b1, b2⟩ := per_bd hI
  have hat := Ck.per_at hI
  obtain ⟨v1, v2, v3⟩ := hP.per _ _ hat
  have hpa := hI.pa
  have hpb := hI.pb
  have hu := fun w' => Lib.hid (used_r (w := w') r now hI hn0 hn1)
  have hlt := lt_of_cell v1
  have EC : c.counted L now = if L.k = 2 then max 0 (c.spent now - (c.per L).bonus) else c.spent now := rfl
  rw [EC]
  generalize c.spent now = x at *
  generalize (c.per L).bonus = bn at *
  clear EC v1 v2 hat hI
  obtain ⟨⟨sa, ma, pa, da⟩, ⟨sb, mb, pb, db⟩, side, used, since, last, runs⟩ := c
  simp only [Ck.rcells] at *
  by_cases hk2 : L.k = 2
  · rw [if_pos hk2]
    have hk3 : (L.k == 2) = true := by simpa using hk2
    clear hk2
    cases side <;> simp only [sideI, Ck.hand] at *
    all_goals
      unfold Pure
      go_enter Try.func32, Try.ntmps32
      go_wp2_with fail
      refine ((hu _).out).mono ?_
      rintro e V ⟨rfl, hV⟩
      have hB := below_of_alloc hV
      have hX := box_of hV
      have v3 := below_at hB v3
      have x0 : V.cell? ⟨w.heap.size, 0, none⟩ = some (.int .i64 L.k) := cell_of hX 0 _ rfl
      have x1 : V.cell? ⟨w.heap.size, 1, none⟩ = some (.slice (some ⟨r.pb, r.off, none⟩) L.ps.length r.cap) := cell_of hX 1 _ rfl
      have x6 : V.cell? ⟨w.heap.size, 6, none⟩ = some (.int .i64 pa) := cell_of hX 6 _ rfl
      have x7 : V.cell? ⟨w.heap.size, 7, none⟩ = some (.int .i64 pb) := cell_of hX 7 _ rfl
      have x10 := cell_of hX 10 _ rfl
      clear hX hV
      go_wp2_with fail
      go_quiet (fail)
      go_wp2
      all_goals
        go_ret
        exact ⟨ret_int (by omega), below_drewN hB _⟩
  · rw [if_neg hk2]
    have hk3 : (L.k == 2) = false := by simpa using hk2
    clear hk2
    unfold Pure
    go_enter Try.func32, Try.ntmps32
    go_wp2_with fail
    refine ((hu _).out).mono ?_
    rintro e V ⟨rfl, hV⟩
    have hB := below_of_alloc hV
    have hX := box_of hV
    have x0 : V.cell? ⟨w.heap.size, 0, none⟩ = some (.int .i64 L.k) := cell_of hX 0 _ rfl
    clear hX hV
    go_wp2
    go_ret
    exact ⟨rfl, hB⟩
end Go.Proofs.Ytgigehlflgcdpaa
