/- Words on worlds, blocks and calls that all texts of this seat use. Conditions: as in each theorem. -/
import Derived.Test.YtbhienpbfidgjaaGreatDoorRows
import Derived.Test.YtbhienpbfidgjaaGreatDoorQ
import Derived.WalkKit
import Derived.WalkSpells
import Derived.WalkLawsBesides
import Derived.Deep.QuietTactic
import Derived.BigQuiet
import Derived.Lib.Hide
import Derived.StillTailTactics
import Derived.Deep.RegionHeld3
import Derived.Laws.EntriesVeiled
import Derived.RegionTactic
import Derived.BigRegion
import Derived.Deep.MidRow
import Derived.Deep.DeepCutAuto
import Derived.OrdersHeld
import Derived.Deep.RegionHeld
set_option linter.unusedVariables false
set_option linter.unusedSimpArgs false
namespace Go.Proofs.YtbhienpbfidgjaaGreatDoor
open Go.RowKit

theorem ret_int {k : IntKind} {a b : Int} (h : a = b) : Ending.returned (.int k a) = .returned (.int k b) := by rw [h]
theorem ret_bool {a b : Bool} (h : a = b) : Ending.returned (.bool a) = .returned (.bool b) := by rw [h]
theorem cell_of {w : World} {b : Nat} {cs : Array Value} {t : TypeId} {fr : Nat × Nat} (h : w.heap[b]? = some (.cells cs t fr)) (i : Nat) (v : Value) (hv : cs[i]? = some v) :
    w.cell? ⟨b, i, none⟩ = some v := by simp [World.cell?, h, hv]
theorem free_of {w : World} {b : Nat} {cs : Array Value} {t : TypeId} (h : w.heap[b]? = some (.cells cs t (0, 0))) (i : Nat) :
    w.frozen? ⟨b, i, none⟩ = false := by simp [World.frozen?, h]
theorem grown_drewN {a w : World} {row : Option Nat} (h : a.grownBy w row) (n : Nat) : a.grownBy (w.drewN n) row := ⟨h.os, h.tape, h.output, h.size, h.block⟩
theorem grown_refl (a : World) (row : Option Nat) : a.grownBy a row := ⟨rfl, rfl, rfl, Nat.le_refl _, fun _ _ _ => rfl⟩
theorem grown_set {a w : World} {g : Nat} (h : a.grownBy w (some g)) {p : Addr} (hp : p.block = g ∨ a.heap.size ≤ p.block) (u : Value) : a.grownBy (w.setCell p u) (some g) :=
  ⟨h.os, h.tape, h.output, by simpa [World.setCell] using h.size, fun i hi hne => (Below.heap_setCell w p u i (by
    rintro rfl
    rcases hp with hp | hp
    · exact hne (by rw [hp])
    · omega)).trans (h.block i hi hne)⟩
theorem blk_set {w : World} {b : Nat} {cs : Array Value} {t : TypeId} (h : w.heap[b]? = some (.cells cs t (0, 0))) (i : Nat) (v : Value) :
    (w.setCell ⟨b, i, none⟩ v).heap[b]? = some (.cells (cs.setIfInBounds i v) t (0, 0)) := by
  simp [World.setCell, Array.getElem?_modify, h]
theorem blk_drew {w : World} {b : Nat} {o : Obj} (h : w.heap[b]? = some o) : w.drew.heap[b]? = some o := h
theorem blk_alloc {w : World} {b : Nat} {o : Obj} (h : w.heap[b]? = some o) (x : Obj) : (w.alloc x).heap[b]? = some o :=
  (Below.heap_alloc w x b (Array.getElem?_eq_some_iff.1 h).1).trans h
theorem blk_other {w : World} {b : Nat} {o : Obj} (h : w.heap[b]? = some o) {p : Addr} (hp : b ≠ p.block) (v : Value) : (w.setCell p v).heap[b]? = some o :=
  (Below.heap_setCell w p v b hp).trans h
theorem blk_at {W : World} {b : Nat} {cs cs' : Array Value} {t : TypeId} (h : W.heap[b]? = some (.cells cs t (0, 0))) (e : cs = cs') : W.heap[b]? = some (.cells cs' t (0, 0)) := e ▸ h
theorem grown_drew {a w : World} {row : Option Nat} (h : a.grownBy w row) : a.grownBy w.drew row := ⟨h.os, h.tape, h.output, h.size, h.block⟩
theorem blk_new {w : World} {k : Nat} (h : k = w.heap.size) (o : Obj) : (w.alloc o).heap[k]? = some o := by subst h; exact Array.getElem?_push_size
theorem lt_of_cell {w : World} {b i : Nat} {v : Value} (h : w.cell? ⟨b, i, none⟩ = some v) : b < w.heap.size := by
  rcases Nat.lt_or_ge b w.heap.size with hl | hg
  · exact hl
  · simp [World.cell?, Array.getElem?_eq_none hg] at h
theorem grown_row {a w : World} {row : Option Nat} (h : a.grownBy w none) : a.grownBy w row :=
  ⟨h.os, h.tape, h.output, h.size, fun k hk _ => h.block k hk (by simp)⟩
theorem below_of_alloc {w V : World} {o : Obj} (h : Below (w.alloc o).heap.size (w.alloc o) V) : Below w.heap.size w V :=
  ((Below.refl w.heap.size w).alloc (Nat.le_refl _) o).trans (h.mono (by simp))
theorem box_of {w V : World} {o : Obj} (h : Below (w.alloc o).heap.size (w.alloc o) V) : V.heap[w.heap.size]? = some o :=
  (h.block _ (by simp)).trans (blk_new rfl o)
theorem below_of_alloc2 {w V : World} {o o2 : Obj} (h : Below ((w.alloc o).alloc o2).heap.size ((w.alloc o).alloc o2) V) : Below w.heap.size w V := below_of_alloc (below_of_alloc h)
theorem box_of2 {w V : World} {o o2 : Obj} (h : Below ((w.alloc o).alloc o2).heap.size ((w.alloc o).alloc o2) V) : V.heap[w.heap.size]? = some o ∧ V.heap[w.heap.size + 1]? = some o2 :=
  ⟨(h.block _ (by first | (simp; done) | (simp; omega))).trans (blk_alloc (blk_new rfl o) o2), (h.block _ (by simp)).trans (blk_new (by simp) o2)⟩
theorem below_at {w V : World} (h : Below w.heap.size w V) {b i : Nat} {v : Value} (hc : w.cell? ⟨b, i, none⟩ = some v) : V.cell? ⟨b, i, none⟩ = some v :=
  (h.cell (p := ⟨b, i, none⟩) (lt_of_cell hc)).trans hc
theorem below_blk {w V : World} (h : Below w.heap.size w V) {b : Nat} {o : Obj} (hc : w.heap[b]? = some o) : V.heap[b]? = some o :=
  (h.block b (Array.getElem?_eq_some_iff.1 hc).1).trans hc
theorem lt_of_blk {w : World} {b : Nat} {o : Obj} (h : w.heap[b]? = some o) : b < w.heap.size := (Array.getElem?_eq_some_iff.1 h).1
theorem below_drewN {B : Nat} {a w : World} (h : Below B a w) (n : Nat) : Below B a (w.drewN n) := ⟨h.os, h.tape, h.output, h.size, h.block⟩
theorem grown_of_below {B : Nat} {w w' : World} (h : Below B w w') (hs : w.heap.size ≤ B) : w.grownBy w' none := ⟨h.os, h.tape, h.output, h.size, fun k hk _ => h.block k (by omega)⟩
theorem below_grown2 {w w' : World} {row : Option Nat} (h : Below w.heap.size w w') : w.grownBy w' row := ⟨h.os, h.tape, h.output, h.size, fun k hk _ => h.block k hk⟩
theorem cell_past {w : World} {b i : Nat} {v : Value} (h : w.cell? ⟨b, i, none⟩ = some v) (o : Obj) : (w.alloc o).cell? ⟨b, i, none⟩ = some v := (World.cell?_alloc_past _ _ _ (lt_of_cell h)).trans h
theorem cell_far {w : World} {p a : Addr} {v : Value} (h : p.block ≠ a.block) : (w.setCell p v).cell? a = w.cell? a := World.cell?_setCell_other _ _ _ _ (fun e => h (by rw [e]))
def Ext (B : Nat) (w : World) := {w' : World // Below B w w'}
theorem ext_region {id : Nat} {Q : Exit → Act → World → Prop} {a : Act} {w : World} {l : List Oper} (hm : Tryz.prog.follows .mixedOrders = true) (hB : Region.lexB .any l.toArray = true)
    (h : wpQuiet Tryz.prog l.toArray (fun w' => ∃ x : Ext w.heap.size w, w' = x.1) (fun a' => ∀ w', (∃ x : Ext w.heap.size w, w' = x.1) → Q .normal a' w') l a) : (Code.region id l.toArray true).wp Tryz.prog Q a w :=
  wp_region_quiet (C := fun w' => ∃ x : Ext w.heap.size w, w' = x.1) hm hB ⟨⟨_, (Below.refl _ _).drew⟩, rfl⟩ (by simpa using h)
theorem ext_tail {id : Nat} {Q : Exit → Act → World → Prop} {a : Act} {w : World} {l : List Oper} (n : Nat) (hm : Tryz.prog.follows .mixedOrders = true) (hB : Region.lexTailB .any l.toArray n = true)
    (h : wpQuiet Tryz.prog l.toArray (fun w' => ∃ x : Ext w.heap.size w, w' = x.1) (fun a' => ∀ w', (∃ x : Ext w.heap.size w, w' = x.1) → wpList Tryz.prog l.toArray Q (l.drop n) a' w') (l.take n) a) : (Code.region id l.toArray true).wp Tryz.prog Q a w :=
  wp_region_quiet_tail (fun w' => ∃ x : Ext w.heap.size w, w' = x.1) n hm hB ⟨⟨_, (Below.refl _ _).drew⟩, rfl⟩ h
def Pure (f : FuncId) (args : Array Value) (w : World) (v : Value) : Prop :=
  Calls Tryz.prog f args w fun e w' => e = .returned v ∧ Below w.heap.size w w'
theorem Pure.ext {f : FuncId} {args : Array Value} {B : Nat} {w : World} {v : Value} {x : Ext B w} (hB : B ≤ w.heap.size) (h : Pure f args x.1 v) :
    Calls Tryz.prog f args x.1 fun e w'' => e = .returned v ∧ ∃ y : Ext B w, w'' = y.1 :=
  h.mono fun _ w'' ⟨he, hb⟩ => ⟨he, ⟨w'', x.2.trans (hb.mono (Nat.le_trans hB x.2.size))⟩, rfl⟩
def Quiet (f : FuncId) (args : Array Value) (w : World) (v : Value) : Prop :=
  Calls Tryz.prog f args w fun e w' => e = .returned v ∧ ∃ n, w' = w.drewN n
theorem Quiet.pure {f : FuncId} {args : Array Value} {w : World} {v : Value} (h : Quiet f args w v) : Pure f args w v :=
  h.mono fun _ _ ⟨he, _, hw⟩ => ⟨he, hw ▸ ⟨rfl, rfl, rfl, Nat.le_refl _, fun _ _ => rfl⟩⟩
def Same (f : FuncId) (args : Array Value) (w : World) (v : Value) : Prop :=
  Calls Tryz.prog f args w fun e w' => e = .returned v ∧ w = w'
theorem Same.pure {f : FuncId} {args : Array Value} {w : World} {v : Value} (h : Same f args w v) : Pure f args w v :=
  h.mono fun _ _ ⟨he, hw⟩ => ⟨he, hw ▸ Below.refl _ _⟩
theorem Pure.of_eq {f : FuncId} {args : Array Value} {w : World} {v v' : Value} (h : Pure f args w v) (e : v = v') : Pure f args w v' := e ▸ h
end Go.Proofs.YtbhienpbfidgjaaGreatDoor
