/-
  A struct of many cells, read and written whole: its block is known as a whole.
-/
import Derived.Test.YtgigehlflgcdpaaF
import Derived.Deep.MidRow
set_option linter.unusedVariables false
set_option linter.unusedSimpArgs false
namespace Go.Proofs.Ytgigehlflgcdpaa
open Go.RowKit
section
variable {P : Program} {g : Nat} {t : TypeId}
theorem setCells_other {b : Nat} (h : b ≠ g) : ∀ (vs : List Value) (o : Nat) (w : World), (w.setCells g o vs).heap[b]? = w.heap[b]?
  | [], _, _ => rfl
  | v :: vs, o, w => (setCells_other h vs (o + 1) (w.setCell ⟨g, o, none⟩ v)).trans (Below.heap_setCell w ⟨g, o, none⟩ v b h)
theorem setCells_size : ∀ (vs : List Value) (o : Nat) (w : World), (w.setCells g o vs).heap.size = w.heap.size
  | [], _, _ => rfl
  | v :: vs, o, w => (setCells_size vs (o + 1) (w.setCell ⟨g, o, none⟩ v)).trans (by simp [World.setCell])
theorem setCells_below {B : Nat} {a : World} (hg : B ≤ g) : ∀ (vs : List Value) (o : Nat) (w : World), Below B a w → Below B a (w.setCells g o vs)
  | [], _, _, h => h
  | v :: vs, o, w, h => setCells_below hg vs (o + 1) (w.setCell ⟨g, o, none⟩ v) (h.setCell hg v)
theorem setCells_same' : ∀ (vs : List Value) (o : Nat) (w : World) (old : Array Value), w.heap[g]? = some (.cells old t (0, 0)) → o + vs.length = old.size →
    (w.setCells g o vs).heap[g]? = some (.cells (old.toList.take o ++ vs).toArray t (0, 0))
  | [], o, w, old, h, hs => by
    have : old.toList.take o = old.toList := List.take_of_length_le (by simp at hs; simp; omega)
    simpa [this, World.setCells] using h
  | v :: vs, o, w, old, h, hs => by
    have h1 := blk_set h o v
    have h2 := setCells_same' vs (o + 1) _ _ h1 (by simp at hs ⊢; omega)
    have hlt : o < old.toList.length := by simp at hs ⊢; omega
    have e : (old.setIfInBounds o v).toList.take (o + 1) ++ vs = old.toList.take o ++ v :: vs := by
      rw [Array.toList_setIfInBounds, List.take_succ_eq_append_getElem (by simpa using hlt), List.take_set_of_le (Nat.le_refl _)]
      simp
    rw [← e]
    exact h2
theorem setCells_same {vs : List Value} {w : World} {old : Array Value} (h : w.heap[g]? = some (.cells old t (0, 0))) (hs : old.size = vs.length) :
    (w.setCells g 0 vs).heap[g]? = some (.cells vs.toArray t (0, 0)) := by simpa using setCells_same' vs 0 w old h (by omega)

/-- a struct read whole -/
theorem load_row {ops : Array Oper} {rest : List Oper} {o : Oper} {a : Act} {w : World} {Q : Exit → Act → World → Prop} (ty : TypeId) (x : Operand) (hgd : o.guard = none) (ho : o.op = .load ty x)
    (hx : a.eval x = .pointer (some ⟨g, 0, none⟩)) (cs : Array Value) (hg : w.heap[g]? = some (.cells cs t (0, 0))) (d : TypeDesc)
    (hu : P.underlying ty = some d) (hd : (match d with | .struct _ | .array _ _ => true | _ => false) = true) (hi : (P.info? ty).map (·.size) = some cs.size)
    (h : wpList P ops Q rest (a.put o.dst (.agg cs)) w) : wpList P ops Q (o :: rest) a w :=
  wpList_load_row hgd ty x ho g hx t cs (0, 0) d hg hu hd hi h
/-- a struct written whole -/
theorem store_row {ops : Array Oper} {rest : List Oper} {o : Oper} {a : Act} {w : World} {Q : Exit → Act → World → Prop} (ty : TypeId) (x y : Operand) (hgd : o.guard = none) (ho : o.op = .store ty x y)
    (cells : Array Value) (hx : a.eval x = .pointer (some ⟨g, 0, none⟩)) (hy : a.eval y = .agg cells) (old : Array Value) (hg : w.heap[g]? = some (.cells old t (0, 0))) (hs : old.size = cells.size)
    (hi : (P.info? ty).map (·.size) = some cells.size) (h1 : cells.all (·.oneCell') = true)
    (h : wpList P ops Q rest (a.put o.dst undef) (w.setCells g 0 cells.toList)) : wpList P ops Q (o :: rest) a w :=
  wpList_store_mid hgd ty x y ho g 0 cells hx hy (fun j hj => by
    have hlt : j < old.size := by omega
    simp only [Nat.zero_add]
    exact ⟨by rw [cell_of hg j _ (Array.getElem?_eq_getElem hlt)]; rfl, free_of hg j⟩) hi h1 h
end
end Go.Proofs.Ytgigehlflgcdpaa
