/- Structs of many cells, read and written whole, in plain regions and in regions that draw their order. Conditions: as in each theorem. -/
import Derived.Test.YtbhienpbfidgjaaGreatDoorA
import Derived.Laws.ResultCell
set_option linter.unusedVariables false
set_option linter.unusedSimpArgs false
namespace Go.Proofs.YtbhienpbfidgjaaGreatDoor
open Go.RowKit
section
variable {P : Program} {g : Nat} {t : TypeId}
theorem setCells_other {b : Nat} (h : b ≠ g) : ∀ (vs : List Value) (o : Nat) (w : World), (w.setCells g o vs).heap[b]? = w.heap[b]?
  | [], _, _ => rfl
  | v :: vs, o, w => (setCells_other h vs (o + 1) (w.setCell ⟨g, o, none⟩ v)).trans (Below.heap_setCell w ⟨g, o, none⟩ v b h)
theorem setCells_size : ∀ (vs : List Value) (o : Nat) (w : World), (w.setCells g o vs).heap.size = w.heap.size
  | [], _, _ => rfl
  | v :: vs, o, w => (setCells_size vs (o + 1) (w.setCell ⟨g, o, none⟩ v)).trans (by simp [World.setCell])
theorem setCells_below {B : Nat} {a : World} (hg : B ≤ g) : ∀ (vs : List Value) (o : Nat) (w : World), Below B a w → Below B a (w.setCells g o vs)
  | [], _, _, h => h
  | v :: vs, o, w, h => setCells_below hg vs (o + 1) (w.setCell ⟨g, o, none⟩ v) (h.setCell hg v)
theorem setCells_same' : ∀ (vs : List Value) (o : Nat) (w : World) (old : Array Value), w.heap[g]? = some (.cells old t (0, 0)) → o + vs.length = old.size →
    (w.setCells g o vs).heap[g]? = some (.cells (old.toList.take o ++ vs).toArray t (0, 0))
  | [], o, w, old, h, hs => by
    have : old.toList.take o = old.toList := List.take_of_length_le (by simp at hs; simp; omega)
    simpa [this, World.setCells] using h
  | v :: vs, o, w, old, h, hs => by
    have h1 := blk_set h o v
    have h2 := setCells_same' vs (o + 1) _ _ h1 (by simp at hs ⊢; omega)
    have hlt : o < old.toList.length := by simp at hs ⊢; omega
    have e : (old.setIfInBounds o v).toList.take (o + 1) ++ vs = old.toList.take o ++ v :: vs := by
      rw [Array.toList_setIfInBounds, List.take_succ_eq_append_getElem (by simpa using hlt), List.take_set_of_le (Nat.le_refl _)]
      simp
    rw [← e]
    exact h2
theorem setCells_same {vs : List Value} {w : World} {old : Array Value} (h : w.heap[g]? = some (.cells old t (0, 0))) (hs : old.size = vs.length) :
    (w.setCells g 0 vs).heap[g]? = some (.cells vs.toArray t (0, 0)) := by simpa using setCells_same' vs 0 w old h (by omega)

theorem setCells_arr {w : World} {old cs : Array Value} (h : w.heap[g]? = some (.cells old t (0, 0))) (hs : old.size = cs.size) : (w.setCells g 0 cs.toList).heap[g]? = some (.cells cs t (0, 0)) := by
  have := setCells_same (vs := cs.toList) h (by simpa using hs)
  simpa using this
theorem store_row {ops : Array Oper} {rest : List Oper} {o : Oper} {a : Act} {w : World} {Q : Exit → Act → World → Prop} (ty : TypeId) (x y : Operand) (hgd : o.guard = none) (ho : o.op = .store ty x y)
    (cells : Array Value) (hx : a.eval x = .pointer (some ⟨g, 0, none⟩)) (hy : a.eval y = .agg cells) (old : Array Value) (hg : w.heap[g]? = some (.cells old t (0, 0))) (hs : old.size = cells.size)
    (hi : (P.info? ty).map (·.size) = some cells.size) (h1 : cells.all (·.oneCell') = true)
    (h : wpList P ops Q rest (a.put o.dst undef) (w.setCells g 0 cells.toList)) : wpList P ops Q (o :: rest) a w :=
  wpList_store_mid hgd ty x y ho g 0 cells hx hy (fun j hj => by
    have hlt : j < old.size := by omega
    simp only [Nat.zero_add]
    exact ⟨by rw [cell_of hg j _ (Array.getElem?_eq_getElem hlt)]; rfl, free_of hg j⟩) hi h1 h
end
theorem results_row {P : Program} {fn : Func} {p u : Tmp} {ty t : TypeId} (h : fn.results = #[.cell p ty, .tmp u]) (tmps : Array Value) (w : World) (g : Nat) (cs : Array Value) (d : TypeDesc)
    (hp : tmps.getD p undef = .pointer (some ⟨g, 0, none⟩)) (hg : w.heap[g]? = some (.cells cs t (0, 0)))
    (hu : P.underlying ty = some d) (hd : (match d with | .struct _ | .array _ _ => true | _ => false) = true) (hi : (P.info? ty).map (·.size) = some cs.size) :
    (results fn tmps).run P w = .ok (.tuple #[.agg cs, tmps.getD u undef]) w := by
  rw [results_cell_tmp h]
  have hp' : tmps[p]?.getD undef = .pointer (some ⟨g, 0, none⟩) := by simpa using hp
  simp [hp', asAddr, run_loadVar_row w g t ty cs (0, 0) d hg hu hd hi]
section
variable {P : Program} {ops : Array Oper} {Q : Exit → Act → World → Prop} {md : Region.Mode} {S : World → Prop}
theorem yields_row {o : Oper} {a : Act} (ty : TypeId) (x : Operand) (hgd : o.guard = none) (ho : o.op = .load ty x) (g : Nat) (hx : a.eval x = .pointer (some ⟨g, 0, none⟩)) (t : TypeId) (cs : Array Value) (fr : Nat × Nat) (d : TypeDesc)
    (hg : ∀ w, S w → w.heap[g]? = some (.cells cs t fr)) (hu : P.underlying ty = some d) (hd : (match d with | .struct _ | .array _ _ => true | _ => false) = true) (hi : (P.info? ty).map (·.size) = some cs.size) :
    YieldsIf P ops S o (.agg cs) a :=
  .inl ⟨by simp [Region.wanted, hgd], fun w hS => by
    unfold execOp
    simp only [ho, hx, Instr.loadAt, Instr.sureAddr, Sem.run_bind, Sem.run_pure, Result.andThen_ok, run_loadVar_row w g t ty cs fr d (hg w hS) hu hd hi]⟩
theorem wpAnyH_only {i : Nat} {o : Oper} {fuel : Nat} {listed : Array Bool} {a : Act} {w : World} (hr : Region.ready md ops listed = [i]) (ho : ops[i]? = some o) (hgd : o.guard = none)
    (h : ∀ K : Act → World → Prop, Shut (∀ a' w', S w' → wpAnyH P md ops Q S fuel (listed.setIfInBounds i true) a' w' → K a' w') → o.wp P a w K Q) : wpAnyH P md ops Q S (fuel + 1) listed a w := by
  refine wpAnyH_all hr (by simp) fun j hj => ?_
  obtain rfl : j = i := by simpa using hj
  unfold wpOp
  simp only [ho]
  rw [if_pos (by simp [Region.wanted, hgd])]
  exact .inl (h _ (fun a' w' hS hW => ⟨hS, hW⟩))
theorem wp_store_all {g : Nat} {t : TypeId} {o : Oper} {a : Act} {w : World} {K : Act → World → Prop} (ty : TypeId) (x y : Operand) (ho : o.op = .store ty x y)
    (cells : Array Value) (hx : a.eval x = .pointer (some ⟨g, 0, none⟩)) (hy : a.eval y = .agg cells) (old : Array Value) (hg : w.heap[g]? = some (.cells old t (0, 0))) (hs : old.size = cells.size)
    (hi : (P.info? ty).map (·.size) = some cells.size) (h1 : cells.all (·.oneCell') = true)
    (h : K (a.put o.dst undef) (w.setCells g 0 cells.toList)) : o.wp P a w K Q :=
  wp_store_mid ty x y ho g 0 cells hx hy (fun j hj => by
    have hlt : j < old.size := by omega
    simp only [Nat.zero_add]
    exact ⟨by rw [cell_of hg j _ (Array.getElem?_eq_getElem hlt)]; rfl, free_of hg j⟩) hi h1 h
theorem wpAnyH_store {i : Nat} {fuel : Nat} {listed : Array Bool} {a : Act} {w : World} {g : Nat} {t : TypeId} (ty : TypeId) (x y : Operand) (hr : Region.ready md ops listed = [i])
    (ho : (ops[i]?).map (fun o => (o.op, o.dst, o.guard)) = some (.store ty x y, none, none))
    (cells : Array Value) (hx : a.eval x = .pointer (some ⟨g, 0, none⟩)) (hy : a.eval y = .agg cells) (old : Array Value) (hg : w.heap[g]? = some (.cells old t (0, 0))) (hs : old.size = cells.size)
    (hi : (P.info? ty).map (·.size) = some cells.size) (h1 : cells.all (·.oneCell') = true) (hS : S (w.setCells g 0 cells.toList))
    (h : wpAnyH P md ops Q S fuel (listed.setIfInBounds i true) (a.put none undef) (w.setCells g 0 cells.toList)) : wpAnyH P md ops Q S (fuel + 1) listed a w := by
  cases hoi : ops[i]? with
  | none => rw [hoi] at ho; cases ho
  | some o =>
    rw [hoi] at ho
    simp only [Option.map_some, Option.some.injEq, Prod.mk.injEq] at ho
    obtain ⟨h2, h3, h4⟩ := ho
    refine wpAnyH_only hr hoi h4 fun K hK => wp_store_all ty x y h2 cells hx hy old hg hs hi h1 ?_
    rw [h3]
    exact hK _ _ hS h
end
end Go.Proofs.YtbhienpbfidgjaaGreatDoor
