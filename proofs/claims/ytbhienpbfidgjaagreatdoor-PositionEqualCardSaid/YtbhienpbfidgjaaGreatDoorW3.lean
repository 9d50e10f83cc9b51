/- What the listed variables give the walks, and the wrap of a law over them. Conditions: as in each theorem. -/
import Derived.Test.YtbhienpbfidgjaaGreatDoorW2
set_option linter.unusedVariables false
set_option linter.unusedSimpArgs false
namespace Go.Proofs.YtbhienpbfidgjaaGreatDoor
open Go.ChangeShapes Go.WideShapes Go.ChangeAt Go.RowKit Go.Sort
/-- an array's elements, one by one -/
theorem arr_elem {W : World} {n : String} {g len : Nat} {t e : TypeId} {ds : List (DataW Unit)} (h : Lib.VarReads Tryz.prog W n (.agg ds)) (hg : Tryz.prog.globalNamed n = some g) (ht : (Tryz.prog.globals[g]?).map (·.type) = some t)
    (hu : Tryz.prog.underlying t = some (.array len e)) : ∃ cs, W.var? Tryz.prog n = some cs ∧ ∀ i d, ds[i]? = some d → ∃ m q, DataW.trod (fun _ => ()) Tryz.prog W 0 (fun _ => true) false m e ((cs.toList.drop (i * Tryz.prog.cellsOf e)).take (Tryz.prog.cellsOf e)) = some (d, q) := by
  obtain ⟨g', t', cs, fuel, p, hg', ht', hv, hd⟩ := h
  obtain rfl := Option.some.inj (hg.symm.trans hg')
  obtain rfl := Option.some.inj (ht.symm.trans ht')
  obtain ⟨xs, m, rfl, hx, hl, hxl, hel⟩ := DataW.trod_array hu hd
  refine ⟨cs, hv, fun i d hid => ?_⟩
  have hx1 : ds = xs.map (·.1) := by simpa using congrArg Prod.fst hx
  rw [hx1, List.getElem?_map] at hid
  cases hxi : xs[i]? with
  | none => rw [hxi] at hid; cases hid
  | some y =>
    rw [hxi] at hid
    have hi : i < len := by rw [← hxl]; exact (List.getElem?_eq_some_iff.1 hxi).1
    have := hel i hi
    rw [hxi] at this
    obtain ⟨d', q⟩ := y
    cases hid
    exact ⟨m, q, this⟩
def stepD (L : List (Int × Int)) : DataW Unit := .agg (L.map fun d => .agg ([d.1, d.2].map fun z => .lit (.int .i64 z)))
theorem steps_of {W : World} {n : String} {g len : Nat} {t : TypeId} {L : List (Int × Int)} {fs : Array Field} (h : Lib.VarReads Tryz.prog W n (stepD L)) (hg : Tryz.prog.globalNamed n = some g) (ht : (Tryz.prog.globals[g]?).map (·.type) = some t)
    (hu : Tryz.prog.underlying t = some (.array len 237)) (hs : Tryz.prog.underlying 237 = some (.struct fs)) (hc : Tryz.prog.cellsOf 237 = 2) (hfs : fs.size = 2)
    (hf : ∀ (i : Nat) (f : Field), fs[i]? = some f → Tryz.prog.underlying f.type = some (.int .i64) ∧ f.offset = i ∧ Tryz.prog.cellsOf f.type = 1) : StepsAt W g 0 L := by
  obtain ⟨cs, hv, hel⟩ := arr_elem h hg ht hu
  intro i d hid
  obtain ⟨m, q, hd⟩ := hel i _ (by rw [List.getElem?_map, hid]; rfl)
  rw [hc] at hd
  have hcs := Lib.ints_of_struct hs hf (by rw [hc, hfs]) hd
  have c0 : cs.toList[i * 2]? = some (.int .i64 d.1) := by
    have := congrArg (·[0]?) hcs
    simpa [List.getElem?_take, List.getElem?_drop] using this
  have c1 : cs.toList[i * 2 + 1]? = some (.int .i64 d.2) := by
    have := congrArg (·[1]?) hcs
    simpa [List.getElem?_take, List.getElem?_drop] using this
  have e0 := World.var?_cell hg hv (i * 2)
  have e1 := World.var?_cell hg hv (i * 2 + 1)
  rw [Nat.zero_add]
  exact ⟨e0.trans (by simpa using c0), e1.trans (by simpa using c1)⟩
theorem step_fields : ∃ fs, Tryz.prog.underlying 237 = some (.struct fs) ∧ fs.size = 2 ∧ ∀ (i : Nat) (f : Field), fs[i]? = some f → Tryz.prog.underlying f.type = some (.int .i64) ∧ f.offset = i ∧ Tryz.prog.cellsOf f.type = 1 := by
  refine ⟨_, Tryz.underlying237, rfl, fun i f h => ?_⟩
  rcases (by omega : i = 0 ∨ i = 1 ∨ 2 ≤ i) with rfl | rfl | h2
  · simp at h; subst h; exact ⟨Tryz.underlying3, rfl, by kernel_rfl⟩
  · simp at h; subst h; exact ⟨Tryz.underlying3, rfl, by kernel_rfl⟩
  · rw [Array.getElem?_eq_none (by simpa using h2)] at h; cases h
def kindD (l : Int) (v : Int) (s : List UInt8) : DataW Unit := .agg [.lit (.int .u8 l), .lit (.int .i64 v), .lit (.string s)]
theorem kinds_of {W : World} {ds : List (DataW Unit)} (h : Lib.VarReads Tryz.prog W "caissa/piece.kinds" (.agg ds)) (hd : ∀ k < 15, ∃ v s, ds[k]? = some (kindD (letN k) v s)) : KindsAt W := by
  obtain ⟨cs, hv, hel⟩ := arr_elem h (g := 1) (by kernel_rfl) (t := 180) (by kernel_rfl) Tryz.underlying180
  intro k hk
  obtain ⟨v, s, hks⟩ := hd k hk
  obtain ⟨m, q, hd⟩ := hel k _ hks
  have hc : Tryz.prog.cellsOf 179 = 3 := by kernel_rfl
  rw [hc] at hd
  obtain ⟨xs, m2, rfl, hx, hl, hxl, hall⟩ := DataW.trod_struct Tryz.underlying179 hd
  have h0 := hall 0 _ rfl
  have hx0 : xs[0]? = some (.lit (.int .u8 (letN k)), (xs[0]?.map (·.2)).getD []) := by
    have h3 : [DataW.lit (.int .u8 (letN k)), .lit (.int .i64 v), .lit (.string s)] = xs.map (·.1) := by simpa [kindD] using congrArg Prod.fst hx
    cases xs with
    | nil => simp at h3
    | cons y r =>
      simp only [List.map_cons, List.cons.injEq] at h3
      obtain ⟨d, q⟩ := y
      simp at h3 ⊢
      exact h3.1.symm
  rw [hx0] at h0
  obtain ⟨z, hcz, hz, -⟩ := DataW.trod_int Tryz.underlying5 h0
  have hz2 : z = letN k := by simpa using (congrArg Prod.fst hz).symm
  subst hz2
  have c0 : cs.toList[k * 3]? = some (.int .u8 (letN k)) := by
    have c1 : Tryz.prog.cellsOf 5 = 1 := by kernel_rfl
    have hcz2 : (((cs.toList.drop (k * 3)).take 3).drop 0).take (Tryz.prog.cellsOf 5) = [Value.int .u8 (letN k)] := hcz
    rw [c1] at hcz2
    have := congrArg (·[0]?) hcz2
    simpa [List.getElem?_take, List.getElem?_drop] using this
  have e0 := World.var?_cell (show Tryz.prog.globalNamed "caissa/piece.kinds" = some 1 by kernel_rfl) hv (k * 3)
  exact e0.trans (by simpa using c0)
/-- what a law's walk wants of memory, out of the row's listed variables and the world's shape -/
theorem env_of {W : World} (h : laidMetH Tryz.prog laidL W) (hsh : W.ShapedOpen Tryz.prog) : Env W := by
  rw [MakeChecks.laidMetH_plain _ _ _ (by kernel_rfl)] at h
  have r := fun (i : Nat) n d (e : laidL[i]? = some (n, d)) => Lib.laidMet.reads h (List.mem_of_getElem? e)
  have hp : Lib.TabIs Tryz.prog W "internal/strconv.uint64pow10" .u64 Lib.pow10Tab := by
    obtain ⟨g', t', cs, fuel, p, hg', ht', hv, hd⟩ := r 3 _ (Lib.tabData .u64 Lib.pow10Tab) (by kernel_rfl)
    obtain rfl := Option.some.inj ((show Tryz.prog.globalNamed "internal/strconv.uint64pow10" = some 5 by kernel_rfl).symm.trans hg')
    obtain rfl := Option.some.inj ((show (Tryz.prog.globals[5]?).map (·.type) = some 221 by kernel_rfl).symm.trans ht')
    unfold Lib.TabIs
    rw [hv, ← Lib.cells_of_tab Tryz.underlying221 Tryz.underlying129 (by kernel_rfl) (by kernel_rfl) hd]
  obtain ⟨fs, f1, f2, f3⟩ := step_fields
  have hc : Tryz.prog.cellsOf 237 = 2 := by kernel_rfl
  have hfull : W.cell? ⟨0, 0, none⟩ = some (.int .i64 8) ∧ W.cell? ⟨0, 1, none⟩ = some (.int .i64 8) := by
    obtain ⟨g', t', cs, fuel, p, hg', ht', hv, hd⟩ := r 10 _ (.agg ([8, 8].map fun z => .lit (.int .i64 z))) (by kernel_rfl)
    obtain rfl := Option.some.inj ((show Tryz.prog.globalNamed "caissa/position.full" = some 0 by kernel_rfl).symm.trans hg')
    obtain rfl := Option.some.inj ((show (Tryz.prog.globals[0]?).map (·.type) = some 23 by kernel_rfl).symm.trans ht')
    have hcs := Lib.ints_of_struct Tryz.underlying23 (fun i f hf => by
      rcases (by omega : i = 0 ∨ i = 1 ∨ 2 ≤ i) with rfl | rfl | h2
      · simp at hf; subst hf; exact ⟨Tryz.underlying3, rfl, by kernel_rfl⟩
      · simp at hf; subst hf; exact ⟨Tryz.underlying3, rfl, by kernel_rfl⟩
      · rw [Array.getElem?_eq_none (by simpa using h2)] at hf; cases hf) (by kernel_rfl) hd
    have e0 := World.var?_cell hg' hv 0
    have e1 := World.var?_cell hg' hv 1
    obtain ⟨l⟩ := cs
    simp only [] at hcs
    subst hcs
    exact ⟨e0, e1⟩
  obtain ⟨a8, _, hr, -⟩ := laid_sentinel (g := 4) (ti := 104) (tp := 231) (te := 233) (ts := 9) (h.tail.tail.tail.tail.tail.tail.tail.tail) (by kernel_rfl) (by kernel_rfl) Tryz.underlying104 (fun u hu => typeName_ptr_named (nm := "errors.errorString") (by kernel_rfl) (by kernel_rfl) (by decide) u (by exact hu)) Tryz.underlying231 Tryz.underlying233 rfl rfl Tryz.underlying9 (by kernel_rfl) (by kernel_rfl)
  obtain ⟨a9, _, hs, -⟩ := laid_sentinel (g := 3) (ti := 104) (tp := 231) (te := 233) (ts := 9) (h.tail.tail.tail.tail.tail.tail.tail.tail.tail) (by kernel_rfl) (by kernel_rfl) Tryz.underlying104 (fun u hu => typeName_ptr_named (nm := "errors.errorString") (by kernel_rfl) (by kernel_rfl) (by decide) u (by exact hu)) Tryz.underlying231 Tryz.underlying233 rfl rfl Tryz.underlying9 (by kernel_rfl) (by kernel_rfl)
  have hat : ∀ (V : World) (s : ByteArray), Below W.heap.size W V → s.size ≤ 281474976710656 → _ := fun V s hV hz => atoi_run (var_below hV (g := 3) (by kernel_rfl) hs) (var_below hV (g := 4) (by kernel_rfl) hr) s hz
  refine ⟨Tryz.laysM146.s1_3 W hsh, ?_, itoaAt hp, ?_, ?_, ⟨?_, ?_, ?_⟩, hfull⟩
  · refine kinds_of (r 0 "caissa/piece.kinds" _ rfl) fun k hk => ?_
    rcases (by omega : k = 0 ∨ k = 1 ∨ k = 2 ∨ k = 3 ∨ k = 4 ∨ k = 5 ∨ k = 6 ∨ k = 7 ∨ k = 8 ∨ k = 9 ∨ k = 10 ∨ k = 11 ∨ k = 12 ∨ k = 13 ∨ k = 14) with rfl | rfl | rfl | rfl | rfl | rfl | rfl | rfl | rfl | rfl | rfl | rfl | rfl | rfl | rfl <;> exact ⟨_, _, rfl⟩
  · intro V s hV hz
    exact (hat V s hV (by omega)).mono fun e w' ⟨⟨ev, he, _⟩, hb⟩ => ⟨⟨ev, he⟩, hb⟩
  · intro V s hV hz
    exact ⟨_, hat V s hV hz⟩
  · exact steps_of (r 7 "caissa/ray.leaps" (stepD leapsL) (by kernel_rfl)) (by kernel_rfl) (by kernel_rfl) Tryz.underlying240 f1 hc f2 f3
  · exact steps_of (r 6 "caissa/ray.diagonal" (stepD diagL) (by kernel_rfl)) (by kernel_rfl) (by kernel_rfl) Tryz.underlying242 f1 hc f2 f3
  · exact steps_of (r 5 "caissa/ray.straight" (stepD strL) (by kernel_rfl)) (by kernel_rfl) (by kernel_rfl) Tryz.underlying242 f1 hc f2 f3
end Go.Proofs.YtbhienpbfidgjaaGreatDoor
