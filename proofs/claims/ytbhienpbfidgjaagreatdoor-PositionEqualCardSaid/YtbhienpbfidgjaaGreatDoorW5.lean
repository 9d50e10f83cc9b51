/- The arguments opened: a stipulation, a position. Conditions: the argument reads as data. -/
import Derived.Test.YtbhienpbfidgjaaGreatDoorW4
set_option linter.unusedVariables false
set_option linter.unusedSimpArgs false
set_option maxRecDepth 100000
namespace Go.Proofs.YtbhienpbfidgjaaGreatDoor
open Go.ChangeShapes Go.WideShapes Go.ChangeAt Go.RowKit Go.Joins Go.Deep
section
variable {H : Type} {enc : TypeId × Value → H} {W : World}
theorem addr_of {w : World} {a : Addr} {v : Value} (h : w.cell? a = some v) : a = ⟨a.block, a.off, none⟩ := by
  obtain ⟨b, o, s⟩ := a
  cases s with
  | none => rfl
  | some x =>
    simp only [World.cell?] at h
    split at h
    · simp at h
    · cases h
theorem add_at (b o i : Nat) : (⟨b, o, none⟩ : Addr).add i = ⟨b, o + i, none⟩ := by
  unfold Addr.add
  split
  · rename_i h
    subst h
    rfl
  · rfl
theorem stip_open {base : Nat} {r : Reach} {v : Value} {d : DataW H} {p : List MemPlace} (hv : Value.okWide Tryz.prog W r base 54 v) (h : DataW.Trod enc Tryz.prog W 0 (fun _ => true) true 54 v d p) :
    ∃ s : Stip, v = s.v ∧ (-9223372036854775808 ≤ s.play ∧ s.play ≤ 9223372036854775807) ∧ (-9223372036854775808 ≤ s.goal ∧ s.goal ≤ 9223372036854775807) ∧ (-9223372036854775808 ≤ s.moves ∧ s.moves ≤ 9223372036854775807) := by
  obtain ⟨v0, v1, v2, v3, y0, y1, y2, y3, m, rfl, rfl, rfl, h0, h1, h2, h3⟩ := open_agg4 Tryz.underlying54 (by kernel_rfl) (by kernel_rfl) hv h
  obtain ⟨a, ha, _, wa⟩ := DataW.trod_int Tryz.underlying51 h0
  obtain ⟨b, hb, _, wb⟩ := DataW.trod_int Tryz.underlying52 h1
  obtain ⟨c, hc, _, wc⟩ := DataW.trod_int Tryz.underlying3 h2
  obtain ⟨x, hx, _⟩ := DataW.trod_bool Tryz.underlying4 h3
  obtain rfl : v0 = .int .i64 a := by simpa using ha
  obtain rfl : v1 = .int .i64 b := by simpa using hb
  obtain rfl : v2 = .int .i64 c := by simpa using hc
  obtain rfl : v3 = .bool x := by simpa using hx
  exact ⟨⟨a, b, c, x⟩, rfl, bounds_i64 wa, bounds_i64 wb, bounds_i64 wc⟩
theorem pieces_open {base : Nat} {fuel : Nat} {cs : List Value} {x : DataW H × List MemPlace} (h : DataW.trod enc Tryz.prog W 0 (fun _ => true) true fuel 24 cs = some x) :
    ∃ (ps : List Int) (po : Option Addr) (cap : Nat), cs = [.slice po ps.length cap] ∧ SlcAt W po ps ∧ ps.length ≤ cap ∧ cap ≤ 9223372036854775807 ∧ ∀ q ∈ ps, -128 ≤ q ∧ q ≤ 127 := by
  rcases open_ints Tryz.underlying24 Tryz.underlying48 (by kernel_rfl) h with ⟨hcs, _⟩ | ⟨a, len, cap, zs, hcs, _, hl, hm, hz, _, hcell, hwz⟩
  · exact ⟨[], none, 0, hcs, .inl rfl, by simp, by omega, by simp⟩
  · simp only [if_true] at hz
    unfold maxLen at hm
    refine ⟨zs.take len, some a, cap, by rw [hcs, List.length_take]; congr 3; omega, ?_, by rw [List.length_take]; omega, by omega, fun q hq => bounds_i8 (hwz q (List.mem_of_mem_take hq))⟩
    rcases Nat.eq_zero_or_pos len with h0 | hpos
    · exact .inl (by simp [h0])
    · have c0 := hcell 0 (by omega)
      have ha := addr_of (show W.cell? a = some _ by simpa [Addr.add] using c0)
      obtain ⟨b, o, s⟩ := a
      simp only [Addr.mk.injEq, true_and] at ha
      subst ha
      refine .inr ⟨b, o, rfl, fun i q hi => ?_⟩
      have hi1 : i < zs.length ∧ zs[i]? = some q := by
        rw [List.getElem?_take] at hi
        split at hi
        · exact ⟨(List.getElem?_eq_some_iff.1 hi).1, hi⟩
        · cases hi
      have := hcell i hi1.1
      rw [add_at, List.getD_eq_getElem?_getD, hi1.2] at this
      exact this
theorem pos_open {base : Nat} {r : Reach} {v : Value} {d : DataW H} {p : List MemPlace} (hv : Value.okWide Tryz.prog W r base 26 v) (h : DataW.Trod enc Tryz.prog W 0 (fun _ => true) true 26 v d p) :
    ∃ (q : Pos) (po : Option Addr) (cap : Nat), v = .agg (q.cells po cap) ∧ SlcAt W po q.ps ∧ q.ps.length ≤ cap ∧ cap ≤ 9223372036854775807 ∧ (0 ≤ q.castle ∧ q.castle ≤ 255) := by
  obtain ⟨cs, rfl, hsz⟩ := okWide_struct Tryz.underlying26 hv
  obtain ⟨fuel, hf⟩ := h
  obtain ⟨ys, m, hm, hx, hl, hyl, hall⟩ := DataW.trod_struct Tryz.underlying26 hf
  have hc8 : Tryz.prog.cellsOf 26 = 8 := by kernel_rfl
  rw [hc8] at hsz
  obtain ⟨l⟩ := cs
  obtain ⟨c0, c1, c2, c3, c4, c5, c6, c7, rfl⟩ : ∃ c0 c1 c2 c3 c4 c5 c6 c7, l = [c0, c1, c2, c3, c4, c5, c6, c7] := by
    match l, hsz with
    | [c0, c1, c2, c3, c4, c5, c6, c7], _ => exact ⟨_, _, _, _, _, _, _, _, rfl⟩
  obtain ⟨y0, y1, y2, y3, y4, y5, y6, rfl⟩ : ∃ y0 y1 y2 y3 y4 y5 y6, ys = [y0, y1, y2, y3, y4, y5, y6] := by
    match ys, hyl with
    | [y0, y1, y2, y3, y4, y5, y6], _ => exact ⟨_, _, _, _, _, _, _, rfl⟩
  have z0 := hall 0 _ rfl
  have z1 := hall 1 _ rfl
  have z2 := hall 2 _ rfl
  have z3 := hall 3 _ rfl
  have z4 := hall 4 _ rfl
  have z5 := hall 5 _ rfl
  have z6 := hall 6 _ rfl
  have k1 : Tryz.prog.cellsOf 23 = 2 := by kernel_rfl
  have k2 : Tryz.prog.cellsOf 24 = 1 := by kernel_rfl
  have k3 : Tryz.prog.cellsOf 4 = 1 := by kernel_rfl
  have k4 : Tryz.prog.cellsOf 5 = 1 := by kernel_rfl
  have k5 : Tryz.prog.cellsOf 3 = 1 := by kernel_rfl
  clear hall hm hx hl hyl hsz hc8 hf hv
  simp only [k1, k2, k3, k4, k5, Value.cells, List.drop_succ_cons, List.drop_zero, List.take_succ_cons, List.take_zero, List.getElem?_cons_zero, List.getElem?_cons_succ] at z0 z1 z2 z3 z4 z5 z6
  obtain ⟨xs, m2, _, _, _, hxl, hxa⟩ := DataW.trod_struct Tryz.underlying23 z0
  obtain ⟨x0, x1, rfl⟩ : ∃ x0 x1, xs = [x0, x1] := by
    match xs, hxl with
    | [x0, x1], _ => exact ⟨_, _, rfl⟩
  have u0 := hxa 0 _ rfl
  have u1 := hxa 1 _ rfl
  clear hxa hxl
  simp only [k5, List.drop_succ_cons, List.drop_zero, List.take_succ_cons, List.take_zero, List.getElem?_cons_zero, List.getElem?_cons_succ] at u0 u1
  obtain ⟨f, hf, _, _⟩ := DataW.trod_int Tryz.underlying3 u0
  obtain ⟨g, hg, _, _⟩ := DataW.trod_int Tryz.underlying3 u1
  obtain ⟨ps, po, cap, hp, hS, hl1, hl2, _⟩ := pieces_open (base := 0) z1
  obtain ⟨b, hb, _⟩ := DataW.trod_bool Tryz.underlying4 z2
  obtain ⟨k, hk, _, wk⟩ := DataW.trod_int Tryz.underlying5 z3
  obtain ⟨x, hx, _, _⟩ := DataW.trod_int Tryz.underlying3 z4
  obtain ⟨y, hy, _, _⟩ := DataW.trod_int Tryz.underlying3 z5
  obtain ⟨z, hz, _, _⟩ := DataW.trod_int Tryz.underlying3 z6
  cases hf
  cases hg
  cases hp
  cases hb
  cases hk
  cases hx
  cases hy
  cases hz
  exact ⟨⟨f, g, ps, b, k, x, y, z⟩, po, cap, rfl, hS, hl1, hl2, bounds_u8 wk⟩
end
end Go.Proofs.YtbhienpbfidgjaaGreatDoor
