/- The arguments opened to cells: a control, a slice of small numbers, a slice of calls. Conditions: the argument reads as data. -/
import Derived.Test.YtgigehlflgcdpaaW
import Derived.Lib.SmallJoins
import Derived.Deep.Slices
import Derived.Deep.Fields
import Derived.ChangeSame
import Derived.Carry
set_option linter.unusedVariables false
set_option linter.unusedSimpArgs false
namespace Go.Proofs.Ytgigehlflgcdpaa
open Go.RowKit Go.Joins Go.ChangeShapes Go.WideShapes Go.Deep
section
variable {H : Type} {enc : TypeId × Value → H} {P : Program} {w : World} {base : Nat} {spare : Nat → Bool} {held : Bool}
theorem open_slice_fields {t e : TypeId} {fs : Array Field} {fuel : Nat} {cs : List Value} {x : DataW H × List MemPlace} (ht : P.underlying t = some (.slice e)) (he : P.underlying e = some (.struct fs))
    (hone : oneCellFields P fs = true) (hC : P.cellsOf e = fs.size) (h : DataW.trod enc P w base spare held fuel t cs = some x) :
    (cs = [.slice none 0 0] ∧ x = (.nil, [])) ∨
    ∃ (a : Addr) (len cap m : Nat) (D : Nat → DataW H) (Pl : Nat → List MemPlace), cs = [.slice (some a) len cap] ∧ base ≤ a.block ∧ len ≤ cap ∧ cap ≤ maxLen ∧ m = (if spare a.block then cap else len) ∧
      x = (.slice ((List.range len).map D) ((List.range (m - len)).map fun j => D (len + j)), MemPlace.row a (m * fs.size) ++ (List.range m).flatMap Pl) ∧
      ∀ i, i < m → ∃ (ys : List (DataW H × List MemPlace)) (n : Nat), D i = .agg (ys.map (·.1)) ∧ Pl i = ys.flatMap (·.2) ∧ ys.length = fs.size ∧
        ∀ (j : Nat) (f : Field), fs[j]? = some f → ∃ (v : Value) (y : DataW H × List MemPlace), w.cell? (a.add (i * fs.size + j)) = some v ∧ ys[j]? = some y ∧ DataW.trod enc P w base spare held n f.type [v] = some y := by
  rcases open_slice ht h with h0 | ⟨a, len, cap, m, n, D, Pl, hcs, hb, hl, hm, hmm, hx, hi⟩
  · exact .inl h0
  · refine .inr ⟨a, len, cap, m, D, Pl, hcs, hb, hl, hm, hmm, by rw [hC] at hx; exact hx, fun i him => ?_⟩
    obtain ⟨cs', hc, ht'⟩ := hi i him
    rw [hC] at hc
    obtain ⟨ys, n', hn', hy, hlen, hyl, hf⟩ := DataW.trod_struct he ht'
    obtain ⟨_, hcl, hat⟩ := World.cells?_some hc
    simp only [Prod.mk.injEq] at hy
    refine ⟨ys, n', hy.1, hy.2, hyl, fun j f hj => ?_⟩
    obtain ⟨ho, hk⟩ := hone_of hone j f hj
    have hjl : j < fs.size := (Array.getElem?_eq_some_iff.1 hj).1
    have hcell := hat j hjl
    have hv : cs'[j]? = some (cs'[j]'(by omega)) := List.getElem?_eq_getElem (by omega)
    have h1 := hf j f hj
    rw [ho, hk] at h1
    have hone' : (cs'.drop j).take 1 = [cs'[j]'(by omega)] := by
      rw [List.drop_eq_getElem_cons (by omega)]
      rfl
    rw [hone'] at h1
    have hys : ys[j]? = some (ys[j]'(by omega)) := List.getElem?_eq_getElem (by omega)
    refine ⟨_, _, ?_, hys, h1.trans hys⟩
    rw [← Go.Deep.add_add, hcell, hv]
end
def intVal : Option Value → Int
  | some (.int _ n) => n
  | _ => 0
theorem addr_of {w : World} {a : Addr} {v : Value} (h : w.cell? a = some v) : a = ⟨a.block, a.off, none⟩ := by
  obtain ⟨b, o, s⟩ := a
  cases s with
  | none => rfl
  | some x =>
    simp only [World.cell?] at h
    split at h
    · simp at h
    · cases h
theorem add_at (b o i : Nat) : (⟨b, o, none⟩ : Addr).add i = ⟨b, o + i, none⟩ := by
  unfold Addr.add
  split
  · rename_i h
    subst h
    rfl
  · rfl
/-- what a control's argument is: its kind, its periods, its slice -/
structure CtlArg (w : World) (k : Int) (ps : List Per) (o : Option Addr) (n : Nat) : Prop where
  len : ps.length = n
  at_ : n = 0 ∨ ∃ pb off, o = some ⟨pb, off, none⟩ ∧ PerAt w ps pb off
theorem CtlArg.below {w w' : World} {k : Int} {ps : List Per} {o : Option Addr} {n : Nat} (h : CtlArg w k ps o n) (hb : Below w.heap.size w w') : CtlArg w' k ps o n :=
  ⟨h.len, h.at_.imp id fun ⟨pb, off, e, hp⟩ => ⟨pb, off, e, hp.below hb⟩⟩
theorem CtlArg.valid {w : World} {k : Int} {ps : List Per} {o : Option Addr} {n cap : Nat} (h : CtlArg w k ps o n) : Pure 11 #[.agg #[.int .i64 k, .slice o n cap]] w (.bool (vld k ps)) := by
  obtain ⟨rfl, h⟩ := h
  rcases h with h | ⟨pb, off, rfl, hp⟩
  · rw [h]
    rw [List.eq_nil_of_length_eq_zero h]
    exact lvalid_nil k o cap
  · exact lvalid_c k ps pb off cap hp

theorem PerAt.of_cells {w : World} {b o n : Nat} (h : ∀ i, i < n → ∀ j, j < 3 → ∃ x : Int, w.cell? ⟨b, o + (i * 3 + j), none⟩ = some (.int .i64 x)) :
    PerAt w ((List.range n).map fun i => ⟨intVal (w.cell? ⟨b, o + i * 3, none⟩), intVal (w.cell? ⟨b, o + i * 3 + 1, none⟩), intVal (w.cell? ⟨b, o + i * 3 + 2, none⟩)⟩) b o := by
  refine ⟨fun i p hp => ?_⟩
  rw [List.getElem?_map] at hp
  have hi : i < n := by
    rcases Nat.lt_or_ge i n with h | h
    · exact h
    · simp [List.getElem?_eq_none, h] at hp
  rw [List.getElem?_range hi] at hp
  simp only [Option.map_some, Option.some.injEq] at hp
  subst hp
  obtain ⟨x, hx⟩ := h i hi 0 (by omega)
  obtain ⟨y, hy⟩ := h i hi 1 (by omega)
  obtain ⟨z, hz⟩ := h i hi 2 (by omega)
  simp only [← Nat.add_assoc, Nat.add_zero] at hx hy hz
  refine ⟨?_, ?_, ?_⟩
  · rw [hx]; rfl
  · rw [hy]; rfl
  · rw [hz]; rfl
section
variable {H : Type} {enc : TypeId × Value → H} {W : World}
theorem ctl_open {base : Nat} {r : Reach} {v : Value} {d : DataW H} {p : List MemPlace} (hv : Value.okWide Try.prog W r base 25 v) (h : DataW.Trod enc Try.prog W 0 (fun _ => true) true 25 v d p) :
    ∃ k ps o n cap, v = .agg #[.int .i64 k, .slice o n cap] ∧ CtlArg W k ps o n ∧ n ≤ 9223372036854775807 := by
  obtain ⟨v0, v1, y0, y1, m, rfl, rfl, rfl, h0, h1⟩ := open_agg2 Try.underlying25 (by kernel_rfl) (by kernel_rfl) hv h
  obtain ⟨k, hk, _, _⟩ := DataW.trod_int Try.underlying22 h0
  obtain rfl : v0 = .int .i64 k := by simpa using hk
  rcases open_slice_fields Try.underlying23 Try.underlying33 (by kernel_rfl) (by kernel_rfl) h1 with ⟨hn, _⟩ | ⟨a, len, cap, mm, D, Pl, hcs, _, hl, hm, hmm, _, hf⟩
  · obtain rfl : v1 = .slice none 0 0 := by simpa using hn
    exact ⟨k, [], none, 0, 0, rfl, ⟨rfl, .inl rfl⟩, by omega⟩
  · obtain rfl : v1 = .slice (some a) len cap := by simpa using hcs
    simp only [if_true] at hmm
    subst hmm
    unfold maxLen at hm
    rcases Nat.eq_zero_or_pos len with h0 | hpos
    · subst h0
      exact ⟨k, [], some a, 0, mm, rfl, ⟨rfl, .inl rfl⟩, by omega⟩
    · have hc : ∀ i, i < len → ∀ j, j < 3 → ∃ x : Int, W.cell? (a.add (i * 3 + j)) = some (.int .i64 x) := by
        intro i hi j hj
        obtain ⟨ys, nn, _, _, _, hg⟩ := hf i (by omega)
        obtain ⟨f, hfj, hft⟩ : ∃ f : Field, (#[{ name := "Moves", type := 3, offset := 0, embedded := false, tag := "", pkgPath := "", byteOffset := 0 }, { name := "Time", type := 3, offset := 1, embedded := false, tag := "", pkgPath := "", byteOffset := 8 }, { name := "Bonus", type := 3, offset := 2, embedded := false, tag := "", pkgPath := "", byteOffset := 16 }] : Array Field)[j]? = some f ∧ f.type = 3 := by
          match j, hj with
          | 0, _ => exact ⟨_, rfl, rfl⟩
          | 1, _ => exact ⟨_, rfl, rfl⟩
          | 2, _ => exact ⟨_, rfl, rfl⟩
        obtain ⟨v, y, hcell, _, ht⟩ := hg j f hfj
        rw [hft] at ht
        obtain ⟨x, hx, _, _⟩ := DataW.trod_int Try.underlying3 ht
        obtain rfl : v = .int .i64 x := by simpa using hx
        exact ⟨x, hcell⟩
      obtain ⟨x0, hx0⟩ := hc 0 hpos 0 (by omega)
      have ha := addr_of (show W.cell? a = some _ from hx0)
      obtain ⟨b, o, s⟩ := a
      simp only [Addr.mk.injEq, true_and] at ha
      subst ha
      refine ⟨k, _, some ⟨b, o, none⟩, len, mm, rfl, ⟨?_, .inr ⟨b, o, rfl, PerAt.of_cells (n := len) ?_⟩⟩, by omega⟩
      · simp
      · intro i hi j hj
        have := hc i hi j hj
        rwa [add_at] at this
theorem u16s_open {base : Nat} {r : Reach} {v : Value} {d : DataW H} {p : List MemPlace} (hv : Value.okWide Try.prog W r base 43 v) (h : DataW.Trod enc Try.prog W 0 (fun _ => true) true 43 v d p) :
    ∃ (us : Nat → Int) (o : Option Addr) (n cap : Nat), v = .slice o n cap ∧ (n = 0 ∨ ∃ wb woff, o = some ⟨wb, woff, none⟩ ∧ ∀ i, i < n → W.cell? ⟨wb, woff + i, none⟩ = some (.int .u16 (us i))) ∧ (∀ i, i < n → 0 ≤ us i ∧ us i ≤ 65535) ∧ n ≤ 9223372036854775807 := by
  obtain ⟨a0, len, cap, rfl⟩ := okWide_slice Try.underlying43 hv
  obtain ⟨fuel, hf⟩ := h
  rcases open_ints Try.underlying43 Try.underlying44 (by kernel_rfl) hf with ⟨hcs, _⟩ | ⟨a, len', cap', zs, hcs, _, hl, hm, hz, _, hcell, hwz⟩
  · simp [Value.cells] at hcs
    obtain ⟨rfl, rfl, rfl⟩ := hcs
    exact ⟨fun _ => 0, none, 0, 0, rfl, .inl rfl, fun i hi => absurd hi (Nat.not_lt_zero i), by omega⟩
  · simp [Value.cells] at hcs
    obtain ⟨rfl, rfl, rfl⟩ := hcs
    simp only [if_true] at hz
    unfold maxLen at hm
    have hb : ∀ i, i < len → 0 ≤ zs.getD i 0 ∧ zs.getD i 0 ≤ 65535 := by
      intro i hi
      have hi' : i < zs.length := by omega
      have := hwz (zs.getD i 0) (by simp [List.getD, List.getElem?_eq_getElem hi'])
      generalize zs.getD i 0 = z at *
      have h' : (decide (0 ≤ z) && decide (z ≤ 65535)) = true := this
      simpa using h'
    rcases Nat.eq_zero_or_pos len with h0 | hpos
    · subst h0
      exact ⟨fun _ => 0, some a, 0, cap, rfl, .inl rfl, fun i hi => absurd hi (Nat.not_lt_zero i), by omega⟩
    · have hx0 := hcell 0 (by omega)
      have ha := addr_of (show W.cell? a = some _ from hx0)
      obtain ⟨b, o, s⟩ := a
      simp only [Addr.mk.injEq, true_and] at ha
      subst ha
      refine ⟨fun i => zs.getD i 0, some ⟨b, o, none⟩, len, cap, rfl, .inr ⟨b, o, rfl, fun i hi => ?_⟩, hb, by omega⟩
      have := hcell i (by omega)
      rwa [add_at] at this
/-- the calls of an argument: each has four numbers in memory -/
structure ActAt (w : World) (b o : Nat) (i : Nat) (a : Int × Int × Int × Int) : Prop where
  what : w.cell? ⟨b, o + i * 4, none⟩ = some (.int .i64 a.1)
  now : w.cell? ⟨b, o + i * 4 + 1, none⟩ = some (.int .i64 a.2.1)
  side : w.cell? ⟨b, o + i * 4 + 2, none⟩ = some (.int .i64 a.2.2.1)
  time : w.cell? ⟨b, o + i * 4 + 3, none⟩ = some (.int .i64 a.2.2.2)
  wf : -9223372036854775808 ≤ a.1 ∧ a.1 ≤ 9223372036854775807 ∧ -9223372036854775808 ≤ a.2.1 ∧ a.2.1 ≤ 9223372036854775807 ∧ -9223372036854775808 ≤ a.2.2.1 ∧ a.2.2.1 ≤ 9223372036854775807 ∧ -9223372036854775808 ≤ a.2.2.2 ∧ a.2.2.2 ≤ 9223372036854775807
theorem wf64 {n : Int} (h : (Lit.int .i64 n).wf = true) : -9223372036854775808 ≤ n ∧ n ≤ 9223372036854775807 := by
  have h' : (decide (-9223372036854775808 ≤ n) && decide (n ≤ 9223372036854775807)) = true := h
  simpa using h'
theorem acts_open {base : Nat} {r : Reach} {v : Value} {d : DataW H} {p : List MemPlace} (hv : Value.okWide Try.prog W r base 52 v) (h : DataW.Trod enc Try.prog W 0 (fun _ => true) true 52 v d p) :
    ∃ (ac : Nat → Int × Int × Int × Int) (o : Option Addr) (n cap : Nat), v = .slice o n cap ∧ (n = 0 ∨ ∃ b off, o = some ⟨b, off, none⟩ ∧ ∀ i, i < n → ActAt W b off i (ac i)) ∧ n ≤ 9223372036854775807 := by
  obtain ⟨a0, len, cap, rfl⟩ := okWide_slice Try.underlying52 hv
  obtain ⟨fuel, hf⟩ := h
  rcases open_slice_fields Try.underlying52 Try.underlying56 (by kernel_rfl) (by kernel_rfl) hf with ⟨hcs, _⟩ | ⟨a, len', cap', mm, D, Pl, hcs, _, hl, hm, hmm, _, hff⟩
  · simp [Value.cells] at hcs
    obtain ⟨rfl, rfl, rfl⟩ := hcs
    exact ⟨fun _ => (0, 0, 0, 0), none, 0, 0, rfl, .inl rfl, by omega⟩
  · simp [Value.cells] at hcs
    obtain ⟨rfl, rfl, rfl⟩ := hcs
    simp only [if_true] at hmm
    subst hmm
    unfold maxLen at hm
    rcases Nat.eq_zero_or_pos len with h0 | hpos
    · subst h0
      exact ⟨fun _ => (0, 0, 0, 0), some a, 0, mm, rfl, .inl rfl, by omega⟩
    · have hc : ∀ i, i < len → ∀ j, j < 4 → ∃ x : Int, W.cell? (a.add (i * 4 + j)) = some (.int .i64 x) ∧ -9223372036854775808 ≤ x ∧ x ≤ 9223372036854775807 := by
        intro i hi j hj
        obtain ⟨ys, nn, _, _, _, hg⟩ := hff i (by omega)
        obtain ⟨f, hfj, hft⟩ : ∃ f : Field, (#[{ name := "What", type := 3, offset := 0, embedded := false, tag := "", pkgPath := "", byteOffset := 0 }, { name := "Now", type := 3, offset := 1, embedded := false, tag := "", pkgPath := "", byteOffset := 8 }, { name := "Side", type := 3, offset := 2, embedded := false, tag := "", pkgPath := "", byteOffset := 16 }, { name := "Time", type := 3, offset := 3, embedded := false, tag := "", pkgPath := "", byteOffset := 24 }] : Array Field)[j]? = some f ∧ f.type = 3 := by
          match j, hj with
          | 0, _ => exact ⟨_, rfl, rfl⟩
          | 1, _ => exact ⟨_, rfl, rfl⟩
          | 2, _ => exact ⟨_, rfl, rfl⟩
          | 3, _ => exact ⟨_, rfl, rfl⟩
        obtain ⟨v, y, hcell, _, ht⟩ := hg j f hfj
        rw [hft] at ht
        obtain ⟨x, hx, _, hw⟩ := DataW.trod_int Try.underlying3 ht
        obtain rfl : v = .int .i64 x := by simpa using hx
        exact ⟨x, hcell, wf64 hw⟩
      obtain ⟨x0, hx0, _⟩ := hc 0 hpos 0 (by omega)
      have ha := addr_of (show W.cell? a = some _ from hx0)
      obtain ⟨b, o, s⟩ := a
      simp only [Addr.mk.injEq, true_and] at ha
      subst ha
      refine ⟨fun i => (intVal (W.cell? ⟨b, o + i * 4, none⟩), intVal (W.cell? ⟨b, o + i * 4 + 1, none⟩), intVal (W.cell? ⟨b, o + i * 4 + 2, none⟩), intVal (W.cell? ⟨b, o + i * 4 + 3, none⟩)), some ⟨b, o, none⟩, len, mm, rfl, .inr ⟨b, o, rfl, fun i hi => ?_⟩, by omega⟩
      obtain ⟨x, hx, bx⟩ := hc i hi 0 (by omega)
      obtain ⟨y, hy, by'⟩ := hc i hi 1 (by omega)
      obtain ⟨z, hz, bz⟩ := hc i hi 2 (by omega)
      obtain ⟨u, hu, bu⟩ := hc i hi 3 (by omega)
      rw [add_at] at hx hy hz hu
      simp only [← Nat.add_assoc, Nat.add_zero] at hx hy hz hu
      refine ⟨?_, ?_, ?_, ?_, ?_⟩ <;> dsimp only
      · rw [hx]; rfl
      · rw [hy]; rfl
      · rw [hz]; rfl
      · rw [hu]; rfl
      · rw [hx, hy, hz, hu]
        exact ⟨bx.1, bx.2, by'.1, by'.2, bz.1, bz.2, bu.1, bu.2⟩
end
end Go.Proofs.Ytgigehlflgcdpaa
