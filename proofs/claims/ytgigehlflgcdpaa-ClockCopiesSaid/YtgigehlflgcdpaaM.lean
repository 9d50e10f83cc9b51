/- A copy of periods, and a new clock. Conditions: a valid control. -/
import Derived.Test.YtgigehlflgcdpaaV
import Derived.Test.YtgigehlflgcdpaaC
import Derived.Lib.SliceRun
set_option linter.unusedVariables false
set_option linter.unusedSimpArgs false
namespace Go.Proofs.Ytgigehlflgcdpaa
-- a copy of the periods, and a new clock
open Go.RowKit
/-- the cells of periods -/
def pcells : List Per → List Value
  | [] => []
  | p :: ps => .int .i64 p.moves :: .int .i64 p.time :: .int .i64 p.bonus :: pcells ps
theorem pcells_length (ps : List Per) : (pcells ps).length = ps.length * 3 := by
  induction ps with
  | nil => rfl
  | cons p ps ih => simp [pcells, ih]; omega
theorem pcells_get (ps : List Per) (i : Nat) : (pcells ps)[i * 3]? = (ps[i]?).map (fun p => .int .i64 p.moves) ∧ (pcells ps)[i * 3 + 1]? = (ps[i]?).map (fun p => .int .i64 p.time) ∧ (pcells ps)[i * 3 + 2]? = (ps[i]?).map (fun p => .int .i64 p.bonus) := by
  induction ps generalizing i with
  | nil => simp [pcells]
  | cons p ps ih =>
    cases i with
    | zero => simp [pcells]
    | succ i =>
      obtain ⟨a, b, c⟩ := ih i
      rw [show (i + 1) * 3 = i * 3 + 1 + 1 + 1 by omega]
      refine ⟨?_, ?_, ?_⟩ <;> simp only [pcells, List.getElem?_cons_succ]
      · exact a
      · exact b
      · exact c
theorem PerAt.cells {w : World} {ps : List Per} {pb off : Nat} (h : PerAt w ps pb off) (j : Nat) (u : Value) (hu : (pcells ps)[j]? = some u) : w.cell? ⟨pb, off + j, none⟩ = some u := by
  have hd : j = j / 3 * 3 + j % 3 := by omega
  have hm : j % 3 < 3 := Nat.mod_lt _ (by decide)
  obtain ⟨a, b, c⟩ := pcells_get ps (j / 3)
  generalize j / 3 = i at *
  generalize j % 3 = m at *
  subst hd
  have hi : i < ps.length := by
    have := (List.getElem?_eq_some_iff.1 hu).1
    rw [pcells_length] at this
    omega
  obtain ⟨x, y, z⟩ := h.per i _ (List.getElem?_eq_getElem hi)
  rw [List.getElem?_eq_getElem hi] at a b c
  match m, hm with
  | 0, _ => rw [Nat.add_zero, a] at hu; rw [Nat.add_zero, x]; exact hu
  | 1, _ => rw [b] at hu; rw [← Nat.add_assoc, y]; exact hu
  | 2, _ => rw [c] at hu; rw [← Nat.add_assoc, z]; exact hu
/-- periods at the head of a block -/
theorem PerAt.of_block {w : World} {ps : List Per} {b : Nat} {cs : Array Value} {t : TypeId} {fr : Nat × Nat} (h : w.heap[b]? = some (.cells cs t fr)) (ht : cs.toList.take (ps.length * 3) = pcells ps) : PerAt w ps b 0 := by
  refine ⟨fun i p hp => ?_⟩
  obtain ⟨x, y, z⟩ := pcells_get ps i
  have hi : i < ps.length := (List.getElem?_eq_some_iff.1 hp).1
  rw [hp] at x y z
  rw [← ht, List.getElem?_take_of_lt (by omega)] at x y z
  simp only [Nat.zero_add]
  refine ⟨cell_of h _ _ ?_, cell_of h _ _ ?_, cell_of h _ _ ?_⟩
  · simpa using x
  · simpa using y
  · simpa using z

theorem pcells_one (ps : List Per) : ∀ u ∈ pcells ps, u.oneCell' = true := by
  induction ps with
  | nil => simp [pcells]
  | cons p ps ih =>
    intro u hu
    simp only [pcells, List.mem_cons] at hu
    rcases hu with rfl | rfl | rfl | h
    · rfl
    · rfl
    · rfl
    · exact ih u h
theorem below_grown {w w' : World} (h : w.grownBy w' none) : Below w.heap.size w w' := ⟨h.os, h.tape, h.output, h.size, fun k hk => h.block k hk (by simp)⟩
theorem Try.info33 : (Try.prog.info? 33).map (fun i => (i.zero, i.size, i.bytes)) = some (some (.agg #[.int .i64 0, .int .i64 0, .int .i64 0]), 3, 24) := by kernel_rfl
set_option maxHeartbeats 400000 in
theorem clone_c {w : World} (ps : List Per) (pb off cap : Nat) (hP : PerAt w ps pb off) (hn : 1 ≤ ps.length) (h9 : ps.length ≤ 9) :
    Calls Try.prog 28 #[.slice (some ⟨pb, off, none⟩) ps.length cap] w fun e w' => ∃ nb ncap, e = .returned (.slice (some ⟨nb, 0, none⟩) ps.length ncap) ∧ w.heap.size ≤ nb ∧ nb < w'.heap.size ∧ PerAt w' ps nb 0 ∧ Below w.heap.size w w' := by
  obtain ⟨i0, hi, hz0, hz1, hz2⟩ := info_parts Try.info33
  have hnil : ∀ (o : Option Addr) (n c : Nat) W, (binOp .eql 23 (.slice o n c) (.slice none 0 0)).run Try.prog W = .ok (.bool o.isNone) W := fun o n c W => Lib.run_eql_slice_nil W _ _ o n c _ _ Try.underlying23
  go_enter Try.func28, Try.ntmps28
  go_wp2_with (at_builtin; refine wpList_append_grows _ rfl (.tmp 5) (.tmp 6) 23 rfl 33 i0 (.agg #[.int .i64 0, .int .i64 0, .int .i64 0]) 3 24 Try.underlying23 hi hz0 hz1 hz2 rfl (by decide) _ 0 0 [] rfl (fun _ => ⟨rfl, rfl⟩) rfl (by intro _ _ _ _ h; simp at h) ⟨pb, off, none⟩ ps.length cap (pcells ps) rfl (pcells_length ps) ?c1 ?c2 (by omega) (by unfold maxLen; omega) (by omega) ?grow)
  case c1 =>
    intro j u hu
    have h := hP.cells j u hu
    rw [Addr.add_lit]
    exact (World.cell?_alloc_past _ _ _ (lt_of_cell h)).trans h
  case c2 => exact pcells_one ps
  case grow =>
    intro v' w' hown hgrow
    go_wp2
    go_ret
    obtain ⟨_, ⟨_, h0⟩ | ⟨g, ncap, cur, rfl, hg, hcur, _, _, _, htk⟩⟩ := hown
    · omega
    · have hlt : g < w'.heap.size := (Array.getElem?_eq_some_iff.1 hcur).1
      exact ⟨g, ncap, rfl, by omega, hlt, PerAt.of_block hcur htk, below_of_alloc (below_grown hgrow)⟩

/-- a new clock -/
def Ck.new (t : Int) : Ck := ⟨⟨t, 0, 0, 0⟩, ⟨t, 0, 0, 0⟩, false, 0, 0, 0, false⟩
/-- a clock of the call's own, with its control: all its blocks lie from lo to hi -/
structure Own (lo hi : Nat) (w : World) (b : Nat) (L : Ctl) (c : Ck) : Prop where
  clk : ClkAt w b L c
  ctl : CtlAt w L
  bnd : lo ≤ b ∧ b < hi ∧ lo ≤ L.cb ∧ L.cb < hi ∧ lo ≤ L.pb ∧ L.pb < hi ∧ hi ≤ w.heap.size
  bc : b ≠ L.cb
  bp : b ≠ L.pb
theorem Own.row {lo hi : Nat} {w w' : World} {b : Nat} {L : Ctl} {c c' : Ck} (h : Own lo hi w b L c) (hc : ClkAt w' b L c') (hg : w.grownBy w' (some b)) : Own lo hi w' b L c' :=
  ⟨hc, h.ctl.grown hg (by simpa using h.bc.symm) (by simpa using h.bp.symm), by have := hg.size; have := h.bnd; omega, h.bc, h.bp⟩
theorem Own.far {lo hi : Nat} {w w' : World} {b : Nat} {L : Ctl} {c : Ck} {g : Nat} (h : Own lo hi w b L c) (hg : w.grownBy w' (some g)) (hne : g < lo ∨ hi ≤ g) : Own lo hi w' b L c := by
  obtain ⟨b1, b2, b3, b4, b5, b6, b7⟩ := h.bnd
  exact ⟨h.clk.grown hg (by simp; omega), h.ctl.grown hg (by simp; omega) (by simp; omega), by have := hg.size; omega, h.bc, h.bp⟩
theorem grown_of_below {B : Nat} {w w' : World} (h : Below B w w') (hs : w.heap.size ≤ B) : w.grownBy w' none := ⟨h.os, h.tape, h.output, h.size, fun k hk _ => h.block k (by omega)⟩
theorem Own.none {lo hi : Nat} {w w' : World} {b : Nat} {L : Ctl} {c : Ck} (h : Own lo hi w b L c) (hg : w.grownBy w' none) : Own lo hi w' b L c :=
  ⟨h.clk.grown hg (by simp), h.ctl.grown hg (by simp) (by simp), by have := hg.size; have := h.bnd; omega, h.bc, h.bp⟩
theorem Own.past {lo hi : Nat} {w w' : World} {b : Nat} {L : Ctl} {c : Ck} (h : Own lo hi w b L c) (hg : Below w.heap.size w w') : Own lo hi w' b L c := h.none (grown_of_below hg (Nat.le_refl _))
theorem Own.dN {lo hi : Nat} {w : World} {b : Nat} {L : Ctl} {c : Ck} {n : Nat} (h : Own lo hi w b L c) : Own lo hi (w.drewN n) b L c := ⟨h.clk, h.ctl.dN, h.bnd, h.bc, h.bp⟩
theorem below_row {B : Nat} {w w' : World} {b : Nat} (hg : w.grownBy w' (some b)) (hb : B ≤ b) : Below B w w' ∨ w.heap.size < B := by
  rcases Nat.lt_or_ge w.heap.size B with h | h
  · exact .inr h
  · exact .inl ⟨hg.os, hg.tape, hg.output, hg.size, fun k hk => hg.block k (by omega) (by simp; omega)⟩
theorem Own.below {B lo hi : Nat} {w w' : World} {b : Nat} {L : Ctl} {c : Ck} (h : Own lo hi w b L c) (hg : w.grownBy w' (some b)) (hB : B ≤ lo) : Below B w w' := by
  obtain ⟨b1, b2, b3, b4, b5, b6, b7⟩ := h.bnd
  exact ⟨hg.os, hg.tape, hg.output, hg.size, fun k hk => hg.block k (by omega) (by simp; omega)⟩
theorem cell_past {w : World} {b i : Nat} {v : Value} (h : w.cell? ⟨b, i, none⟩ = some v) (o : Obj) : (w.alloc o).cell? ⟨b, i, none⟩ = some v := (World.cell?_alloc_past _ _ _ (lt_of_cell h)).trans h
theorem cell_far {w : World} {p a : Addr} {v : Value} (h : p.block ≠ a.block) : (w.setCell p v).cell? a = w.cell? a := World.cell?_setCell_other _ _ _ _ (fun e => h (by rw [e]))
theorem cell_lt_of {w : World} {ps : List Per} {pb off : Nat} (h : PerAt w ps pb off) (hn : 0 < ps.length) : pb < w.heap.size := lt_of_cell (h.at 0 hn).1
set_option maxHeartbeats 400000 in
theorem new_c {w : World} (k : Int) (ps : List Per) (pb off cap : Nat) (hP : PerAt w ps pb off) (hv : vld k ps = true) :
    Calls Try.prog 9 #[.agg #[.int .i64 k, .slice (some ⟨pb, off, none⟩) ps.length cap]] w fun e w' => ∃ b L, e = .returned (.tuple #[.pointer (some ⟨b, 0, none⟩), .int .i64 0]) ∧ L.k = k ∧ L.ps = ps ∧
      Own w.heap.size w'.heap.size w' b L (Ck.new (ps.getD 0 ⟨0, 0, 0⟩).time) ∧ Below w.heap.size w w' := by
  have hh : hdr k ps = true := by
    unfold vld at hv
    simp only [Bool.and_eq_true] at hv
    exact hv.1
  simp only [hdr, Bool.and_eq_true, decide_eq_true_eq] at hh
  obtain ⟨⟨⟨⟨h1, h8⟩, _⟩, _⟩, _⟩ := hh
  have hval := fun w' (hp : PerAt w' ps pb off) => Lib.hid (valid_c (w := w') k ps pb off cap hp)
  rw [hv] at hval
  have hcl := fun w' (hp : PerAt w' ps pb off) => Lib.hid (clone_c (w := w') ps pb off cap hp h1 (by omega))
  have hPh := Lib.hid hP
  clear hv hP
  generalize hn : ps.length = n at *
  go_enter Try.func9, Try.ntmps9
  go_wp2_with fail
  refine (hval _ ?_).out.mono ?_
  · exact hPh.out.below ((Below.refl _ _).alloc (Nat.le_refl _) _)
  rintro e V ⟨rfl, hV⟩
  have hB := below_of_alloc hV
  have hX := box_of hV
  have y1 : V.cell? ⟨w.heap.size, 1, none⟩ = some (.slice (some ⟨pb, off, none⟩) n cap) := cell_of hX 1 _ rfl
  go_wp2_with fail
  refine (hcl _ (hPh.out.below hB)).out.mono ?_
  rintro e V2 ⟨nb, ncap, rfl, hnb, hlt, hP2, hB2⟩
  have hs1 : w.heap.size < V.heap.size := lt_of_cell y1
  have hX2 := (hB2.block w.heap.size hs1).trans hX
  have y2 : V2.cell? ⟨w.heap.size, 1, none⟩ = some (.slice (some ⟨pb, off, none⟩) n cap) := cell_of hX2 1 _ rfl
  have f2 := free_of hX2 1
  have hs2 := lt_of_cell y2
  obtain ⟨_, z1, _⟩ := hP2.at 0 (by omega)
  simp only [Nat.zero_mul, Nat.add_zero, Nat.zero_add] at z1
  have hne : nb ≠ w.heap.size := by omega
  clear hX hV y1
  go_wp2
  go_ret2
  refine ⟨V2.heap.size + 1, ⟨w.heap.size, nb, ncap, k, ps⟩, by simp, rfl, rfl, ⟨?_, ⟨?_, ?_, ?_⟩, ?_, ?_, ?_⟩, ?_⟩
  · exact blk_new (by simp) _
  · simpa [hn] using h8
  · refine blk_at (cs' := #[.int .i64 k, .slice (some ⟨nb, 0, none⟩) ps.length ncap]) (blk_alloc (blk_alloc (blk_set hX2 1 _) _) _) (by simp [hn])
  · intro i p hp
    obtain ⟨a, b, c⟩ := hP2.per i p hp
    simp only [Nat.zero_add] at a b c
    exact ⟨cell_past (cell_past ((cell_far (by simpa using hne.symm)).trans a) _) _, cell_past (cell_past ((cell_far (by simpa using hne.symm)).trans b) _) _, cell_past (cell_past ((cell_far (by simpa using hne.symm)).trans c) _) _⟩
  · have := hB2.size
    have := (cell_lt_of hP2 (by omega))
    refine ⟨?_, ?_, ?_, ?_, ?_, ?_, ?_⟩ <;> (try simp) <;> omega
  · have := hB2.size
    dsimp only
    omega
  · have := (cell_lt_of hP2 (by omega))
    dsimp only
    omega
  · have hB3 := hB.trans (hB2.mono (Nat.le_of_lt hs1))
    repeat (first | exact Below.refl _ _ | (with_reducible assumption) | (with_reducible apply below_drewN) | (with_reducible apply Below.drew) | (refine Below.alloc ?_ (by first | omega | (simp; done) | (simp; omega)) _) | (refine Below.setCell ?_ (by first | omega | (simp; done) | (simp; omega)) _))
end Go.Proofs.Ytgigehlflgcdpaa
