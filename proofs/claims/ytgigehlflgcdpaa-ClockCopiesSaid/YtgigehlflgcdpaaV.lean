/- Which controls are valid: the contract of Valid. Conditions: the periods lie in memory. -/
import Derived.Test.YtgigehlflgcdpaaE
set_option linter.unusedVariables false
set_option linter.unusedSimpArgs false
namespace Go.Proofs.Ytgigehlflgcdpaa
-- which controls are valid
open Go.RowKit
def okp (k : Int) (n i : Nat) (p : Per) : Bool := decide (0 ≤ p.moves) && decide (p.moves ≤ 1000) && decide (0 ≤ p.time) && decide (p.time ≤ 1073741824) && decide (0 ≤ p.bonus) && decide (p.bonus ≤ 1073741824) &&
  decide (p.moves = 0 ↔ i + 1 = n) && !(decide (k = 0) && decide (0 < p.bonus))
def hdr (k : Int) (ps : List Per) : Bool := decide (1 ≤ ps.length) && decide (ps.length ≤ 8) && decide (0 ≤ k) && decide (k ≤ 3) && decide (1 ≤ (ps.getD 0 ⟨0, 0, 0⟩).time)
/-- is a control valid? -/
def vld (k : Int) (ps : List Per) : Bool := hdr k ps && (List.range ps.length).all (fun i => okp k ps.length i (ps.getD i ⟨0, 0, 0⟩))

/-- the first that fails -/
theorem first_no (p : Nat → Bool) (n : Nat) : ∃ f, f ≤ n ∧ (∀ i, i < f → p i = true) ∧ (f < n → p f = false) ∧ (List.range n).all p = decide (f = n) := by
  induction n with
  | zero => exact ⟨0, by omega, by omega, by omega, by simp⟩
  | succ n ih =>
    obtain ⟨f, h1, h2, h3, h4⟩ := ih
    rcases Nat.lt_or_ge f n with h | h
    · refine ⟨f, by omega, h2, fun _ => h3 h, ?_⟩
      rw [List.range_succ, List.all_append, h4]
      rw [decide_eq_false (by omega : ¬ f = n), decide_eq_false (by omega : ¬ f = n + 1)]
      rfl
    · have : f = n := by omega
      subst this
      cases hp : p f
      · exact ⟨f, by omega, h2, fun _ => hp, by rw [List.range_succ, List.all_append, h4]; simp [hp]⟩
      · exact ⟨f + 1, by omega, fun i hi => by rcases Nat.lt_or_ge i f with q | q; exact h2 i q; rw [show i = f by omega]; exact hp, by omega, by rw [List.range_succ, List.all_append, h4]; simp [hp]⟩

theorem within_q (a l h : Int) (w : World) (b : Bool) (hb : b = (decide (l ≤ a) && decide (a ≤ h))) : Quiet 29 #[.int .i64 a, .int .i64 l, .int .i64 h] w (.bool b) := by
  by_cases h1 : l ≤ a
  · by_cases h2 : a ≤ h
    · subst hb
      rw [show (decide (l ≤ a) && decide (a ≤ h)) = true by simp [h1, h2]]
      exact (within_t a l h w h1 h2).mono fun _ _ ⟨he, hw⟩ => ⟨he, 0, hw.symm⟩
    · subst hb
      rw [show (decide (l ≤ a) && decide (a ≤ h)) = false by simp [h1, h2]]
      exact (within_f a l h w (by omega)).mono fun _ _ ⟨he, hw⟩ => ⟨he, 0, hw.symm⟩
  · subst hb
    rw [show (decide (l ≤ a) && decide (a ≤ h)) = false by simp [h1]]
    exact (within_f a l h w (by omega)).mono fun _ _ ⟨he, hw⟩ => ⟨he, 0, hw.symm⟩

theorem PerAt.at {w : World} {ps : List Per} {pb off : Nat} (h : PerAt w ps pb off) (j : Nat) (hj : j < ps.length) :
    w.cell? ⟨pb, off + j * 3, none⟩ = some (.int .i64 (ps.getD j ⟨0, 0, 0⟩).moves) ∧ w.cell? ⟨pb, off + j * 3 + 1, none⟩ = some (.int .i64 (ps.getD j ⟨0, 0, 0⟩).time) ∧ w.cell? ⟨pb, off + j * 3 + 2, none⟩ = some (.int .i64 (ps.getD j ⟨0, 0, 0⟩).bonus) := by
  refine h.per j _ ?_
  simp [List.getD, List.getElem?_eq_getElem hj]

set_option maxHeartbeats 400000 in
theorem valid_h1 {w : World} (k : Int) (n : Nat) (o : Option Addr) (cap : Nat) (h : k < 0) :
    Pure 10 #[.agg #[.int .i64 k, .slice o n cap]] w (.bool false) := by
  unfold Pure
  go_enter Try.func10, Try.ntmps10
  go_wp2_with fail
  go_wp2
  go_ret
  refine ⟨rfl, ?_⟩
  repeat (first | exact Below.refl _ _ | (with_reducible assumption) | (with_reducible apply below_drewN) | (with_reducible apply Below.drew) | (refine Below.alloc ?_ (by first | omega | (simp; done) | (simp; omega)) _) | (refine Below.setCell ?_ (by first | omega | (simp; done) | (simp; omega)) _))
set_option maxHeartbeats 400000 in
theorem valid_h2 {w : World} (k : Int) (n : Nat) (o : Option Addr) (cap : Nat) (h : 3 < k) :
    Pure 10 #[.agg #[.int .i64 k, .slice o n cap]] w (.bool false) := by
  have h0 : 0 ≤ k := by omega
  unfold Pure
  go_enter Try.func10, Try.ntmps10
  go_wp2_with fail
  go_wp2
  go_ret
  refine ⟨rfl, ?_⟩
  repeat (first | exact Below.refl _ _ | (with_reducible assumption) | (with_reducible apply below_drewN) | (with_reducible apply Below.drew) | (refine Below.alloc ?_ (by first | omega | (simp; done) | (simp; omega)) _) | (refine Below.setCell ?_ (by first | omega | (simp; done) | (simp; omega)) _))
set_option maxHeartbeats 400000 in
theorem valid_h3 {w : World} (k : Int) (n : Nat) (o : Option Addr) (cap : Nat) (h0 : 0 ≤ k) (h3 : k ≤ 3) (h : n < 1 ∨ 8 < n) :
    Pure 10 #[.agg #[.int .i64 k, .slice o n cap]] w (.bool false) := by
  have hq := fun w => Lib.hid (within_q (n : Int) 1 8 w false (by simp; omega))
  clear h
  unfold Pure
  go_enter Try.func10, Try.ntmps10
  go_wp2_with fail
  refine ((hq _).out).mono ?_
  rintro e w' ⟨rfl, nq, rfl⟩
  go_wp2
  go_ret
  refine ⟨rfl, ?_⟩
  repeat (first | exact Below.refl _ _ | (with_reducible assumption) | (with_reducible apply below_drewN) | (with_reducible apply Below.drew) | (refine Below.alloc ?_ (by first | omega | (simp; done) | (simp; omega)) _) | (refine Below.setCell ?_ (by first | omega | (simp; done) | (simp; omega)) _))
set_option maxHeartbeats 400000 in
theorem valid_h4 {w : World} (k : Int) (ps : List Per) (pb off : Nat) (cap : Nat) (hP : PerAt w ps pb off) (h0 : 0 ≤ k) (h3 : k ≤ 3) (h : 1 ≤ ps.length) (h8 : ps.length ≤ 8) (ht : (ps.getD 0 ⟨0, 0, 0⟩).time < 1) :
    Pure 10 #[.agg #[.int .i64 k, .slice (some ⟨pb, off, none⟩) ps.length cap]] w (.bool false) := by
  have hq := fun w => Lib.hid (within_q (ps.length : Int) 1 8 w true (by simp; omega))
  obtain ⟨x1, x2, x3⟩ := hP.at 0 h
  simp only [Nat.zero_mul, Nat.add_zero] at x1 x2 x3
  generalize (ps.getD 0 ⟨0, 0, 0⟩).time = tm at *
  have hl := lt_of_cell x2
  clear x1 x3 hP
  unfold Pure
  go_enter Try.func10, Try.ntmps10
  go_wp2_with fail
  refine ((hq _).out).mono ?_
  rintro e w' ⟨rfl, nq, rfl⟩
  go_wp2
  go_ret
  refine ⟨rfl, ?_⟩
  repeat (first | exact Below.refl _ _ | (with_reducible assumption) | (with_reducible apply below_drewN) | (with_reducible apply Below.drew) | (refine Below.alloc ?_ (by first | omega | (simp; done) | (simp; omega)) _) | (refine Below.setCell ?_ (by first | omega | (simp; done) | (simp; omega)) _))

theorem okp_t {k : Int} {n i : Nat} {p : Per} (h : okp k n i p = true) : 0 ≤ p.moves ∧ p.moves ≤ 1000 ∧ 0 ≤ p.time ∧ p.time ≤ 1073741824 ∧ 0 ≤ p.bonus ∧ p.bonus ≤ 1073741824 ∧ (p.moves = 0 ↔ i + 1 = n) ∧ ¬ (k = 0 ∧ 0 < p.bonus) := by
  simp only [okp, Bool.and_eq_true, decide_eq_true_eq, Bool.not_eq_true', Bool.and_eq_false_iff, decide_eq_false_iff_not] at h
  obtain ⟨⟨⟨⟨⟨⟨⟨a, b⟩, c⟩, d⟩, e⟩, f⟩, g⟩, q⟩ := h
  exact ⟨a, b, c, d, e, f, g, by omega⟩
theorem okp_f {k : Int} {n i : Nat} {p : Per} (h : okp k n i p = false) : (p.moves < 0 ∨ 1000 < p.moves) ∨
    (0 ≤ p.moves ∧ p.moves ≤ 1000 ∧ (p.time < 0 ∨ 1073741824 < p.time)) ∨
    (0 ≤ p.moves ∧ p.moves ≤ 1000 ∧ 0 ≤ p.time ∧ p.time ≤ 1073741824 ∧ (p.bonus < 0 ∨ 1073741824 < p.bonus)) ∨
    (0 ≤ p.moves ∧ p.moves ≤ 1000 ∧ 0 ≤ p.time ∧ p.time ≤ 1073741824 ∧ 0 ≤ p.bonus ∧ p.bonus ≤ 1073741824 ∧ ¬ (p.moves = 0 ↔ i + 1 = n)) ∨
    (0 ≤ p.moves ∧ p.moves ≤ 1000 ∧ 0 ≤ p.time ∧ p.time ≤ 1073741824 ∧ 0 < p.bonus ∧ p.bonus ≤ 1073741824 ∧ (p.moves = 0 ↔ i + 1 = n) ∧ k = 0) := by
  by_cases h1 : 0 ≤ p.moves ∧ p.moves ≤ 1000
  · by_cases h2 : 0 ≤ p.time ∧ p.time ≤ 1073741824
    · by_cases h3 : 0 ≤ p.bonus ∧ p.bonus ≤ 1073741824
      · by_cases h4 : (p.moves = 0 ↔ i + 1 = n)
        · by_cases h5 : k = 0 ∧ 0 < p.bonus
          · exact .inr (.inr (.inr (.inr ⟨h1.1, h1.2, h2.1, h2.2, h5.2, h3.2, h4, h5.1⟩)))
          · have : okp k n i p = true := by simp only [okp, h1.1, h1.2, h2.1, h2.2, h3.1, h3.2, h4, decide_true, Bool.true_and, ← Bool.decide_and, h5]; rfl
            rw [this] at h
            cases h
        · exact .inr (.inr (.inr (.inl ⟨h1.1, h1.2, h2.1, h2.2, h3.1, h3.2, h4⟩)))
      · exact .inr (.inr (.inl ⟨h1.1, h1.2, h2.1, h2.2, by omega⟩))
    · exact .inr (.inl ⟨h1.1, h1.2, by omega⟩)
  · exact .inl (by omega)
set_option maxHeartbeats 800000 in
theorem valid_p {w : World} (k : Int) (ps : List Per) (pb off : Nat) (cap : Nat) (hP : PerAt w ps pb off) (h : hdr k ps = true) (f : Nat) (hf : f ≤ ps.length) (hf1 : ∀ i, i < f → okp k ps.length i (ps.getD i ⟨0, 0, 0⟩) = true)
    (hf2 : f < ps.length → okp k ps.length f (ps.getD f ⟨0, 0, 0⟩) = false) :
    Pure 10 #[.agg #[.int .i64 k, .slice (some ⟨pb, off, none⟩) ps.length cap]] w (.bool (decide (f = ps.length))) := by
  simp only [hdr, Bool.and_eq_true, decide_eq_true_eq] at h
  obtain ⟨⟨⟨⟨h1, h8⟩, h0⟩, h3⟩, ht⟩ := h
  have hq := fun w => Lib.hid (within_q (ps.length : Int) 1 8 w true (by simp; omega))
  obtain ⟨x1, x2, x3⟩ := hP.at 0 h1
  simp only [Nat.zero_mul, Nat.add_zero] at x1 x2 x3
  generalize (ps.getD 0 ⟨0, 0, 0⟩).time = tm at *
  have hl := lt_of_cell x2
  clear x1 x3
  have hPw := Lib.hid hP
  clear hP
  have hF1 := Lib.hid hf1
  have hF2 := Lib.hid hf2
  clear hf1 hf2
  generalize hn : ps.length = n at *
  unfold Pure
  go_enter Try.func10, Try.ntmps10
  go_wp2_with fail
  refine ((hq _).out).mono ?_
  rintro e w' ⟨rfl, nq, rfl⟩
  go_wp2_with fail
  go_loopw [31] (fun i wr => ∃ j : Nat, i = .int .i64 j ∧ j ≤ f ∧ Below (w.heap.size + 1) (w.alloc (.cells #[.int .i64 k, .slice (some ⟨pb, off, none⟩) n cap] 25 (0, 0))) wr) (fun i _ => n - (intOf i).toNat)
  case atStart => exact ⟨0, rfl, Nat.zero_le _, below_drewN (Below.refl _ _) _⟩
  case round =>
    obtain ⟨j, rfl, hj, hB⟩ := hrel
    have hB1 : Below (w.alloc (.cells #[.int .i64 k, .slice (some ⟨pb, off, none⟩) n cap] 25 (0, 0))).heap.size (w.alloc (.cells #[.int .i64 k, .slice (some ⟨pb, off, none⟩) n cap] 25 (0, 0))) wr := by simpa using hB
    have hBk := Lib.hid hB
    have hB0 := below_of_alloc hB1
    have hX := box_of hB1
    have y0 : wr.cell? ⟨w.heap.size, 0, none⟩ = some (.int .i64 k) := cell_of hX 0 _ rfl
    have y1 : wr.cell? ⟨w.heap.size, 1, none⟩ = some (.slice (some ⟨pb, off, none⟩) n cap) := cell_of hX 1 _ rfl
    have hsz : w.heap.size < wr.heap.size := lt_of_cell y0
    have hPr := (hPw.out).below hB0
    clear hX hPw
    by_cases hjn : j = n
    · have hfn : f = n := by omega
      subst hjn
      clear hPr
      go_wp2
      go_ret
      exact ⟨ret_bool (by simp [hfn]), hB0⟩
    · have hjl : j < n := by omega
      obtain ⟨z0, z1, z2⟩ := hPr.at j (by omega)
      have hpl := lt_of_cell z0
      by_cases hjf : j = f
      · subst hjf
        have hbad := okp_f (hF2.out (by omega))
        clear hF1 hF2 hPr hq h1 hB hB1
        generalize (ps.getD j ⟨0, 0, 0⟩).moves = mv at *
        generalize (ps.getD j ⟨0, 0, 0⟩).time = tv at *
        generalize (ps.getD j ⟨0, 0, 0⟩).bonus = bv at *
        rcases hbad with h | ⟨c1, c2, h⟩ | ⟨c1, c2, c3, c4, h⟩ | ⟨c1, c2, c3, c4, c5, c6, c7⟩ | ⟨c1, c2, c3, c4, c5, c6, c7, c8⟩
        · have hqm := fun w => Lib.hid (within_q mv 0 1000 w false (by simp; omega))
          clear h
          go_wp2_with fail
          refine ((hqm _).out).mono ?_
          rintro e w' ⟨rfl, nq, rfl⟩
          go_wp2
          go_ret
          refine ⟨ret_bool (by first | (simp; done) | (simp; omega)), ?_⟩
          repeat (first | exact Below.refl _ _ | (with_reducible assumption) | (with_reducible apply below_drewN) | (with_reducible apply Below.drew) | (refine Below.alloc ?_ (by first | omega | (simp; done) | (simp; omega)) _) | (refine Below.setCell ?_ (by first | omega | (simp; done) | (simp; omega)) _))
        · have hqm := fun w => Lib.hid (within_q mv 0 1000 w true (by simp; omega))
          have hqt := fun w => Lib.hid (within_q tv 0 1073741824 w false (by simp; omega))
          clear h
          go_wp2_with fail
          refine ((hqm _).out).mono ?_
          rintro e w' ⟨rfl, nq, rfl⟩
          go_wp2_with fail
          refine ((hqt _).out).mono ?_
          rintro e w' ⟨rfl, nq, rfl⟩
          go_wp2
          go_ret
          refine ⟨ret_bool (by first | (simp; done) | (simp; omega)), ?_⟩
          repeat (first | exact Below.refl _ _ | (with_reducible assumption) | (with_reducible apply below_drewN) | (with_reducible apply Below.drew) | (refine Below.alloc ?_ (by first | omega | (simp; done) | (simp; omega)) _) | (refine Below.setCell ?_ (by first | omega | (simp; done) | (simp; omega)) _))
        · have hqm := fun w => Lib.hid (within_q mv 0 1000 w true (by simp; omega))
          have hqt := fun w => Lib.hid (within_q tv 0 1073741824 w true (by simp; omega))
          have hqb := fun w => Lib.hid (within_q bv 0 1073741824 w false (by simp; omega))
          clear h
          go_wp2_with fail
          refine ((hqm _).out).mono ?_
          rintro e w' ⟨rfl, nq, rfl⟩
          go_wp2_with fail
          refine ((hqt _).out).mono ?_
          rintro e w' ⟨rfl, nq, rfl⟩
          go_wp2_with fail
          refine ((hqb _).out).mono ?_
          rintro e w' ⟨rfl, nq, rfl⟩
          clear hqm hqt hqb
          go_wp2
          go_ret
          refine ⟨ret_bool (by first | (simp; done) | (simp; omega)), ?_⟩
          repeat (first | exact Below.refl _ _ | (with_reducible assumption) | (with_reducible apply below_drewN) | (with_reducible apply Below.drew) | (refine Below.alloc ?_ (by first | omega | (simp; done) | (simp; omega)) _) | (refine Below.setCell ?_ (by first | omega | (simp; done) | (simp; omega)) _))
        · have hqm := fun w => Lib.hid (within_q mv 0 1000 w true (by simp; omega))
          have hqt := fun w => Lib.hid (within_q tv 0 1073741824 w true (by simp; omega))
          have hqb := fun w => Lib.hid (within_q bv 0 1073741824 w true (by simp; omega))
          have hn8 : n ≤ 8 := h8
          by_cases hjn1 : j + 1 = n
          · have hm1 : (mv == 0) = false := by
              simp
              omega
            subst hjn1
            clear c7
            go_wp2_with fail
            refine ((hqm _).out).mono ?_
            rintro e w' ⟨rfl, nq, rfl⟩
            go_wp2_with fail
            refine ((hqt _).out).mono ?_
            rintro e w' ⟨rfl, nq, rfl⟩
            go_wp2_with fail
            refine ((hqb _).out).mono ?_
            rintro e w' ⟨rfl, nq, rfl⟩
            clear hqm hqt hqb
            go_wp2
            go_ret
            refine ⟨ret_bool (by first | (simp; done) | (simp; omega)), ?_⟩
            repeat (first | exact Below.refl _ _ | (with_reducible assumption) | (with_reducible apply below_drewN) | (with_reducible apply Below.drew) | (refine Below.alloc ?_ (by first | omega | (simp; done) | (simp; omega)) _) | (refine Below.setCell ?_ (by first | omega | (simp; done) | (simp; omega)) _))
          · have hm0 : mv = 0 := by omega
            subst hm0
            have hm2 : ((j : Int) == (n : Int) - 1) = false := by
              simp
              omega
            clear c7 hjn1
            go_wp2_with fail
            refine ((hqm _).out).mono ?_
            rintro e w' ⟨rfl, nq, rfl⟩
            go_wp2_with fail
            refine ((hqt _).out).mono ?_
            rintro e w' ⟨rfl, nq, rfl⟩
            go_wp2_with fail
            refine ((hqb _).out).mono ?_
            rintro e w' ⟨rfl, nq, rfl⟩
            clear hqm hqt hqb
            go_wp2
            go_ret
            refine ⟨ret_bool (by first | (simp; done) | (simp; omega)), ?_⟩
            repeat (first | exact Below.refl _ _ | (with_reducible assumption) | (with_reducible apply below_drewN) | (with_reducible apply Below.drew) | (refine Below.alloc ?_ (by first | omega | (simp; done) | (simp; omega)) _) | (refine Below.setCell ?_ (by first | omega | (simp; done) | (simp; omega)) _))
        · have hqm := fun w => Lib.hid (within_q mv 0 1000 w true (by simp; omega))
          have hqt := fun w => Lib.hid (within_q tv 0 1073741824 w true (by simp; omega))
          have hqb := fun w => Lib.hid (within_q bv 0 1073741824 w true (by simp; omega))
          have hn8 : n ≤ 8 := h8
          subst c8
          by_cases hjn1 : j + 1 = n
          · have hm0 : mv = 0 := c7.2 hjn1
            subst hm0
            subst hjn1
            clear c7
            go_wp2_with fail
            refine ((hqm _).out).mono ?_
            rintro e w' ⟨rfl, nq, rfl⟩
            go_wp2_with fail
            refine ((hqt _).out).mono ?_
            rintro e w' ⟨rfl, nq, rfl⟩
            go_wp2_with fail
            refine ((hqb _).out).mono ?_
            rintro e w' ⟨rfl, nq, rfl⟩
            clear hqm hqt hqb
            go_wp2
            go_ret
            refine ⟨ret_bool (by first | (simp; done) | (simp; omega)), ?_⟩
            repeat (first | exact Below.refl _ _ | (with_reducible assumption) | (with_reducible apply below_drewN) | (with_reducible apply Below.drew) | (refine Below.alloc ?_ (by first | omega | (simp; done) | (simp; omega)) _) | (refine Below.setCell ?_ (by first | omega | (simp; done) | (simp; omega)) _))
          · have hm1 : (mv == 0) = false := by
              simp
              omega
            have hm2 : ((j : Int) == (n : Int) - 1) = false := by
              simp
              omega
            clear c7 hjn1
            go_wp2_with fail
            refine ((hqm _).out).mono ?_
            rintro e w' ⟨rfl, nq, rfl⟩
            go_wp2_with fail
            refine ((hqt _).out).mono ?_
            rintro e w' ⟨rfl, nq, rfl⟩
            go_wp2_with fail
            refine ((hqb _).out).mono ?_
            rintro e w' ⟨rfl, nq, rfl⟩
            clear hqm hqt hqb
            go_wp2
            go_ret
            refine ⟨ret_bool (by first | (simp; done) | (simp; omega)), ?_⟩
            repeat (first | exact Below.refl _ _ | (with_reducible assumption) | (with_reducible apply below_drewN) | (with_reducible apply Below.drew) | (refine Below.alloc ?_ (by first | omega | (simp; done) | (simp; omega)) _) | (refine Below.setCell ?_ (by first | omega | (simp; done) | (simp; omega)) _))
      · obtain ⟨c1, c2, c3, c4, c5, c6, c7, c8⟩ := okp_t (hF1.out j (by omega))
        clear hF1 hF2 hPr
        generalize (ps.getD j ⟨0, 0, 0⟩).moves = mv at *
        generalize (ps.getD j ⟨0, 0, 0⟩).time = tv at *
        generalize (ps.getD j ⟨0, 0, 0⟩).bonus = bv at *
        have hqm := fun w => Lib.hid (within_q mv 0 1000 w true (by simp; omega))
        have hqt := fun w => Lib.hid (within_q tv 0 1073741824 w true (by simp; omega))
        have hqb := fun w => Lib.hid (within_q bv 0 1073741824 w true (by simp; omega))
        go_wp2_with fail
        refine ((hqm _).out).mono ?_
        rintro e w' ⟨rfl, nq, rfl⟩
        go_wp2_with fail
        refine ((hqt _).out).mono ?_
        rintro e w' ⟨rfl, nq, rfl⟩
        go_wp2_with fail
        refine ((hqb _).out).mono ?_
        rintro e w' ⟨rfl, nq, rfl⟩
        clear hqm hqt hqb
        have hlt9 : n ≤ 8 := h8
        clear hq h1 hB hB1 hjl
        by_cases hjn1 : j + 1 = n
        · have hm0 : mv = 0 := c7.2 hjn1
          subst hm0
          subst hjn1
          clear c7 hjn
          by_cases hk : k = 0
          · have hb0 : bv = 0 := by omega
            subst hb0
            subst hk
            clear c8
            go_wp2
            go_roundw
            case rel =>
              first
                | (refine ⟨j + 1, by simp, by omega, ?_⟩)
                | ((repeat apply Exists.intro); refine And.intro ?_ rfl; refine ⟨j + 1, by simp, by omega, ?_⟩)
              have hB := hBk.out
              repeat (first | exact Below.refl _ _ | (with_reducible assumption) | (with_reducible apply below_drewN) | (with_reducible apply Below.drew) | (refine Below.alloc ?_ (by first | omega | (simp; done) | (simp; omega)) _) | (refine Below.setCell ?_ (by first | omega | (simp; done) | (simp; omega)) _))
            case measure =>
              simp [intOf] <;> omega
          · clear c8
            have hk0 : (k == 0) = false := by simpa using hk
            clear hk
            go_wp2
            go_roundw
            case rel =>
              first
                | (refine ⟨j + 1, by simp, by omega, ?_⟩)
                | ((repeat apply Exists.intro); refine And.intro ?_ rfl; refine ⟨j + 1, by simp, by omega, ?_⟩)
              have hB := hBk.out
              repeat (first | exact Below.refl _ _ | (with_reducible assumption) | (with_reducible apply below_drewN) | (with_reducible apply Below.drew) | (refine Below.alloc ?_ (by first | omega | (simp; done) | (simp; omega)) _) | (refine Below.setCell ?_ (by first | omega | (simp; done) | (simp; omega)) _))
            case measure =>
              simp [intOf] <;> omega
        · have hm0 : mv ≠ 0 := fun e => hjn1 (c7.1 e)
          have hm1 : (mv == 0) = false := by simpa using hm0
          have hm2 : ((j : Int) == (n : Int) - 1) = false := by
            simp
            omega
          clear c7 hm0
          by_cases hk : k = 0
          · have hb0 : bv = 0 := by omega
            subst hb0
            subst hk
            clear c8
            go_wp2
            go_roundw
            case rel =>
              first
                | (refine ⟨j + 1, by simp, by omega, ?_⟩)
                | ((repeat apply Exists.intro); refine And.intro ?_ rfl; refine ⟨j + 1, by simp, by omega, ?_⟩)
              have hB := hBk.out
              repeat (first | exact Below.refl _ _ | (with_reducible assumption) | (with_reducible apply below_drewN) | (with_reducible apply Below.drew) | (refine Below.alloc ?_ (by first | omega | (simp; done) | (simp; omega)) _) | (refine Below.setCell ?_ (by first | omega | (simp; done) | (simp; omega)) _))
            case measure =>
              simp [intOf] <;> omega
          · clear c8
            have hk0 : (k == 0) = false := by simpa using hk
            clear hk
            go_wp2
            go_roundw
            case rel =>
              first
                | (refine ⟨j + 1, by simp, by omega, ?_⟩)
                | ((repeat apply Exists.intro); refine And.intro ?_ rfl; refine ⟨j + 1, by simp, by omega, ?_⟩)
              have hB := hBk.out
              repeat (first | exact Below.refl _ _ | (with_reducible assumption) | (with_reducible apply below_drewN) | (with_reducible apply Below.drew) | (refine Below.alloc ?_ (by first | omega | (simp; done) | (simp; omega)) _) | (refine Below.setCell ?_ (by first | omega | (simp; done) | (simp; omega)) _))
            case measure =>
              simp [intOf] <;> omega
theorem hdr_f {k : Int} {ps : List Per} (h : hdr k ps = false) : k < 0 ∨ (0 ≤ k ∧ 3 < k) ∨ (0 ≤ k ∧ k ≤ 3 ∧ (ps.length < 1 ∨ 8 < ps.length)) ∨ (0 ≤ k ∧ k ≤ 3 ∧ 1 ≤ ps.length ∧ ps.length ≤ 8 ∧ (ps.getD 0 ⟨0, 0, 0⟩).time < 1) := by
  simp only [hdr, Bool.and_eq_false_iff, decide_eq_false_iff_not] at h
  omega
theorem valid_c {w : World} (k : Int) (ps : List Per) (pb off : Nat) (cap : Nat) (hP : PerAt w ps pb off) :
    Pure 10 #[.agg #[.int .i64 k, .slice (some ⟨pb, off, none⟩) ps.length cap]] w (.bool (vld k ps)) := by
  unfold vld
  cases h : hdr k ps
  · rw [Bool.false_and]
    rcases hdr_f h with h1 | ⟨_, h2⟩ | ⟨h1, h2, h3⟩ | ⟨h1, h2, h3, h4, h5⟩
    · exact valid_h1 k _ _ _ h1
    · exact valid_h2 k _ _ _ h2
    · exact valid_h3 k _ _ _ h1 h2 h3
    · exact valid_h4 k ps pb off cap hP h1 h2 h3 h4 h5
  · rw [Bool.true_and]
    obtain ⟨f, f1, f2, f3, f4⟩ := first_no (fun i => okp k ps.length i (ps.getD i ⟨0, 0, 0⟩)) ps.length
    rw [f4]
    exact valid_p k ps pb off cap hP h f f1 f2 f3
theorem valid_nil {w : World} (k : Int) (o : Option Addr) (cap : Nat) : Pure 10 #[.agg #[.int .i64 k, .slice o 0 cap]] w (.bool (vld k [])) := by
  rw [show vld k [] = false by simp [vld, hdr]]
  by_cases h1 : k < 0
  · exact valid_h1 k _ _ _ h1
  · by_cases h2 : 3 < k
    · exact valid_h2 k _ _ _ h2
    · exact valid_h3 k _ _ _ (by omega) (by omega) (by omega)
end Go.Proofs.Ytgigehlflgcdpaa
