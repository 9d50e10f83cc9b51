/- Which controls are valid: the contract of the law's own Valid. Conditions: the periods lie in memory. -/
import Derived.Test.YtgigehlflgcdpaaV
set_option linter.unusedVariables false
set_option linter.unusedSimpArgs false
namespace Go.Proofs.Ytgigehlflgcdpaa
open Go.RowKit
set_option maxHeartbeats 400000 in
theorem lvalid_h0 {w : World} (k : Int) (n : Nat) (o : Option Addr) (cap : Nat) (h : n < 1) :
    Pure 11 #[.agg #[.int .i64 k, .slice o n cap]] w (.bool false) := by
  unfold Pure
  go_enter Try.func11, Try.ntmps11
  go_wp2_with fail
  go_wp2
  go_ret
  refine ⟨rfl, ?_⟩
  repeat (first | exact Below.refl _ _ | (with_reducible assumption) | (with_reducible apply below_drewN) | (with_reducible apply Below.drew) | (refine Below.alloc ?_ (by first | omega | (simp; done) | (simp; omega)) _) | (refine Below.setCell ?_ (by first | omega | (simp; done) | (simp; omega)) _))
set_option maxHeartbeats 400000 in
theorem lvalid_h9 {w : World} (k : Int) (n : Nat) (o : Option Addr) (cap : Nat) (h : 8 < n) :
    Pure 11 #[.agg #[.int .i64 k, .slice o n cap]] w (.bool false) := by
  have h1 : ¬ n < 1 := by omega
  unfold Pure
  go_enter Try.func11, Try.ntmps11
  go_wp2_with fail
  go_wp2
  go_ret
  refine ⟨rfl, ?_⟩
  repeat (first | exact Below.refl _ _ | (with_reducible assumption) | (with_reducible apply below_drewN) | (with_reducible apply Below.drew) | (refine Below.alloc ?_ (by first | omega | (simp; done) | (simp; omega)) _) | (refine Below.setCell ?_ (by first | omega | (simp; done) | (simp; omega)) _))
set_option maxHeartbeats 400000 in
theorem lvalid_h1 {w : World} (k : Int) (n : Nat) (o : Option Addr) (cap : Nat) (h1 : 1 ≤ n) (h8 : n ≤ 8) (h : k < 0) :
    Pure 11 #[.agg #[.int .i64 k, .slice o n cap]] w (.bool false) := by
  unfold Pure
  go_enter Try.func11, Try.ntmps11
  go_wp2_with fail
  go_wp2
  go_ret
  refine ⟨rfl, ?_⟩
  repeat (first | exact Below.refl _ _ | (with_reducible assumption) | (with_reducible apply below_drewN) | (with_reducible apply Below.drew) | (refine Below.alloc ?_ (by first | omega | (simp; done) | (simp; omega)) _) | (refine Below.setCell ?_ (by first | omega | (simp; done) | (simp; omega)) _))
set_option maxHeartbeats 400000 in
theorem lvalid_h2 {w : World} (k : Int) (n : Nat) (o : Option Addr) (cap : Nat) (h1 : 1 ≤ n) (h8 : n ≤ 8) (h0 : 0 ≤ k) (h : 3 < k) :
    Pure 11 #[.agg #[.int .i64 k, .slice o n cap]] w (.bool false) := by
  unfold Pure
  go_enter Try.func11, Try.ntmps11
  go_wp2_with fail
  go_wp2
  go_ret
  refine ⟨rfl, ?_⟩
  repeat (first | exact Below.refl _ _ | (with_reducible assumption) | (with_reducible apply below_drewN) | (with_reducible apply Below.drew) | (refine Below.alloc ?_ (by first | omega | (simp; done) | (simp; omega)) _) | (refine Below.setCell ?_ (by first | omega | (simp; done) | (simp; omega)) _))
set_option maxHeartbeats 400000 in
theorem lvalid_h4 {w : World} (k : Int) (ps : List Per) (pb off : Nat) (cap : Nat) (hP : PerAt w ps pb off) (h0 : 0 ≤ k) (h3 : k ≤ 3) (h : 1 ≤ ps.length) (h8 : ps.length ≤ 8) (ht : (ps.getD 0 ⟨0, 0, 0⟩).time < 1) :
    Pure 11 #[.agg #[.int .i64 k, .slice (some ⟨pb, off, none⟩) ps.length cap]] w (.bool false) := by
  obtain ⟨x1, x2, x3⟩ := hP.at 0 h
  simp only [Nat.zero_mul, Nat.add_zero] at x1 x2 x3
  generalize (ps.getD 0 ⟨0, 0, 0⟩).time = tm at *
  have hl := lt_of_cell x2
  clear x1 x3 hP
  unfold Pure
  go_enter Try.func11, Try.ntmps11
  go_wp2_with fail
  go_wp2
  go_ret
  refine ⟨rfl, ?_⟩
  repeat (first | exact Below.refl _ _ | (with_reducible assumption) | (with_reducible apply below_drewN) | (with_reducible apply Below.drew) | (refine Below.alloc ?_ (by first | omega | (simp; done) | (simp; omega)) _) | (refine Below.setCell ?_ (by first | omega | (simp; done) | (simp; omega)) _))

set_option maxHeartbeats 6000000 in
set_option maxRecDepth 100000 in
theorem lvalid_p {w : World} (k : Int) (ps : List Per) (pb off : Nat) (cap : Nat) (hP : PerAt w ps pb off) (h : hdr k ps = true) (f : Nat) (hf : f ≤ ps.length) (hf1 : ∀ i, i < f → okp k ps.length i (ps.getD i ⟨0, 0, 0⟩) = true)
    (hf2 : f < ps.length → okp k ps.length f (ps.getD f ⟨0, 0, 0⟩) = false) :
    Pure 11 #[.agg #[.int .i64 k, .slice (some ⟨pb, off, none⟩) ps.length cap]] w (.bool (decide (f = ps.length))) := by
  simp only [hdr, Bool.and_eq_true, decide_eq_true_eq] at h
  obtain ⟨⟨⟨⟨h1, h8⟩, h0⟩, h3⟩, ht⟩ := h
  obtain ⟨x1, x2, x3⟩ := hP.at 0 h1
  simp only [Nat.zero_mul, Nat.add_zero] at x1 x2 x3
  generalize (ps.getD 0 ⟨0, 0, 0⟩).time = tm at *
  have hl := lt_of_cell x2
  clear x1 x3
  have hPw := Lib.hid hP
  clear hP
  have hF1 := Lib.hid hf1
  have hF2 := Lib.hid hf2
  clear hf1 hf2
  generalize hn : ps.length = n at *
  unfold Pure
  go_enter Try.func11, Try.ntmps11
  go_wp2_with fail
  go_loopw [3] (fun i wr => ∃ j : Nat, i = .int .i64 j ∧ j ≤ f ∧ Below (w.heap.size + 1) (w.alloc (.cells #[.int .i64 k, .slice (some ⟨pb, off, none⟩) n cap] 25 (0, 0))) wr) (fun i _ => n - (intOf i).toNat)
  case atStart => exact ⟨0, rfl, Nat.zero_le _, Below.refl _ _⟩
  case round =>
    obtain ⟨j, rfl, hj, hB⟩ := hrel
    have hB1 : Below (w.alloc (.cells #[.int .i64 k, .slice (some ⟨pb, off, none⟩) n cap] 25 (0, 0))).heap.size (w.alloc (.cells #[.int .i64 k, .slice (some ⟨pb, off, none⟩) n cap] 25 (0, 0))) wr := by simpa using hB
    have hBk := Lib.hid hB
    have hB0 := below_of_alloc hB1
    have hX := box_of hB1
    have y0 : wr.cell? ⟨w.heap.size, 0, none⟩ = some (.int .i64 k) := cell_of hX 0 _ rfl
    have y1 : wr.cell? ⟨w.heap.size, 1, none⟩ = some (.slice (some ⟨pb, off, none⟩) n cap) := cell_of hX 1 _ rfl
    have hsz : w.heap.size < wr.heap.size := lt_of_cell y0
    have hPr := (hPw.out).below hB0
    clear hX hPw hB hB1
    by_cases hjn : j = n
    · have hfn : f = n := by omega
      subst hjn
      clear hPr
      go_wp2
      go_ret
      exact ⟨ret_bool (by simp [hfn]), hB0⟩
    · have hjl : j < n := by omega
      obtain ⟨z0, z1, z2⟩ := hPr.at j (by omega)
      have hpl := lt_of_cell z0
      by_cases hjf : j = f
      · subst hjf
        have hbad := okp_f (hF2.out (by omega))
        clear hF1 hF2 hPr
        generalize (ps.getD j ⟨0, 0, 0⟩).moves = mv at *
        generalize (ps.getD j ⟨0, 0, 0⟩).time = tv at *
        generalize (ps.getD j ⟨0, 0, 0⟩).bonus = bv at *
        rcases hbad with h | ⟨c1, c2, h⟩ | ⟨c1, c2, c3, c4, h⟩ | ⟨c1, c2, c3, c4, c5, c6, c7⟩ | ⟨c1, c2, c3, c4, c5, c6, c7, c8⟩
        · rcases h with h | h
          · go_wp2
            go_ret
            refine ⟨ret_bool (by first | (simp; done) | (simp; omega)), ?_⟩
            repeat (first | exact Below.refl _ _ | (with_reducible assumption) | (with_reducible apply below_drewN) | (with_reducible apply Below.drew) | (refine Below.alloc ?_ (by first | omega | (simp; done) | (simp; omega)) _) | (refine Below.setCell ?_ (by first | omega | (simp; done) | (simp; omega)) _))
          · have c0 : 0 ≤ mv := by omega
            go_wp2
            go_ret
            refine ⟨ret_bool (by first | (simp; done) | (simp; omega)), ?_⟩
            repeat (first | exact Below.refl _ _ | (with_reducible assumption) | (with_reducible apply below_drewN) | (with_reducible apply Below.drew) | (refine Below.alloc ?_ (by first | omega | (simp; done) | (simp; omega)) _) | (refine Below.setCell ?_ (by first | omega | (simp; done) | (simp; omega)) _))
        · rcases h with h | h
          · go_wp2
            go_ret
            refine ⟨ret_bool (by first | (simp; done) | (simp; omega)), ?_⟩
            repeat (first | exact Below.refl _ _ | (with_reducible assumption) | (with_reducible apply below_drewN) | (with_reducible apply Below.drew) | (refine Below.alloc ?_ (by first | omega | (simp; done) | (simp; omega)) _) | (refine Below.setCell ?_ (by first | omega | (simp; done) | (simp; omega)) _))
          · have c0 : 0 ≤ tv := by omega
            go_wp2
            go_ret
            refine ⟨ret_bool (by first | (simp; done) | (simp; omega)), ?_⟩
            repeat (first | exact Below.refl _ _ | (with_reducible assumption) | (with_reducible apply below_drewN) | (with_reducible apply Below.drew) | (refine Below.alloc ?_ (by first | omega | (simp; done) | (simp; omega)) _) | (refine Below.setCell ?_ (by first | omega | (simp; done) | (simp; omega)) _))
        · rcases h with h | h
          · go_wp2
            go_ret
            refine ⟨ret_bool (by first | (simp; done) | (simp; omega)), ?_⟩
            repeat (first | exact Below.refl _ _ | (with_reducible assumption) | (with_reducible apply below_drewN) | (with_reducible apply Below.drew) | (refine Below.alloc ?_ (by first | omega | (simp; done) | (simp; omega)) _) | (refine Below.setCell ?_ (by first | omega | (simp; done) | (simp; omega)) _))
          · have c0 : 0 ≤ bv := by omega
            go_wp2
            go_ret
            refine ⟨ret_bool (by first | (simp; done) | (simp; omega)), ?_⟩
            repeat (first | exact Below.refl _ _ | (with_reducible assumption) | (with_reducible apply below_drewN) | (with_reducible apply Below.drew) | (refine Below.alloc ?_ (by first | omega | (simp; done) | (simp; omega)) _) | (refine Below.setCell ?_ (by first | omega | (simp; done) | (simp; omega)) _))
        · by_cases hjn1 : j + 1 = n
          · have hm1 : (mv == 0) = false := by
              simp
              omega
            subst hjn1
            clear c7
            go_wp2
            go_ret
            refine ⟨ret_bool (by first | (simp; done) | (simp; omega)), ?_⟩
            repeat (first | exact Below.refl _ _ | (with_reducible assumption) | (with_reducible apply below_drewN) | (with_reducible apply Below.drew) | (refine Below.alloc ?_ (by first | omega | (simp; done) | (simp; omega)) _) | (refine Below.setCell ?_ (by first | omega | (simp; done) | (simp; omega)) _))
          · have hm0 : mv = 0 := by omega
            subst hm0
            have hm2 : ((j : Int) == (n : Int) - 1) = false := by
              simp
              omega
            clear c7 hjn1
            go_wp2
            go_ret
            refine ⟨ret_bool (by first | (simp; done) | (simp; omega)), ?_⟩
            repeat (first | exact Below.refl _ _ | (with_reducible assumption) | (with_reducible apply below_drewN) | (with_reducible apply Below.drew) | (refine Below.alloc ?_ (by first | omega | (simp; done) | (simp; omega)) _) | (refine Below.setCell ?_ (by first | omega | (simp; done) | (simp; omega)) _))
        · subst c8
          have hb1 : (bv != 0) = true := by
            simp
            omega
          have c50 : 0 ≤ bv := by omega
          by_cases hjn1 : j + 1 = n
          · have hm0 : mv = 0 := c7.2 hjn1
            subst hm0
            subst hjn1
            clear c7
            go_wp2
            go_ret
            refine ⟨ret_bool (by first | (simp; done) | (simp; omega)), ?_⟩
            repeat (first | exact Below.refl _ _ | (with_reducible assumption) | (with_reducible apply below_drewN) | (with_reducible apply Below.drew) | (refine Below.alloc ?_ (by first | omega | (simp; done) | (simp; omega)) _) | (refine Below.setCell ?_ (by first | omega | (simp; done) | (simp; omega)) _))
          · have hm1 : (mv == 0) = false := by
              simp
              omega
            have hm2 : ((j : Int) == (n : Int) - 1) = false := by
              simp
              omega
            clear c7 hjn1
            go_wp2
            go_ret
            refine ⟨ret_bool (by first | (simp; done) | (simp; omega)), ?_⟩
            repeat (first | exact Below.refl _ _ | (with_reducible assumption) | (with_reducible apply below_drewN) | (with_reducible apply Below.drew) | (refine Below.alloc ?_ (by first | omega | (simp; done) | (simp; omega)) _) | (refine Below.setCell ?_ (by first | omega | (simp; done) | (simp; omega)) _))
      · obtain ⟨c1, c2, c3, c4, c5, c6, c7, c8⟩ := okp_t (hF1.out j (by omega))
        clear hF1 hF2 hPr
        generalize (ps.getD j ⟨0, 0, 0⟩).moves = mv at *
        generalize (ps.getD j ⟨0, 0, 0⟩).time = tv at *
        generalize (ps.getD j ⟨0, 0, 0⟩).bonus = bv at *
        by_cases hjn1 : j + 1 = n
        · have hm0 : mv = 0 := c7.2 hjn1
          subst hm0
          subst hjn1
          clear c7 hjn
          by_cases hk : k = 0
          · have hb0 : bv = 0 := by omega
            subst hb0
            clear c8
            have hk0 : (k == 0) = true := by simpa using hk
            clear hk
            go_wp2
            go_roundw
            case rel =>
              first
                | (refine ⟨j + 1, by simp, by omega, ?_⟩)
                | ((repeat apply Exists.intro); refine And.intro ?_ rfl; refine ⟨j + 1, by simp, by omega, ?_⟩)
              have hB := hBk.out
              repeat (first | exact Below.refl _ _ | (with_reducible assumption) | (with_reducible apply below_drewN) | (with_reducible apply Below.drew) | (refine Below.alloc ?_ (by first | omega | (simp; done) | (simp; omega)) _) | (refine Below.setCell ?_ (by first | omega | (simp; done) | (simp; omega)) _))
            case measure =>
              simp [intOf] <;> omega
          · clear c8
            have hk0 : (k == 0) = false := by simpa using hk
            clear hk
            go_wp2
            go_roundw
            case rel =>
              first
                | (refine ⟨j + 1, by simp, by omega, ?_⟩)
                | ((repeat apply Exists.intro); refine And.intro ?_ rfl; refine ⟨j + 1, by simp, by omega, ?_⟩)
              have hB := hBk.out
              repeat (first | exact Below.refl _ _ | (with_reducible assumption) | (with_reducible apply below_drewN) | (with_reducible apply Below.drew) | (refine Below.alloc ?_ (by first | omega | (simp; done) | (simp; omega)) _) | (refine Below.setCell ?_ (by first | omega | (simp; done) | (simp; omega)) _))
            case measure =>
              simp [intOf] <;> omega
        · have hm0 : mv ≠ 0 := fun e => hjn1 (c7.1 e)
          have hm1 : (mv == 0) = false := by simpa using hm0
          have hm2 : ((j : Int) == (n : Int) - 1) = false := by
            simp
            omega
          clear c7 hm0
          by_cases hk : k = 0
          · have hb0 : bv = 0 := by omega
            subst hb0
            clear c8
            have hk0 : (k == 0) = true := by simpa using hk
            clear hk
            go_wp2
            go_roundw
            case rel =>
              first
                | (refine ⟨j + 1, by simp, by omega, ?_⟩)
                | ((repeat apply Exists.intro); refine And.intro ?_ rfl; refine ⟨j + 1, by simp, by omega, ?_⟩)
              have hB := hBk.out
              repeat (first | exact Below.refl _ _ | (with_reducible assumption) | (with_reducible apply below_drewN) | (with_reducible apply Below.drew) | (refine Below.alloc ?_ (by first | omega | (simp; done) | (simp; omega)) _) | (refine Below.setCell ?_ (by first | omega | (simp; done) | (simp; omega)) _))
            case measure =>
              simp [intOf] <;> omega
          · clear c8
            have hk0 : (k == 0) = false := by simpa using hk
            clear hk
            go_wp2
            go_roundw
            case rel =>
              first
                | (refine ⟨j + 1, by simp, by omega, ?_⟩)
                | ((repeat apply Exists.intro); refine And.intro ?_ rfl; refine ⟨j + 1, by simp, by omega, ?_⟩)
              have hB := hBk.out
              repeat (first | exact Below.refl _ _ | (with_reducible assumption) | (with_reducible apply below_drewN) | (with_reducible apply Below.drew) | (refine Below.alloc ?_ (by first | omega | (simp; done) | (simp; omega)) _) | (refine Below.setCell ?_ (by first | omega | (simp; done) | (simp; omega)) _))
            case measure =>
              simp [intOf] <;> omega
theorem hdr_f' {k : Int} {ps : List Per} (h : hdr k ps = false) : ps.length < 1 ∨ 8 < ps.length ∨ (1 ≤ ps.length ∧ ps.length ≤ 8 ∧ k < 0) ∨ (1 ≤ ps.length ∧ ps.length ≤ 8 ∧ 0 ≤ k ∧ 3 < k) ∨ (0 ≤ k ∧ k ≤ 3 ∧ 1 ≤ ps.length ∧ ps.length ≤ 8 ∧ (ps.getD 0 ⟨0, 0, 0⟩).time < 1) := by
  simp only [hdr, Bool.and_eq_false_iff, decide_eq_false_iff_not] at h
  omega
theorem lvalid_c {w : World} (k : Int) (ps : List Per) (pb off : Nat) (cap : Nat) (hP : PerAt w ps pb off) :
    Pure 11 #[.agg #[.int .i64 k, .slice (some ⟨pb, off, none⟩) ps.length cap]] w (.bool (vld k ps)) := by
  unfold vld
  cases h : hdr k ps
  · rw [Bool.false_and]
    rcases hdr_f' h with h1 | h1 | ⟨h1, h2, h3⟩ | ⟨h1, h2, h3, h4⟩ | ⟨h1, h2, h3, h4, h5⟩
    · exact lvalid_h0 k _ _ _ h1
    · exact lvalid_h9 k _ _ _ h1
    · exact lvalid_h1 k _ _ _ h1 h2 h3
    · exact lvalid_h2 k _ _ _ h1 h2 h3 h4
    · exact lvalid_h4 k ps pb off cap hP h1 h2 h3 h4 h5
  · rw [Bool.true_and]
    obtain ⟨f, f1, f2, f3, f4⟩ := first_no (fun i => okp k ps.length i (ps.getD i ⟨0, 0, 0⟩)) ps.length
    rw [f4]
    exact lvalid_p k ps pb off cap hP h f f1 f2 f3
theorem lvalid_nil {w : World} (k : Int) (o : Option Addr) (cap : Nat) : Pure 11 #[.agg #[.int .i64 k, .slice o 0 cap]] w (.bool (vld k [])) := by
  rw [show vld k [] = false by simp [vld, hdr]]
  exact lvalid_h0 k _ _ _ (by omega)
end Go.Proofs.Ytgigehlflgcdpaa
