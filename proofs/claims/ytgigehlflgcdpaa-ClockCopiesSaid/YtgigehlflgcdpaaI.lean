/- The reference: Add, and a new clock. Conditions: the numbers are within bounds. -/
import Derived.Test.YtgigehlflgcdpaaH
import Derived.Test.YtgigehlflgcdpaaM
import Derived.Deep.DeepCutAuto
set_option linter.unusedVariables false
set_option linter.unusedSimpArgs false
namespace Go.Proofs.Ytgigehlflgcdpaa
open Go.RowKit

set_option maxHeartbeats 400000 in
theorem add_r2 {w : World} {L : Ctl} {c : Ck} (r : Rf) (s t : Int) (hbad : s < 0 ∨ 1 < s ∨ t < -1073741824 ∨ 1073741824 < t) :
    Pure 45 #[.agg (c.rcells L r), .int .i64 s, .int .i64 t] w (RV L r (c, 2)) := by
  obtain ⟨⟨sa, ma, pa, da⟩, ⟨sb, mb, pb, db⟩, side, used, since, last, runs⟩ := c
  dsimp only [Ck.rcells] at *
  by_cases k1 : s < 0
  · clear hbad
    unfold Pure
    go_enter Try.func45, Try.ntmps45
    go_wp2_with fail
    all_goals
      refine bodyPost_ret (v := RV L r (⟨⟨sa, ma, pa, da⟩, ⟨sb, mb, pb, db⟩, side, used, since, last, runs⟩, 2)) (by simp [results, Try.results45, go_sem, RV, Ck.rcells]) rfl ⟨rfl, ?_⟩
      repeat (first | exact Below.refl _ _ | (with_reducible assumption) | (with_reducible apply below_drewN) | (with_reducible apply Below.drew) | (refine Below.alloc ?_ (by simp) _) | (refine Below.setCell ?_ (by simp) _))
  by_cases k2 : 1 < s
  · clear hbad
    unfold Pure
    go_enter Try.func45, Try.ntmps45
    go_wp2_with fail
    all_goals
      refine bodyPost_ret (v := RV L r (⟨⟨sa, ma, pa, da⟩, ⟨sb, mb, pb, db⟩, side, used, since, last, runs⟩, 2)) (by simp [results, Try.results45, go_sem, RV, Ck.rcells]) rfl ⟨rfl, ?_⟩
      repeat (first | exact Below.refl _ _ | (with_reducible assumption) | (with_reducible apply below_drewN) | (with_reducible apply Below.drew) | (refine Below.alloc ?_ (by simp) _) | (refine Below.setCell ?_ (by simp) _))
  by_cases k3 : t < -1073741824
  · clear hbad
    unfold Pure
    go_enter Try.func45, Try.ntmps45
    go_wp2_with fail
    all_goals
      refine bodyPost_ret (v := RV L r (⟨⟨sa, ma, pa, da⟩, ⟨sb, mb, pb, db⟩, side, used, since, last, runs⟩, 2)) (by simp [results, Try.results45, go_sem, RV, Ck.rcells]) rfl ⟨rfl, ?_⟩
      repeat (first | exact Below.refl _ _ | (with_reducible assumption) | (with_reducible apply below_drewN) | (with_reducible apply Below.drew) | (refine Below.alloc ?_ (by simp) _) | (refine Below.setCell ?_ (by simp) _))
  · have k4 : 1073741824 < t := by omega
    clear hbad
    unfold Pure
    go_enter Try.func45, Try.ntmps45
    go_wp2_with fail
    all_goals
      refine bodyPost_ret (v := RV L r (⟨⟨sa, ma, pa, da⟩, ⟨sb, mb, pb, db⟩, side, used, since, last, runs⟩, 2)) (by simp [results, Try.results45, go_sem, RV, Ck.rcells]) rfl ⟨rfl, ?_⟩
      repeat (first | exact Below.refl _ _ | (with_reducible assumption) | (with_reducible apply below_drewN) | (with_reducible apply Below.drew) | (refine Below.alloc ?_ (by simp) _) | (refine Below.setCell ?_ (by simp) _))
set_option maxHeartbeats 400000 in
theorem add_a0 {w : World} {L : Ctl} {sa ma da sb mb db used since last : Int} {pa pb : Nat} {side runs : Bool} (r : Rf) (t : Int) (ht1 : -1073741824 ≤ t) (ht2 : t ≤ 1073741824) (a1 : -1099511627776 ≤ sa) (a2 : sa ≤ 1099511627776) (n1 : -1099511627776 ≤ sa + t) (n2 : sa + t ≤ 1099511627776) :
    Pure 45 #[.agg (Ck.rcells ⟨⟨sa, ma, pa, da⟩, ⟨sb, mb, pb, db⟩, side, used, since, last, runs⟩ L r), .int .i64 0, .int .i64 t] w (RV L r ((⟨⟨sa + t, ma, pa, da⟩, ⟨sb, mb, pb, db⟩, side, used, since, last, runs⟩ : Ck), 0)) := by
  dsimp only [Ck.rcells] at *
  go_enter Try.func45, Try.ntmps45
  go_wp2
  all_goals
    refine bodyPost_ret (v := RV L r ((⟨⟨sa + t, ma, pa, da⟩, ⟨sb, mb, pb, db⟩, side, used, since, last, runs⟩ : Ck), 0)) (by simp [results, Try.results45, go_sem, RV, Ck.rcells]) rfl ⟨rfl, ?_⟩
    repeat (first | exact Below.refl _ _ | (with_reducible assumption) | (with_reducible apply below_drewN) | (with_reducible apply Below.drew) | (refine Below.alloc ?_ (by simp) _) | (refine Below.setCell ?_ (by simp) _))
set_option maxHeartbeats 400000 in
theorem add_b0 {w : World} {L : Ctl} {sa ma da sb mb db used since last : Int} {pa pb : Nat} {side runs : Bool} (r : Rf) (t : Int) (ht1 : -1073741824 ≤ t) (ht2 : t ≤ 1073741824) (a1 : -1099511627776 ≤ sb) (a2 : sb ≤ 1099511627776) (n1 : -1099511627776 ≤ sb + t) (n2 : sb + t ≤ 1099511627776) :
    Pure 45 #[.agg (Ck.rcells ⟨⟨sa, ma, pa, da⟩, ⟨sb, mb, pb, db⟩, side, used, since, last, runs⟩ L r), .int .i64 1, .int .i64 t] w (RV L r ((⟨⟨sa, ma, pa, da⟩, ⟨sb + t, mb, pb, db⟩, side, used, since, last, runs⟩ : Ck), 0)) := by
  dsimp only [Ck.rcells] at *
  go_enter Try.func45, Try.ntmps45
  go_wp2
  all_goals
    refine bodyPost_ret (v := RV L r ((⟨⟨sa, ma, pa, da⟩, ⟨sb + t, mb, pb, db⟩, side, used, since, last, runs⟩ : Ck), 0)) (by simp [results, Try.results45, go_sem, RV, Ck.rcells]) rfl ⟨rfl, ?_⟩
    repeat (first | exact Below.refl _ _ | (with_reducible assumption) | (with_reducible apply below_drewN) | (with_reducible apply Below.drew) | (refine Below.alloc ?_ (by simp) _) | (refine Below.setCell ?_ (by simp) _))
set_option maxHeartbeats 400000 in
theorem add_a7 {w : World} {L : Ctl} {sa ma da sb mb db used since last : Int} {pa pb : Nat} {side runs : Bool} (r : Rf) (t : Int) (ht1 : -1073741824 ≤ t) (ht2 : t ≤ 1073741824) (a1 : -1099511627776 ≤ sa) (a2 : sa ≤ 1099511627776) (n1 : sa + t < -1099511627776) :
    Pure 45 #[.agg (Ck.rcells ⟨⟨sa, ma, pa, da⟩, ⟨sb, mb, pb, db⟩, side, used, since, last, runs⟩ L r), .int .i64 0, .int .i64 t] w (RV L r ((⟨⟨sa, ma, pa, da⟩, ⟨sb, mb, pb, db⟩, side, used, since, last, runs⟩ : Ck), 7)) := by
  dsimp only [Ck.rcells] at *
  go_enter Try.func45, Try.ntmps45
  go_wp2
  all_goals
    refine bodyPost_ret (v := RV L r ((⟨⟨sa, ma, pa, da⟩, ⟨sb, mb, pb, db⟩, side, used, since, last, runs⟩ : Ck), 7)) (by simp [results, Try.results45, go_sem, RV, Ck.rcells]) rfl ⟨rfl, ?_⟩
    repeat (first | exact Below.refl _ _ | (with_reducible assumption) | (with_reducible apply below_drewN) | (with_reducible apply Below.drew) | (refine Below.alloc ?_ (by simp) _) | (refine Below.setCell ?_ (by simp) _))
set_option maxHeartbeats 400000 in
theorem add_b7 {w : World} {L : Ctl} {sa ma da sb mb db used since last : Int} {pa pb : Nat} {side runs : Bool} (r : Rf) (t : Int) (ht1 : -1073741824 ≤ t) (ht2 : t ≤ 1073741824) (a1 : -1099511627776 ≤ sb) (a2 : sb ≤ 1099511627776) (n1 : sb + t < -1099511627776) :
    Pure 45 #[.agg (Ck.rcells ⟨⟨sa, ma, pa, da⟩, ⟨sb, mb, pb, db⟩, side, used, since, last, runs⟩ L r), .int .i64 1, .int .i64 t] w (RV L r ((⟨⟨sa, ma, pa, da⟩, ⟨sb, mb, pb, db⟩, side, used, since, last, runs⟩ : Ck), 7)) := by
  dsimp only [Ck.rcells] at *
  go_enter Try.func45, Try.ntmps45
  go_wp2
  all_goals
    refine bodyPost_ret (v := RV L r ((⟨⟨sa, ma, pa, da⟩, ⟨sb, mb, pb, db⟩, side, used, since, last, runs⟩ : Ck), 7)) (by simp [results, Try.results45, go_sem, RV, Ck.rcells]) rfl ⟨rfl, ?_⟩
    repeat (first | exact Below.refl _ _ | (with_reducible assumption) | (with_reducible apply below_drewN) | (with_reducible apply Below.drew) | (refine Below.alloc ?_ (by simp) _) | (refine Below.setCell ?_ (by simp) _))
set_option maxHeartbeats 400000 in
theorem add_a8 {w : World} {L : Ctl} {sa ma da sb mb db used since last : Int} {pa pb : Nat} {side runs : Bool} (r : Rf) (t : Int) (ht1 : -1073741824 ≤ t) (ht2 : t ≤ 1073741824) (a1 : -1099511627776 ≤ sa) (a2 : sa ≤ 1099511627776) (n1 : 1099511627776 < sa + t) :
    Pure 45 #[.agg (Ck.rcells ⟨⟨sa, ma, pa, da⟩, ⟨sb, mb, pb, db⟩, side, used, since, last, runs⟩ L r), .int .i64 0, .int .i64 t] w (RV L r ((⟨⟨sa, ma, pa, da⟩, ⟨sb, mb, pb, db⟩, side, used, since, last, runs⟩ : Ck), 7)) := by
  dsimp only [Ck.rcells] at *
  go_enter Try.func45, Try.ntmps45
  go_wp2
  all_goals
    refine bodyPost_ret (v := RV L r ((⟨⟨sa, ma, pa, da⟩, ⟨sb, mb, pb, db⟩, side, used, since, last, runs⟩ : Ck), 7)) (by simp [results, Try.results45, go_sem, RV, Ck.rcells]) rfl ⟨rfl, ?_⟩
    repeat (first | exact Below.refl _ _ | (with_reducible assumption) | (with_reducible apply below_drewN) | (with_reducible apply Below.drew) | (refine Below.alloc ?_ (by simp) _) | (refine Below.setCell ?_ (by simp) _))
set_option maxHeartbeats 400000 in
theorem add_b8 {w : World} {L : Ctl} {sa ma da sb mb db used since last : Int} {pa pb : Nat} {side runs : Bool} (r : Rf) (t : Int) (ht1 : -1073741824 ≤ t) (ht2 : t ≤ 1073741824) (a1 : -1099511627776 ≤ sb) (a2 : sb ≤ 1099511627776) (n1 : 1099511627776 < sb + t) :
    Pure 45 #[.agg (Ck.rcells ⟨⟨sa, ma, pa, da⟩, ⟨sb, mb, pb, db⟩, side, used, since, last, runs⟩ L r), .int .i64 1, .int .i64 t] w (RV L r ((⟨⟨sa, ma, pa, da⟩, ⟨sb, mb, pb, db⟩, side, used, since, last, runs⟩ : Ck), 7)) := by
  dsimp only [Ck.rcells] at *
  go_enter Try.func45, Try.ntmps45
  go_wp2
  all_goals
    refine bodyPost_ret (v := RV L r ((⟨⟨sa, ma, pa, da⟩, ⟨sb, mb, pb, db⟩, side, used, since, last, runs⟩ : Ck), 7)) (by simp [results, Try.results45, go_sem, RV, Ck.rcells]) rfl ⟨rfl, ?_⟩
    repeat (first | exact Below.refl _ _ | (with_reducible assumption) | (with_reducible apply below_drewN) | (with_reducible apply Below.drew) | (refine Below.alloc ?_ (by simp) _) | (refine Below.setCell ?_ (by simp) _))
theorem add_r {w : World} {L : Ctl} {c : Ck} (r : Rf) (s t : Int) (hI : Inv L c) :
    Pure 45 #[.agg (c.rcells L r), .int .i64 s, .int .i64 t] w (RV L r (c.add s t)) := by
  obtain ⟨_, _, _, _, _, _, _, a1, a2, a3, a4, _, _, _, _⟩ := hI
  by_cases hbad : s < 0 ∨ 1 < s ∨ t < -1073741824 ∨ 1073741824 < t
  · rw [show c.add s t = (c, 2) by simp only [Ck.add]; rw [if_pos hbad]]
    exact add_r2 r s t hbad
  · have hss : s = 0 ∨ s = 1 := by omega
    have ht1 : -1073741824 ≤ t := by omega
    have ht2 : t ≤ 1073741824 := by omega
    obtain ⟨⟨sa, ma, pa, da⟩, ⟨sb, mb, pb, db⟩, side, used, since, last, runs⟩ := c
    rcases hss with rfl | rfl
    · by_cases n1 : sa + t < -1099511627776
      · rw [show Ck.add _ 0 t = ((⟨⟨sa, ma, pa, da⟩, ⟨sb, mb, pb, db⟩, side, used, since, last, runs⟩ : Ck), 7) by simp only [Ck.add]; rw [if_neg hbad]; exact if_pos (.inl n1)]
        exact add_a7 r t ht1 ht2 a1 a2 n1
      by_cases n2 : 1099511627776 < sa + t
      · rw [show Ck.add _ 0 t = ((⟨⟨sa, ma, pa, da⟩, ⟨sb, mb, pb, db⟩, side, used, since, last, runs⟩ : Ck), 7) by simp only [Ck.add]; rw [if_neg hbad]; exact if_pos (.inr n2)]
        exact add_a8 r t ht1 ht2 a1 a2 n2
      · rw [show Ck.add _ 0 t = ((⟨⟨sa + t, ma, pa, da⟩, ⟨sb, mb, pb, db⟩, side, used, since, last, runs⟩ : Ck), 0) by simp only [Ck.add]; rw [if_neg hbad]; exact if_neg (by intro h; exact h.elim n1 n2)]
        exact add_a0 r t ht1 ht2 a1 a2 (by omega) (by omega)
    · by_cases n1 : sb + t < -1099511627776
      · rw [show Ck.add _ 1 t = ((⟨⟨sa, ma, pa, da⟩, ⟨sb, mb, pb, db⟩, side, used, since, last, runs⟩ : Ck), 7) by simp only [Ck.add]; rw [if_neg hbad]; exact if_pos (.inl n1)]
        exact add_b7 r t ht1 ht2 a3 a4 n1
      by_cases n2 : 1099511627776 < sb + t
      · rw [show Ck.add _ 1 t = ((⟨⟨sa, ma, pa, da⟩, ⟨sb, mb, pb, db⟩, side, used, since, last, runs⟩ : Ck), 7) by simp only [Ck.add]; rw [if_neg hbad]; exact if_pos (.inr n2)]
        exact add_b8 r t ht1 ht2 a3 a4 n2
      · rw [show Ck.add _ 1 t = ((⟨⟨sa, ma, pa, da⟩, ⟨sb + t, mb, pb, db⟩, side, used, since, last, runs⟩ : Ck), 0) by simp only [Ck.add]; rw [if_neg hbad]; exact if_neg (by intro h; exact h.elim n1 n2)]
        exact add_b0 r t ht1 ht2 a3 a4 (by omega) (by omega)

set_option maxHeartbeats 400000 in
theorem made_r {w : World} {L : Ctl} (r : Rf) {p : Per} (hP : PerAt w L.ps r.pb r.off) (hp : L.ps[0]? = some p) (hlen : L.ps.length ≤ 8) :
    Pure 13 #[.agg #[.int .i64 L.k, .slice (some ⟨r.pb, r.off, none⟩) L.ps.length r.cap]] w (.agg ((Ck.new p.time).rcells L r)) := by
  obtain ⟨v1, v2, v3⟩ := hP.per _ _ hp
  simp only [Nat.zero_mul, Nat.add_zero] at v2
  have hb := lt_of_cell v2
  have hb2 : r.pb < w.heap.size + 1 := by omega
  have hn : 0 < L.ps.length := by
    rcases Nat.eq_zero_or_pos L.ps.length with h | h
    · simp [List.eq_nil_of_length_eq_zero h] at hp
    · exact h
  dsimp only [Ck.rcells, Ck.new, sideI]
  unfold Pure
  go_enter Try.func13, Try.ntmps13
  go_wp2_with fail
  go_region
  go_wp2
  all_goals
    refine bodyPost_ret (v := .agg ((Ck.new p.time).rcells L r)) (by simp [results, Try.results13, go_sem, Ck.rcells, Ck.new, sideI]) rfl ⟨rfl, ?_⟩
    repeat (first | exact Below.refl _ _ | (with_reducible assumption) | (with_reducible apply below_drewN) | (with_reducible apply Below.drew) | (refine Below.alloc ?_ (by simp) _) | (refine Below.setCell ?_ (by simp) _))
end Go.Proofs.Ytgigehlflgcdpaa
