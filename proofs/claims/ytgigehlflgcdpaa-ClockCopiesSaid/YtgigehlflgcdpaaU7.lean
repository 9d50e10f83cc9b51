/- One call on a clock and on the reference, whatever the call: the contract of step. Conditions: the numbers are within bounds. -/
import Derived.Test.YtgigehlflgcdpaaU3
import Derived.Test.YtgigehlflgcdpaaU4
import Derived.Test.YtgigehlflgcdpaaU6
set_option linter.unusedVariables false
set_option linter.unusedSimpArgs false
namespace Go.Proofs.Ytgigehlflgcdpaa
open Go.RowKit
/-- what step leaves: a clock, old or new, that is as the reference -/
def Stepped (L : Ctl) (r : Rf) (b : Nat) (w : World) (e : Ending) (w' : World) : Prop := ∃ b' c', e = .returned (SV L r b' c') ∧ ClkAt w' b' L c' ∧ Inv L c' ∧ (b' = b ∨ w.heap.size ≤ b') ∧ w.grownBy w' (some b)
theorem step_c {w : World} {b : Nat} {L : Ctl} {c : Ck} (r : Rf) (what now side time : Int) (h : ClkAt w b L c) (hL : CtlAt w L) (hP : PerAt w L.ps r.pb r.off) (hI : Inv L c) (hG : Good L) (hbc : b ≠ L.cb) (hbp : b ≠ L.pb) :
    Calls Try.prog 22 #[.pointer (some ⟨b, 0, none⟩), .agg (c.rcells L r), .agg #[.int .i64 what, .int .i64 now, .int .i64 side, .int .i64 time]] w (Stepped L r b w) := by
  by_cases k0 : what = 0
  · subst k0
    exact (step_0 r now side time h hL hP hI hG hbc hbp).mono fun e w' ⟨he, hc, hg⟩ => ⟨b, _, he, hc, inv_start hI now, .inl rfl, hg⟩
  by_cases k1 : what = 1
  · subst k1
    exact (step_1 r now side time h hL hP hI hG hbc hbp).mono fun e w' ⟨he, hc, hg⟩ => ⟨b, _, he, hc, inv_stop hI now, .inl rfl, hg⟩
  by_cases k2 : what = 2
  · subst k2
    exact (step_2 r now side time h hL hP hI hG hbc hbp).mono fun e w' ⟨he, hc, hg⟩ => ⟨b, _, he, hc, inv_press hG hI now, .inl rfl, hg⟩
  by_cases k3 : what = 3
  · subst k3
    exact (step_3 r now side time h hL hP hI hG hbc hbp).mono fun e w' ⟨he, hc, hg⟩ => ⟨b, _, he, hc, inv_add hI side time, .inl rfl, hg⟩
  by_cases k4 : what = 4
  · subst k4
    have fin : ∀ e w', (e = .returned (SV L r b c) ∧ ClkAt w' b L c ∧ w.grownBy w' none) → Stepped L r b w e w' := fun e w' ⟨he, hc, hg⟩ => ⟨b, _, he, hc, hI, .inl rfl, grown_row hg⟩
    by_cases hs : side < 0 ∨ 1 < side
    · exact (step_4n r now side time h hL hs).mono fin
    · cases ht : c.intime now
      · have t := Ck.intime_f (c := c) (now := now) (by simp [ht])
        rcases (by omega : side = 0 ∨ side = 1) with rfl | rfl
        · by_cases t1 : now < c.last
          · exact (step_4a1 r now time h hL hP hI ht t1).mono fin
          · exact (step_4a2 r now time h hL hP hI ht (by omega) (by omega)).mono fin
        · by_cases t1 : now < c.last
          · exact (step_4b1 r now time h hL hP hI ht t1).mono fin
          · exact (step_4b2 r now time h hL hP hI ht (by omega) (by omega)).mono fin
      · obtain ⟨t1, t2⟩ := Ck.intime_t ht
        rcases (by omega : side = 0 ∨ side = 1) with rfl | rfl
        · exact (step_4at r now time h hL hP hI ht t1 t2).mono fin
        · exact (step_4bt r now time h hL hP hI ht t1 t2).mono fin
  · exact (step_5 r what now side time h hL hI hbc hbp (by simpa using k0) (by simpa using k1) (by simpa using k2) (by simpa using k3) (by simpa using k4)).mono fun e w' ⟨b', he, hc, hb, hg⟩ => ⟨b', c, he, hc, hI, .inr hb, hg⟩
end Go.Proofs.Ytgigehlflgcdpaa
