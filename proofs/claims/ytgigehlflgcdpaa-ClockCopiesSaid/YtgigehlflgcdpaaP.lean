/- What the calls keep, and Press as a whole. Conditions: the numbers are within bounds. -/
import Derived.Test.YtgigehlflgcdpaaM
import Derived.Test.YtgigehlflgcdpaaD0
import Derived.Test.YtgigehlflgcdpaaD1
import Derived.Test.YtgigehlflgcdpaaD2
import Derived.Test.YtgigehlflgcdpaaD3
set_option linter.unusedVariables false
set_option linter.unusedSimpArgs false
namespace Go.Proofs.Ytgigehlflgcdpaa
-- what the calls keep; a clock of the call's own
open Go.RowKit
/-- a valid control -/
def Good (L : Ctl) : Prop := vld L.k L.ps = true
theorem Good.per {L : Ctl} (h : Good L) (i : Nat) (p : Per) (hp : L.ps[i]? = some p) : okp L.k L.ps.length i p = true := by
  unfold Good vld at h
  simp only [Bool.and_eq_true, List.all_eq_true, List.mem_range] at h
  have hi := (List.getElem?_eq_some_iff.1 hp).1
  have := h.2 i hi
  simpa [List.getD, hp] using this
theorem Good.hdr {L : Ctl} (h : Good L) : 1 ≤ L.ps.length ∧ L.ps.length ≤ 8 ∧ 0 ≤ L.k ∧ L.k ≤ 3 ∧ 1 ≤ (L.ps.getD 0 ⟨0, 0, 0⟩).time := by
  unfold Good vld at h
  simp only [Bool.and_eq_true] at h
  have h := h.1
  simp only [Ytgigehlflgcdpaa.hdr, Bool.and_eq_true, decide_eq_true_eq] at h
  omega
theorem Good.ps {L : Ctl} (h : Good L) : ∀ p, p ∈ L.ps → 0 ≤ p.moves ∧ p.moves ≤ 1000 ∧ 0 ≤ p.time ∧ p.time ≤ 1073741824 ∧ 0 ≤ p.bonus ∧ p.bonus ≤ 1073741824 := by
  intro p hp
  obtain ⟨i, hi⟩ := List.mem_iff_getElem?.1 hp
  obtain ⟨a, b, c, d, e, f, _⟩ := okp_t (h.per i p hi)
  exact ⟨a, b, c, d, e, f⟩
theorem Good.first {L : Ctl} (h : Good L) : L.ps[0]? = some (L.ps.getD 0 ⟨0, 0, 0⟩) := by
  simp [List.getD, List.getElem?_eq_getElem (show 0 < L.ps.length by have := h.hdr; omega)]
theorem inv_new {L : Ctl} (h : Good L) : Inv L (Ck.new (L.ps.getD 0 ⟨0, 0, 0⟩).time) := by
  obtain ⟨h1, h2, h3, h4, h5⟩ := h.hdr
  have h6 := h.ps _ (List.mem_of_getElem? h.first)
  generalize (L.ps.getD 0 ⟨0, 0, 0⟩).time = t at *
  refine ⟨?_, ?_, ?_, ?_, ?_, ?_, ?_, ?_, ?_, ?_, ?_, ?_, h3, h4, h.ps⟩ <;> simp only [Ck.new] <;> first | omega | (intro h; cases h)
theorem inv_start {L : Ctl} {c : Ck} (h : Inv L c) (now : Int) : Inv L (c.start L now).1 := by
  unfold Ck.start
  split
  · rename_i ht
    obtain ⟨t1, t2⟩ := Ck.intime_t ht
    split
    · exact h
    · split
      · exact h
      · obtain ⟨i1, i2, i3, i4, i5, i6, i7, i8, i9, i10, i11, i12, i13, i14, i15⟩ := h
        exact ⟨i1, i2, i3, by dsimp only; omega, by dsimp only; omega, Int.le_refl _, t2, i8, i9, i10, i11, fun _ => by dsimp only; omega, i13, i14, i15⟩
  · exact h
theorem inv_stop {L : Ctl} {c : Ck} (h : Inv L c) (now : Int) : Inv L (c.stop now).1 := by
  unfold Ck.stop
  split
  · rename_i ht
    obtain ⟨t1, t2⟩ := Ck.intime_t ht
    split
    · obtain ⟨s1, s2⟩ := spent_bd now h t1 t2
      obtain ⟨i1, i2, i3, i4, i5, i6, i7, i8, i9, i10, i11, i12, i13, i14, i15⟩ := h
      exact ⟨i1, i2, s1, s2, i5, by dsimp only; omega, t2, i8, i9, i10, i11, fun h => (by cases h), i13, i14, i15⟩
    · exact h
  · exact h
theorem inv_add {L : Ctl} {c : Ck} (h : Inv L c) (s t : Int) : Inv L (c.add s t).1 := by
  unfold Ck.add
  split
  · exact h
  · dsimp only
    split
    · exact h
    · obtain ⟨i1, i2, i3, i4, i5, i6, i7, i8, i9, i10, i11, i12, i13, i14, i15⟩ := h
      cases hs : (s == 1) <;> simp only [Ck.setHand, Ck.hand, hs] at *
      · exact ⟨i1, i2, i3, i4, i5, i6, i7, by dsimp only; omega, by dsimp only; omega, i10, i11, i12, i13, i14, i15⟩
      · exact ⟨i1, i2, i3, i4, i5, i6, i7, i8, i9, by dsimp only; omega, by dsimp only; omega, i12, i13, i14, i15⟩
theorem hmv_of {L : Ctl} {c : Ck} (hG : Good L) (hI : Inv L c) : 0 < (c.per L).moves → (c.hand c.side).period + 1 < L.ps.length := by
  intro hm
  have hat := Ck.per_at hI
  obtain ⟨_, _, _, _, _, _, h7, _⟩ := okp_t (hG.per _ _ hat)
  have hi := (List.getElem?_eq_some_iff.1 hat).1
  rcases Nat.lt_or_ge ((c.hand c.side).period + 1) L.ps.length with h | h
  · exact h
  · have := h7.2 (by omega)
    omega
theorem gain_bd {L : Ctl} {c : Ck} (hI : Inv L c) (now : Int) (t1 : c.last ≤ now) (t2 : now ≤ 1099511627776) : 0 ≤ c.gain L now := by
  obtain ⟨s1, s2⟩ := spent_bd now hI t1 t2
  obtain ⟨_, _, _, _, b1, b2⟩ := per_bd hI
  unfold Ck.gain
  split
  · omega
  · split <;> omega
theorem inv_press {L : Ctl} {c : Ck} (hG : Good L) (h : Inv L c) (now : Int) : Inv L (c.press L now).1 := by
  unfold Ck.press
  split
  · rename_i ht
    obtain ⟨t1, t2⟩ := Ck.intime_t ht
    split
    · split
      · exact h
      · rename_i hf
        split
        · exact h
        · rename_i hfull
          have hg := gain_bd h now t1 t2
          have hm := hmv_of hG h
          have hf' : ¬ (c.hand c.side).stock ≤ c.counted L now := by simpa [Ck.fallen] using hf
          have hps : (c.hand c.side).period < L.ps.length := (List.getElem?_eq_some_iff.1 (Ck.per_at h)).1
          have hpt := h.ps
          have hb : -1099511627776 ≤ (c.pressed L now).stock ∧ (c.pressed L now).period < L.ps.length := by
            unfold Ck.pressed
            dsimp only
            split
            · rename_i hh
              have hlt := hm hh.1
              have : 0 ≤ (L.ps.getD ((c.hand c.side).period + 1) ⟨0, 0, 0⟩).time := by
                have := hpt _ (List.getElem_mem hlt)
                simp only [List.getD, List.getElem?_eq_getElem hlt, Option.getD_some]
                omega
              dsimp only
              omega
            · dsimp only
              omega
          have hp2 : ∀ s : Bool, ∀ q : Ck, Inv L q → q.last = c.last → Inv L { q.setHand s (c.pressed L now) with side := !c.side, used := 0, since := now, last := now } := by
            intro s q hq _
            have l0 : 0 ≤ now := by have := h.used0; have := h.used1; omega
            obtain ⟨i1, i2, i3, i4, i5, i6, i7, i8, i9, i10, i11, i12, i13, i14, i15⟩ := hq
            cases s
            · exact ⟨hb.2, i2, Int.le_refl _, l0, l0, Int.le_refl _, t2, hb.1, by simp only [Ck.setHand]; omega, i10, i11, fun _ => l0, i13, i14, i15⟩
            · exact ⟨i1, hb.2, Int.le_refl _, l0, l0, Int.le_refl _, t2, i8, i9, hb.1, by simp only [Ck.setHand]; omega, fun _ => l0, i13, i14, i15⟩
          exact hp2 c.side c h rfl
    · exact h
  · exact h

set_option maxHeartbeats 400000 in
theorem press_c {w : World} {b : Nat} {L : Ctl} {c : Ck} (now : Int) (h : ClkAt w b L c) (hL : CtlAt w L) (hI : Inv L c) (hG : Good L) :
    Writes 17 #[.pointer (some ⟨b, 0, none⟩), .int .i64 now] w b L (c.press L now) := by
  by_cases ht : c.intime now = true
  · obtain ⟨t1, t2⟩ := Ck.intime_t ht
    by_cases hr : c.runs = true
    · by_cases hf : c.fallen L now = true
      · unfold Writes
        obtain ⟨h0, h1, h2, h3, h4, h5, h6, h7, h8, h9, h10, h11, h12, h13⟩ := h.all
        rw [show c.press L now = (c, 410) by simp [Ck.press, ht, hr, hf]]
        rw [hr] at h13
        have hc := Lib.hid (fallen_c now h hL hI t1 t2)
        rw [hf] at hc
        clear ht hr hf
        try unfold Quiet
        go_enter Try.func17, Try.ntmps17
        go_wp2_with fail
        refine (when_yes now h t1 t2).mono ?_
        rintro e w' ⟨rfl, rfl⟩
        go_wp2_with fail
        refine (hc.out).mono ?_
        rintro e w' ⟨rfl, n, rfl⟩
        go_wp2
        go_ret
        exact ⟨rfl, h, grown_drewN (grown_refl _ _) _⟩
      · have hf' : c.fallen L now = false := by simpa using hf
        have hm := hmv_of hG hI
        have hk0 := hI.k0
        have hk3 := hI.k3
        cases hs : c.side
        · rcases (by omega : L.k = 0 ∨ L.k = 1 ∨ L.k = 2 ∨ L.k = 3) with hk | hk | hk | hk
          · exact press_0a now h hL hI t1 t2 ht hr hf' hk hs hm
          · exact press_1a now h hL hI t1 t2 ht hr hf' hk hs hm
          · exact press_2a now h hL hI t1 t2 ht hr hf' hk hs hm
          · exact press_3a now h hL hI t1 t2 ht hr hf' hk hs hm
        · rcases (by omega : L.k = 0 ∨ L.k = 1 ∨ L.k = 2 ∨ L.k = 3) with hk | hk | hk | hk
          · exact press_0b now h hL hI t1 t2 ht hr hf' hk hs hm
          · exact press_1b now h hL hI t1 t2 ht hr hf' hk hs hm
          · exact press_2b now h hL hI t1 t2 ht hr hf' hk hs hm
          · exact press_3b now h hL hI t1 t2 ht hr hf' hk hs hm
    · unfold Writes
      obtain ⟨h0, h1, h2, h3, h4, h5, h6, h7, h8, h9, h10, h11, h12, h13⟩ := h.all
      have hr' : c.runs = false := by simpa using hr
      rw [show c.press L now = (c, 8) by simp [Ck.press, ht, hr']]
      rw [hr'] at h13
      clear ht hr hr'
      try unfold Quiet
      go_enter Try.func17, Try.ntmps17
      go_wp2_with fail
      refine (when_yes now h t1 t2).mono ?_
      rintro e w' ⟨rfl, rfl⟩
      go_wp2
      go_ret
      exact ⟨rfl, h, grown_refl _ _⟩
  · unfold Writes
    obtain ⟨h0, h1, h2, h3, h4, h5, h6, h7, h8, h9, h10, h11, h12, h13⟩ := h.all
    have t := Ck.intime_f ht
    rw [show c.press L now = (c, 3) by simp [Ck.press, ht]]
    clear ht
    try unfold Quiet
    go_enter Try.func17, Try.ntmps17
    go_wp2_with fail
    refine (when_no now h t).mono ?_
    rintro e w' ⟨rfl, rfl⟩
    go_wp2
    go_ret
    exact ⟨rfl, h, grown_refl _ _⟩
end Go.Proofs.Ytgigehlflgcdpaa
