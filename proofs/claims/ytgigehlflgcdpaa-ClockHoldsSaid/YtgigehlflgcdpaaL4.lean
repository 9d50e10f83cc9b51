/- The plain law on two clocks of which one is stopped and started on the way. Conditions: a valid control, times within bounds. -/
import Derived.Test.YtgigehlflgcdpaaP
set_option linter.unusedVariables false
set_option linter.unusedSimpArgs false
namespace Go.Proofs.Ytgigehlflgcdpaa
/-- a clock that has just been started or pressed -/
structure Rdy (L : Ctl) (c : Ck) (now : Int) (i : Nat) : Prop where
  inv : Inv L c
  runs : c.runs = true
  used : c.used = 0
  since : c.since = now
  last : c.last = now
  a0 : 0 ≤ c.a.stock
  b0 : 0 ≤ c.b.stock
  a1 : c.a.stock ≤ (1 + 2 * (i : Int)) * 1073741824
  b1 : c.b.stock ≤ (1 + 2 * (i : Int)) * 1073741824
  plain : L.k = 0 → L.ps.length = 1 → c.a.stock + c.b.stock + now = 2 * (L.ps.getD 0 ⟨0, 0, 0⟩).time

theorem press_eq {L : Ctl} {c : Ck} {now : Int} (ht : c.intime now = true) (hr : c.runs = true) (hf : c.fallen L now = false) (hs : (c.pressed L now).stock ≤ 1099511627776) :
    c.press L now = ({ c.setHand c.side (c.pressed L now) with side := !c.side, used := 0, since := now, last := now }, 0) := by
  unfold Ck.press
  rw [if_pos ht, if_pos hr, if_neg (by simp [hf]), if_neg (by omega)]
theorem press_fl {L : Ctl} {c : Ck} {now : Int} (ht : c.intime now = true) (hr : c.runs = true) (hf : c.fallen L now = true) : c.press L now = (c, 410) := by
  unfold Ck.press
  rw [if_pos ht, if_pos hr, if_pos hf]
/-- how much a move adds at most -/
theorem pressed_bd {L : Ctl} {c : Ck} {now : Int} (hG : Good L) (hI : Inv L c) (t1 : c.last ≤ now) (t2 : now ≤ 1099511627776) (hf : c.fallen L now = false) :
    0 ≤ (c.pressed L now).stock ∧ (c.pressed L now).stock ≤ (c.hand c.side).stock + 2147483648 := by
  obtain ⟨s1, s2⟩ := spent_bd now hI t1 t2
  obtain ⟨_, _, _, _, b1, b2⟩ := per_bd hI
  obtain ⟨c1, c2⟩ := counted_bd now hI t1 t2
  have hm := hmv_of hG hI
  have hpt := hI.ps
  have hf' : ¬ (c.hand c.side).stock ≤ c.counted L now := by simpa [Ck.fallen] using hf
  have hg : 0 ≤ c.gain L now ∧ c.gain L now ≤ 1073741824 := by
    unfold Ck.gain
    split
    · omega
    · split <;> omega
  unfold Ck.pressed
  dsimp only
  split
  · rename_i hh
    have hlt := hm hh.1
    have : 0 ≤ (L.ps.getD ((c.hand c.side).period + 1) ⟨0, 0, 0⟩).time ∧ (L.ps.getD ((c.hand c.side).period + 1) ⟨0, 0, 0⟩).time ≤ 1073741824 := by
      have := hpt _ (List.getElem_mem hlt)
      simp only [List.getD, List.getElem?_eq_getElem hlt, Option.getD_some]
      omega
    dsimp only
    omega
  · dsimp only
    omega
theorem pressed_plain {L : Ctl} {c : Ck} {now : Int} (hG : Good L) (hI : Inv L c) (hk : L.k = 0) (hl : L.ps.length = 1) : (c.pressed L now).stock = (c.hand c.side).stock - c.spent now := by
  have hat := Ck.per_at hI
  have hi := (List.getElem?_eq_some_iff.1 hat).1
  obtain ⟨_, _, _, _, _, _, h7, _⟩ := okp_t (hG.per _ _ hat)
  have hm : (c.per L).moves = 0 := h7.2 (by omega)
  unfold Ck.pressed
  dsimp only
  rw [if_neg (by omega)]
  simp only [Ck.gain, Ck.counted, hk]
  simp
  omega
/-- the two presses agree -/
theorem press_two {L : Ctl} {c d : Ck} {now : Int} (hd : d = { c with used := d.used, since := d.since, last := d.last, runs := d.runs }) (hs : c.spent now = d.spent now)
    (htc : c.intime now = true) (htd : d.intime now = true) (hrc : c.runs = true) (hrd : d.runs = true) : (d.press L now).2 = (c.press L now).2 ∧ ((c.press L now).2 = 0 → (d.press L now).1 = (c.press L now).1) := by
  obtain ⟨a, b, side, used, since, last, runs⟩ := c
  obtain ⟨a', b', side', used', since', last', runs'⟩ := d
  simp only [Ck.mk.injEq] at hd
  obtain ⟨rfl, rfl, rfl, _⟩ := hd
  dsimp only at hrc hrd
  subst hrc
  subst hrd
  have hp : ∀ (u s l : Int), Ck.per L (⟨a', b', side', u, s, l, true⟩ : Ck) = L.ps.getD ((⟨a', b', side', u, s, l, true⟩ : Ck).hand side').period ⟨0, 0, 0⟩ := fun _ _ _ => rfl
  have hh : ∀ (u s l : Int), (⟨a', b', side', u, s, l, true⟩ : Ck).hand side' = (⟨a', b', side', used, since, last, true⟩ : Ck).hand side' := by
    intro u s l
    cases side' <;> rfl
  have hpp : Ck.per L (⟨a', b', side', used', since', last', true⟩ : Ck) = Ck.per L (⟨a', b', side', used, since, last, true⟩ : Ck) := by rw [hp, hp, hh]
  have hc : Ck.counted L (⟨a', b', side', used', since', last', true⟩ : Ck) now = Ck.counted L (⟨a', b', side', used, since, last, true⟩ : Ck) now := by
    simp only [Ck.counted, hs, hpp]
  have hg : Ck.gain L (⟨a', b', side', used', since', last', true⟩ : Ck) now = Ck.gain L (⟨a', b', side', used, since, last, true⟩ : Ck) now := by
    simp only [Ck.gain, hs, hpp]
  have hf : Ck.fallen L (⟨a', b', side', used', since', last', true⟩ : Ck) now = Ck.fallen L (⟨a', b', side', used, since, last, true⟩ : Ck) now := by
    simp only [Ck.fallen, hc, hh used' since' last']
  have hq : Ck.pressed L (⟨a', b', side', used', since', last', true⟩ : Ck) now = Ck.pressed L (⟨a', b', side', used, since, last, true⟩ : Ck) now := by
    simp only [Ck.pressed, hc, hg, hpp, hh used' since' last']
  simp only [Ck.press, htc, htd, hf, hq, if_true]
  by_cases h1 : Ck.fallen L (⟨a', b', side', used, since, last, true⟩ : Ck) now = true
  · simp [h1]
  · by_cases h2 : 1099511627776 < (Ck.pressed L (⟨a', b', side', used, since, last, true⟩ : Ck) now).stock
    · simp [h1, h2]
    · simp only [h1, h2, if_false]
      cases side' <;> simp [Ck.setHand]
theorem intime_of {c : Ck} {now : Int} (h1 : c.last ≤ now) (h2 : now ≤ 1099511627776) : c.intime now = true := by simp [Ck.intime, h1, h2]

/-- one wait of the law -/
structure Wait (L : Ctl) (c : Ck) (now half now' : Int) (i : Nat) : Prop where
  stop : (c.stop half).2 = 0
  inv : Inv L (c.stop half).1
  start : ((c.stop half).1.start L half).2 = 410 ∧ (((c.stop half).1.start L half).1.press L now').2 = 8 ∧ (c.press L now').2 = 410 ∧ (c.press L now').1.flag L now' = .tuple #[.bool true, .int .i64 0] ∨
    ((c.stop half).1.start L half).2 = 0 ∧ (((c.stop half).1.start L half).1.press L now').2 = (c.press L now').2 ∧
      ((c.press L now').2 = 410 ∧ (c.press L now').1.flag L now' = .tuple #[.bool true, .int .i64 0] ∨
       (c.press L now').2 = 0 ∧ (((c.stop half).1.start L half).1.press L now').1 = (c.press L now').1 ∧ Rdy L (c.press L now').1 now' (i + 1))
theorem flag_of {L : Ctl} {c : Ck} {now : Int} (ht : c.intime now = true) (hf : c.fallen L now = true) : c.flag L now = .tuple #[.bool true, .int .i64 0] := by
  unfold Ck.flag
  rw [if_pos ht, hf]
theorem rdy_press {L : Ctl} {c : Ck} {now now' : Int} {i : Nat} (hG : Good L) (hR : Rdy L c now i) (hi : i ≤ 20) (h1 : now ≤ now') (h2 : now' ≤ 1099511627776) (hf : c.fallen L now' = false) :
    (c.press L now').2 = 0 ∧ Rdy L (c.press L now').1 now' (i + 1) := by
  have hl := hR.last
  have ht := intime_of (c := c) (now := now') (by omega) h2
  obtain ⟨p0, p1⟩ := pressed_bd hG hR.inv (by omega) h2 hf
  have hinv := inv_press hG hR.inv now'
  have a0 := hR.a0
  have b0 := hR.b0
  have a1 := hR.a1
  have b1 := hR.b1
  have hfull : (c.pressed L now').stock ≤ 1099511627776 := by
    cases hs : c.side <;> simp only [hs, Ck.hand] at p1 <;> omega
  have hE := press_eq ht hR.runs hf hfull
  have hpl : L.k = 0 → L.ps.length = 1 → (c.pressed L now').stock = (c.hand c.side).stock - (now' - now) := by
    intro hk hll
    rw [pressed_plain hG hR.inv hk hll]
    simp only [Ck.spent, hR.runs, hR.used, hR.since, if_true]
    omega
  rw [hE] at hinv ⊢
  refine ⟨rfl, ?_⟩
  have hp := hR.plain
  have hr := hR.runs
  cases hs : c.side <;> simp only [hs, Ck.hand, Ck.setHand] at * <;> refine ⟨hinv, hr, rfl, rfl, rfl, ?_, ?_, ?_, ?_, ?_⟩ <;> (try dsimp only)
  all_goals first
    | omega
    | (push_cast; omega)
    | (intro hk hll; have := hp hk hll; have := hpl hk hll; omega)
theorem wait_law {L : Ctl} {c : Ck} {now half now' : Int} {i : Nat} (hG : Good L) (hR : Rdy L c now i) (hi : i ≤ 20) (h0 : now ≤ half) (h1 : half ≤ now') (h2 : now' ≤ 1099511627776) : Wait L c now half now' i := by
  have hl := hR.last
  have hth := intime_of (c := c) (now := half) (by omega) (by omega)
  have htn := intime_of (c := c) (now := now') (by omega) h2
  have hS : c.stop half = ({ c with used := half - now, runs := false, last := half }, 0) := by
    unfold Ck.stop
    rw [if_pos hth, if_pos hR.runs]
    have : c.spent half = half - now := by simp only [Ck.spent, hR.runs, hR.used, hR.since, if_true]; omega
    rw [this]
  have hinv := inv_stop hR.inv half
  rw [hS] at hinv
  refine ⟨by rw [hS], by rw [hS]; exact hinv, ?_⟩
  rw [hS]
  dsimp only
  generalize hd : ({ c with used := half - now, runs := false, last := half } : Ck) = d at *
  have htd : d.intime half = true := by subst hd; exact intime_of (Int.le_refl _) (by omega)
  have hrd : d.runs = false := by subst hd; rfl
  by_cases hfd : d.fallen L half = true
  · left
    have hE : d.start L half = (d, 410) := by
      unfold Ck.start
      rw [if_pos htd, if_neg (by simp [hrd]), if_pos hfd]
    have hfx : c.fallen L now' = true := by
      have hper : c.per L = d.per L := by subst hd; cases hs : c.side <;> simp [Ck.per, hs, Ck.hand]
      have hhand : c.hand c.side = d.hand d.side := by subst hd; cases hs : c.side <;> simp [hs, Ck.hand]
      have hsp : d.spent half ≤ c.spent now' := by
        subst hd
        simp only [Ck.spent, hR.runs, hR.used, hR.since, if_true]
        simp
        omega
      have hfd' : (d.hand d.side).stock ≤ d.counted L half := by simpa [Ck.fallen] using hfd
      have hle : d.counted L half ≤ c.counted L now' := by
        unfold Ck.counted
        rw [hper]
        by_cases hk : L.k = 2
        · rw [if_pos hk, if_pos hk]; omega
        · rw [if_neg hk, if_neg hk]; omega
      simp only [Ck.fallen, decide_eq_true_eq, hhand]
      omega
    have hX := press_fl htn hR.runs hfx
    rw [hE, hX]
    refine ⟨rfl, ?_, rfl, flag_of htn hfx⟩
    unfold Ck.press
    rw [if_pos (by subst hd; exact intime_of h1 h2), if_neg (by simp [hrd])]
  · right
    have hE : d.start L half = ({ d with runs := true, since := half, last := half }, 0) := by
      unfold Ck.start
      rw [if_pos htd, if_neg (by simp [hrd]), if_neg hfd]
    rw [hE]
    refine ⟨rfl, ?_⟩
    dsimp only
    obtain ⟨e1, e2⟩ := press_two (L := L) (c := c) (d := { d with runs := true, since := half, last := half }) (now := now') (by subst hd; rfl)
      (by subst hd; simp only [Ck.spent, hR.runs, hR.used, hR.since, if_true]; omega) htn (intime_of h1 h2) hR.runs rfl
    refine ⟨e1, ?_⟩
    cases hf : c.fallen L now'
    · obtain ⟨r1, r2⟩ := rdy_press hG hR hi (by omega) h2 hf
      exact .inr ⟨r1, e2 r1, r2⟩
    · have hX := press_fl htn hR.runs hf
      rw [hX]
      exact .inl ⟨rfl, flag_of htn hf⟩
theorem rdy_start {L : Ctl} (hG : Good L) : (Ck.new (L.ps.getD 0 ⟨0, 0, 0⟩).time).start L 0 = ({ Ck.new (L.ps.getD 0 ⟨0, 0, 0⟩).time with runs := true }, 0) ∧ Rdy L { Ck.new (L.ps.getD 0 ⟨0, 0, 0⟩).time with runs := true } 0 0 := by
  have hI := inv_new hG
  obtain ⟨h1, h2, h3, h4, h5⟩ := hG.hdr
  have h6 := hG.ps _ (List.mem_of_getElem? hG.first)
  have hI2 := inv_start hI 0
  have hc : (Ck.new (L.ps.getD 0 ⟨0, 0, 0⟩).time).counted L 0 ≤ 0 := (counted_bd 0 hI (Int.le_refl _) (by decide)).2
  have hE : (Ck.new (L.ps.getD 0 ⟨0, 0, 0⟩).time).start L 0 = ({ Ck.new (L.ps.getD 0 ⟨0, 0, 0⟩).time with runs := true }, 0) := by
    unfold Ck.start
    rw [if_pos (intime_of (c := Ck.new (L.ps.getD 0 ⟨0, 0, 0⟩).time) (now := 0) (Int.le_refl _) (by decide)), if_neg (by simp [Ck.new]), if_neg (by simp only [Ck.fallen, decide_eq_true_eq]; simp only [Ck.new, Ck.hand] at *; omega)]
    rfl
  refine ⟨hE, ?_⟩
  rw [hE] at hI2
  refine ⟨hI2, rfl, rfl, rfl, rfl, ?_, ?_, ?_, ?_, ?_⟩ <;> simp only [Ck.new] <;> intros <;> omega

/-- what is asked at the end -/
theorem left_two {L : Ctl} {c : Ck} {now t : Int} {i : Nat} (hR : Rdy L c now i) (h1 : now ≤ t) (h2 : t ≤ 1099511627776) (s : Bool) :
    c.leftV L s t = .tuple #[.int .i64 (c.left L s t), .int .i64 0] ∧ c.flag L t = .tuple #[.bool (c.fallen L t), .int .i64 0] := by
  have hl := hR.last
  have ht := intime_of (c := c) (now := t) (by omega) h2
  unfold Ck.leftV Ck.flag
  rw [if_pos ht, if_pos ht]
  exact ⟨rfl, rfl⟩
theorem left_mono {L : Ctl} {c : Ck} {now t u : Int} {i : Nat} (hR : Rdy L c now i) (h1 : now ≤ t) (h2 : t ≤ u) : c.left L c.side u ≤ c.left L c.side t := by
  have : c.spent t ≤ c.spent u := by
    simp only [Ck.spent, hR.runs, if_true]
    omega
  unfold Ck.left
  rw [if_pos rfl, if_pos rfl]
  have : c.counted L t ≤ c.counted L u := by
    unfold Ck.counted
    split <;> omega
  omega
theorem left_other {L : Ctl} {c : Ck} {t u : Int} : c.left L (!c.side) u = c.left L (!c.side) t := by
  unfold Ck.left
  rw [if_neg (by cases c.side <;> simp), if_neg (by cases c.side <;> simp)]
theorem fallen_left {L : Ctl} {c : Ck} {t : Int} : c.fallen L t = decide (c.left L c.side t = 0) := by
  unfold Ck.left Ck.fallen
  rw [if_pos rfl]
  apply decide_eq_decide.2
  omega
theorem left_sum {L : Ctl} {c : Ck} {now : Int} {i : Nat} (hR : Rdy L c now i) (hk : L.k = 0) (hl : L.ps.length = 1) : c.left L false now + c.left L true now + now = 2 * (L.ps.getD 0 ⟨0, 0, 0⟩).time := by
  have hp := hR.plain hk hl
  have a0 := hR.a0
  have b0 := hR.b0
  have hc : c.counted L now = 0 := by
    simp only [Ck.counted, hk, Ck.spent, hR.runs, hR.used, hR.since, if_true]
    simp
  unfold Ck.left
  rw [hc]
  simp only [Ck.hand]
  split <;> split <;> omega
end Go.Proofs.Ytgigehlflgcdpaa
