/- Contracts of Start, Stop, Add and Copy of a chess clock. Conditions: the clock lies in memory with numbers within bounds. -/
import Derived.Test.YtgigehlflgcdpaaA
import Derived.RegionTactic
import Derived.BigRegion
import Derived.ChangeAlike
set_option linter.unusedVariables false
set_option linter.unusedSimpArgs false
namespace Go.Proofs.Ytgigehlflgcdpaa
open Go.RowKit

/-! ### words on worlds -/
theorem grown_drewN {a w : World} {row : Option Nat} (h : a.grownBy w row) (n : Nat) : a.grownBy (w.drewN n) row := ⟨h.os, h.tape, h.output, h.size, h.block⟩
theorem grown_refl (a : World) (row : Option Nat) : a.grownBy a row := ⟨rfl, rfl, rfl, Nat.le_refl _, fun _ _ _ => rfl⟩
theorem grown_alloc {a w : World} {row : Option Nat} (h : a.grownBy w row) (o : Obj) : a.grownBy (w.alloc o) row :=
  ⟨h.os, h.tape, h.output, Nat.le_trans h.size (by simp), fun i hi hne => (Below.heap_alloc w o i (Nat.lt_of_lt_of_le hi h.size)).trans (h.block i hi hne)⟩
theorem grown_set {a w : World} {g : Nat} (h : a.grownBy w (some g)) {p : Addr} (hp : p.block = g ∨ a.heap.size ≤ p.block) (u : Value) : a.grownBy (w.setCell p u) (some g) :=
  ⟨h.os, h.tape, h.output, by simpa [World.setCell] using h.size, fun i hi hne => (Below.heap_setCell w p u i (by
    rintro rfl
    rcases hp with hp | hp
    · exact hne (by rw [hp])
    · omega)).trans (h.block i hi hne)⟩
theorem blk_set {w : World} {b : Nat} {cs : Array Value} {t : TypeId} (h : w.heap[b]? = some (.cells cs t (0, 0))) (i : Nat) (v : Value) :
    (w.setCell ⟨b, i, none⟩ v).heap[b]? = some (.cells (cs.setIfInBounds i v) t (0, 0)) := by
  simp [World.setCell, Array.getElem?_modify, h]
theorem blk_drewN {w : World} {b : Nat} {o : Obj} (h : w.heap[b]? = some o) (n : Nat) : (w.drewN n).heap[b]? = some o := h
theorem blk_drew {w : World} {b : Nat} {o : Obj} (h : w.heap[b]? = some o) : w.drew.heap[b]? = some o := h
theorem blk_alloc {w : World} {b : Nat} {o : Obj} (h : w.heap[b]? = some o) (x : Obj) : (w.alloc x).heap[b]? = some o :=
  (Below.heap_alloc w x b (Array.getElem?_eq_some_iff.1 h).1).trans h
theorem blk_other {w : World} {b : Nat} {o : Obj} (h : w.heap[b]? = some o) {p : Addr} (hp : b ≠ p.block) (v : Value) : (w.setCell p v).heap[b]? = some o :=
  (Below.heap_setCell w p v b hp).trans h
theorem hblk {w : World} {b : Nat} {L : Ctl} {c : Ck} (h : ClkAt w b L c) : w.heap[b]? = some (.cells (c.cells L.cb) 65 (0, 0)) := h
theorem blk_at {W : World} {b : Nat} {cs cs' : Array Value} {t : TypeId} (h : W.heap[b]? = some (.cells cs t (0, 0))) (e : cs = cs') : W.heap[b]? = some (.cells cs' t (0, 0)) := e ▸ h
theorem grown_drew {a w : World} {row : Option Nat} (h : a.grownBy w row) : a.grownBy w.drew row := ⟨h.os, h.tape, h.output, h.size, h.block⟩

section spec
variable (L : Ctl) (c : Ck)
/-- Start: the clock behind it, and the error -/
def Ck.start (now : Int) : Ck × Int :=
  if c.intime now then
    if c.runs then (c, 8) else if c.fallen L now then (c, 410) else ({ c with runs := true, since := now, last := now }, 0)
  else (c, 3)
def Ck.stop (now : Int) : Ck × Int :=
  if c.intime now then
    if c.runs then ({ c with used := c.spent now, runs := false, last := now }, 0) else (c, 8)
  else (c, 3)
def Ck.setHand (s : Bool) (h : Hand) : Ck := match s with | false => { c with a := h } | true => { c with b := h }
def Ck.add (s t : Int) : Ck × Int :=
  if s < 0 ∨ 1 < s ∨ t < -1073741824 ∨ 1073741824 < t then (c, 2) else
    let sd := s == 1
    let n := (c.hand sd).stock + t
    if n < -1099511627776 ∨ 1099511627776 < n then (c, 7) else (c.setHand sd { c.hand sd with stock := n }, 0)
end spec

/-- what a method that writes the clock leaves -/
def Writes (f : FuncId) (args : Array Value) (w : World) (b : Nat) (L : Ctl) (r : Ck × Int) : Prop :=
  Calls Try.prog f args w fun e w' => e = .returned (.int .i64 r.2) ∧ ClkAt w' b L r.1 ∧ w.grownBy w' (some b)

set_option maxHeartbeats 400000 in
theorem start_c {w : World} {b : Nat} {L : Ctl} {c : Ck} (now : Int) (h : ClkAt w b L c) (hL : CtlAt w L) (hI : Inv L c) :
    Writes 16 #[.pointer (some ⟨b, 0, none⟩), .int .i64 now] w b L (c.start L now) := by
  unfold Writes
  obtain ⟨h0, h1, h2, h3, h4, h5, h6, h7, h8, h9, h10, h11, h12, h13⟩ := h.all
  have f11 := free_of h 11
  have f12 := free_of h 12
  have f13 := free_of h 13
  by_cases ht : c.intime now = true
  · obtain ⟨t1, t2⟩ := Ck.intime_t ht
    by_cases hr : c.runs = true
    · rw [show c.start L now = (c, 8) by simp [Ck.start, ht, hr]]
      rw [hr] at h13
      clear ht hr
      try unfold Quiet
      go_enter Try.func16, Try.ntmps16
      go_wp2_with fail
      refine (when_yes now h t1 t2).mono ?_
      rintro e w' ⟨rfl, rfl⟩
      go_wp2
      go_ret
      exact ⟨rfl, h, grown_refl _ _⟩
    · by_cases hf : c.fallen L now = true
      · rw [show c.start L now = (c, 410) by simp [Ck.start, ht, hr, hf]]
        rw [show c.runs = false by simpa using hr] at h13
        have hc := Lib.hid (fallen_c now h hL hI t1 t2)
        rw [hf] at hc
        clear ht hr hf
        try unfold Quiet
        go_enter Try.func16, Try.ntmps16
        go_wp2_with fail
        refine (when_yes now h t1 t2).mono ?_
        rintro e w' ⟨rfl, rfl⟩
        go_wp2_with fail
        refine (hc.out).mono ?_
        rintro e w' ⟨rfl, n, rfl⟩
        go_wp2
        go_ret
        exact ⟨rfl, h, grown_drewN (grown_refl _ _) _⟩
      · have hr' : c.runs = false := by simpa using hr
        have hf' : c.fallen L now = false := by simpa using hf
        rw [show c.start L now = ({ c with runs := true, since := now, last := now }, 0) by simp [Ck.start, ht, hr', hf']]
        rw [hr'] at h13
        have hc := Lib.hid (fallen_c now h hL hI t1 t2)
        rw [hf'] at hc
        clear ht hr hf hr' hf'
        try unfold Quiet
        go_enter Try.func16, Try.ntmps16
        go_wp2_with fail
        refine (when_yes now h t1 t2).mono ?_
        rintro e w' ⟨rfl, rfl⟩
        go_wp2_with fail
        refine (hc.out).mono ?_
        rintro e w' ⟨rfl, n, rfl⟩
        go_wp2
        go_ret
        refine ⟨rfl, ?_, ?_⟩
        · apply blk_at
          · repeat (with_reducible first | exact (hblk h) | apply blk_drewN | apply blk_drew | apply blk_set | apply blk_alloc)
          · rfl
        · repeat (first | exact grown_refl _ _ | refine grown_drewN ?_ _ | refine grown_drew ?_ | refine grown_set ?_ (.inl rfl) _ | refine grown_alloc ?_ _)
  · have t := Ck.intime_f ht
    rw [show c.start L now = (c, 3) by simp [Ck.start, ht]]
    clear ht
    try unfold Quiet
    go_enter Try.func16, Try.ntmps16
    go_wp2_with fail
    refine (when_no now h t).mono ?_
    rintro e w' ⟨rfl, rfl⟩
    go_wp2
    go_ret
    exact ⟨rfl, h, grown_refl _ _⟩

set_option maxHeartbeats 400000 in
theorem stop_c {w : World} {b : Nat} {L : Ctl} {c : Ck} (now : Int) (h : ClkAt w b L c) (hI : Inv L c) :
    Writes 18 #[.pointer (some ⟨b, 0, none⟩), .int .i64 now] w b L (c.stop now) := by
  unfold Writes
  obtain ⟨h0, h1, h2, h3, h4, h5, h6, h7, h8, h9, h10, h11, h12, h13⟩ := h.all
  have f10 := free_of h 10
  have f12 := free_of h 12
  have f13 := free_of h 13
  by_cases ht : c.intime now = true
  · obtain ⟨t1, t2⟩ := Ck.intime_t ht
    by_cases hr : c.runs = true
    · have e : c.stop now = ({ c with used := c.spent now, runs := false, last := now }, 0) := by simp [Ck.stop, ht, hr]
      rw [e]
      have hc := Lib.hid (spent_c now h hI t1 t2)
      rw [hr] at h13
      generalize c.spent now = x at *
      clear ht hr e
      try unfold Quiet
      go_enter Try.func18, Try.ntmps18
      go_wp2_with fail
      refine (when_yes now h t1 t2).mono ?_
      rintro e w' ⟨rfl, rfl⟩
      go_wp2_with fail
      refine (hc.out).mono ?_
      rintro e w' ⟨rfl, n, rfl⟩
      go_wp2
      go_ret
      refine ⟨rfl, ?_, ?_⟩
      · apply blk_at
        · repeat (with_reducible first | exact (hblk h) | apply blk_drewN | apply blk_drew | apply blk_set | apply blk_alloc)
        · rfl
      · repeat (first | exact grown_refl _ _ | refine grown_drewN ?_ _ | refine grown_drew ?_ | refine grown_set ?_ (.inl rfl) _ | refine grown_alloc ?_ _)
    · have hr' : c.runs = false := by simpa using hr
      rw [show c.stop now = (c, 8) by simp [Ck.stop, ht, hr']]
      rw [hr'] at h13
      clear ht hr hr'
      try unfold Quiet
      go_enter Try.func18, Try.ntmps18
      go_wp2_with fail
      refine (when_yes now h t1 t2).mono ?_
      rintro e w' ⟨rfl, rfl⟩
      go_wp2
      go_ret
      exact ⟨rfl, h, grown_refl _ _⟩
  · have t := Ck.intime_f ht
    rw [show c.stop now = (c, 3) by simp [Ck.stop, ht]]
    clear ht
    try unfold Quiet
    go_enter Try.func18, Try.ntmps18
    go_wp2_with fail
    refine (when_no now h t).mono ?_
    rintro e w' ⟨rfl, rfl⟩
    go_wp2
    go_ret
    exact ⟨rfl, h, grown_refl _ _⟩

set_option maxHeartbeats 400000 in
theorem add_c {w : World} {b : Nat} {L : Ctl} {c : Ck} (s t : Int) (h : ClkAt w b L c) (hI : Inv L c) :
    Writes 25 #[.pointer (some ⟨b, 0, none⟩), .int .i64 s, .int .i64 t] w b L (c.add s t) := by
  unfold Writes
  obtain ⟨h0, h1, h2, h3, h4, h5, h6, h7, h8, h9, h10, h11, h12, h13⟩ := h.all
  have f1 := free_of h 1
  have f5 := free_of h 5
  obtain ⟨_, _, _, _, _, _, _, a1, a2, a3, a4, _, _, _, _⟩ := hI
  by_cases hs : s < 0 ∨ 1 < s
  · rw [show c.add s t = (c, 2) by simp only [Ck.add]; rw [if_pos (by omega)]]
    try unfold Quiet
    go_enter Try.func25, Try.ntmps25
    go_wp2_with fail
    refine (none_some w b 0 _ h0).mono ?_
    rintro e w' ⟨rfl, rfl⟩
    go_wp2_with fail
    refine (within_f s _ _ w hs).mono ?_
    rintro e w' ⟨rfl, rfl⟩
    go_wp2
    go_ret
    exact ⟨rfl, h, grown_refl _ _⟩
  · by_cases htt : t < -1073741824 ∨ 1073741824 < t
    · rw [show c.add s t = (c, 2) by simp only [Ck.add]; rw [if_pos (by omega)]]
      try unfold Quiet
      go_enter Try.func25, Try.ntmps25
      go_wp2_with fail
      refine (none_some w b 0 _ h0).mono ?_
      rintro e w' ⟨rfl, rfl⟩
      go_wp2_with fail
      refine (within_t s _ _ w (by omega) (by omega)).mono ?_
      rintro e w' ⟨rfl, rfl⟩
      go_wp2_with fail
      refine (within_f t _ _ w htt).mono ?_
      rintro e w' ⟨rfl, rfl⟩
      go_wp2
      go_ret
      exact ⟨rfl, h, grown_refl _ _⟩
    · by_cases hn : (c.hand (s == 1)).stock + t < -1099511627776 ∨ 1099511627776 < (c.hand (s == 1)).stock + t
      · rw [show c.add s t = (c, 7) by simp only [Ck.add]; rw [if_neg (by omega), if_pos hn]]
        have hss : s = 0 ∨ s = 1 := by omega
        obtain ⟨⟨sa, ma, pa, da⟩, ⟨sb, mb, pb, db⟩, side, used, since, last, runs⟩ := c
        rcases hss with rfl | rfl <;> simp only [Ck.hand, show ((0 : Int) == 1) = false from rfl, show ((1 : Int) == 1) = true from rfl] at *
        all_goals
          have hn1 := Lib.hid hn
          clear hn hs
          try unfold Quiet
          go_enter Try.func25, Try.ntmps25
          go_wp2_with fail
          refine (none_some w b 0 _ h0).mono ?_
          rintro e w' ⟨rfl, rfl⟩
          go_wp2_with fail
          refine (within_t _ _ _ w (by omega) (by omega)).mono ?_
          rintro e w' ⟨rfl, rfl⟩
          go_wp2_with fail
          refine (within_t t _ _ w (by omega) (by omega)).mono ?_
          rintro e w' ⟨rfl, rfl⟩
          go_wp2_with fail
          refine (within_f _ _ _ w hn1.out).mono ?_
          rintro e w' ⟨rfl, rfl⟩
          go_wp2
          go_ret
          exact ⟨rfl, h, grown_refl _ _⟩
      · rw [show c.add s t = (c.setHand (s == 1) { c.hand (s == 1) with stock := (c.hand (s == 1)).stock + t }, 0) by simp only [Ck.add]; rw [if_neg (by omega), if_neg hn]]
        have hss : s = 0 ∨ s = 1 := by omega
        obtain ⟨⟨sa, ma, pa, da⟩, ⟨sb, mb, pb, db⟩, side, used, since, last, runs⟩ := c
        rcases hss with rfl | rfl <;> simp only [Ck.hand, Ck.setHand, show ((0 : Int) == 1) = false from rfl, show ((1 : Int) == 1) = true from rfl] at *
        · have hn1 := Lib.hid hn
          clear hn hs
          try unfold Quiet
          go_enter Try.func25, Try.ntmps25
          go_wp2_with fail
          refine (none_some w b 0 _ h0).mono ?_
          rintro e w' ⟨rfl, rfl⟩
          go_wp2_with fail
          refine (within_t _ _ _ w (by omega) (by omega)).mono ?_
          rintro e w' ⟨rfl, rfl⟩
          go_wp2_with fail
          refine (within_t t _ _ w (by omega) (by omega)).mono ?_
          rintro e w' ⟨rfl, rfl⟩
          go_wp2_with fail
          refine (within_t _ _ _ w (by have := hn1.out; omega) (by have := hn1.out; omega)).mono ?_
          rintro e w' ⟨rfl, rfl⟩
          go_wp2
          go_region
          all_goals go_wp2
          all_goals go_ret
          all_goals
            refine ⟨rfl, ?_, ?_⟩
            · apply blk_at
              · repeat (with_reducible first | exact (hblk h) | apply blk_drewN | apply blk_drew | apply blk_set | apply blk_alloc)
              · rfl
            · repeat (first | exact grown_refl _ _ | refine grown_drewN ?_ _ | refine grown_drew ?_ | refine grown_set ?_ (.inl rfl) _ | refine grown_alloc ?_ _)
        · have hn1 := Lib.hid hn
          clear hn hs
          try unfold Quiet
          go_enter Try.func25, Try.ntmps25
          go_wp2_with fail
          refine (none_some w b 0 _ h0).mono ?_
          rintro e w' ⟨rfl, rfl⟩
          go_wp2_with fail
          refine (within_t _ _ _ w (by omega) (by omega)).mono ?_
          rintro e w' ⟨rfl, rfl⟩
          go_wp2_with fail
          refine (within_t t _ _ w (by omega) (by omega)).mono ?_
          rintro e w' ⟨rfl, rfl⟩
          go_wp2_with fail
          refine (within_t _ _ _ w (by have := hn1.out; omega) (by have := hn1.out; omega)).mono ?_
          rintro e w' ⟨rfl, rfl⟩
          go_wp2
          go_region
          all_goals go_wp2
          all_goals go_ret
          all_goals
            refine ⟨rfl, ?_, ?_⟩
            · apply blk_at
              · repeat (with_reducible first | exact (hblk h) | apply blk_drewN | apply blk_drew | apply blk_set | apply blk_alloc)
              · rfl
            · repeat (first | exact grown_refl _ _ | refine grown_drewN ?_ _ | refine grown_drew ?_ | refine grown_set ?_ (.inl rfl) _ | refine grown_alloc ?_ _)

set_option maxHeartbeats 400000 in
theorem copy_c {w : World} {b : Nat} {L : Ctl} {c : Ck} (h : ClkAt w b L c) :
    Calls Try.prog 23 #[.pointer (some ⟨b, 0, none⟩)] w fun e w' => e = .returned (.pointer (some ⟨w.heap.size, 0, none⟩)) ∧ w' = w.alloc (.cells (c.cells L.cb) 65 (0, 0)) := by
  obtain ⟨h0, h1, h2, h3, h4, h5, h6, h7, h8, h9, h10, h11, h12, h13⟩ := h.all
  go_enter Try.func23, Try.ntmps23
  go_wp2_with fail
  refine (none_some w b 0 _ h0).mono ?_
  rintro e w' ⟨rfl, rfl⟩
  go_wp2
  go_ret
  exact ⟨rfl, rfl⟩
end Go.Proofs.Ytgigehlflgcdpaa
