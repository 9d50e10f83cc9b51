/- Contracts of the chess clock that only read it: Flag, Left, Move, Moves and what they call. Conditions: the clock lies in memory with numbers within bounds. -/
import Derived.Test.YtgigehlflgcdpaaRows
import Derived.WalkKit
import Derived.WalkSpells
import Derived.WalkLawsBesides
import Derived.Deep.QuietTactic
import Derived.BigQuiet
import Derived.Lib.Hide
set_option linter.unusedVariables false
set_option linter.unusedSimpArgs false
namespace Go.Proofs.Ytgigehlflgcdpaa
-- chess clocks: the functions that only read
open Go.RowKit

theorem within_t (a l h : Int) (w : World) (h1 : l ≤ a) (h2 : a ≤ h) :
    Calls Try.prog 29 #[.int .i64 a, .int .i64 l, .int .i64 h] w fun e w' => e = .returned (.bool true) ∧ w = w' := by
  go_enter Try.func29, Try.ntmps29
  go_wp2
  go_ret
  exact ⟨by simp, rfl⟩
theorem within_f1 (a l h : Int) (w : World) (h1 : a < l) :
    Calls Try.prog 29 #[.int .i64 a, .int .i64 l, .int .i64 h] w fun e w' => e = .returned (.bool false) ∧ w = w' := by
  go_enter Try.func29, Try.ntmps29
  go_wp2
  go_ret
  exact ⟨by simp, rfl⟩
theorem within_f2 (a l h : Int) (w : World) (h1 : l ≤ a) (h2 : h < a) :
    Calls Try.prog 29 #[.int .i64 a, .int .i64 l, .int .i64 h] w fun e w' => e = .returned (.bool false) ∧ w = w' := by
  go_enter Try.func29, Try.ntmps29
  go_wp2
  go_ret
  exact ⟨by simp; omega, rfl⟩
theorem within_f (a l h : Int) (w : World) (h1 : a < l ∨ h < a) :
    Calls Try.prog 29 #[.int .i64 a, .int .i64 l, .int .i64 h] w fun e w' => e = .returned (.bool false) ∧ w = w' := by
  by_cases h2 : a < l
  · exact within_f1 a l h w h2
  · exact within_f2 a l h w (by omega) (by omega)

structure Hand where
  stock : Int
  moves : Int
  period : Nat
  done : Int
structure Per where
  moves : Int
  time : Int
  bonus : Int
structure Ck where
  a : Hand
  b : Hand
  side : Bool
  used : Int
  since : Int
  last : Int
  runs : Bool

def sideI : Bool → Int | false => 0 | true => 1
def Ck.hand (c : Ck) : Bool → Hand | false => c.a | true => c.b

/-- the cells of a clock -/
def Ck.cells (c : Ck) (cb : Nat) : Array Value := #[.pointer (some ⟨cb, 0, none⟩),
  .int .i64 c.a.stock, .int .i64 c.a.moves, .int .i64 c.a.period, .int .i64 c.a.done,
  .int .i64 c.b.stock, .int .i64 c.b.moves, .int .i64 c.b.period, .int .i64 c.b.done,
  .int .i64 (sideI c.side), .int .i64 c.used, .int .i64 c.since, .int .i64 c.last, .bool c.runs]

structure Ctl where
  cb : Nat
  pb : Nat
  cap : Nat
  k : Int
  ps : List Per

theorem cell_of {w : World} {b : Nat} {cs : Array Value} {t : TypeId} {fr : Nat × Nat} (h : w.heap[b]? = some (.cells cs t fr)) (i : Nat) (v : Value) (hv : cs[i]? = some v) :
    w.cell? ⟨b, i, none⟩ = some v := by simp [World.cell?, h, hv]
theorem free_of {w : World} {b : Nat} {cs : Array Value} {t : TypeId} (h : w.heap[b]? = some (.cells cs t (0, 0))) (i : Nat) :
    w.frozen? ⟨b, i, none⟩ = false := by simp [World.frozen?, h]

def ClkAt (w : World) (b : Nat) (L : Ctl) (c : Ck) : Prop := w.heap[b]? = some (.cells (c.cells L.cb) 65 (0, 0))
structure CtlAt (w : World) (L : Ctl) : Prop where
  len : L.ps.length ≤ 8
  ctl : w.heap[L.cb]? = some (.cells #[.int .i64 L.k, .slice (some ⟨L.pb, 0, none⟩) L.ps.length L.cap] 25 (0, 0))
  per : ∀ i p, L.ps[i]? = some p → w.cell? ⟨L.pb, i * 3, none⟩ = some (.int .i64 p.moves) ∧ w.cell? ⟨L.pb, i * 3 + 1, none⟩ = some (.int .i64 p.time) ∧ w.cell? ⟨L.pb, i * 3 + 2, none⟩ = some (.int .i64 p.bonus)

theorem ClkAt.all {w : World} {b : Nat} {L : Ctl} {c : Ck} (h : ClkAt w b L c) :
    w.cell? ⟨b, 0, none⟩ = some (.pointer (some ⟨L.cb, 0, none⟩)) ∧
    w.cell? ⟨b, 1, none⟩ = some (.int .i64 c.a.stock) ∧ w.cell? ⟨b, 2, none⟩ = some (.int .i64 c.a.moves) ∧
    w.cell? ⟨b, 3, none⟩ = some (.int .i64 c.a.period) ∧ w.cell? ⟨b, 4, none⟩ = some (.int .i64 c.a.done) ∧
    w.cell? ⟨b, 5, none⟩ = some (.int .i64 c.b.stock) ∧ w.cell? ⟨b, 6, none⟩ = some (.int .i64 c.b.moves) ∧
    w.cell? ⟨b, 7, none⟩ = some (.int .i64 c.b.period) ∧ w.cell? ⟨b, 8, none⟩ = some (.int .i64 c.b.done) ∧
    w.cell? ⟨b, 9, none⟩ = some (.int .i64 (sideI c.side)) ∧ w.cell? ⟨b, 10, none⟩ = some (.int .i64 c.used) ∧
    w.cell? ⟨b, 11, none⟩ = some (.int .i64 c.since) ∧ w.cell? ⟨b, 12, none⟩ = some (.int .i64 c.last) ∧
    w.cell? ⟨b, 13, none⟩ = some (.bool c.runs) := by
  refine ⟨?_, ?_, ?_, ?_, ?_, ?_, ?_, ?_, ?_, ?_, ?_, ?_, ?_, ?_⟩ <;> exact cell_of h _ _ rfl

def Quiet (f : FuncId) (args : Array Value) (w : World) (v : Value) : Prop :=
  Calls Try.prog f args w fun e w' => e = .returned v ∧ ∃ n, w' = w.drewN n

/-- the bounds of a clock's numbers -/
structure Inv (L : Ctl) (c : Ck) : Prop where
  pa : c.a.period < L.ps.length
  pb : c.b.period < L.ps.length
  used0 : 0 ≤ c.used
  used1 : c.used ≤ c.last
  since0 : 0 ≤ c.since
  since1 : c.since ≤ c.last
  last1 : c.last ≤ 1099511627776
  sa0 : -1099511627776 ≤ c.a.stock
  sa1 : c.a.stock ≤ 1099511627776
  sb0 : -1099511627776 ≤ c.b.stock
  sb1 : c.b.stock ≤ 1099511627776
  run : c.runs = true → c.used ≤ c.since
  k0 : 0 ≤ L.k
  k3 : L.k ≤ 3
  ps : ∀ p, p ∈ L.ps → 0 ≤ p.moves ∧ p.moves ≤ 1000 ∧ 0 ≤ p.time ∧ p.time ≤ 1073741824 ∧ 0 ≤ p.bonus ∧ p.bonus ≤ 1073741824

section spec
variable (L : Ctl) (c : Ck)
def Ck.spent (now : Int) : Int := if c.runs then c.used + now - c.since else c.used
def Ck.per : Per := L.ps.getD (c.hand c.side).period ⟨0, 0, 0⟩
def Ck.counted (now : Int) : Int := if L.k = 2 then max 0 (c.spent now - (c.per L).bonus) else c.spent now
def Ck.fallen (now : Int) : Bool := decide ((c.hand c.side).stock ≤ c.counted L now)
def Ck.intime (now : Int) : Bool := decide (c.last ≤ now) && decide (now ≤ 1099511627776)
end spec

theorem none_some (w : World) (b o : Nat) (a : Addr) (h : w.cell? ⟨b, o, none⟩ = some (.pointer (some a))) :
    Calls Try.prog 43 #[.pointer (some ⟨b, o, none⟩)] w fun e w' => e = .returned (.bool false) ∧ w = w' := by
  go_enter Try.func43, Try.ntmps43
  go_wp2
  go_ret
  exact ⟨rfl, rfl⟩


theorem ret_int {k : IntKind} {a b : Int} (h : a = b) : Ending.returned (.int k a) = .returned (.int k b) := by rw [h]
theorem ret_bool {a b : Bool} (h : a = b) : Ending.returned (.bool a) = .returned (.bool b) := by rw [h]

theorem ClkAt.dN {w : World} {b : Nat} {L : Ctl} {c : Ck} {n : Nat} (h : ClkAt w b L c) : ClkAt (w.drewN n) b L c := h
theorem CtlAt.dN {w : World} {L : Ctl} {n : Nat} (h : CtlAt w L) : CtlAt (w.drewN n) L := ⟨h.len, h.ctl, h.per⟩

set_option maxHeartbeats 400000 in
theorem bonus_c {w : World} {b : Nat} {L : Ctl} {c : Ck} (h : ClkAt w b L c) (hL : CtlAt w L) (hI : Inv L c) :
    Quiet 37 #[.pointer (some ⟨b, 0, none⟩)] w (.int .i64 (c.per L).bonus) := by
  obtain ⟨h0, h1, h2, h3, h4, h5, h6, h7, h8, h9, h10, h11, h12, h13⟩ := h.all
  have hk : w.cell? ⟨L.cb, 1, none⟩ = some (.slice (some ⟨L.pb, 0, none⟩) L.ps.length L.cap) := cell_of hL.ctl 1 _ rfl
  obtain ⟨p, hp⟩ : ∃ p, L.ps[(c.hand c.side).period]? = some p := ⟨_, List.getElem?_eq_getElem (by cases hs : c.side <;> simp [Ck.hand, hI.pa, hI.pb])⟩
  have hp' : c.per L = p := by simp [Ck.per, hp]
  rw [hp']
  obtain ⟨_, _, hq⟩ := hL.per _ _ hp
  have hpa := hI.pa
  have hpb := hI.pb
  have hlen := hL.len
  clear h hL hI hp hp'
  obtain ⟨⟨sa, ma, pa, da⟩, ⟨sb, mb, pb, db⟩, side, used, since, last, runs⟩ := c
  cases side <;> simp only [sideI, Ck.hand] at *
  all_goals
    try unfold Quiet
    go_enter Try.func37, Try.ntmps37
    go_wp2_with fail
    go_quiet (fail)
    go_wp2
    go_ret
    exact ⟨rfl, _, rfl⟩

set_option maxHeartbeats 400000 in
theorem spent_c {w : World} {b : Nat} {L : Ctl} {c : Ck} (now : Int) (h : ClkAt w b L c) (hI : Inv L c) (hn0 : c.last ≤ now) (hn1 : now ≤ 1099511627776) :
    Quiet 36 #[.pointer (some ⟨b, 0, none⟩), .int .i64 now] w (.int .i64 (c.spent now)) := by
  obtain ⟨h0, h1, h2, h3, h4, h5, h6, h7, h8, h9, h10, h11, h12, h13⟩ := h.all
  obtain ⟨i1, i2, i3, i4, i5, i6, i7, i8, i9, i10, i11, i12, i13, i14, i15⟩ := hI
  clear h i15 i14 i13 i12 i8 i9 i10 i11
  obtain ⟨⟨sa, ma, pa, da⟩, ⟨sb, mb, pb, db⟩, side, used, since, last, runs⟩ := c
  simp only [Ck.spent] at *
  cases runs
  · try unfold Quiet
    go_enter Try.func36, Try.ntmps36
    go_wp2_with fail
    go_wp2
    go_ret
    exact ⟨rfl, 0, rfl⟩
  · try unfold Quiet
    go_enter Try.func36, Try.ntmps36
    go_wp2_with fail
    go_quiet (fail)
    go_wp2
    go_ret
    exact ⟨rfl, _, rfl⟩
theorem spent_bd {L : Ctl} {c : Ck} (now : Int) (hI : Inv L c) (hn0 : c.last ≤ now) (hn1 : now ≤ 1099511627776) : 0 ≤ c.spent now ∧ c.spent now ≤ now := by
  have h1 := hI.used0
  have h2 := hI.used1
  have h3 := hI.since1
  have h4 := hI.run
  unfold Ck.spent
  split <;> simp_all <;> omega
theorem per_bd {L : Ctl} {c : Ck} (hI : Inv L c) : 0 ≤ (c.per L).moves ∧ (c.per L).moves ≤ 1000 ∧ 0 ≤ (c.per L).time ∧ (c.per L).time ≤ 1073741824 ∧ 0 ≤ (c.per L).bonus ∧ (c.per L).bonus ≤ 1073741824 := by
  obtain ⟨p, hp⟩ : ∃ p, L.ps[(c.hand c.side).period]? = some p := ⟨_, List.getElem?_eq_getElem (by cases hs : c.side <;> simp [Ck.hand, hI.pa, hI.pb])⟩
  have hp' : c.per L = p := by simp [Ck.per, hp]
  rw [hp']
  exact hI.ps p (List.mem_of_getElem? hp)


set_option maxHeartbeats 400000 in
theorem counted_c {w : World} {b : Nat} {L : Ctl} {c : Ck} (now : Int) (h : ClkAt w b L c) (hL : CtlAt w L) (hI : Inv L c) (hn0 : c.last ≤ now) (hn1 : now ≤ 1099511627776) :
    Quiet 42 #[.pointer (some ⟨b, 0, none⟩), .int .i64 now] w (.int .i64 (c.counted L now)) := by
  have h0 := h.all.1
  have hk : w.cell? ⟨L.cb, 0, none⟩ = some (.int .i64 L.k) := cell_of hL.ctl 0 _ rfl
  obtain ⟨s1, s2⟩ := spent_bd now hI hn0 hn1
  obtain ⟨_, _, _, _, b1, b2⟩ := per_bd hI
  by_cases hk2 : L.k = 2
  · have e : c.counted L now = max 0 (c.spent now - (c.per L).bonus) := by simp [Ck.counted, hk2]
    rw [e]
    rw [hk2] at hk
    clear hk2 e
    try unfold Quiet
    go_enter Try.func42, Try.ntmps42
    go_wp2_with fail
    refine (spent_c now h hI hn0 hn1).mono ?_
    rintro e w' ⟨rfl, n, rfl⟩
    go_wp2_with fail
    refine (bonus_c (c := c) (L := L) h.dN hL.dN hI).mono ?_
    rintro e w' ⟨rfl, n, rfl⟩
    go_wp2
    all_goals (go_ret; exact ⟨ret_int (by omega), _, rfl⟩)
  · have e : c.counted L now = c.spent now := by simp [Ck.counted, hk2]
    rw [e]
    have hk3 : (L.k == 2) = false := by simpa using hk2
    clear hk2 e
    try unfold Quiet
    go_enter Try.func42, Try.ntmps42
    go_wp2_with fail
    refine (spent_c now h hI hn0 hn1).mono ?_
    rintro e w' ⟨rfl, n, rfl⟩
    go_wp2
    go_ret
    exact ⟨rfl, _, rfl⟩

theorem counted_bd {L : Ctl} {c : Ck} (now : Int) (hI : Inv L c) (hn0 : c.last ≤ now) (hn1 : now ≤ 1099511627776) : 0 ≤ c.counted L now ∧ c.counted L now ≤ now := by
  obtain ⟨s1, s2⟩ := spent_bd now hI hn0 hn1
  obtain ⟨_, _, _, _, b1, b2⟩ := per_bd hI
  unfold Ck.counted
  split <;> omega

set_option maxHeartbeats 400000 in
theorem fallen_c {w : World} {b : Nat} {L : Ctl} {c : Ck} (now : Int) (h : ClkAt w b L c) (hL : CtlAt w L) (hI : Inv L c) (hn0 : c.last ≤ now) (hn1 : now ≤ 1099511627776) :
    Quiet 35 #[.pointer (some ⟨b, 0, none⟩), .int .i64 now] w (.bool (c.fallen L now)) := by
  have hc := fun n => (counted_c (w := w.drewN n) now h.dN hL.dN hI hn0 hn1)
  have e : c.fallen L now = decide ((c.hand c.side).stock ≤ c.counted L now) := rfl
  rw [e]
  obtain ⟨h0, h1, h2, h3, h4, h5, h6, h7, h8, h9, h10, h11, h12, h13⟩ := h.all
  generalize c.counted L now = x at *
  have hC := fun n => Lib.hid (hc n)
  clear e hc h hL hI
  obtain ⟨⟨sa, ma, pa, da⟩, ⟨sb, mb, pb, db⟩, side, used, since, last, runs⟩ := c
  cases side <;> simp only [sideI, Ck.hand] at *
  all_goals
    try unfold Quiet
    go_enter Try.func35, Try.ntmps35
    go_wp2_with fail
    go_quiet ((go_at_call 42; exact Calls.quiet_of (Hid.out (hC _))))
    go_wp2
    go_ret
    exact ⟨rfl, _, rfl⟩

set_option maxHeartbeats 400000 in
theorem when_yes {w : World} {b : Nat} {L : Ctl} {c : Ck} (now : Int) (h : ClkAt w b L c) (hn0 : c.last ≤ now) (hn1 : now ≤ 1099511627776) :
    Calls Try.prog 34 #[.pointer (some ⟨b, 0, none⟩), .int .i64 now] w fun e w' => e = .returned (.int .i64 0) ∧ w = w' := by
  obtain ⟨h0, h1, h2, h3, h4, h5, h6, h7, h8, h9, h10, h11, h12, h13⟩ := h.all
  try unfold Quiet
  go_enter Try.func34, Try.ntmps34
  go_wp2_with fail
  refine (none_some w b 0 _ h0).mono ?_
  rintro e w' ⟨rfl, rfl⟩
  go_wp2_with fail
  refine (within_t _ _ _ w hn0 hn1).mono ?_
  rintro e w' ⟨rfl, rfl⟩
  go_wp2
  go_ret
  exact ⟨rfl, rfl⟩
set_option maxHeartbeats 400000 in
theorem when_no {w : World} {b : Nat} {L : Ctl} {c : Ck} (now : Int) (h : ClkAt w b L c) (hn : now < c.last ∨ 1099511627776 < now) :
    Calls Try.prog 34 #[.pointer (some ⟨b, 0, none⟩), .int .i64 now] w fun e w' => e = .returned (.int .i64 3) ∧ w = w' := by
  obtain ⟨h0, h1, h2, h3, h4, h5, h6, h7, h8, h9, h10, h11, h12, h13⟩ := h.all
  try unfold Quiet
  go_enter Try.func34, Try.ntmps34
  go_wp2_with fail
  refine (none_some w b 0 _ h0).mono ?_
  rintro e w' ⟨rfl, rfl⟩
  go_wp2_with fail
  refine (within_f _ _ _ w hn).mono ?_
  rintro e w' ⟨rfl, rfl⟩
  go_wp2
  go_ret
  exact ⟨rfl, rfl⟩

/-- Flag -/
def Ck.flag (L : Ctl) (c : Ck) (now : Int) : Value := if c.intime now then .tuple #[.bool (c.fallen L now), .int .i64 0] else .tuple #[.bool false, .int .i64 3]
theorem Ck.intime_t {c : Ck} {now : Int} (h : c.intime now = true) : c.last ≤ now ∧ now ≤ 1099511627776 := by simpa [Ck.intime] using h
theorem Ck.intime_f {c : Ck} {now : Int} (h : ¬ c.intime now = true) : now < c.last ∨ 1099511627776 < now := by
  simp [Ck.intime] at h
  omega
set_option maxHeartbeats 400000 in
theorem flag_c {w : World} {b : Nat} {L : Ctl} {c : Ck} (now : Int) (h : ClkAt w b L c) (hL : CtlAt w L) (hI : Inv L c) :
    Quiet 19 #[.pointer (some ⟨b, 0, none⟩), .int .i64 now] w (c.flag L now) := by
  by_cases ht : c.intime now = true
  · obtain ⟨t1, t2⟩ := Ck.intime_t ht
    rw [show c.flag L now = .tuple #[.bool (c.fallen L now), .int .i64 0] by simp [Ck.flag, ht]]
    clear ht
    try unfold Quiet
    go_enter Try.func19, Try.ntmps19
    go_wp2_with fail
    refine (when_yes now h t1 t2).mono ?_
    rintro e w' ⟨rfl, rfl⟩
    go_wp2_with fail
    refine (fallen_c now h hL hI t1 t2).mono ?_
    rintro e w' ⟨rfl, n, rfl⟩
    go_wp2
    go_ret2
    exact ⟨rfl, _, rfl⟩
  · have t := Ck.intime_f ht
    rw [show c.flag L now = .tuple #[.bool false, .int .i64 3] by simp [Ck.flag, ht]]
    clear ht
    try unfold Quiet
    go_enter Try.func19, Try.ntmps19
    go_wp2_with fail
    refine (when_no now h t).mono ?_
    rintro e w' ⟨rfl, rfl⟩
    go_wp2
    go_ret2
    exact ⟨rfl, 0, rfl⟩

set_option maxHeartbeats 400000 in
theorem move_c {w : World} {b : Nat} {L : Ctl} {c : Ck} (h : ClkAt w b L c) :
    Quiet 21 #[.pointer (some ⟨b, 0, none⟩)] w (.tuple #[.int .i64 (sideI c.side), .bool c.runs]) := by
  obtain ⟨h0, h1, h2, h3, h4, h5, h6, h7, h8, h9, h10, h11, h12, h13⟩ := h.all
  try unfold Quiet
  go_enter Try.func21, Try.ntmps21
  go_wp2_with fail
  refine (none_some w b 0 _ h0).mono ?_
  rintro e w' ⟨rfl, rfl⟩
  go_wp2
  go_quiet (fail)
  go_wp2
  go_ret2
  exact ⟨rfl, _, rfl⟩

set_option maxHeartbeats 400000 in
theorem moves_c {w : World} {b : Nat} {L : Ctl} {c : Ck} (s : Bool) (h : ClkAt w b L c) :
    Quiet 24 #[.pointer (some ⟨b, 0, none⟩), .int .i64 (sideI s)] w (.tuple #[.int .i64 (c.hand s).moves, .int .i64 (c.hand s).period, .int .i64 0]) := by
  obtain ⟨h0, h1, h2, h3, h4, h5, h6, h7, h8, h9, h10, h11, h12, h13⟩ := h.all
  cases s <;> simp only [sideI, Ck.hand]
  all_goals
    try unfold Quiet
    go_enter Try.func24, Try.ntmps24
    go_wp2_with fail
    refine (none_some w b 0 _ h0).mono ?_
    rintro e w' ⟨rfl, rfl⟩
    go_wp2_with fail
    refine (within_t _ _ _ w (by omega) (by omega)).mono ?_
    rintro e w' ⟨rfl, rfl⟩
    go_wp2
    go_quiet (fail)
    go_wp2
    go_ret3
    exact ⟨rfl, _, rfl⟩
set_option maxHeartbeats 400000 in
theorem moves_no {w : World} {b : Nat} {L : Ctl} {c : Ck} (s : Int) (h : ClkAt w b L c) (hs : s < 0 ∨ 1 < s) :
    Quiet 24 #[.pointer (some ⟨b, 0, none⟩), .int .i64 s] w (.tuple #[.int .i64 0, .int .i64 0, .int .i64 2]) := by
  obtain ⟨h0, h1, h2, h3, h4, h5, h6, h7, h8, h9, h10, h11, h12, h13⟩ := h.all
  try unfold Quiet
  go_enter Try.func24, Try.ntmps24
  go_wp2_with fail
  refine (none_some w b 0 _ h0).mono ?_
  rintro e w' ⟨rfl, rfl⟩
  go_wp2_with fail
  refine (within_f _ _ _ w hs).mono ?_
  rintro e w' ⟨rfl, rfl⟩
  go_wp2
  go_ret3
  exact ⟨rfl, 0, rfl⟩

/-- what is left to a side -/
def Ck.left (L : Ctl) (c : Ck) (s : Bool) (now : Int) : Int := max 0 ((c.hand s).stock - if s = c.side then c.counted L now else 0)
def Ck.leftV (L : Ctl) (c : Ck) (s : Bool) (now : Int) : Value := if c.intime now then .tuple #[.int .i64 (c.left L s now), .int .i64 0] else .tuple #[.int .i64 0, .int .i64 3]
set_option maxHeartbeats 400000 in
theorem left_no {w : World} {b : Nat} {L : Ctl} {c : Ck} (s now : Int) (h : ClkAt w b L c) (hs : s < 0 ∨ 1 < s) :
    Quiet 20 #[.pointer (some ⟨b, 0, none⟩), .int .i64 s, .int .i64 now] w (.tuple #[.int .i64 0, .int .i64 2]) := by
  obtain ⟨h0, h1, h2, h3, h4, h5, h6, h7, h8, h9, h10, h11, h12, h13⟩ := h.all
  try unfold Quiet
  go_enter Try.func20, Try.ntmps20
  go_wp2_with fail
  refine (none_some w b 0 _ h0).mono ?_
  rintro e w' ⟨rfl, rfl⟩
  go_wp2_with fail
  refine (within_f _ _ _ w hs).mono ?_
  rintro e w' ⟨rfl, rfl⟩
  go_wp2
  go_ret2
  exact ⟨rfl, 0, rfl⟩
theorem sideI_bd (s : Bool) : 0 ≤ sideI s ∧ sideI s ≤ 1 := by cases s <;> simp [sideI]
set_option maxHeartbeats 400000 in
theorem left_c {w : World} {b : Nat} {L : Ctl} {c : Ck} (s : Bool) (now : Int) (h : ClkAt w b L c) (hL : CtlAt w L) (hI : Inv L c) :
    Quiet 20 #[.pointer (some ⟨b, 0, none⟩), .int .i64 (sideI s), .int .i64 now] w (c.leftV L s now) := by
  obtain ⟨q1, q2⟩ := sideI_bd s
  by_cases ht : c.intime now = true
  · obtain ⟨t1, t2⟩ := Ck.intime_t ht
    rw [show c.leftV L s now = .tuple #[.int .i64 (c.left L s now), .int .i64 0] by simp [Ck.leftV, ht]]
    clear ht
    have hc := Lib.hid (counted_c now h hL hI t1 t2)
    have hw := Lib.hid (when_yes now h t1 t2)
    obtain ⟨b1, b2⟩ := counted_bd now hI t1 t2
    have e : c.left L s now = max 0 ((c.hand s).stock - if s = c.side then c.counted L now else 0) := rfl
    rw [e]
    obtain ⟨_, _, _, _, _, _, _, a1, a2, a3, a4, _, _, _, _⟩ := hI
    obtain ⟨h0, h1, h2, h3, h4, h5, h6, h7, h8, h9, h10, h11, h12, h13⟩ := h.all
    generalize c.counted L now = x at *
    clear e h hL
    obtain ⟨⟨sa, ma, pa, da⟩, ⟨sb, mb, pb, db⟩, side, used, since, last, runs⟩ := c
    cases s <;> cases side <;> simp only [sideI, Ck.hand] at *
    all_goals
      try unfold Quiet
      go_enter Try.func20, Try.ntmps20
      go_wp2_with fail
      refine (none_some w b 0 _ h0).mono ?_
      rintro e w' ⟨rfl, rfl⟩
      go_wp2_with fail
      refine (within_t _ _ _ w q1 q2).mono ?_
      rintro e w' ⟨rfl, rfl⟩
      go_wp2_with fail
      refine (hw.out).mono ?_
      rintro e w' ⟨rfl, rfl⟩
      go_wp2_with fail
      first
        | (refine (hc.out).mono ?_
           rintro e w' ⟨rfl, n, rfl⟩
           go_wp2)
        | go_wp2
      all_goals (go_ret2; first | exact ⟨by simp; omega, _, rfl⟩ | exact ⟨by simp; omega, 0, rfl⟩)
  · have t := Ck.intime_f ht
    rw [show c.leftV L s now = .tuple #[.int .i64 0, .int .i64 3] by simp [Ck.leftV, ht]]
    clear ht
    obtain ⟨h0, h1, h2, h3, h4, h5, h6, h7, h8, h9, h10, h11, h12, h13⟩ := h.all
    have hw := Lib.hid (when_no now h t)
    generalize sideI s = x at *
    try unfold Quiet
    go_enter Try.func20, Try.ntmps20
    go_wp2_with fail
    refine (none_some w b 0 _ h0).mono ?_
    rintro e w' ⟨rfl, rfl⟩
    go_wp2_with fail
    refine (within_t _ _ _ w q1 q2).mono ?_
    rintro e w' ⟨rfl, rfl⟩
    go_wp2_with fail
    refine (hw.out).mono ?_
    rintro e w' ⟨rfl, rfl⟩
    go_wp2
    go_ret2
    exact ⟨rfl, 0, rfl⟩
end Go.Proofs.Ytgigehlflgcdpaa
