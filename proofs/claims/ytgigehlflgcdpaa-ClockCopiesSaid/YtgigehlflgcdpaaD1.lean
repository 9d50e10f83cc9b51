/- Press at kind 1. Conditions: a running clock, in time, not fallen. -/
import Derived.Test.YtgigehlflgcdpaaC
import Derived.RegionTactic
import Derived.BigRegion
import Derived.StillTailTactics
import Derived.Laws.EntriesVeiled
set_option linter.unusedVariables false
set_option linter.unusedSimpArgs false
namespace Go.Proofs.Ytgigehlflgcdpaa
open Go.RowKit
set_option maxHeartbeats 2000000 in
theorem press_1a {w : World} {b : Nat} {L : Ctl} {c : Ck} (now : Int) (h : ClkAt w b L c) (hL : CtlAt w L) (hI : Inv L c)
    (t1 : c.last ≤ now) (t2 : now ≤ 1099511627776) (ht : c.intime now = true) (hr : c.runs = true) (hf : c.fallen L now = false) (hk : L.k = 1) (hs : c.side = false)
    (hmv : 0 < (c.per L).moves → (c.hand c.side).period + 1 < L.ps.length) :
    Writes 17 #[.pointer (some ⟨b, 0, none⟩), .int .i64 now] w b L (c.press L now) := by
  have hP : c.press L now = if 1099511627776 < (c.pressed L now).stock then (c, 7) else
        ({ c.setHand c.side (c.pressed L now) with side := !c.side, used := 0, since := now, last := now }, 0) := by
    simp [Ck.press, ht, hr, hf]
  have hG : c.gain L now = 1 * 0 + c.gain L now := by simp
  have hat := Ck.per_at hI
  obtain ⟨p1, p2, p3, p4, p5, p6⟩ := per_bd hI
  obtain ⟨s1, s2⟩ := spent_bd now hI t1 t2
  obtain ⟨n1, n2⟩ := counted_bd now hI t1 t2
  obtain ⟨v1, v2, v3⟩ := hL.per _ _ hat
  have i1 := hI.sa0
  have i2 := hI.sa1
  have i3 := hI.sb0
  have i4 := hI.sb1
  have i5 := hI.pa
  have i6 := hI.pb
  have i7 := hL.len
  rw [hs] at hat hmv v1 v2 v3
  simp only [Ck.hand] at hat hmv v1 v2 v3
  unfold Writes
  obtain ⟨h0, h1, h2, h3, h4, h5, h6, h7, h8, h9, h10, h11, h12, h13⟩ := h.all
  have hb : b < w.heap.size := (Array.getElem?_eq_some_iff.1 h).1
  have hcb : L.cb < w.heap.size := (Array.getElem?_eq_some_iff.1 hL.ctl).1
  have hpb : L.pb < w.heap.size := lt_of_cell v1
  have hb1 : b < w.heap.size + 1 := by omega
  have hb2 : b < w.heap.size + 2 := by omega
  have hb3 : b < w.heap.size + 3 := by omega
  have hk0 : w.cell? ⟨L.cb, 0, none⟩ = some (.int .i64 L.k) := cell_of hL.ctl 0 _ rfl
  have hk1 : w.cell? ⟨L.cb, 1, none⟩ = some (.slice (some ⟨L.pb, 0, none⟩) L.ps.length L.cap) := cell_of hL.ctl 1 _ rfl
  have cf := Lib.hid (fallen_c now h hL hI t1 t2)
  have cs := fun n => Lib.hid (spent_c now (h.dN (n := n)) hI t1 t2)
  have cb := fun n => Lib.hid (bonus_c (h.dN (n := n)) (hL.dN (n := n)) hI)
  rw [hf] at cf
  rw [hr] at h13
  rw [hk] at hk0
  rw [hs] at h9
  simp only [sideI] at h9
  have HP := Lib.hid hP
  have HK := Lib.hid hk
  have HS := Lib.hid hs
  have HAT := Lib.hid hat
  have HMV := Lib.hid hmv
  clear hr hf hk hs hP hG hat hmv ht
  try unfold Quiet
  go_enter Try.func17, Try.ntmps17
  go_wp2_with fail
  refine (when_yes now h t1 t2).mono ?_
  rintro e w' ⟨rfl, rfl⟩
  go_wp2_with fail
  refine (cf.out).mono ?_
  rintro e w' ⟨rfl, n, rfl⟩
  go_wp2_with fail
  refine ((cs _).out).mono ?_
  rintro e w' ⟨rfl, n, rfl⟩
  go_wp2_with fail
  refine ((cb _).out).mono ?_
  rintro e w' ⟨rfl, n, rfl⟩
  go_wp2_with fail
  go_region
  go_wp2_with fail
  refine wp_forget (fun W => w.grownBy W none ∧ W.heap.size = w.heap.size + 4 ∧ W.heap[w.heap.size + 1 + 1]? = some (.cells #[.func (.func 38) #[] #[], .func (.func 39) #[] #[.pointer (some ⟨w.heap.size + 1, 0, none⟩)], .func (.func 40) #[] #[], .func (.func 41) #[] #[.pointer (some ⟨w.heap.size, 0, none⟩), .pointer (some ⟨w.heap.size + 1, 0, none⟩)]] 81 (0, 0)) ∧
    W.heap[w.heap.size + 1 + 1 + 1]? = some (.cells #[.int .i64 c.a.stock, .int .i64 c.a.moves, .int .i64 c.a.period, .int .i64 c.a.done] 62 (0, 0)) ∧
    W.heap[w.heap.size]? = some (.cells #[.int .i64 (c.spent now)] 3 (0, 0)) ∧ W.heap[w.heap.size + 1]? = some (.cells #[.int .i64 (c.per L).bonus] 3 (0, 0))) ⟨?_, ?_, ?_, ?_, ?_, ?_⟩ ?_
  · repeat (first | exact grown_refl _ _ | refine grown_drewN ?_ _ | refine grown_drew ?_ | refine grown_set ?_ (.inl rfl) _ | refine grown_alloc ?_ _)
  · simp
  · repeat (first | (refine blk_new ?_ _; simp; done) | with_reducible (apply blk_drewN) | with_reducible (apply blk_drew) | with_reducible (apply blk_alloc))
  · repeat (first | (refine blk_new ?_ _; simp; done) | with_reducible (apply blk_drewN) | with_reducible (apply blk_drew) | with_reducible (apply blk_alloc))
  · repeat (first | (refine blk_new ?_ _; simp; done) | with_reducible (apply blk_drewN) | with_reducible (apply blk_drew) | with_reducible (apply blk_alloc))
  · repeat (first | (refine blk_new ?_ _; simp; done) | with_reducible (apply blk_drewN) | with_reducible (apply blk_drew) | with_reducible (apply blk_alloc))
  rintro W ⟨g1, g2, g3, g4, g5, g6⟩
  have k1 := h.grown g1 (by simp)
  have k2 := hL.grown g1 (by simp) (by simp)
  have e0 := cell_of g3 1 _ rfl
  have e1 := cell_of g4 0 (.int .i64 c.a.stock) rfl
  have e4 := fun n => cell_of (w := W.drewN n) g5 0 (.int .i64 (c.spent now)) rfl
  have e5 := fun n => cell_of (w := W.drewN n) g6 0 (.int .i64 (c.per L).bonus) rfl
  have q0 := k1.all.1
  have q1 : W.cell? ⟨L.cb, 0, none⟩ = some (.int .i64 1) := (g1.cell hk0 (by simp))
  have cc1 := fun n => Lib.hid (counted_c now (k1.dN (n := n)) (k2.dN (n := n)) hI t1 t2)
  have f0 := free_of g4 0
  have f1 := free_of g4 1
  have f3 := free_of g4 3
  have e2 := cell_of g4 1 (.int .i64 c.a.moves) rfl
  have e3 := cell_of g4 3 (.int .i64 c.a.done) rfl
  refine wp_region_drawn_tail 18 (by kernel_rfl) (by kernel_rfl) ?_
  simp only [List.take_succ_cons, List.take_zero, List.drop_succ_cons, List.drop_zero]
  repeat (go_big_quiet_step (first | (go_at_call 39; exact (cl39 _ _ _ (e5 _)).mono fun _ _ ⟨he, hw⟩ => ⟨he, _, hw.symm⟩) | (go_at_call 42; exact Calls.quiet_of (Hid.out (cc1 _)))))
  refine wpQuiet_nil ?_
  rintro _ ⟨nq, rfl⟩
  go_wp2_with fail
  refine wp_forget (fun V => w.grownBy V none ∧ V.heap.size = w.heap.size + 4 ∧
    V.heap[w.heap.size + 1 + 1 + 1]? = some (.cells #[.int .i64 (c.a.stock + ((c.per L).bonus - c.counted L now)), .int .i64 (wrap64 (c.a.moves + 1)), .int .i64 c.a.period, .int .i64 (wrap64 (c.a.done + 1))] 62 (0, 0))) ⟨?_, ?_, ?_⟩ ?_
  · repeat (first | (with_reducible exact g1) | (with_reducible apply grown_drewN) | (refine grown_setN ?_ (by show _ ≤ _; dsimp only; omega) _))
  · simp [g2]
  · apply blk_at
    · repeat (with_reducible first | exact g4 | apply blk_drewN | apply blk_set)
    · rfl
  rintro V ⟨gV, zV, bV⟩
  have y1 : b < V.heap.size := by omega
  have y2 : L.cb < V.heap.size := by omega
  have y3 : L.pb < V.heap.size := by omega
  have y4 : w.heap.size + 1 + 1 + 1 < V.heap.size := by omega
  have y5 : V.heap.size ≠ b := by omega
  have y6 : V.heap.size ≠ w.heap.size + 1 + 1 + 1 := by omega
  generalize hd1 : wrap64 (c.a.done + 1) = d1 at *
  generalize hm1 : wrap64 (c.a.moves + 1) = m1 at *
  have hn1 : -2199023255552 ≤ c.a.stock + ((c.per L).bonus - c.counted L now) ∧ c.a.stock + ((c.per L).bonus - c.counted L now) ≤ 2199023255552 := by omega
  obtain ⟨x1, x2⟩ := hn1
  have EG : c.a.stock + (c.gain L now - c.counted L now) = c.a.stock + ((c.per L).bonus - c.counted L now) := by simp [Ck.gain, HK.out]; try omega
  generalize hN : c.a.stock + ((c.per L).bonus - c.counted L now) = N at *
  have HE : c.pressed L now = if 0 < (c.per L).moves ∧ d1 = (c.per L).moves then ⟨N + (L.ps.getD (c.a.period + 1) ⟨0, 0, 0⟩).time, m1, c.a.period + 1, 0⟩ else ⟨N, m1, c.a.period, d1⟩ := by
    simp only [Ck.pressed, HS.out, Ck.hand, EG, hd1, hm1]
  clear EG hd1 hm1 hN
  have j0 := (h.grown gV (by simp)).all.1
  have jS : V.cell? ⟨b, 9, none⟩ = some (.int .i64 (sideI false)) := by have := (h.grown gV (by simp)).all; rw [HS.out] at this; exact this.2.2.2.2.2.2.2.2.2.1
  simp only [sideI] at jS
  have j1 : V.cell? ⟨L.cb, 1, none⟩ = some (.slice (some ⟨L.pb, 0, none⟩) L.ps.length L.cap) := gV.cell hk1 (by simp)
  have j2 := gV.cell v1 (by simp)
  have j3 := gV.cell v2 (by simp)
  have j4 := gV.cell v3 (by simp)
  have kV := h.grown gV (by simp)
  have w0 := kV.all.2.1
  have w1 := kV.all.2.2.1
  have w2 := kV.all.2.2.2.1
  have w3 := kV.all.2.2.2.2.1
  have w5 := kV.all.2.2.2.2.2.1
  have w6 := kV.all.2.2.2.2.2.2.1
  have w7 := kV.all.2.2.2.2.2.2.2.1
  have w8 := kV.all.2.2.2.2.2.2.2.2.1
  have w10 := kV.all.2.2.2.2.2.2.2.2.2.2.1
  have w11 := kV.all.2.2.2.2.2.2.2.2.2.2.2.1
  have w12 := kV.all.2.2.2.2.2.2.2.2.2.2.2.2.1
  have r1 := free_of kV 1
  have r2 := free_of kV 2
  have r3 := free_of kV 3
  have r4 := free_of kV 4
  have r5 := free_of kV 5
  have r6 := free_of kV 6
  have r7 := free_of kV 7
  have r8 := free_of kV 8
  have r9 := free_of kV 9
  have r10 := free_of kV 10
  have r11 := free_of kV 11
  have r12 := free_of kV 12
  have l0 := cell_of bV 0 _ rfl
  have l1 := cell_of bV 1 _ rfl
  have l2 : V.cell? ⟨w.heap.size + 1 + 1 + 1, 2, none⟩ = some (.int .i64 c.a.period) := cell_of bV 2 _ rfl
  have l3 := cell_of bV 3 _ rfl
  have u0 := free_of bV 0
  have u2 := free_of bV 2
  have u3 := free_of bV 3
  clear e0 e1 e2 e3 e4 e5 f0 f1 f3 q0 q1 g3 g4 g5 g6 g2 zV bV
  by_cases hm : 0 < (c.per L).moves
  · have HMV2 := HMV.out hm
    by_cases hd : d1 = (c.per L).moves
    · obtain ⟨p', hp'⟩ : ∃ p', L.ps[c.a.period + 1]? = some p' := ⟨_, List.getElem?_eq_getElem HMV2⟩
      obtain ⟨b1, b2, b3, b4, b5, b6⟩ := hI.ps p' (List.mem_of_getElem? hp')
      obtain ⟨_, z2, _⟩ := hL.per _ _ hp'
      have z2 := gV.cell z2 (by simp)
      have HX : c.pressed L now = ⟨N + p'.time, m1, c.a.period + 1, 0⟩ := by rw [HE, if_pos ⟨hm, hd⟩]; simp [hp']
      subst hd
      generalize hT : p'.time = T at *
      have HX := Lib.hid HX
      clear HE hT hp'
      by_cases hF : 1099511627776 < N + T
      · go_region
        go_wp2_with fail
        go_region
        go_wp2
        go_ret
        rw [HP.out, HX.out, if_pos hF]
        refine ⟨rfl, ?_, ?_⟩
        · unfold ClkAt
          repeat (with_reducible first | exact hblk kV | apply blk_drew | apply blk_drewN | apply blk_alloc | (refine blk_other ?_ (by dsimp only; omega) _))
        · repeat (with_reducible first | exact grown_row gV | apply grown_drew | apply grown_drewN | apply grown_alloc | (refine grown_set ?_ (by dsimp only; omega) _))
      · go_region
        go_wp2_with fail
        go_region
        go_wp2_with fail
        go_region
        go_wp2
        go_ret
        rw [HP.out, HX.out, if_neg (Int.not_lt.2 hF), HS.out]
        refine ⟨rfl, ?_, ?_⟩
        · unfold ClkAt
          repeat (with_reducible first | apply blk_drew | apply blk_drewN | apply blk_alloc)
          refine write_a ?_ _ _ _ _ _
          repeat (with_reducible first | exact hblk kV | (refine blk_other ?_ (by dsimp only; omega) _))
        · repeat (with_reducible first | exact grown_row gV | apply grown_drew | apply grown_drewN | apply grown_alloc | (refine grown_set ?_ (by dsimp only; omega) _))
    · have hd' : (d1 == (c.per L).moves) = false := by simpa using hd
      have HX : c.pressed L now = ⟨N, m1, c.a.period, d1⟩ := by rw [HE, if_neg (fun hh => hd hh.2)]
      have HX := Lib.hid HX
      clear HE hd
      by_cases hF : 1099511627776 < N
      · go_region
        go_wp2_with fail
        go_ret
        rw [HP.out, HX.out, if_pos hF]
        refine ⟨rfl, ?_, ?_⟩
        · unfold ClkAt
          repeat (with_reducible first | exact hblk kV | apply blk_drew | apply blk_drewN | apply blk_alloc | (refine blk_other ?_ (by dsimp only; omega) _))
        · repeat (with_reducible first | exact grown_row gV | apply grown_drew | apply grown_drewN | apply grown_alloc | (refine grown_set ?_ (by dsimp only; omega) _))
      · go_region
        go_wp2_with fail
        go_region
        go_wp2
        go_ret
        rw [HP.out, HX.out, if_neg (Int.not_lt.2 hF), HS.out]
        refine ⟨rfl, ?_, ?_⟩
        · unfold ClkAt
          repeat (with_reducible first | apply blk_drew | apply blk_drewN | apply blk_alloc)
          refine write_a ?_ _ _ _ _ _
          repeat (with_reducible first | exact hblk kV | (refine blk_other ?_ (by dsimp only; omega) _))
        · repeat (with_reducible first | exact grown_row gV | apply grown_drew | apply grown_drewN | apply grown_alloc | (refine grown_set ?_ (by dsimp only; omega) _))
  · have HX : c.pressed L now = ⟨N, m1, c.a.period, d1⟩ := by rw [HE, if_neg (fun hh => hm hh.1)]
    have HX := Lib.hid HX
    clear HE
    by_cases hF : 1099511627776 < N
    · go_region
      go_wp2_with fail
      go_ret
      rw [HP.out, HX.out, if_pos hF]
      refine ⟨rfl, ?_, ?_⟩
      · unfold ClkAt
        repeat (with_reducible first | exact hblk kV | apply blk_drew | apply blk_drewN | apply blk_alloc | (refine blk_other ?_ (by dsimp only; omega) _))
      · repeat (with_reducible first | exact grown_row gV | apply grown_drew | apply grown_drewN | apply grown_alloc | (refine grown_set ?_ (by dsimp only; omega) _))
    · go_region
      go_wp2_with fail
      go_region
      go_wp2
      go_ret
      rw [HP.out, HX.out, if_neg (Int.not_lt.2 hF), HS.out]
      refine ⟨rfl, ?_, ?_⟩
      · unfold ClkAt
        repeat (with_reducible first | apply blk_drew | apply blk_drewN | apply blk_alloc)
        refine write_a ?_ _ _ _ _ _
        repeat (with_reducible first | exact hblk kV | (refine blk_other ?_ (by dsimp only; omega) _))
      · repeat (with_reducible first | exact grown_row gV | apply grown_drew | apply grown_drewN | apply grown_alloc | (refine grown_set ?_ (by dsimp only; omega) _))
set_option maxHeartbeats 2000000 in
theorem press_1b {w : World} {b : Nat} {L : Ctl} {c : Ck} (now : Int) (h : ClkAt w b L c) (hL : CtlAt w L) (hI : Inv L c)
    (t1 : c.last ≤ now) (t2 : now ≤ 1099511627776) (ht : c.intime now = true) (hr : c.runs = true) (hf : c.fallen L now = false) (hk : L.k = 1) (hs : c.side = true)
    (hmv : 0 < (c.per L).moves → (c.hand c.side).period + 1 < L.ps.length) :
    Writes 17 #[.pointer (some ⟨b, 0, none⟩), .int .i64 now] w b L (c.press L now) := by
  have hP : c.press L now = if 1099511627776 < (c.pressed L now).stock then (c, 7) else
        ({ c.setHand c.side (c.pressed L now) with side := !c.side, used := 0, since := now, last := now }, 0) := by
    simp [Ck.press, ht, hr, hf]
  have hG : c.gain L now = 1 * 0 + c.gain L now := by simp
  have hat := Ck.per_at hI
  obtain ⟨p1, p2, p3, p4, p5, p6⟩ := per_bd hI
  obtain ⟨s1, s2⟩ := spent_bd now hI t1 t2
  obtain ⟨n1, n2⟩ := counted_bd now hI t1 t2
  obtain ⟨v1, v2, v3⟩ := hL.per _ _ hat
  have i1 := hI.sa0
  have i2 := hI.sa1
  have i3 := hI.sb0
  have i4 := hI.sb1
  have i5 := hI.pa
  have i6 := hI.pb
  have i7 := hL.len
  rw [hs] at hat hmv v1 v2 v3
  simp only [Ck.hand] at hat hmv v1 v2 v3
  unfold Writes
  obtain ⟨h0, h1, h2, h3, h4, h5, h6, h7, h8, h9, h10, h11, h12, h13⟩ := h.all
  have hb : b < w.heap.size := (Array.getElem?_eq_some_iff.1 h).1
  have hcb : L.cb < w.heap.size := (Array.getElem?_eq_some_iff.1 hL.ctl).1
  have hpb : L.pb < w.heap.size := lt_of_cell v1
  have hb1 : b < w.heap.size + 1 := by omega
  have hb2 : b < w.heap.size + 2 := by omega
  have hb3 : b < w.heap.size + 3 := by omega
  have hk0 : w.cell? ⟨L.cb, 0, none⟩ = some (.int .i64 L.k) := cell_of hL.ctl 0 _ rfl
  have hk1 : w.cell? ⟨L.cb, 1, none⟩ = some (.slice (some ⟨L.pb, 0, none⟩) L.ps.length L.cap) := cell_of hL.ctl 1 _ rfl
  have cf := Lib.hid (fallen_c now h hL hI t1 t2)
  have cs := fun n => Lib.hid (spent_c now (h.dN (n := n)) hI t1 t2)
  have cb := fun n => Lib.hid (bonus_c (h.dN (n := n)) (hL.dN (n := n)) hI)
  rw [hf] at cf
  rw [hr] at h13
  rw [hk] at hk0
  rw [hs] at h9
  simp only [sideI] at h9
  have HP := Lib.hid hP
  have HK := Lib.hid hk
  have HS := Lib.hid hs
  have HAT := Lib.hid hat
  have HMV := Lib.hid hmv
  clear hr hf hk hs hP hG hat hmv ht
  try unfold Quiet
  go_enter Try.func17, Try.ntmps17
  go_wp2_with fail
  refine (when_yes now h t1 t2).mono ?_
  rintro e w' ⟨rfl, rfl⟩
  go_wp2_with fail
  refine (cf.out).mono ?_
  rintro e w' ⟨rfl, n, rfl⟩
  go_wp2_with fail
  refine ((cs _).out).mono ?_
  rintro e w' ⟨rfl, n, rfl⟩
  go_wp2_with fail
  refine ((cb _).out).mono ?_
  rintro e w' ⟨rfl, n, rfl⟩
  go_wp2_with fail
  go_region
  go_wp2_with fail
  refine wp_forget (fun W => w.grownBy W none ∧ W.heap.size = w.heap.size + 4 ∧ W.heap[w.heap.size + 1 + 1]? = some (.cells #[.func (.func 38) #[] #[], .func (.func 39) #[] #[.pointer (some ⟨w.heap.size + 1, 0, none⟩)], .func (.func 40) #[] #[], .func (.func 41) #[] #[.pointer (some ⟨w.heap.size, 0, none⟩), .pointer (some ⟨w.heap.size + 1, 0, none⟩)]] 81 (0, 0)) ∧
    W.heap[w.heap.size + 1 + 1 + 1]? = some (.cells #[.int .i64 c.b.stock, .int .i64 c.b.moves, .int .i64 c.b.period, .int .i64 c.b.done] 62 (0, 0)) ∧
    W.heap[w.heap.size]? = some (.cells #[.int .i64 (c.spent now)] 3 (0, 0)) ∧ W.heap[w.heap.size + 1]? = some (.cells #[.int .i64 (c.per L).bonus] 3 (0, 0))) ⟨?_, ?_, ?_, ?_, ?_, ?_⟩ ?_
  · repeat (first | exact grown_refl _ _ | refine grown_drewN ?_ _ | refine grown_drew ?_ | refine grown_set ?_ (.inl rfl) _ | refine grown_alloc ?_ _)
  · simp
  · repeat (first | (refine blk_new ?_ _; simp; done) | with_reducible (apply blk_drewN) | with_reducible (apply blk_drew) | with_reducible (apply blk_alloc))
  · repeat (first | (refine blk_new ?_ _; simp; done) | with_reducible (apply blk_drewN) | with_reducible (apply blk_drew) | with_reducible (apply blk_alloc))
  · repeat (first | (refine blk_new ?_ _; simp; done) | with_reducible (apply blk_drewN) | with_reducible (apply blk_drew) | with_reducible (apply blk_alloc))
  · repeat (first | (refine blk_new ?_ _; simp; done) | with_reducible (apply blk_drewN) | with_reducible (apply blk_drew) | with_reducible (apply blk_alloc))
  rintro W ⟨g1, g2, g3, g4, g5, g6⟩
  have k1 := h.grown g1 (by simp)
  have k2 := hL.grown g1 (by simp) (by simp)
  have e0 := cell_of g3 1 _ rfl
  have e1 := cell_of g4 0 (.int .i64 c.b.stock) rfl
  have e4 := fun n => cell_of (w := W.drewN n) g5 0 (.int .i64 (c.spent now)) rfl
  have e5 := fun n => cell_of (w := W.drewN n) g6 0 (.int .i64 (c.per L).bonus) rfl
  have q0 := k1.all.1
  have q1 : W.cell? ⟨L.cb, 0, none⟩ = some (.int .i64 1) := (g1.cell hk0 (by simp))
  have cc1 := fun n => Lib.hid (counted_c now (k1.dN (n := n)) (k2.dN (n := n)) hI t1 t2)
  have f0 := free_of g4 0
  have f1 := free_of g4 1
  have f3 := free_of g4 3
  have e2 := cell_of g4 1 (.int .i64 c.b.moves) rfl
  have e3 := cell_of g4 3 (.int .i64 c.b.done) rfl
  refine wp_region_drawn_tail 18 (by kernel_rfl) (by kernel_rfl) ?_
  simp only [List.take_succ_cons, List.take_zero, List.drop_succ_cons, List.drop_zero]
  repeat (go_big_quiet_step (first | (go_at_call 39; exact (cl39 _ _ _ (e5 _)).mono fun _ _ ⟨he, hw⟩ => ⟨he, _, hw.symm⟩) | (go_at_call 42; exact Calls.quiet_of (Hid.out (cc1 _)))))
  refine wpQuiet_nil ?_
  rintro _ ⟨nq, rfl⟩
  go_wp2_with fail
  refine wp_forget (fun V => w.grownBy V none ∧ V.heap.size = w.heap.size + 4 ∧
    V.heap[w.heap.size + 1 + 1 + 1]? = some (.cells #[.int .i64 (c.b.stock + ((c.per L).bonus - c.counted L now)), .int .i64 (wrap64 (c.b.moves + 1)), .int .i64 c.b.period, .int .i64 (wrap64 (c.b.done + 1))] 62 (0, 0))) ⟨?_, ?_, ?_⟩ ?_
  · repeat (first | (with_reducible exact g1) | (with_reducible apply grown_drewN) | (refine grown_setN ?_ (by show _ ≤ _; dsimp only; omega) _))
  · simp [g2]
  · apply blk_at
    · repeat (with_reducible first | exact g4 | apply blk_drewN | apply blk_set)
    · rfl
  rintro V ⟨gV, zV, bV⟩
  have y1 : b < V.heap.size := by omega
  have y2 : L.cb < V.heap.size := by omega
  have y3 : L.pb < V.heap.size := by omega
  have y4 : w.heap.size + 1 + 1 + 1 < V.heap.size := by omega
  have y5 : V.heap.size ≠ b := by omega
  have y6 : V.heap.size ≠ w.heap.size + 1 + 1 + 1 := by omega
  generalize hd1 : wrap64 (c.b.done + 1) = d1 at *
  generalize hm1 : wrap64 (c.b.moves + 1) = m1 at *
  have hn1 : -2199023255552 ≤ c.b.stock + ((c.per L).bonus - c.counted L now) ∧ c.b.stock + ((c.per L).bonus - c.counted L now) ≤ 2199023255552 := by omega
  obtain ⟨x1, x2⟩ := hn1
  have EG : c.b.stock + (c.gain L now - c.counted L now) = c.b.stock + ((c.per L).bonus - c.counted L now) := by simp [Ck.gain, HK.out]; try omega
  generalize hN : c.b.stock + ((c.per L).bonus - c.counted L now) = N at *
  have HE : c.pressed L now = if 0 < (c.per L).moves ∧ d1 = (c.per L).moves then ⟨N + (L.ps.getD (c.b.period + 1) ⟨0, 0, 0⟩).time, m1, c.b.period + 1, 0⟩ else ⟨N, m1, c.b.period, d1⟩ := by
    simp only [Ck.pressed, HS.out, Ck.hand, EG, hd1, hm1]
  clear EG hd1 hm1 hN
  have j0 := (h.grown gV (by simp)).all.1
  have jS : V.cell? ⟨b, 9, none⟩ = some (.int .i64 (sideI true)) := by have := (h.grown gV (by simp)).all; rw [HS.out] at this; exact this.2.2.2.2.2.2.2.2.2.1
  simp only [sideI] at jS
  have j1 : V.cell? ⟨L.cb, 1, none⟩ = some (.slice (some ⟨L.pb, 0, none⟩) L.ps.length L.cap) := gV.cell hk1 (by simp)
  have j2 := gV.cell v1 (by simp)
  have j3 := gV.cell v2 (by simp)
  have j4 := gV.cell v3 (by simp)
  have kV := h.grown gV (by simp)
  have w0 := kV.all.2.1
  have w1 := kV.all.2.2.1
  have w2 := kV.all.2.2.2.1
  have w3 := kV.all.2.2.2.2.1
  have w5 := kV.all.2.2.2.2.2.1
  have w6 := kV.all.2.2.2.2.2.2.1
  have w7 := kV.all.2.2.2.2.2.2.2.1
  have w8 := kV.all.2.2.2.2.2.2.2.2.1
  have w10 := kV.all.2.2.2.2.2.2.2.2.2.2.1
  have w11 := kV.all.2.2.2.2.2.2.2.2.2.2.2.1
  have w12 := kV.all.2.2.2.2.2.2.2.2.2.2.2.2.1
  have r1 := free_of kV 1
  have r2 := free_of kV 2
  have r3 := free_of kV 3
  have r4 := free_of kV 4
  have r5 := free_of kV 5
  have r6 := free_of kV 6
  have r7 := free_of kV 7
  have r8 := free_of kV 8
  have r9 := free_of kV 9
  have r10 := free_of kV 10
  have r11 := free_of kV 11
  have r12 := free_of kV 12
  have l0 := cell_of bV 0 _ rfl
  have l1 := cell_of bV 1 _ rfl
  have l2 : V.cell? ⟨w.heap.size + 1 + 1 + 1, 2, none⟩ = some (.int .i64 c.b.period) := cell_of bV 2 _ rfl
  have l3 := cell_of bV 3 _ rfl
  have u0 := free_of bV 0
  have u2 := free_of bV 2
  have u3 := free_of bV 3
  clear e0 e1 e2 e3 e4 e5 f0 f1 f3 q0 q1 g3 g4 g5 g6 g2 zV bV
  by_cases hm : 0 < (c.per L).moves
  · have HMV2 := HMV.out hm
    by_cases hd : d1 = (c.per L).moves
    · obtain ⟨p', hp'⟩ : ∃ p', L.ps[c.b.period + 1]? = some p' := ⟨_, List.getElem?_eq_getElem HMV2⟩
      obtain ⟨b1, b2, b3, b4, b5, b6⟩ := hI.ps p' (List.mem_of_getElem? hp')
      obtain ⟨_, z2, _⟩ := hL.per _ _ hp'
      have z2 := gV.cell z2 (by simp)
      have HX : c.pressed L now = ⟨N + p'.time, m1, c.b.period + 1, 0⟩ := by rw [HE, if_pos ⟨hm, hd⟩]; simp [hp']
      subst hd
      generalize hT : p'.time = T at *
      have HX := Lib.hid HX
      clear HE hT hp'
      by_cases hF : 1099511627776 < N + T
      · go_region
        go_wp2_with fail
        go_region
        go_wp2
        go_ret
        rw [HP.out, HX.out, if_pos hF]
        refine ⟨rfl, ?_, ?_⟩
        · unfold ClkAt
          repeat (with_reducible first | exact hblk kV | apply blk_drew | apply blk_drewN | apply blk_alloc | (refine blk_other ?_ (by dsimp only; omega) _))
        · repeat (with_reducible first | exact grown_row gV | apply grown_drew | apply grown_drewN | apply grown_alloc | (refine grown_set ?_ (by dsimp only; omega) _))
      · go_region
        go_wp2_with fail
        go_region
        go_wp2_with fail
        go_region
        go_wp2
        go_ret
        rw [HP.out, HX.out, if_neg (Int.not_lt.2 hF), HS.out]
        refine ⟨rfl, ?_, ?_⟩
        · unfold ClkAt
          repeat (with_reducible first | apply blk_drew | apply blk_drewN | apply blk_alloc)
          refine write_b ?_ _ _ _ _ _
          repeat (with_reducible first | exact hblk kV | (refine blk_other ?_ (by dsimp only; omega) _))
        · repeat (with_reducible first | exact grown_row gV | apply grown_drew | apply grown_drewN | apply grown_alloc | (refine grown_set ?_ (by dsimp only; omega) _))
    · have hd' : (d1 == (c.per L).moves) = false := by simpa using hd
      have HX : c.pressed L now = ⟨N, m1, c.b.period, d1⟩ := by rw [HE, if_neg (fun hh => hd hh.2)]
      have HX := Lib.hid HX
      clear HE hd
      by_cases hF : 1099511627776 < N
      · go_region
        go_wp2_with fail
        go_ret
        rw [HP.out, HX.out, if_pos hF]
        refine ⟨rfl, ?_, ?_⟩
        · unfold ClkAt
          repeat (with_reducible first | exact hblk kV | apply blk_drew | apply blk_drewN | apply blk_alloc | (refine blk_other ?_ (by dsimp only; omega) _))
        · repeat (with_reducible first | exact grown_row gV | apply grown_drew | apply grown_drewN | apply grown_alloc | (refine grown_set ?_ (by dsimp only; omega) _))
      · go_region
        go_wp2_with fail
        go_region
        go_wp2
        go_ret
        rw [HP.out, HX.out, if_neg (Int.not_lt.2 hF), HS.out]
        refine ⟨rfl, ?_, ?_⟩
        · unfold ClkAt
          repeat (with_reducible first | apply blk_drew | apply blk_drewN | apply blk_alloc)
          refine write_b ?_ _ _ _ _ _
          repeat (with_reducible first | exact hblk kV | (refine blk_other ?_ (by dsimp only; omega) _))
        · repeat (with_reducible first | exact grown_row gV | apply grown_drew | apply grown_drewN | apply grown_alloc | (refine grown_set ?_ (by dsimp only; omega) _))
  · have HX : c.pressed L now = ⟨N, m1, c.b.period, d1⟩ := by rw [HE, if_neg (fun hh => hm hh.1)]
    have HX := Lib.hid HX
    clear HE
    by_cases hF : 1099511627776 < N
    · go_region
      go_wp2_with fail
      go_ret
      rw [HP.out, HX.out, if_pos hF]
      refine ⟨rfl, ?_, ?_⟩
      · unfold ClkAt
        repeat (with_reducible first | exact hblk kV | apply blk_drew | apply blk_drewN | apply blk_alloc | (refine blk_other ?_ (by dsimp only; omega) _))
      · repeat (with_reducible first | exact grown_row gV | apply grown_drew | apply grown_drewN | apply grown_alloc | (refine grown_set ?_ (by dsimp only; omega) _))
    · go_region
      go_wp2_with fail
      go_region
      go_wp2
      go_ret
      rw [HP.out, HX.out, if_neg (Int.not_lt.2 hF), HS.out]
      refine ⟨rfl, ?_, ?_⟩
      · unfold ClkAt
        repeat (with_reducible first | apply blk_drew | apply blk_drewN | apply blk_alloc)
        refine write_b ?_ _ _ _ _ _
        repeat (with_reducible first | exact hblk kV | (refine blk_other ?_ (by dsimp only; omega) _))
      · repeat (with_reducible first | exact grown_row gV | apply grown_drew | apply grown_drewN | apply grown_alloc | (refine grown_set ?_ (by dsimp only; omega) _))
end Go.Proofs.Ytgigehlflgcdpaa
