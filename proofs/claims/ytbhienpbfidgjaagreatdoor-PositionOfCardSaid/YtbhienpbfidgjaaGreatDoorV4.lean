/- Positions: Valid. Conditions: the pieces lie in memory. -/
import Derived.Test.YtbhienpbfidgjaaGreatDoorV3W
import Derived.Test.YtbhienpbfidgjaaGreatDoorV2E
set_option linter.unusedVariables false
set_option linter.unusedSimpArgs false
namespace Go.Proofs.YtbhienpbfidgjaaGreatDoor
open Go.RowKit
set_option maxRecDepth 100000 in
set_option maxHeartbeats 4000000 in
theorem passes_c (w : World) (p : Pos) (po : Option Addr) (cap : Nat) (hP : PosAt w p po cap) (hv : bvalid p.f p.r p.ps = true) :
    Pure 61 #[.agg (p.cells po cap)] w (.bool p.passes) := by
  cases hpn : (p.passant == -1)
  · have e : p.passes = (if p.black then p.passup p.f 2 else p.passup (-p.f) (p.r - 3)) := by unfold Pos.passes; rw [hpn]; rfl
    rw [e]
    cases hb : p.black
    · exact passW w p po cap hP hv hpn hb
    · exact passB w p po cap hP hv hpn hb
  have e : p.passes = true := by unfold Pos.passes; rw [hpn]; rfl
  rw [e]
  have e1 : p.passant = -1 := by simpa using hpn
  obtain ⟨f, r, ps, black, castle, passant, half, full⟩ := p
  dsimp only [Pos.cells] at *
  subst e1
  clear hP hv e hpn
  generalize ps.length = n
  obtain ⟨W, hW⟩ : ∃ W, w.alloc (.cells #[.int .i64 f, .int .i64 r, .slice po n cap, .bool black, .int .u8 castle, .int .i64 (-1), .int .i64 half, .int .i64 full] 26) = W := ⟨_, rfl⟩
  have hX : W.heap[w.heap.size]? = some (.cells #[.int .i64 f, .int .i64 r, .slice po n cap, .bool black, .int .u8 castle, .int .i64 (-1), .int .i64 half, .int .i64 full] 26 (0, 0)) := by rw [← hW]; exact blk_new rfl _
  have hB : Below w.heap.size w W := by rw [← hW]; exact (Below.refl _ _).alloc (Nat.le_refl _) _
  have y5 := cell_of hX 5 _ rfl
  unfold Pure
  go_enter Tryz.func61, Tryz.ntmps61
  go_wp2
  go_ret
  exact ⟨by simp, hB⟩
set_option maxHeartbeats 1000000 in
theorem cond1 (w : World) (b : Nat) (p : Pos) (po : Option Addr) (cap : Nat) (v : Bool) (hX : PosBox w b p po cap) (h : ∀ W, Below w.heap.size w W → Pure 53 #[bdV p.f p.r po p.ps.length cap] W (.bool v)) : Pure 52 #[.pointer (some ⟨b, 0, none⟩)] w (.bool v) := by
  obtain ⟨y0, y1, y2, y3, y4, y5, y6, y7⟩ := hX.all
  obtain ⟨f, r, ps, black, castle, passant, half, full⟩ := p
  dsimp only [Pos.cells, bdV] at *
  generalize ps.length = n at *
  replace h := fun W hw => Lib.hid (h W hw)
  replace hX := Lib.hid hX
  unfold Pure
  go_enter Tryz.func52, Tryz.ntmps52
  go_wp2_with fail
  refine (h _ ?_).out.mono ?_
  · repeat (first | (with_reducible assumption) | (with_reducible exact Below.refl _ _) | (with_reducible apply below_drewN) | (with_reducible apply Below.drew) | (with_reducible apply Below.alloc) | (with_reducible apply Below.setCell))
    all_goals first | omega | (dsimp only; omega) | (simp; done) | (simp; omega)
  rintro e V ⟨rfl, hV⟩
  go_wp2
  go_ret
  refine ⟨ret_bool rfl, ?_⟩
  refine Below.trans ?_ (hV.mono ?_)
  · repeat (first | (with_reducible assumption) | (with_reducible exact Below.refl _ _) | (with_reducible apply below_drewN) | (with_reducible apply Below.drew) | (with_reducible apply Below.alloc) | (with_reducible apply Below.setCell))
    all_goals first | omega | (dsimp only; omega) | (simp; done) | (simp; omega)
  · simp
set_option maxHeartbeats 1000000 in
theorem cond2 (w : World) (b : Nat) (p : Pos) (po : Option Addr) (cap : Nat) (v : Bool) (hX : PosBox w b p po cap) (h : ∀ W, Below w.heap.size w W → Pure 55 #[.agg (p.cells po cap)] W (.bool v)) : Pure 54 #[.pointer (some ⟨b, 0, none⟩)] w (.bool v) := by
  obtain ⟨y0, y1, y2, y3, y4, y5, y6, y7⟩ := hX.all
  obtain ⟨f, r, ps, black, castle, passant, half, full⟩ := p
  dsimp only [Pos.cells, bdV] at *
  generalize ps.length = n at *
  replace h := fun W hw => Lib.hid (h W hw)
  replace hX := Lib.hid hX
  unfold Pure
  go_enter Tryz.func54, Tryz.ntmps54
  go_wp2_with fail
  refine (h _ ?_).out.mono ?_
  · repeat (first | (with_reducible assumption) | (with_reducible exact Below.refl _ _) | (with_reducible apply below_drewN) | (with_reducible apply Below.drew) | (with_reducible apply Below.alloc) | (with_reducible apply Below.setCell))
    all_goals first | omega | (dsimp only; omega) | (simp; done) | (simp; omega)
  rintro e V ⟨rfl, hV⟩
  go_wp2
  go_ret
  refine ⟨ret_bool rfl, ?_⟩
  refine Below.trans ?_ (hV.mono ?_)
  · repeat (first | (with_reducible assumption) | (with_reducible exact Below.refl _ _) | (with_reducible apply below_drewN) | (with_reducible apply Below.drew) | (with_reducible apply Below.alloc) | (with_reducible apply Below.setCell))
    all_goals first | omega | (dsimp only; omega) | (simp; done) | (simp; omega)
  · simp
set_option maxHeartbeats 1000000 in
theorem cond3 (w : World) (b : Nat) (p : Pos) (po : Option Addr) (cap : Nat) (v : Bool) (hX : PosBox w b p po cap) (h : ∀ W, Below w.heap.size w W → Pure 57 #[.agg (p.cells po cap)] W (.bool v)) : Pure 56 #[.pointer (some ⟨b, 0, none⟩)] w (.bool v) := by
  obtain ⟨y0, y1, y2, y3, y4, y5, y6, y7⟩ := hX.all
  obtain ⟨f, r, ps, black, castle, passant, half, full⟩ := p
  dsimp only [Pos.cells, bdV] at *
  generalize ps.length = n at *
  replace h := fun W hw => Lib.hid (h W hw)
  replace hX := Lib.hid hX
  unfold Pure
  go_enter Tryz.func56, Tryz.ntmps56
  go_wp2_with fail
  refine (h _ ?_).out.mono ?_
  · repeat (first | (with_reducible assumption) | (with_reducible exact Below.refl _ _) | (with_reducible apply below_drewN) | (with_reducible apply Below.drew) | (with_reducible apply Below.alloc) | (with_reducible apply Below.setCell))
    all_goals first | omega | (dsimp only; omega) | (simp; done) | (simp; omega)
  rintro e V ⟨rfl, hV⟩
  go_wp2
  go_ret
  refine ⟨ret_bool rfl, ?_⟩
  refine Below.trans ?_ (hV.mono ?_)
  · repeat (first | (with_reducible assumption) | (with_reducible exact Below.refl _ _) | (with_reducible apply below_drewN) | (with_reducible apply Below.drew) | (with_reducible apply Below.alloc) | (with_reducible apply Below.setCell))
    all_goals first | omega | (dsimp only; omega) | (simp; done) | (simp; omega)
  · simp
set_option maxHeartbeats 1000000 in
theorem cond4 (w : World) (b : Nat) (p : Pos) (po : Option Addr) (cap : Nat) (v : Bool) (hX : PosBox w b p po cap) (h : ∀ W, Below w.heap.size w W → Pure 59 #[.agg (p.cells po cap)] W (.bool v)) : Pure 58 #[.pointer (some ⟨b, 0, none⟩)] w (.bool v) := by
  obtain ⟨y0, y1, y2, y3, y4, y5, y6, y7⟩ := hX.all
  obtain ⟨f, r, ps, black, castle, passant, half, full⟩ := p
  dsimp only [Pos.cells, bdV] at *
  generalize ps.length = n at *
  replace h := fun W hw => Lib.hid (h W hw)
  replace hX := Lib.hid hX
  unfold Pure
  go_enter Tryz.func58, Tryz.ntmps58
  go_wp2_with fail
  refine (h _ ?_).out.mono ?_
  · repeat (first | (with_reducible assumption) | (with_reducible exact Below.refl _ _) | (with_reducible apply below_drewN) | (with_reducible apply Below.drew) | (with_reducible apply Below.alloc) | (with_reducible apply Below.setCell))
    all_goals first | omega | (dsimp only; omega) | (simp; done) | (simp; omega)
  rintro e V ⟨rfl, hV⟩
  go_wp2
  go_ret
  refine ⟨ret_bool rfl, ?_⟩
  refine Below.trans ?_ (hV.mono ?_)
  · repeat (first | (with_reducible assumption) | (with_reducible exact Below.refl _ _) | (with_reducible apply below_drewN) | (with_reducible apply Below.drew) | (with_reducible apply Below.alloc) | (with_reducible apply Below.setCell))
    all_goals first | omega | (dsimp only; omega) | (simp; done) | (simp; omega)
  · simp
set_option maxHeartbeats 1000000 in
theorem cond5 (w : World) (b : Nat) (p : Pos) (po : Option Addr) (cap : Nat) (v : Bool) (hX : PosBox w b p po cap) (h : ∀ W, Below w.heap.size w W → Pure 61 #[.agg (p.cells po cap)] W (.bool v)) : Pure 60 #[.pointer (some ⟨b, 0, none⟩)] w (.bool v) := by
  obtain ⟨y0, y1, y2, y3, y4, y5, y6, y7⟩ := hX.all
  obtain ⟨f, r, ps, black, castle, passant, half, full⟩ := p
  dsimp only [Pos.cells, bdV] at *
  generalize ps.length = n at *
  replace h := fun W hw => Lib.hid (h W hw)
  replace hX := Lib.hid hX
  unfold Pure
  go_enter Tryz.func60, Tryz.ntmps60
  go_wp2_with fail
  refine (h _ ?_).out.mono ?_
  · repeat (first | (with_reducible assumption) | (with_reducible exact Below.refl _ _) | (with_reducible apply below_drewN) | (with_reducible apply Below.drew) | (with_reducible apply Below.alloc) | (with_reducible apply Below.setCell))
    all_goals first | omega | (dsimp only; omega) | (simp; done) | (simp; omega)
  rintro e V ⟨rfl, hV⟩
  go_wp2
  go_ret
  refine ⟨ret_bool rfl, ?_⟩
  refine Below.trans ?_ (hV.mono ?_)
  · repeat (first | (with_reducible assumption) | (with_reducible exact Below.refl _ _) | (with_reducible apply below_drewN) | (with_reducible apply Below.drew) | (with_reducible apply Below.alloc) | (with_reducible apply Below.setCell))
    all_goals first | omega | (dsimp only; omega) | (simp; done) | (simp; omega)
  · simp
def Pos.cond (p : Pos) (k : Nat) : Bool := match k with
  | 0 => bvalid p.f p.r p.ps
  | 1 => p.kings
  | 2 => p.pawns
  | 3 => p.castles
  | 4 => p.passes
  | _ => p.counts
def Pos.valid (p : Pos) : Bool := bvalid p.f p.r p.ps && p.kings && p.pawns && p.castles && p.passes && p.counts
theorem Pos.valid_t {p : Pos} (h : ∀ j < 6, p.cond j = true) : p.valid = true := by
  unfold Pos.valid
  rw [show bvalid p.f p.r p.ps = true from h 0 (by decide), show p.kings = true from h 1 (by decide), show p.pawns = true from h 2 (by decide), show p.castles = true from h 3 (by decide), show p.passes = true from h 4 (by decide), show p.counts = true from h 5 (by decide)]
  rfl
theorem Pos.valid_f {p : Pos} {k : Nat} (hk : k < 6) (h : p.cond k = false) : p.valid = false := by
  unfold Pos.valid
  rcases (by omega : k = 0 ∨ k = 1 ∨ k = 2 ∨ k = 3 ∨ k = 4 ∨ k = 5) with rfl | rfl | rfl | rfl | rfl | rfl <;> (simp only [Pos.cond] at h; simp [h])
def condF (k : Nat) : FuncId := match k with
  | 0 => 52
  | 1 => 54
  | 2 => 56
  | 3 => 58
  | 4 => 60
  | _ => 62
set_option maxHeartbeats 4000000 in
theorem valid_g (w : World) (p : Pos) (po : Option Addr) (cap : Nat)
    (hc : ∀ k < 6, (∀ j < k, p.cond j = true) → ∀ W, Below w.heap.size w W → PosBox W w.heap.size p po cap → Pure (condF k) #[.pointer (some ⟨w.heap.size, 0, none⟩)] W (.bool (p.cond k))) :
    Pure 18 #[.agg (p.cells po cap)] w (.bool p.valid) := by
  obtain ⟨cs, hcs⟩ : ∃ cs, p.cells po cap = cs := ⟨_, rfl⟩
  unfold PosBox at hc
  rw [hcs] at hc ⊢
  obtain ⟨B, hBe⟩ : ∃ B, w.heap.size = B := ⟨_, rfl⟩
  subst hBe
  replace hc := Lib.hid hc
  obtain ⟨fs, hfs⟩ : ∃ fs : Array Value, #[.func (.func 52) #[] #[.pointer (some ⟨w.heap.size, 0, none⟩)], .func (.func 54) #[] #[.pointer (some ⟨w.heap.size, 0, none⟩)], .func (.func 56) #[] #[.pointer (some ⟨w.heap.size, 0, none⟩)], .func (.func 58) #[] #[.pointer (some ⟨w.heap.size, 0, none⟩)], .func (.func 60) #[] #[.pointer (some ⟨w.heap.size, 0, none⟩)], .func (.func 62) #[] #[.pointer (some ⟨w.heap.size, 0, none⟩)]] = fs := ⟨_, rfl⟩
  unfold Pure
  go_enter Tryz.func18, Tryz.ntmps18
  go_wp2_with fail
  go_loopw [15] (fun i wr => ∃ k : Nat, k ≤ 6 ∧ i = .int .i64 k ∧ (∀ j < k, p.cond j = true) ∧ wr.heap[w.heap.size]? = some (.cells cs 26 (0, 0)) ∧ (∃ ty, wr.heap[w.heap.size + 1]? = some (.cells fs ty (0, 0))) ∧ Below w.heap.size w wr) (fun i _ => 6 - (intOf i).toNat)
  case atStart =>
    refine ⟨0, by omega, rfl, fun j h => absurd h (by omega), ?_⟩
    refine ⟨below_blk ((Below.refl _ _).alloc (Nat.le_refl _) _) (blk_new rfl _), ⟨_, blk_new (by simp) _⟩, ?_⟩
    repeat (first | (with_reducible assumption) | (with_reducible exact Below.refl _ _) | (with_reducible apply below_drewN) | (with_reducible apply Below.drew) | (with_reducible apply Below.alloc) | (with_reducible apply Below.setCell))
    all_goals first | omega | (dsimp only; omega) | (simp; done) | (simp; omega)
  case round =>
    obtain ⟨k, hk, rfl, hup, hXr, ⟨ty, hFr⟩, hBr⟩ := hrel
    replace hup := Lib.hid hup
    replace hXr := Lib.hid hXr
    have z0 := cell_of (hfs ▸ hFr) 0 _ rfl
    have z1 := cell_of (hfs ▸ hFr) 1 _ rfl
    have z2 := cell_of (hfs ▸ hFr) 2 _ rfl
    have z3 := cell_of (hfs ▸ hFr) 3 _ rfl
    have z4 := cell_of (hfs ▸ hFr) 4 _ rfl
    have z5 := cell_of (hfs ▸ hFr) 5 _ rfl
    replace hFr := Lib.hid (⟨ty, hFr⟩ : ∃ ty, wr.heap[w.heap.size + 1]? = some (.cells fs ty (0, 0)))
    replace hfs := Lib.hid hfs
    replace hBr := Lib.hid hBr
    replace hc := hc.out
    rcases (by omega : k = 0 ∨ k = 1 ∨ k = 2 ∨ k = 3 ∨ k = 4 ∨ k = 5 ∨ k = 6) with rfl | rfl | rfl | rfl | rfl | rfl | rfl
    · obtain ⟨v, hv⟩ : ∃ v, p.cond 0 = v := ⟨_, rfl⟩
      have hk := fun W hB hX => Lib.hid (hc 0 (by decide) hup.out W hB hX)
      simp only [condF] at hk
      rw [hv] at hk
      cases v
      · have hfin : Hid (p.valid = false) := Lib.hid (Pos.valid_f (by decide) hv)
        replace hv := Lib.hid hv
        go_wp2_with fail
        refine (hk _ hBr.out hXr.out).out.mono ?_
        rintro e V ⟨rfl, hV⟩
        go_wp2
        go_ret
        exact ⟨ret_bool hfin.out.symm, hBr.out.trans (hV.mono hBr.out.size)⟩
      · have hnext : Hid (∀ j < 0 + 1, p.cond j = true) := Lib.hid (fun j hj => by
          by_cases e : j = 0
          · rw [e]; exact hv
          · exact hup.out j (by omega))
        replace hv := Lib.hid hv
        go_wp2_with fail
        refine (hk _ hBr.out hXr.out).out.mono ?_
        rintro e V ⟨rfl, hV⟩
        have hX' := Lib.hid (below_blk hV hXr.out)
        have hF' := Lib.hid (hFr.out.elim fun ty h => (⟨ty, below_blk hV h⟩ : ∃ ty, V.heap[w.heap.size + 1]? = some (.cells fs ty (0, 0))))
        have hB' := Lib.hid (hBr.out.trans (hV.mono hBr.out.size))
        go_wp2_with fail
        go_roundw
        case rel => exact ⟨0 + 1, by omega, by simp, hnext.out, hX'.out, hF'.out, hB'.out⟩
        case measure => simp [intOf]
    · obtain ⟨v, hv⟩ : ∃ v, p.cond 1 = v := ⟨_, rfl⟩
      have hk := fun W hB hX => Lib.hid (hc 1 (by decide) hup.out W hB hX)
      simp only [condF] at hk
      rw [hv] at hk
      cases v
      · have hfin : Hid (p.valid = false) := Lib.hid (Pos.valid_f (by decide) hv)
        replace hv := Lib.hid hv
        go_wp2_with fail
        refine (hk _ hBr.out hXr.out).out.mono ?_
        rintro e V ⟨rfl, hV⟩
        go_wp2
        go_ret
        exact ⟨ret_bool hfin.out.symm, hBr.out.trans (hV.mono hBr.out.size)⟩
      · have hnext : Hid (∀ j < 1 + 1, p.cond j = true) := Lib.hid (fun j hj => by
          by_cases e : j = 1
          · rw [e]; exact hv
          · exact hup.out j (by omega))
        replace hv := Lib.hid hv
        go_wp2_with fail
        refine (hk _ hBr.out hXr.out).out.mono ?_
        rintro e V ⟨rfl, hV⟩
        have hX' := Lib.hid (below_blk hV hXr.out)
        have hF' := Lib.hid (hFr.out.elim fun ty h => (⟨ty, below_blk hV h⟩ : ∃ ty, V.heap[w.heap.size + 1]? = some (.cells fs ty (0, 0))))
        have hB' := Lib.hid (hBr.out.trans (hV.mono hBr.out.size))
        go_wp2_with fail
        go_roundw
        case rel => exact ⟨1 + 1, by omega, by simp, hnext.out, hX'.out, hF'.out, hB'.out⟩
        case measure => simp [intOf]
    · obtain ⟨v, hv⟩ : ∃ v, p.cond 2 = v := ⟨_, rfl⟩
      have hk := fun W hB hX => Lib.hid (hc 2 (by decide) hup.out W hB hX)
      simp only [condF] at hk
      rw [hv] at hk
      cases v
      · have hfin : Hid (p.valid = false) := Lib.hid (Pos.valid_f (by decide) hv)
        replace hv := Lib.hid hv
        go_wp2_with fail
        refine (hk _ hBr.out hXr.out).out.mono ?_
        rintro e V ⟨rfl, hV⟩
        go_wp2
        go_ret
        exact ⟨ret_bool hfin.out.symm, hBr.out.trans (hV.mono hBr.out.size)⟩
      · have hnext : Hid (∀ j < 2 + 1, p.cond j = true) := Lib.hid (fun j hj => by
          by_cases e : j = 2
          · rw [e]; exact hv
          · exact hup.out j (by omega))
        replace hv := Lib.hid hv
        go_wp2_with fail
        refine (hk _ hBr.out hXr.out).out.mono ?_
        rintro e V ⟨rfl, hV⟩
        have hX' := Lib.hid (below_blk hV hXr.out)
        have hF' := Lib.hid (hFr.out.elim fun ty h => (⟨ty, below_blk hV h⟩ : ∃ ty, V.heap[w.heap.size + 1]? = some (.cells fs ty (0, 0))))
        have hB' := Lib.hid (hBr.out.trans (hV.mono hBr.out.size))
        go_wp2_with fail
        go_roundw
        case rel => exact ⟨2 + 1, by omega, by simp, hnext.out, hX'.out, hF'.out, hB'.out⟩
        case measure => simp [intOf]
    · obtain ⟨v, hv⟩ : ∃ v, p.cond 3 = v := ⟨_, rfl⟩
      have hk := fun W hB hX => Lib.hid (hc 3 (by decide) hup.out W hB hX)
      simp only [condF] at hk
      rw [hv] at hk
      cases v
      · have hfin : Hid (p.valid = false) := Lib.hid (Pos.valid_f (by decide) hv)
        replace hv := Lib.hid hv
        go_wp2_with fail
        refine (hk _ hBr.out hXr.out).out.mono ?_
        rintro e V ⟨rfl, hV⟩
        go_wp2
        go_ret
        exact ⟨ret_bool hfin.out.symm, hBr.out.trans (hV.mono hBr.out.size)⟩
      · have hnext : Hid (∀ j < 3 + 1, p.cond j = true) := Lib.hid (fun j hj => by
          by_cases e : j = 3
          · rw [e]; exact hv
          · exact hup.out j (by omega))
        replace hv := Lib.hid hv
        go_wp2_with fail
        refine (hk _ hBr.out hXr.out).out.mono ?_
        rintro e V ⟨rfl, hV⟩
        have hX' := Lib.hid (below_blk hV hXr.out)
        have hF' := Lib.hid (hFr.out.elim fun ty h => (⟨ty, below_blk hV h⟩ : ∃ ty, V.heap[w.heap.size + 1]? = some (.cells fs ty (0, 0))))
        have hB' := Lib.hid (hBr.out.trans (hV.mono hBr.out.size))
        go_wp2_with fail
        go_roundw
        case rel => exact ⟨3 + 1, by omega, by simp, hnext.out, hX'.out, hF'.out, hB'.out⟩
        case measure => simp [intOf]
    · obtain ⟨v, hv⟩ : ∃ v, p.cond 4 = v := ⟨_, rfl⟩
      have hk := fun W hB hX => Lib.hid (hc 4 (by decide) hup.out W hB hX)
      simp only [condF] at hk
      rw [hv] at hk
      cases v
      · have hfin : Hid (p.valid = false) := Lib.hid (Pos.valid_f (by decide) hv)
        replace hv := Lib.hid hv
        go_wp2_with fail
        refine (hk _ hBr.out hXr.out).out.mono ?_
        rintro e V ⟨rfl, hV⟩
        go_wp2
        go_ret
        exact ⟨ret_bool hfin.out.symm, hBr.out.trans (hV.mono hBr.out.size)⟩
      · have hnext : Hid (∀ j < 4 + 1, p.cond j = true) := Lib.hid (fun j hj => by
          by_cases e : j = 4
          · rw [e]; exact hv
          · exact hup.out j (by omega))
        replace hv := Lib.hid hv
        go_wp2_with fail
        refine (hk _ hBr.out hXr.out).out.mono ?_
        rintro e V ⟨rfl, hV⟩
        have hX' := Lib.hid (below_blk hV hXr.out)
        have hF' := Lib.hid (hFr.out.elim fun ty h => (⟨ty, below_blk hV h⟩ : ∃ ty, V.heap[w.heap.size + 1]? = some (.cells fs ty (0, 0))))
        have hB' := Lib.hid (hBr.out.trans (hV.mono hBr.out.size))
        go_wp2_with fail
        go_roundw
        case rel => exact ⟨4 + 1, by omega, by simp, hnext.out, hX'.out, hF'.out, hB'.out⟩
        case measure => simp [intOf]
    · obtain ⟨v, hv⟩ : ∃ v, p.cond 5 = v := ⟨_, rfl⟩
      have hk := fun W hB hX => Lib.hid (hc 5 (by decide) hup.out W hB hX)
      simp only [condF] at hk
      rw [hv] at hk
      cases v
      · have hfin : Hid (p.valid = false) := Lib.hid (Pos.valid_f (by decide) hv)
        replace hv := Lib.hid hv
        go_wp2_with fail
        refine (hk _ hBr.out hXr.out).out.mono ?_
        rintro e V ⟨rfl, hV⟩
        go_wp2
        go_ret
        exact ⟨ret_bool hfin.out.symm, hBr.out.trans (hV.mono hBr.out.size)⟩
      · have hnext : Hid (∀ j < 5 + 1, p.cond j = true) := Lib.hid (fun j hj => by
          by_cases e : j = 5
          · rw [e]; exact hv
          · exact hup.out j (by omega))
        replace hv := Lib.hid hv
        go_wp2_with fail
        refine (hk _ hBr.out hXr.out).out.mono ?_
        rintro e V ⟨rfl, hV⟩
        have hX' := Lib.hid (below_blk hV hXr.out)
        have hF' := Lib.hid (hFr.out.elim fun ty h => (⟨ty, below_blk hV h⟩ : ∃ ty, V.heap[w.heap.size + 1]? = some (.cells fs ty (0, 0))))
        have hB' := Lib.hid (hBr.out.trans (hV.mono hBr.out.size))
        go_wp2_with fail
        go_roundw
        case rel => exact ⟨5 + 1, by omega, by simp, hnext.out, hX'.out, hF'.out, hB'.out⟩
        case measure => simp [intOf]
    · have hfin := Lib.hid (Pos.valid_t hup.out)
      go_wp2
      go_ret
      exact ⟨ret_bool hfin.out.symm, hBr.out⟩
theorem valid_c (w : World) (p : Pos) (po : Option Addr) (cap : Nat) (hP : PosAt w p po cap) (hfull : w.cell? ⟨0, 0, none⟩ = some (.int .i64 8) ∧ w.cell? ⟨0, 1, none⟩ = some (.int .i64 8)) :
    Pure 18 #[.agg (p.cells po cap)] w (.bool p.valid) :=
  valid_g w p po cap fun k hk hj W hB hX => by
    have hP' := fun V (hV : Below W.heap.size W V) => hP.below (hB.trans (hV.mono hB.size))
    have hf' := fun V (hV : Below W.heap.size W V) => (⟨below_at (hB.trans (hV.mono hB.size)) hfull.1, below_at (hB.trans (hV.mono hB.size)) hfull.2⟩ : V.cell? ⟨0, 0, none⟩ = some (.int .i64 8) ∧ V.cell? ⟨0, 1, none⟩ = some (.int .i64 8))
    rcases (by omega : k = 0 ∨ k = 1 ∨ k = 2 ∨ k = 3 ∨ k = 4 ∨ k = 5) with rfl | rfl | rfl | rfl | rfl | rfl
    · exact cond1 W _ p po cap _ hX fun V hV => bvalid_c V p.f p.r p.ps po cap (hP' V hV).slc hP.len
    · exact cond2 W _ p po cap _ hX fun V hV => kings_c V p po cap (hP' V hV)
    · exact cond3 W _ p po cap _ hX fun V hV => pawns_c V p po cap (hP' V hV) (hj 0 (by decide))
    · exact cond4 W _ p po cap _ hX fun V hV => castles_c V p po cap (hP' V hV) (hj 0 (by decide)) (hf' V hV)
    · exact cond5 W _ p po cap _ hX fun V hV => passes_c V p po cap (hP' V hV) (hj 0 (by decide))
    · exact counts_c W _ p po cap hX
end Go.Proofs.YtbhienpbfidgjaaGreatDoor
