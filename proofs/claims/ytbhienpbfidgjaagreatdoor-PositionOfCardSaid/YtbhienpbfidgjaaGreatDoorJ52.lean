/- The reference: the square behind a pawn. Conditions: numbers within bounds, as in each theorem. The reference: which positions are valid. Conditions: as in each theorem. Boards and positions of the reference compared. Conditions: at most 1000 pieces, which lie in memory. Positions compared, by the reference and by the package. Conditions: at most 1000 pieces, which lie in memory. The reference: which positions are valid, where the kings are in place. Conditions: as in each theorem. The plain law: the package's attacks are those of the reference. Conditions: squares of a board of a valid size. The plain law: the package's sliding pieces are those of the reference. Conditions: squares of a board of a valid size. The plain law: kings, check and pawns of the reference. Conditions: as in each theorem. The reference: which positions are valid; the plain law: those are the positions the package calls valid. Conditions: as in each theorem. The examples of the chapter on positions hold. Conditions: the library as said; the tables lie in memory. Old contracts as contracts on plain data, and back. Conditions: as in each theorem. The package's Parse, Text, Valid and Start on plain data; the examples of the chapter. Conditions: the library as said; the tables lie in memory. The law on positions of a board, on plain data. Conditions: the library as said; the tables lie in memory. A board as an argument, opened. Conditions: the argument reads as data. -/
import Derived.Test.YtbhienpbfidgjaaGreatDoorJ51
import Derived.Test.YtbhienpbfidgjaaGreatDoorV4
import Derived.Test.YtbhienpbfidgjaaGreatDoorH0
import Derived.Test.YtbhienpbfidgjaaGreatDoorJ1
set_option linter.unusedVariables false
set_option linter.unusedSimpArgs false
namespace Go.Proofs.YtbhienpbfidgjaaGreatDoor
open Go.RowKit
section
theorem num_at {f r F y : Int} (h1 : 0 ≤ F) (h2 : F < f) (h3 : 0 ≤ y) (h4 : y < r) : numI f r F y = y * f + F := by
  unfold numI
  rw [if_pos (by unfold onB; simp; omega)]
theorem rpass_early (w : World) (p : Pos) (po : Option Addr) (cap : Nat) (hpn : p.passant ≠ -1) (h : p.r < 6 ∨ p.half ≠ 0 ∨ vsq p.f p.r p.passant = false) : Pure 70 #[.agg (p.cells po cap)] w (.bool false) := by
  obtain ⟨B, hBe⟩ : ∃ B, w.heap.size = B := ⟨_, rfl⟩
  have c1 := fun W => Lib.hid (rsq_c W p.f p.r p.passant)
  unfold Pos.cells Pure
  rw [hBe]
  generalize p.ps.length = n
  have hp1 : (p.passant == -1) = false := by simpa using hpn
  generalize p.passant = pa at *
  generalize p.r = r at *
  generalize p.half = ha at *
  clear hpn
  by_cases h6 : r < 6
  · clear c1 h
    go_enter Tryz.func70, Tryz.ntmps70
    go_wp2
    go_ret
    refine ⟨rfl, ?_⟩
    repeat (first | (with_reducible assumption) | (with_reducible exact Below.refl _ _) | (with_reducible apply below_drewN) | (with_reducible apply Below.drew) | (with_reducible apply Below.alloc) | (with_reducible apply Below.setCell))
    all_goals first | omega | (dsimp only; omega) | (simp; done) | (simp; omega)
  · by_cases h0 : ha = 0
    · have hvf : vsq p.f r pa = false := by
        rcases h with h | h | h
        · exact absurd h h6
        · exact absurd h0 h
        · exact h
      rw [hvf] at c1
      have h02 : (ha != 0) = false := by simpa using h0
      replace h0 := Lib.hid h0
      replace hvf := Lib.hid hvf
      clear h
      go_enter Tryz.func70, Tryz.ntmps70
      go_wp2_with fail
      refine start1Bc hBe ?_
      intro V hN hX x
      have y0 := fun z : Ext V.heap.size V => cell_of (below_blk z.2 (hN).out) 0 _ rfl
      have y1 := fun z : Ext V.heap.size V => cell_of (below_blk z.2 (hN).out) 1 _ rfl
      have y2 := fun z : Ext V.heap.size V => cell_of (below_blk z.2 (hN).out) 2 _ rfl
      have y3 := fun z : Ext V.heap.size V => cell_of (below_blk z.2 (hN).out) 3 _ rfl
      have y4 := fun z : Ext V.heap.size V => cell_of (below_blk z.2 (hN).out) 4 _ rfl
      have y5 := fun z : Ext V.heap.size V => cell_of (below_blk z.2 (hN).out) 5 _ rfl
      have y6 := fun z : Ext V.heap.size V => cell_of (below_blk z.2 (hN).out) 6 _ rfl
      have y7 := fun z : Ext V.heap.size V => cell_of (below_blk z.2 (hN).out) 7 _ rfl
      refine (Pure.st (c1 _).out).mono ?_
      rintro e _ ⟨rfl, x, rfl⟩
      go_wp2_with fail
      go_ret
      exact ⟨rfl, (hX.out x).1⟩
    · have h02 : (ha != 0) = true := by simpa using h0
      clear c1 h h0
      go_enter Tryz.func70, Tryz.ntmps70
      go_wp2
      go_ret
      refine ⟨rfl, ?_⟩
      repeat (first | (with_reducible assumption) | (with_reducible exact Below.refl _ _) | (with_reducible apply below_drewN) | (with_reducible apply Below.drew) | (with_reducible apply Below.alloc) | (with_reducible apply Below.setCell))
      all_goals first | omega | (dsimp only; omega) | (simp; done) | (simp; omega)
theorem rpass_none (w : World) (p : Pos) (po : Option Addr) (cap : Nat) (hpn : p.passant = -1) : Pure 70 #[.agg (p.cells po cap)] w (.bool true) := by
  unfold Pos.cells
  generalize p.ps.length = n
  rw [hpn]
  clear hpn
  unfold Pure
  go_enter Tryz.func70, Tryz.ntmps70
  go_wp2
  go_ret
  refine ⟨rfl, ?_⟩
  repeat (first | (with_reducible assumption) | (with_reducible exact Below.refl _ _) | (with_reducible apply below_drewN) | (with_reducible apply Below.drew) | (with_reducible apply Below.alloc) | (with_reducible apply Below.setCell))
  all_goals first | omega | (dsimp only; omega) | (simp; done) | (simp; omega)
def passLate (p : Pos) : Bool :=
  let sec := if p.black then 1 else p.r - 2
  let fou := if p.black then 3 else p.r - 4
  (2 * (p.passant / p.f) == sec + fou) && p.ps.getD p.passant.toNat 0 == 0 && p.ps.getD (sec * p.f + p.passant % p.f).toNat 0 == 0 && p.ps.getD (fou * p.f + p.passant % p.f).toNat 0 == pofI 1 (!p.black)
theorem idx_bd {f r F y : Int} (f1 : 3 ≤ f) (h1 : 0 ≤ F) (h2 : F < f) (h3 : 0 ≤ y) (h4 : y < r) : 0 ≤ y * f + F ∧ y * f + F < f * r := by
  have h5 : 0 ≤ y * f := Int.mul_nonneg h3 (by omega)
  have h6 : (y + 1) * f ≤ r * f := Int.mul_le_mul_of_nonneg_right (by omega) (by omega)
  rw [Int.add_mul, Int.one_mul] at h6
  rw [Int.mul_comm f r]
  omega
set_option maxHeartbeats 4000000 in
theorem rpass_late (w : World) (p : Pos) (b off cap : Nat) (hP : PcAt w b off p.ps) (hlen : (p.ps.length : Int) = p.f * p.r) (h6 : 6 ≤ p.r) (hh0 : p.half = 0) (hvq : vsq p.f p.r p.passant = true) :
    Pure 70 #[.agg (p.cells (some ⟨b, off, none⟩) cap)] w (.bool (passLate p)) := by
  obtain ⟨B, hBe⟩ : ∃ B, w.heap.size = B := ⟨_, rfl⟩
  obtain ⟨hv, a0, hlt⟩ := vsq_bd hvq
  obtain ⟨f1, f2, r1, r2⟩ := vsize_bd hv
  obtain ⟨k1, k2⟩ := vsize_mul hv
  have m1 := Int.emod_nonneg p.passant (show p.f ≠ 0 by omega)
  have m2 := Int.emod_lt_of_pos p.passant (show 0 < p.f by omega)
  have m5 := Int.ediv_nonneg a0 (show 0 ≤ p.f by omega)
  have m6 := Int.ediv_le_self p.f a0
  cases hbl : p.black
  · obtain ⟨sc, hsc⟩ : ∃ x : Int, x = (p.r - 2) := ⟨_, rfl⟩
    obtain ⟨fo, hfo⟩ : ∃ x : Int, x = (p.r - 4) := ⟨_, rfl⟩
    have hL : passLate p = ((2 * (p.passant / p.f) == sc + fo) && p.ps.getD p.passant.toNat 0 == 0 && p.ps.getD (sc * p.f + p.passant % p.f).toNat 0 == 0 && p.ps.getD (fo * p.f + p.passant % p.f).toNat 0 == (-1)) := by unfold passLate; rw [hbl, hsc, hfo]; rfl
    rw [hL]
    have ck2 := fun W => Lib.hid (show Pure 117 #[.agg #[.int .i64 p.f, .int .i64 p.r], .bool true, .int .i64 2] W (.int .i64 sc) from hsc ▸ rrank_c W p.f p.r 2 true (by omega) (by omega) (by omega) (by omega))
    have ck4 := fun W => Lib.hid (show Pure 117 #[.agg #[.int .i64 p.f, .int .i64 p.r], .bool true, .int .i64 4] W (.int .i64 fo) from hfo ▸ rrank_c W p.f p.r 4 true (by omega) (by omega) (by omega) (by omega))
    have cp := fun W => Lib.hid (show Same 119 #[.int .i8 1, .bool true] W (.int .i8 (-1)) from rpiece_c W 1 true (by omega) (by omega))
    have i1 := idx_bd (f := p.f) (r := p.r) (F := p.passant % p.f) (y := sc) (by omega) m1 m2 (by omega) (by omega)
    have i2 := idx_bd (f := p.f) (r := p.r) (F := p.passant % p.f) (y := fo) (by omega) m1 m2 (by omega) (by omega)
    obtain ⟨N1, hN1⟩ : ∃ N1 : Nat, sc * p.f + p.passant % p.f = N1 := ⟨(sc * p.f + p.passant % p.f).toNat, by omega⟩
    obtain ⟨N2, hN2⟩ : ∃ N2 : Nat, fo * p.f + p.passant % p.f = N2 := ⟨(fo * p.f + p.passant % p.f).toNat, by omega⟩
    have cn2 := fun W => Lib.hid ((rnum_c W p.f p.r (p.passant % p.f) sc hv (by omega) (by omega) (by omega) (by omega)).of_eq (show _ = Value.int .i64 (N1 : Int) by rw [num_at m1 m2 (by omega) (by omega), hN1]))
    have cn4 := fun W => Lib.hid ((rnum_c W p.f p.r (p.passant % p.f) fo hv (by omega) (by omega) (by omega) (by omega)).of_eq (show _ = Value.int .i64 (N2 : Int) by rw [num_at m1 m2 (by omega) (by omega), hN2]))
    rw [hN1] at i1
    rw [hN2] at i2
    rw [hN1, hN2, Int.toNat_natCast, Int.toNat_natCast]
    obtain ⟨P, hPa⟩ : ∃ P : Nat, p.passant = P := ⟨p.passant.toNat, by omega⟩
    have hPn : P < p.ps.length := by omega
    have hN1n : N1 < p.ps.length := by omega
    have hN2n : N2 < p.ps.length := by omega
    obtain ⟨q0, e0⟩ : ∃ q, p.ps[P]? = some q := ⟨_, List.getElem?_eq_getElem hPn⟩
    obtain ⟨q1, e1⟩ : ∃ q, p.ps[N1]? = some q := ⟨_, List.getElem?_eq_getElem hN1n⟩
    obtain ⟨q2, e2⟩ : ∃ q, p.ps[N2]? = some q := ⟨_, List.getElem?_eq_getElem hN2n⟩
    have hq0 := Lib.hid (hP P q0 e0)
    have hq1 := Lib.hid (hP N1 q1 e1)
    have hq2 := Lib.hid (hP N2 q2 e2)
    have c1 := fun W => Lib.hid (rsq_c W p.f p.r p.passant)
    rw [hvq] at c1
    have c2 := fun W => Lib.hid (rplace_c W p.f p.r p.passant hv (by omega) (by omega))
    unfold pointV at c2
    rw [hPa, Int.toNat_natCast, show p.ps.getD P 0 = q0 by rw [List.getD_eq_getElem?_getD, e0]; rfl, show p.ps.getD N1 0 = q1 by rw [List.getD_eq_getElem?_getD, e1]; rfl, show p.ps.getD N2 0 = q2 by rw [List.getD_eq_getElem?_getD, e2]; rfl]
    unfold Pos.cells Pure
    rw [hBe, hbl, hh0]
    rw [hPa] at c1 c2 cn2 cn4 m1 m2 m5 m6 hlt ⊢
    generalize p.ps.length = n at *
    generalize p.r = r at *
    generalize p.f = f at *
    obtain ⟨F, hF⟩ : ∃ x, (P : Int) % f = x := ⟨_, rfl⟩
    obtain ⟨Rk, hRk⟩ : ∃ x, (P : Int) / f = x := ⟨_, rfl⟩
    simp only [hF, hRk] at c2 cn2 cn4 m1 m2 m5 m6 ⊢
    have hpm : ((P : Int) == -1) = false := by first | (simp; done) | (simp; omega)
    have x0 : ((P : Int) < n) = True := by simp; omega
    have x1 : ((N1 : Int) < n) = True := by simp; omega
    have x2 : ((N2 : Int) < n) = True := by simp; omega
    have hr6 : (r < 6) = False := by simp; omega
    have mm : 0 ≤ Rk ∧ Rk ≤ 64 := by omega
    have ss : 0 ≤ sc ∧ sc ≤ 8 ∧ 0 ≤ fo ∧ fo ≤ 8 := by omega
    obtain ⟨ss1, ss2, ss3, ss4⟩ := ss
    obtain ⟨mm1, mm2⟩ := mm
    clear hsc hfo hL hvq hP e0 e1 e2 i1 i2 hN1 hN2 hF hRk hlen hlt hPn hN1n hN2n hPa hv
    go_enter Tryz.func70, Tryz.ntmps70
    go_wp2_with fail
    refine start1Bc hBe ?_
    intro V hN hX x
    have y0 := fun z : Ext V.heap.size V => cell_of (below_blk z.2 (hN).out) 0 _ rfl
    have y1 := fun z : Ext V.heap.size V => cell_of (below_blk z.2 (hN).out) 1 _ rfl
    have y2 := fun z : Ext V.heap.size V => cell_of (below_blk z.2 (hN).out) 2 _ rfl
    have y3 := fun z : Ext V.heap.size V => cell_of (below_blk z.2 (hN).out) 3 _ rfl
    have y4 := fun z : Ext V.heap.size V => cell_of (below_blk z.2 (hN).out) 4 _ rfl
    have y5 := fun z : Ext V.heap.size V => cell_of (below_blk z.2 (hN).out) 5 _ rfl
    have y6 := fun z : Ext V.heap.size V => cell_of (below_blk z.2 (hN).out) 6 _ rfl
    have y7 := fun z : Ext V.heap.size V => cell_of (below_blk z.2 (hN).out) 7 _ rfl
    refine (Pure.st (c1 _).out).mono ?_
    rintro e _ ⟨rfl, x, rfl⟩
    go_wp2_with fail
    refine (Pure.st (c2 _).out).mono ?_
    rintro e _ ⟨rfl, x, rfl⟩
    go_wp2_with (refine store_row 85 (.tmp 4) (.tmp 34) rfl rfl #[.int .i64 F, .int .i64 Rk] rfl (by rfl) _ (blk_new rfl _) rfl sizePt (by simp [Value.oneCell']) ?_)
    refine laid_row #[.int .i64 F, .int .i64 Rk] rfl rfl ?_
    intro G V2 hG hGV hV2 hP2
    rw [hG]
    replace hX := Lib.hid (fun z : Ext V2.heap.size V2 => (show Below B w z.1 ∧ B < z.1.heap.size ∧ Below w.heap.size w z.1 from hX.out ⟨z.1, hV2.trans (z.2.mono hV2.size)⟩))
    replace hP2 := Lib.hid hP2
    replace hN := Lib.hid (below_blk hV2 hN.out)
    clear y0 y1 y2 y3 y4 y5 y6 y7 hV2 hGV hG x c1 c2
    obtain ⟨V, hVe⟩ : ∃ V, V = V2 := ⟨_, rfl⟩
    subst hVe
    refine start0r ?_
    intro x
    have y0 := fun z : Ext V.heap.size V => cell_of (below_blk z.2 (hN).out) 0 _ rfl
    have y1 := fun z : Ext V.heap.size V => cell_of (below_blk z.2 (hN).out) 1 _ rfl
    have y2 := fun z : Ext V.heap.size V => cell_of (below_blk z.2 (hN).out) 2 _ rfl
    have y3 := fun z : Ext V.heap.size V => cell_of (below_blk z.2 (hN).out) 3 _ rfl
    have y4 := fun z : Ext V.heap.size V => cell_of (below_blk z.2 (hN).out) 4 _ rfl
    have y5 := fun z : Ext V.heap.size V => cell_of (below_blk z.2 (hN).out) 5 _ rfl
    have y6 := fun z : Ext V.heap.size V => cell_of (below_blk z.2 (hN).out) 6 _ rfl
    have y7 := fun z : Ext V.heap.size V => cell_of (below_blk z.2 (hN).out) 7 _ rfl
    refine ext_region' (by kernel_rfl) (by kernel_rfl) ?_
    repeat (first | (go_big_quiet_step ((go_at_call 117; first | (with_reducible exact Pure.st (Hid.out (ck2 _))) | (with_reducible exact Pure.st (Hid.out (ck4 _)))))) | ((refine wpQuiet_step (fun K hK => ?_)); go_simp; (refine ⟨_, fun _ => rfl, hK _ ?_⟩); clear hK K))
    refine wpQuiet_nil ?_
    intro x
    clear ck2 ck4
    have v1 := fun z : Ext V.heap.size V => cell_of (below_blk z.2 hP2.out) 1 _ rfl
    by_cases hrk : 2 * Rk = sc + fo
    · have t0 : (2 * Rk == sc + fo) = true := by simpa using hrk
      have t0' : (2 * Rk != sc + fo) = false := by simpa using hrk
      replace hrk := Lib.hid hrk
      replace t0 := Lib.hid t0
      go_wp2_with fail
      clear y0 y1 y2 y3 y4 y5 y6 y7 v1 t0'
      cases t1 : (q0 == 0)
      · have y0 := fun z : Ext V.heap.size V => cell_of (below_blk z.2 hN.out) 0 _ rfl
        have y1 := fun z : Ext V.heap.size V => cell_of (below_blk z.2 hN.out) 1 _ rfl
        have y2 := fun z : Ext V.heap.size V => cell_of (below_blk z.2 hN.out) 2 _ rfl
        have y5 := fun z : Ext V.heap.size V => cell_of (below_blk z.2 hN.out) 5 _ rfl
        have v0 := fun z : Ext V.heap.size V => cell_of (below_blk z.2 hP2.out) 0 _ rfl
        have v1 := fun z : Ext V.heap.size V => cell_of (below_blk z.2 hP2.out) 1 _ rfl
        have z0 := fun z : Ext V.heap.size V => below_at (hX.out z).2.2 hq0.out
        have z1 := fun z : Ext V.heap.size V => below_at (hX.out z).2.2 hq1.out
        have z2 := fun z : Ext V.heap.size V => below_at (hX.out z).2.2 hq2.out
        refine ext_region' (by kernel_rfl) (by kernel_rfl) ?_
        repeat (first | (go_big_quiet_step ((first | (go_at_call 118; first | (with_reducible exact Pure.st (Hid.out (cn2 _))) | (with_reducible exact Pure.st (Hid.out (cn4 _)))) | (go_at_call 119; exact Same.st (cp _).out)))) | ((refine wpQuiet_step (fun K hK => ?_)); go_simp; (refine ⟨_, fun _ => rfl, hK _ ?_⟩); clear hK K))
        refine wpQuiet_nil ?_
        intro x
        go_wp2
        go_ret
        exact ⟨by simp [t0.out, t1], (hX.out x).1⟩
      · cases t2 : (q1 == 0)
        · have y0 := fun z : Ext V.heap.size V => cell_of (below_blk z.2 hN.out) 0 _ rfl
          have y1 := fun z : Ext V.heap.size V => cell_of (below_blk z.2 hN.out) 1 _ rfl
          have y2 := fun z : Ext V.heap.size V => cell_of (below_blk z.2 hN.out) 2 _ rfl
          have y5 := fun z : Ext V.heap.size V => cell_of (below_blk z.2 hN.out) 5 _ rfl
          have v0 := fun z : Ext V.heap.size V => cell_of (below_blk z.2 hP2.out) 0 _ rfl
          have v1 := fun z : Ext V.heap.size V => cell_of (below_blk z.2 hP2.out) 1 _ rfl
          have z0 := fun z : Ext V.heap.size V => below_at (hX.out z).2.2 hq0.out
          have z1 := fun z : Ext V.heap.size V => below_at (hX.out z).2.2 hq1.out
          have z2 := fun z : Ext V.heap.size V => below_at (hX.out z).2.2 hq2.out
          refine ext_region' (by kernel_rfl) (by kernel_rfl) ?_
          repeat (first | (go_big_quiet_step ((first | (go_at_call 118; first | (with_reducible exact Pure.st (Hid.out (cn2 _))) | (with_reducible exact Pure.st (Hid.out (cn4 _)))) | (go_at_call 119; exact Same.st (cp _).out)))) | ((refine wpQuiet_step (fun K hK => ?_)); go_simp; (refine ⟨_, fun _ => rfl, hK _ ?_⟩); clear hK K))
          refine wpQuiet_nil ?_
          intro x
          go_wp2
          go_ret
          exact ⟨by simp [t0.out, t1, t2], (hX.out x).1⟩
        · have y0 := fun z : Ext V.heap.size V => cell_of (below_blk z.2 hN.out) 0 _ rfl
          have y1 := fun z : Ext V.heap.size V => cell_of (below_blk z.2 hN.out) 1 _ rfl
          have y2 := fun z : Ext V.heap.size V => cell_of (below_blk z.2 hN.out) 2 _ rfl
          have y5 := fun z : Ext V.heap.size V => cell_of (below_blk z.2 hN.out) 5 _ rfl
          have v0 := fun z : Ext V.heap.size V => cell_of (below_blk z.2 hP2.out) 0 _ rfl
          have v1 := fun z : Ext V.heap.size V => cell_of (below_blk z.2 hP2.out) 1 _ rfl
          have z0 := fun z : Ext V.heap.size V => below_at (hX.out z).2.2 hq0.out
          have z1 := fun z : Ext V.heap.size V => below_at (hX.out z).2.2 hq1.out
          have z2 := fun z : Ext V.heap.size V => below_at (hX.out z).2.2 hq2.out
          refine ext_region' (by kernel_rfl) (by kernel_rfl) ?_
          repeat (first | (go_big_quiet_step ((first | (go_at_call 118; first | (with_reducible exact Pure.st (Hid.out (cn2 _))) | (with_reducible exact Pure.st (Hid.out (cn4 _)))) | (go_at_call 119; exact Same.st (cp _).out)))) | ((refine wpQuiet_step (fun K hK => ?_)); go_simp; (refine ⟨_, fun _ => rfl, hK _ ?_⟩); clear hK K))
          refine wpQuiet_nil ?_
          intro x
          go_wp2
          go_ret
          exact ⟨by simp [t0.out, t1, t2], (hX.out x).1⟩
    · have t0 : (2 * Rk == sc + fo) = false := by simpa using hrk
      have t0' : (2 * Rk != sc + fo) = true := by simpa using hrk
      replace hrk := Lib.hid hrk
      replace t0 := Lib.hid t0
      go_wp2
      go_ret
      exact ⟨by simp [t0.out], (hX.out x).1⟩
  · obtain ⟨sc, hsc⟩ : ∃ x : Int, x = 1 := ⟨_, rfl⟩
    obtain ⟨fo, hfo⟩ : ∃ x : Int, x = 3 := ⟨_, rfl⟩
    have hL : passLate p = ((2 * (p.passant / p.f) == sc + fo) && p.ps.getD p.passant.toNat 0 == 0 && p.ps.getD (sc * p.f + p.passant % p.f).toNat 0 == 0 && p.ps.getD (fo * p.f + p.passant % p.f).toNat 0 == 1) := by unfold passLate; rw [hbl, hsc, hfo]; rfl
    rw [hL]
    have ck2 := fun W => Lib.hid (show Pure 117 #[.agg #[.int .i64 p.f, .int .i64 p.r], .bool false, .int .i64 2] W (.int .i64 sc) from hsc ▸ rrank_c W p.f p.r 2 false (by omega) (by omega) (by omega) (by omega))
    have ck4 := fun W => Lib.hid (show Pure 117 #[.agg #[.int .i64 p.f, .int .i64 p.r], .bool false, .int .i64 4] W (.int .i64 fo) from hfo ▸ rrank_c W p.f p.r 4 false (by omega) (by omega) (by omega) (by omega))
    have cp := fun W => Lib.hid (show Same 119 #[.int .i8 1, .bool false] W (.int .i8 1) from rpiece_c W 1 false (by omega) (by omega))
    have i1 := idx_bd (f := p.f) (r := p.r) (F := p.passant % p.f) (y := sc) (by omega) m1 m2 (by omega) (by omega)
    have i2 := idx_bd (f := p.f) (r := p.r) (F := p.passant % p.f) (y := fo) (by omega) m1 m2 (by omega) (by omega)
    obtain ⟨N1, hN1⟩ : ∃ N1 : Nat, sc * p.f + p.passant % p.f = N1 := ⟨(sc * p.f + p.passant % p.f).toNat, by omega⟩
    obtain ⟨N2, hN2⟩ : ∃ N2 : Nat, fo * p.f + p.passant % p.f = N2 := ⟨(fo * p.f + p.passant % p.f).toNat, by omega⟩
    have cn2 := fun W => Lib.hid ((rnum_c W p.f p.r (p.passant % p.f) sc hv (by omega) (by omega) (by omega) (by omega)).of_eq (show _ = Value.int .i64 (N1 : Int) by rw [num_at m1 m2 (by omega) (by omega), hN1]))
    have cn4 := fun W => Lib.hid ((rnum_c W p.f p.r (p.passant % p.f) fo hv (by omega) (by omega) (by omega) (by omega)).of_eq (show _ = Value.int .i64 (N2 : Int) by rw [num_at m1 m2 (by omega) (by omega), hN2]))
    rw [hN1] at i1
    rw [hN2] at i2
    rw [hN1, hN2, Int.toNat_natCast, Int.toNat_natCast]
    obtain ⟨P, hPa⟩ : ∃ P : Nat, p.passant = P := ⟨p.passant.toNat, by omega⟩
    have hPn : P < p.ps.length := by omega
    have hN1n : N1 < p.ps.length := by omega
    have hN2n : N2 < p.ps.length := by omega
    obtain ⟨q0, e0⟩ : ∃ q, p.ps[P]? = some q := ⟨_, List.getElem?_eq_getElem hPn⟩
    obtain ⟨q1, e1⟩ : ∃ q, p.ps[N1]? = some q := ⟨_, List.getElem?_eq_getElem hN1n⟩
    obtain ⟨q2, e2⟩ : ∃ q, p.ps[N2]? = some q := ⟨_, List.getElem?_eq_getElem hN2n⟩
    have hq0 := Lib.hid (hP P q0 e0)
    have hq1 := Lib.hid (hP N1 q1 e1)
    have hq2 := Lib.hid (hP N2 q2 e2)
    have c1 := fun W => Lib.hid (rsq_c W p.f p.r p.passant)
    rw [hvq] at c1
    have c2 := fun W => Lib.hid (rplace_c W p.f p.r p.passant hv (by omega) (by omega))
    unfold pointV at c2
    rw [hPa, Int.toNat_natCast, show p.ps.getD P 0 = q0 by rw [List.getD_eq_getElem?_getD, e0]; rfl, show p.ps.getD N1 0 = q1 by rw [List.getD_eq_getElem?_getD, e1]; rfl, show p.ps.getD N2 0 = q2 by rw [List.getD_eq_getElem?_getD, e2]; rfl]
    unfold Pos.cells Pure
    rw [hBe, hbl, hh0]
    rw [hPa] at c1 c2 cn2 cn4 m1 m2 m5 m6 hlt ⊢
    generalize p.ps.length = n at *
    generalize p.r = r at *
    generalize p.f = f at *
    obtain ⟨F, hF⟩ : ∃ x, (P : Int) % f = x := ⟨_, rfl⟩
    obtain ⟨Rk, hRk⟩ : ∃ x, (P : Int) / f = x := ⟨_, rfl⟩
    simp only [hF, hRk] at c2 cn2 cn4 m1 m2 m5 m6 ⊢
    have hpm : ((P : Int) == -1) = false := by first | (simp; done) | (simp; omega)
    have x0 : ((P : Int) < n) = True := by simp; omega
    have x1 : ((N1 : Int) < n) = True := by simp; omega
    have x2 : ((N2 : Int) < n) = True := by simp; omega
    have hr6 : (r < 6) = False := by simp; omega
    have mm : 0 ≤ Rk ∧ Rk ≤ 64 := by omega
    have ss : 0 ≤ sc ∧ sc ≤ 8 ∧ 0 ≤ fo ∧ fo ≤ 8 := by omega
    obtain ⟨ss1, ss2, ss3, ss4⟩ := ss
    obtain ⟨mm1, mm2⟩ := mm
    clear hsc hfo hL hvq hP e0 e1 e2 i1 i2 hN1 hN2 hF hRk hlen hlt hPn hN1n hN2n hPa hv
    go_enter Tryz.func70, Tryz.ntmps70
    go_wp2_with fail
    refine start1Bc hBe ?_
    intro V hN hX x
    have y0 := fun z : Ext V.heap.size V => cell_of (below_blk z.2 (hN).out) 0 _ rfl
    have y1 := fun z : Ext V.heap.size V => cell_of (below_blk z.2 (hN).out) 1 _ rfl
    have y2 := fun z : Ext V.heap.size V => cell_of (below_blk z.2 (hN).out) 2 _ rfl
    have y3 := fun z : Ext V.heap.size V => cell_of (below_blk z.2 (hN).out) 3 _ rfl
    have y4 := fun z : Ext V.heap.size V => cell_of (below_blk z.2 (hN).out) 4 _ rfl
    have y5 := fun z : Ext V.heap.size V => cell_of (below_blk z.2 (hN).out) 5 _ rfl
    have y6 := fun z : Ext V.heap.size V => cell_of (below_blk z.2 (hN).out) 6 _ rfl
    have y7 := fun z : Ext V.heap.size V => cell_of (below_blk z.2 (hN).out) 7 _ rfl
    refine (Pure.st (c1 _).out).mono ?_
    rintro e _ ⟨rfl, x, rfl⟩
    go_wp2_with fail
    refine (Pure.st (c2 _).out).mono ?_
    rintro e _ ⟨rfl, x, rfl⟩
    go_wp2_with (refine store_row 85 (.tmp 4) (.tmp 34) rfl rfl #[.int .i64 F, .int .i64 Rk] rfl (by rfl) _ (blk_new rfl _) rfl sizePt (by simp [Value.oneCell']) ?_)
    refine laid_row #[.int .i64 F, .int .i64 Rk] rfl rfl ?_
    intro G V2 hG hGV hV2 hP2
    rw [hG]
    replace hX := Lib.hid (fun z : Ext V2.heap.size V2 => (show Below B w z.1 ∧ B < z.1.heap.size ∧ Below w.heap.size w z.1 from hX.out ⟨z.1, hV2.trans (z.2.mono hV2.size)⟩))
    replace hP2 := Lib.hid hP2
    replace hN := Lib.hid (below_blk hV2 hN.out)
    clear y0 y1 y2 y3 y4 y5 y6 y7 hV2 hGV hG x c1 c2
    obtain ⟨V, hVe⟩ : ∃ V, V = V2 := ⟨_, rfl⟩
    subst hVe
    refine start0r ?_
    intro x
    have y0 := fun z : Ext V.heap.size V => cell_of (below_blk z.2 (hN).out) 0 _ rfl
    have y1 := fun z : Ext V.heap.size V => cell_of (below_blk z.2 (hN).out) 1 _ rfl
    have y2 := fun z : Ext V.heap.size V => cell_of (below_blk z.2 (hN).out) 2 _ rfl
    have y3 := fun z : Ext V.heap.size V => cell_of (below_blk z.2 (hN).out) 3 _ rfl
    have y4 := fun z : Ext V.heap.size V => cell_of (below_blk z.2 (hN).out) 4 _ rfl
    have y5 := fun z : Ext V.heap.size V => cell_of (below_blk z.2 (hN).out) 5 _ rfl
    have y6 := fun z : Ext V.heap.size V => cell_of (below_blk z.2 (hN).out) 6 _ rfl
    have y7 := fun z : Ext V.heap.size V => cell_of (below_blk z.2 (hN).out) 7 _ rfl
    refine ext_region' (by kernel_rfl) (by kernel_rfl) ?_
    repeat (first | (go_big_quiet_step ((go_at_call 117; first | (with_reducible exact Pure.st (Hid.out (ck2 _))) | (with_reducible exact Pure.st (Hid.out (ck4 _)))))) | ((refine wpQuiet_step (fun K hK => ?_)); go_simp; (refine ⟨_, fun _ => rfl, hK _ ?_⟩); clear hK K))
    refine wpQuiet_nil ?_
    intro x
    clear ck2 ck4
    have v1 := fun z : Ext V.heap.size V => cell_of (below_blk z.2 hP2.out) 1 _ rfl
    by_cases hrk : 2 * Rk = sc + fo
    · have t0 : (2 * Rk == sc + fo) = true := by simpa using hrk
      have t0' : (2 * Rk != sc + fo) = false := by simpa using hrk
      replace hrk := Lib.hid hrk
      replace t0 := Lib.hid t0
      go_wp2_with fail
      clear y0 y1 y2 y3 y4 y5 y6 y7 v1 t0'
      cases t1 : (q0 == 0)
      · have y0 := fun z : Ext V.heap.size V => cell_of (below_blk z.2 hN.out) 0 _ rfl
        have y1 := fun z : Ext V.heap.size V => cell_of (below_blk z.2 hN.out) 1 _ rfl
        have y2 := fun z : Ext V.heap.size V => cell_of (below_blk z.2 hN.out) 2 _ rfl
        have y5 := fun z : Ext V.heap.size V => cell_of (below_blk z.2 hN.out) 5 _ rfl
        have v0 := fun z : Ext V.heap.size V => cell_of (below_blk z.2 hP2.out) 0 _ rfl
        have v1 := fun z : Ext V.heap.size V => cell_of (below_blk z.2 hP2.out) 1 _ rfl
        have z0 := fun z : Ext V.heap.size V => below_at (hX.out z).2.2 hq0.out
        have z1 := fun z : Ext V.heap.size V => below_at (hX.out z).2.2 hq1.out
        have z2 := fun z : Ext V.heap.size V => below_at (hX.out z).2.2 hq2.out
        refine ext_region' (by kernel_rfl) (by kernel_rfl) ?_
        repeat (first | (go_big_quiet_step ((first | (go_at_call 118; first | (with_reducible exact Pure.st (Hid.out (cn2 _))) | (with_reducible exact Pure.st (Hid.out (cn4 _)))) | (go_at_call 119; exact Same.st (cp _).out)))) | ((refine wpQuiet_step (fun K hK => ?_)); go_simp; (refine ⟨_, fun _ => rfl, hK _ ?_⟩); clear hK K))
        refine wpQuiet_nil ?_
        intro x
        go_wp2
        go_ret
        exact ⟨by simp [t0.out, t1], (hX.out x).1⟩
      · cases t2 : (q1 == 0)
        · have y0 := fun z : Ext V.heap.size V => cell_of (below_blk z.2 hN.out) 0 _ rfl
          have y1 := fun z : Ext V.heap.size V => cell_of (below_blk z.2 hN.out) 1 _ rfl
          have y2 := fun z : Ext V.heap.size V => cell_of (below_blk z.2 hN.out) 2 _ rfl
          have y5 := fun z : Ext V.heap.size V => cell_of (below_blk z.2 hN.out) 5 _ rfl
          have v0 := fun z : Ext V.heap.size V => cell_of (below_blk z.2 hP2.out) 0 _ rfl
          have v1 := fun z : Ext V.heap.size V => cell_of (below_blk z.2 hP2.out) 1 _ rfl
          have z0 := fun z : Ext V.heap.size V => below_at (hX.out z).2.2 hq0.out
          have z1 := fun z : Ext V.heap.size V => below_at (hX.out z).2.2 hq1.out
          have z2 := fun z : Ext V.heap.size V => below_at (hX.out z).2.2 hq2.out
          refine ext_region' (by kernel_rfl) (by kernel_rfl) ?_
          repeat (first | (go_big_quiet_step ((first | (go_at_call 118; first | (with_reducible exact Pure.st (Hid.out (cn2 _))) | (with_reducible exact Pure.st (Hid.out (cn4 _)))) | (go_at_call 119; exact Same.st (cp _).out)))) | ((refine wpQuiet_step (fun K hK => ?_)); go_simp; (refine ⟨_, fun _ => rfl, hK _ ?_⟩); clear hK K))
          refine wpQuiet_nil ?_
          intro x
          go_wp2
          go_ret
          exact ⟨by simp [t0.out, t1, t2], (hX.out x).1⟩
        · have y0 := fun z : Ext V.heap.size V => cell_of (below_blk z.2 hN.out) 0 _ rfl
          have y1 := fun z : Ext V.heap.size V => cell_of (below_blk z.2 hN.out) 1 _ rfl
          have y2 := fun z : Ext V.heap.size V => cell_of (below_blk z.2 hN.out) 2 _ rfl
          have y5 := fun z : Ext V.heap.size V => cell_of (below_blk z.2 hN.out) 5 _ rfl
          have v0 := fun z : Ext V.heap.size V => cell_of (below_blk z.2 hP2.out) 0 _ rfl
          have v1 := fun z : Ext V.heap.size V => cell_of (below_blk z.2 hP2.out) 1 _ rfl
          have z0 := fun z : Ext V.heap.size V => below_at (hX.out z).2.2 hq0.out
          have z1 := fun z : Ext V.heap.size V => below_at (hX.out z).2.2 hq1.out
          have z2 := fun z : Ext V.heap.size V => below_at (hX.out z).2.2 hq2.out
          refine ext_region' (by kernel_rfl) (by kernel_rfl) ?_
          repeat (first | (go_big_quiet_step ((first | (go_at_call 118; first | (with_reducible exact Pure.st (Hid.out (cn2 _))) | (with_reducible exact Pure.st (Hid.out (cn4 _)))) | (go_at_call 119; exact Same.st (cp _).out)))) | ((refine wpQuiet_step (fun K hK => ?_)); go_simp; (refine ⟨_, fun _ => rfl, hK _ ?_⟩); clear hK K))
          refine wpQuiet_nil ?_
          intro x
          go_wp2
          go_ret
          exact ⟨by simp [t0.out, t1, t2], (hX.out x).1⟩
    · have t0 : (2 * Rk == sc + fo) = false := by simpa using hrk
      have t0' : (2 * Rk != sc + fo) = true := by simpa using hrk
      replace hrk := Lib.hid hrk
      replace t0 := Lib.hid t0
      go_wp2
      go_ret
      exact ⟨by simp [t0.out], (hX.out x).1⟩
end
section
theorem getD_at' {ps : List Int} {i : Nat} (h : i < ps.length) : ps[i]? = some (ps.getD i 0) := by
  rw [List.getD_eq_getElem?_getD, List.getElem?_eq_getElem h]
  rfl
theorem sizeBd3 : (Tryz.prog.info? 40).map (·.size) = some 3 := by kernel_rfl
theorem rofb_c (w : World) (p : Pos) (po : Option Addr) (cap : Nat) : Pure 30 #[.agg (p.cells po cap)] w (bdV p.f p.r po p.ps.length cap) := by
  unfold Pos.cells bdV
  generalize p.ps.length = n
  unfold Pure
  go_enter Tryz.func30, Tryz.ntmps30
  go_wp2_with fail
  refine bodyPost_ret (results_cell_row rfl _ _ _ 40 #[.int .i64 p.f, .int .i64 p.r, .slice po n cap] (0, 0) _ rfl (blk_new (by simp) _) Tryz.underlying40 rfl sizeBd3) rfl ⟨rfl, ?_⟩
  repeat (first | (with_reducible assumption) | (with_reducible exact Below.refl _ _) | (with_reducible apply below_drewN) | (with_reducible apply Below.drew) | (with_reducible apply Below.alloc) | (with_reducible apply Below.setCell))
  all_goals first | omega | (dsimp only; omega) | (simp; done) | (simp; omega)
def passR (p : Pos) : Bool := if p.passant = -1 then true else if p.r < 6 ∨ p.half ≠ 0 ∨ vsq p.f p.r p.passant = false then false else passLate p
theorem rpass_c (w : World) (p : Pos) (b off cap : Nat) (hP : PcAt w b off p.ps) (hlen : (p.ps.length : Int) = p.f * p.r) : Pure 70 #[.agg (p.cells (some ⟨b, off, none⟩) cap)] w (.bool (passR p)) := by
  unfold passR
  by_cases h1 : p.passant = -1
  · rw [if_pos h1]
    exact rpass_none w p _ cap h1
  · rw [if_neg h1]
    by_cases h2 : p.r < 6 ∨ p.half ≠ 0 ∨ vsq p.f p.r p.passant = false
    · rw [if_pos h2]
      exact rpass_early w p _ cap h1 h2
    · rw [if_neg h2]
      have h3 : p.half = 0 := by
        rcases Decidable.em (p.half = 0) with h | h
        · exact h
        · exact absurd (.inr (.inl h)) h2
      refine rpass_late w p b off cap hP hlen (by omega) h3 ?_
      cases hv : vsq p.f p.r p.passant with
      | true => rfl
      | false => exact absurd (.inr (.inr hv)) h2
def pawnBad (p : Pos) (i : Nat) : Bool := kindI (p.ps.getD i 0) == 1 && (i : Int) / p.f == (if decide (p.ps.getD i 0 < 0) then 0 else p.r - 1)
def pawnsR (p : Pos) : Bool := (List.range p.ps.length).all fun i => !pawnBad p i
def rvB (p : Pos) : Bool := orthB p.f p.r p.ps && decide (0 ≤ kingR p.ps false) && decide (0 ≤ kingR p.ps true) && (attL p.f p.r p.ps (kingR p.ps (!p.black)) (!!p.black)).isEmpty && pawnsR p && p.castles && passR p && p.counts
theorem pawns_miss {p : Pos} {i : Nat} (hi : i < p.ps.length) (h : pawnBad p i = true) : pawnsR p = false := by
  unfold pawnsR
  rw [← Bool.not_eq_true, List.all_eq_true]
  intro ha
  have := ha i (List.mem_range.2 hi)
  rw [h] at this
  cases this
theorem pawns_hit {p : Pos} {n : Nat} (hn : p.ps.length = n) (h : ∀ i, i < n → pawnBad p i = false) : pawnsR p = true := by
  unfold pawnsR
  rw [List.all_eq_true]
  intro i hi
  rw [h i (by rw [← hn]; exact List.mem_range.1 hi)]
  rfl
theorem boxed_c {f : FuncId} {args : Array Value} {Q : Ending → World → Prop} {V : World} {x : Ext V.heap.size V} {o : Obj}
    (h : ∀ (G : Nat) (W : World), x.1.heap.size = G → Below V.heap.size V W → W.heap[G]? = some o → ∀ y : Ext W.heap.size W, Calls Tryz.prog f args y.1 Q) : Calls Tryz.prog f args (x.1.alloc o) Q :=
  h x.1.heap.size _ rfl (x.2.alloc x.2.size _) (blk_new rfl _) ⟨_, Below.refl _ _⟩
set_option maxRecDepth 100000 in
set_option maxHeartbeats 1000000 in
theorem rvalid6_no (w : World) (p : Pos) (po : Option Addr) (cap : Nat) (hS : SlcAt w po p.ps) (hn : p.ps.length ≤ 1000) (ho : orthB p.f p.r p.ps = false) : Pure 19 #[.agg (p.cells po cap)] w (.bool false) := by
  obtain ⟨B, hBe⟩ : ∃ B, w.heap.size = B := ⟨_, rfl⟩
  have cof := fun W => Lib.hid (rofb_c W p po cap)
  have co := Lib.hid (fun W (hW : Below w.heap.size w W) => rorth_c W p.f p.r p.ps po cap (hS.below hW) hn)
  rw [ho] at co
  unfold bdV at cof co
  unfold Pos.cells at *
  unfold Pure
  rw [hBe]
  generalize p.ps.length = n at *
  generalize p.f = f at *
  generalize p.r = r at *
  clear ho hS
  go_enter Tryz.func19, Tryz.ntmps19
  go_wp2_with fail
  refine start1Bc hBe ?_
  intro V hN hX x
  have y0 := fun z : Ext V.heap.size V => cell_of (below_blk z.2 (hN).out) 0 _ rfl
  have y1 := fun z : Ext V.heap.size V => cell_of (below_blk z.2 (hN).out) 1 _ rfl
  have y2 := fun z : Ext V.heap.size V => cell_of (below_blk z.2 (hN).out) 2 _ rfl
  have y3 := fun z : Ext V.heap.size V => cell_of (below_blk z.2 (hN).out) 3 _ rfl
  have y4 := fun z : Ext V.heap.size V => cell_of (below_blk z.2 (hN).out) 4 _ rfl
  have y5 := fun z : Ext V.heap.size V => cell_of (below_blk z.2 (hN).out) 5 _ rfl
  have y6 := fun z : Ext V.heap.size V => cell_of (below_blk z.2 (hN).out) 6 _ rfl
  have y7 := fun z : Ext V.heap.size V => cell_of (below_blk z.2 (hN).out) 7 _ rfl
  refine (Pure.st (cof _).out).mono ?_
  rintro e _ ⟨rfl, x, rfl⟩
  go_wp2_with fail
  refine boxed_c ?_
  intro G V2 hG hV2 hP
  rw [hG]
  replace hX := Lib.hid (fun z : Ext V2.heap.size V2 => (show Below B w z.1 ∧ B < z.1.heap.size ∧ Below w.heap.size w z.1 from hX.out ⟨z.1, hV2.trans (z.2.mono hV2.size)⟩))
  replace hN := Lib.hid (below_blk hV2 hN.out)
  replace hP := Lib.hid hP
  clear y0 y1 y2 y3 y4 y5 y6 y7 hV2 hG x cof
  obtain ⟨V, hVe⟩ : ∃ V, V = V2 := ⟨_, rfl⟩
  subst hVe
  intro x
  have y0 := fun z : Ext V.heap.size V => cell_of (below_blk z.2 (hN).out) 0 _ rfl
  have y1 := fun z : Ext V.heap.size V => cell_of (below_blk z.2 (hN).out) 1 _ rfl
  have y2 := fun z : Ext V.heap.size V => cell_of (below_blk z.2 (hN).out) 2 _ rfl
  have y3 := fun z : Ext V.heap.size V => cell_of (below_blk z.2 (hN).out) 3 _ rfl
  have y4 := fun z : Ext V.heap.size V => cell_of (below_blk z.2 (hN).out) 4 _ rfl
  have y5 := fun z : Ext V.heap.size V => cell_of (below_blk z.2 (hN).out) 5 _ rfl
  have y6 := fun z : Ext V.heap.size V => cell_of (below_blk z.2 (hN).out) 6 _ rfl
  have y7 := fun z : Ext V.heap.size V => cell_of (below_blk z.2 (hN).out) 7 _ rfl
  have u0 := fun z : Ext V.heap.size V => cell_of (below_blk z.2 (hP).out) 0 _ rfl
  have u1 := fun z : Ext V.heap.size V => cell_of (below_blk z.2 (hP).out) 1 _ rfl
  have u2 := fun z : Ext V.heap.size V => cell_of (below_blk z.2 (hP).out) 2 _ rfl
  refine (Pure.st (co.out _ (hX.out x).2.2)).mono ?_
  rintro e _ ⟨rfl, x, rfl⟩
  go_wp2_with fail
  go_ret
  exact ⟨rfl, (hX.out _).1⟩
set_option maxRecDepth 100000 in
set_option maxHeartbeats 2000000 in
theorem rvalid6_k (w : World) (p : Pos) (b off cap : Nat) (hP0 : PcAt w b off p.ps) (ho : orthB p.f p.r p.ps = true)
    (hbad : kingR p.ps false < 0 ∨ kingR p.ps true < 0 ∨ (attL p.f p.r p.ps (kingR p.ps (!p.black)) (!!p.black)).isEmpty = false) : Pure 19 #[.agg (p.cells (some ⟨b, off, none⟩) cap)] w (.bool false) := by
  obtain ⟨B, hBe⟩ : ∃ B, w.heap.size = B := ⟨_, rfl⟩
  have hbv : bvalid p.f p.r p.ps = true := by unfold orthB at ho; rw [Bool.and_eq_true] at ho; exact ho.1
  obtain ⟨_, _, h64⟩ := bvalid_len hbv
  have hS0 : SlcAt w (some ⟨b, off, none⟩) p.ps := .inr ⟨b, off, rfl, hP0⟩
  have cof := fun W => Lib.hid (rofb_c W p (some ⟨b, off, none⟩) cap)
  have co := Lib.hid (fun W (hW : Below w.heap.size w W) => (rorth_c W p.f p.r p.ps _ cap (hS0.below hW) (by omega)).of_eq (show _ = Value.bool true by rw [ho]))
  have ck1 := Lib.hid (fun W (hW : Below w.heap.size w W) => rking_c W p.f p.r p.ps _ cap false (hS0.below hW) (by omega))
  have ck2 := Lib.hid (fun W (hW : Below w.heap.size w W) => rking_c W p.f p.r p.ps _ cap true (hS0.below hW) (by omega))
  have cch := Lib.hid (fun (hk : 0 ≤ kingR p.ps (!p.black)) W (hW : Below w.heap.size w W) => rcheck_c W p.f p.r p.ps b off cap (!p.black) (hP0.below hW) ho hk)
  have hkk : 0 ≤ kingR p.ps false → 0 ≤ kingR p.ps true → 0 ≤ kingR p.ps (!p.black) := fun h1 h2 => by cases p.black <;> assumption
  generalize attL p.f p.r p.ps (kingR p.ps (!p.black)) (!!p.black) = A at *
  generalize kingR p.ps false = k1 at *
  generalize kingR p.ps true = k2 at *
  generalize kingR p.ps (!p.black) = k3 at *
  unfold bdV at *
  unfold Pos.cells at *
  unfold Pure
  rw [hBe]
  generalize p.ps.length = n at *
  generalize p.f = f at *
  generalize p.r = r at *
  clear ho hS0 hbv h64 hP0
  by_cases h1 : k1 < 0
  · have d1 : decide (k1 < 0) = true := by simpa using h1
    clear hbad hkk cch ck2
    go_enter Tryz.func19, Tryz.ntmps19
    go_wp2_with fail
    refine start1Bc hBe ?_
    intro V hN hX x
    have y0 := fun z : Ext V.heap.size V => cell_of (below_blk z.2 (hN).out) 0 _ rfl
    have y1 := fun z : Ext V.heap.size V => cell_of (below_blk z.2 (hN).out) 1 _ rfl
    have y2 := fun z : Ext V.heap.size V => cell_of (below_blk z.2 (hN).out) 2 _ rfl
    have y3 := fun z : Ext V.heap.size V => cell_of (below_blk z.2 (hN).out) 3 _ rfl
    have y4 := fun z : Ext V.heap.size V => cell_of (below_blk z.2 (hN).out) 4 _ rfl
    have y5 := fun z : Ext V.heap.size V => cell_of (below_blk z.2 (hN).out) 5 _ rfl
    have y6 := fun z : Ext V.heap.size V => cell_of (below_blk z.2 (hN).out) 6 _ rfl
    have y7 := fun z : Ext V.heap.size V => cell_of (below_blk z.2 (hN).out) 7 _ rfl
    refine (Pure.st (cof _).out).mono ?_
    rintro e _ ⟨rfl, x, rfl⟩
    go_wp2_with fail
    refine boxed_c ?_
    intro G V2 hG hV2 hP
    rw [hG]
    replace hX := Lib.hid (fun z : Ext V2.heap.size V2 => (show Below B w z.1 ∧ B < z.1.heap.size ∧ Below w.heap.size w z.1 from hX.out ⟨z.1, hV2.trans (z.2.mono hV2.size)⟩))
    replace hN := Lib.hid (below_blk hV2 hN.out)
    replace hP := Lib.hid hP
    clear y0 y1 y2 y3 y4 y5 y6 y7 hV2 hG x cof
    obtain ⟨V, hVe⟩ : ∃ V, V = V2 := ⟨_, rfl⟩
    subst hVe
    intro x
    have y0 := fun z : Ext V.heap.size V => cell_of (below_blk z.2 (hN).out) 0 _ rfl
    have y1 := fun z : Ext V.heap.size V => cell_of (below_blk z.2 (hN).out) 1 _ rfl
    have y2 := fun z : Ext V.heap.size V => cell_of (below_blk z.2 (hN).out) 2 _ rfl
    have y3 := fun z : Ext V.heap.size V => cell_of (below_blk z.2 (hN).out) 3 _ rfl
    have y4 := fun z : Ext V.heap.size V => cell_of (below_blk z.2 (hN).out) 4 _ rfl
    have y5 := fun z : Ext V.heap.size V => cell_of (below_blk z.2 (hN).out) 5 _ rfl
    have y6 := fun z : Ext V.heap.size V => cell_of (below_blk z.2 (hN).out) 6 _ rfl
    have y7 := fun z : Ext V.heap.size V => cell_of (below_blk z.2 (hN).out) 7 _ rfl
    have u0 := fun z : Ext V.heap.size V => cell_of (below_blk z.2 (hP).out) 0 _ rfl
    have u1 := fun z : Ext V.heap.size V => cell_of (below_blk z.2 (hP).out) 1 _ rfl
    have u2 := fun z : Ext V.heap.size V => cell_of (below_blk z.2 (hP).out) 2 _ rfl
    refine (Pure.st (co.out _ (hX.out x).2.2)).mono ?_
    rintro e _ ⟨rfl, x, rfl⟩
    go_wp2_with fail
    refine (Pure.st (ck1.out _ (hX.out x).2.2)).mono ?_
    rintro e _ ⟨rfl, x, rfl⟩
    go_wp2_with fail
    go_ret
    exact ⟨rfl, (hX.out _).1⟩
  · have d1 : decide (k1 < 0) = false := by simpa using h1
    by_cases h2 : k2 < 0
    · have d2 : decide (k2 < 0) = true := by simpa using h2
      clear hbad hkk cch
      go_enter Tryz.func19, Tryz.ntmps19
      go_wp2_with fail
      refine start1Bc hBe ?_
      intro V hN hX x
      have y0 := fun z : Ext V.heap.size V => cell_of (below_blk z.2 (hN).out) 0 _ rfl
      have y1 := fun z : Ext V.heap.size V => cell_of (below_blk z.2 (hN).out) 1 _ rfl
      have y2 := fun z : Ext V.heap.size V => cell_of (below_blk z.2 (hN).out) 2 _ rfl
      have y3 := fun z : Ext V.heap.size V => cell_of (below_blk z.2 (hN).out) 3 _ rfl
      have y4 := fun z : Ext V.heap.size V => cell_of (below_blk z.2 (hN).out) 4 _ rfl
      have y5 := fun z : Ext V.heap.size V => cell_of (below_blk z.2 (hN).out) 5 _ rfl
      have y6 := fun z : Ext V.heap.size V => cell_of (below_blk z.2 (hN).out) 6 _ rfl
      have y7 := fun z : Ext V.heap.size V => cell_of (below_blk z.2 (hN).out) 7 _ rfl
      refine (Pure.st (cof _).out).mono ?_
      rintro e _ ⟨rfl, x, rfl⟩
      go_wp2_with fail
      refine boxed_c ?_
      intro G V2 hG hV2 hP
      rw [hG]
      replace hX := Lib.hid (fun z : Ext V2.heap.size V2 => (show Below B w z.1 ∧ B < z.1.heap.size ∧ Below w.heap.size w z.1 from hX.out ⟨z.1, hV2.trans (z.2.mono hV2.size)⟩))
      replace hN := Lib.hid (below_blk hV2 hN.out)
      replace hP := Lib.hid hP
      clear y0 y1 y2 y3 y4 y5 y6 y7 hV2 hG x cof
      obtain ⟨V, hVe⟩ : ∃ V, V = V2 := ⟨_, rfl⟩
      subst hVe
      intro x
      have y0 := fun z : Ext V.heap.size V => cell_of (below_blk z.2 (hN).out) 0 _ rfl
      have y1 := fun z : Ext V.heap.size V => cell_of (below_blk z.2 (hN).out) 1 _ rfl
      have y2 := fun z : Ext V.heap.size V => cell_of (below_blk z.2 (hN).out) 2 _ rfl
      have y3 := fun z : Ext V.heap.size V => cell_of (below_blk z.2 (hN).out) 3 _ rfl
      have y4 := fun z : Ext V.heap.size V => cell_of (below_blk z.2 (hN).out) 4 _ rfl
      have y5 := fun z : Ext V.heap.size V => cell_of (below_blk z.2 (hN).out) 5 _ rfl
      have y6 := fun z : Ext V.heap.size V => cell_of (below_blk z.2 (hN).out) 6 _ rfl
      have y7 := fun z : Ext V.heap.size V => cell_of (below_blk z.2 (hN).out) 7 _ rfl
      have u0 := fun z : Ext V.heap.size V => cell_of (below_blk z.2 (hP).out) 0 _ rfl
      have u1 := fun z : Ext V.heap.size V => cell_of (below_blk z.2 (hP).out) 1 _ rfl
      have u2 := fun z : Ext V.heap.size V => cell_of (below_blk z.2 (hP).out) 2 _ rfl
      refine (Pure.st (co.out _ (hX.out x).2.2)).mono ?_
      rintro e _ ⟨rfl, x, rfl⟩
      go_wp2_with fail
      refine (Pure.st (ck1.out _ (hX.out x).2.2)).mono ?_
      rintro e _ ⟨rfl, x, rfl⟩
      go_wp2_with fail
      refine (Pure.st (ck2.out _ (hX.out x).2.2)).mono ?_
      rintro e _ ⟨rfl, x, rfl⟩
      go_wp2_with fail
      go_ret
      exact ⟨rfl, (hX.out _).1⟩
    · have d2 : decide (k2 < 0) = false := by simpa using h2
      have hA : A.isEmpty = false := by
        rcases hbad with h | h | h
        · exact absurd h h1
        · exact absurd h h2
        · exact h
      replace cch := Lib.hid (cch.out (hkk (by omega) (by omega)))
      rw [hA] at cch
      clear hbad hkk hA
      go_enter Tryz.func19, Tryz.ntmps19
      go_wp2_with fail
      refine start1Bc hBe ?_
      intro V hN hX x
      have y0 := fun z : Ext V.heap.size V => cell_of (below_blk z.2 (hN).out) 0 _ rfl
      have y1 := fun z : Ext V.heap.size V => cell_of (below_blk z.2 (hN).out) 1 _ rfl
      have y2 := fun z : Ext V.heap.size V => cell_of (below_blk z.2 (hN).out) 2 _ rfl
      have y3 := fun z : Ext V.heap.size V => cell_of (below_blk z.2 (hN).out) 3 _ rfl
      have y4 := fun z : Ext V.heap.size V => cell_of (below_blk z.2 (hN).out) 4 _ rfl
      have y5 := fun z : Ext V.heap.size V => cell_of (below_blk z.2 (hN).out) 5 _ rfl
      have y6 := fun z : Ext V.heap.size V => cell_of (below_blk z.2 (hN).out) 6 _ rfl
      have y7 := fun z : Ext V.heap.size V => cell_of (below_blk z.2 (hN).out) 7 _ rfl
      refine (Pure.st (cof _).out).mono ?_
      rintro e _ ⟨rfl, x, rfl⟩
      go_wp2_with fail
      refine boxed_c ?_
      intro G V2 hG hV2 hP
      rw [hG]
      replace hX := Lib.hid (fun z : Ext V2.heap.size V2 => (show Below B w z.1 ∧ B < z.1.heap.size ∧ Below w.heap.size w z.1 from hX.out ⟨z.1, hV2.trans (z.2.mono hV2.size)⟩))
      replace hN := Lib.hid (below_blk hV2 hN.out)
      replace hP := Lib.hid hP
      clear y0 y1 y2 y3 y4 y5 y6 y7 hV2 hG x cof
      obtain ⟨V, hVe⟩ : ∃ V, V = V2 := ⟨_, rfl⟩
      subst hVe
      intro x
      have y0 := fun z : Ext V.heap.size V => cell_of (below_blk z.2 (hN).out) 0 _ rfl
      have y1 := fun z : Ext V.heap.size V => cell_of (below_blk z.2 (hN).out) 1 _ rfl
      have y2 := fun z : Ext V.heap.size V => cell_of (below_blk z.2 (hN).out) 2 _ rfl
      have y3 := fun z : Ext V.heap.size V => cell_of (below_blk z.2 (hN).out) 3 _ rfl
      have y4 := fun z : Ext V.heap.size V => cell_of (below_blk z.2 (hN).out) 4 _ rfl
      have y5 := fun z : Ext V.heap.size V => cell_of (below_blk z.2 (hN).out) 5 _ rfl
      have y6 := fun z : Ext V.heap.size V => cell_of (below_blk z.2 (hN).out) 6 _ rfl
      have y7 := fun z : Ext V.heap.size V => cell_of (below_blk z.2 (hN).out) 7 _ rfl
      have u0 := fun z : Ext V.heap.size V => cell_of (below_blk z.2 (hP).out) 0 _ rfl
      have u1 := fun z : Ext V.heap.size V => cell_of (below_blk z.2 (hP).out) 1 _ rfl
      have u2 := fun z : Ext V.heap.size V => cell_of (below_blk z.2 (hP).out) 2 _ rfl
      refine (Pure.st (co.out _ (hX.out x).2.2)).mono ?_
      rintro e _ ⟨rfl, x, rfl⟩
      go_wp2_with fail
      refine (Pure.st (ck1.out _ (hX.out x).2.2)).mono ?_
      rintro e _ ⟨rfl, x, rfl⟩
      go_wp2_with fail
      refine (Pure.st (ck2.out _ (hX.out x).2.2)).mono ?_
      rintro e _ ⟨rfl, x, rfl⟩
      go_wp2_with fail
      refine (Pure.st (cch.out _ (hX.out x).2.2)).mono ?_
      rintro e _ ⟨rfl, x, rfl⟩
      go_wp2_with fail
      go_ret
      exact ⟨rfl, (hX.out _).1⟩
end
section
set_option maxHeartbeats 1000000 in
theorem rsame3_c (w : World) (f1 r1 f2 r2 : Int) (ps qs : List Int) (po qo : Option Addr) (c1 c2 : Nat) (h1 : SlcAt w po ps) (h2 : SlcAt w qo qs) (n1 : ps.length ≤ 1000) (n2 : qs.length ≤ 1000) :
    Pure 29 #[bdV f1 r1 po ps.length c1, bdV f2 r2 qo qs.length c2] w (.bool (f1 == f2 && r1 == r2 && (ps == qs))) := by
  obtain ⟨B, hBe⟩ : ∃ B, w.heap.size = B := ⟨_, rfl⟩
  unfold bdV
  by_cases hsz : f1 = f2 ∧ r1 = r2
  · obtain ⟨rfl, rfl⟩ := hsz
    rw [show (f1 == f1 && r1 == r1 && (ps == qs)) = (ps == qs) by simp]
    by_cases hln : ps.length = qs.length
    · have hext := Lib.hid (@list_ext ps qs ps.length rfl hln.symm)
      have hnex := Lib.hid (fun k => @list_nex ps qs k)
      have a1 := Lib.hid (fun k hk => @slc_at w po ps h1 k hk)
      have a2 := Lib.hid (fun k hk => @slc_at w qo qs h2 k hk)
      rw [← hln] at a2 n2 ⊢
      obtain ⟨R, hR⟩ : ∃ R, (ps == qs) = R := ⟨_, rfl⟩
      rw [hR] at hext hnex ⊢
      obtain ⟨n, hn⟩ : ∃ n, ps.length = n := ⟨_, rfl⟩
      rw [hn] at hext a1 a2 n1 ⊢
      clear hR hn hln h1 h2 n2
      unfold Pure
      rw [hBe]
      go_enter Tryz.func29, Tryz.ntmps29
      go_wp2_with fail
      refine start2B hBe ?_
      intro V hN hM hX x
      have y0 := fun z : Ext V.heap.size V => cell_of (below_blk z.2 (hN).out) 0 _ rfl
      have y1 := fun z : Ext V.heap.size V => cell_of (below_blk z.2 (hN).out) 1 _ rfl
      have y2 := fun z : Ext V.heap.size V => cell_of (below_blk z.2 (hN).out) 2 _ rfl
      have u0 := fun z : Ext V.heap.size V => cell_of (below_blk z.2 (hM).out) 0 _ rfl
      have u1 := fun z : Ext V.heap.size V => cell_of (below_blk z.2 (hM).out) 1 _ rfl
      have u2 := fun z : Ext V.heap.size V => cell_of (below_blk z.2 (hM).out) 2 _ rfl
      go_loopw [5] (fun i wr => ∃ (k : Nat) (x : Ext V.heap.size V), wr = x.1 ∧ k ≤ n ∧ i = .int .i64 k ∧ ∀ j, j < k → ps.getD j 0 = qs.getD j 0) (fun i _ => n - (intOf i).toNat)
      case atStart => exact ⟨0, x, rfl, by omega, rfl, fun j h => absurd h (by omega)⟩
      case round =>
        clear x
        obtain ⟨k, x, rfl, hk, rfl, hpre⟩ := hrel
        by_cases hkn : k = n
        · have hRt := hext.out (by rw [← hkn]; exact hpre)
          subst hkn
          go_wp2
          go_ret
          exact ⟨by rw [hRt]; rfl, (hX.out x).1⟩
        · have hkl : k < n := by omega
          obtain ⟨b1, o1, rfl, hc1⟩ := a1.out k hkl
          obtain ⟨b2, o2, rfl, hc2⟩ := a2.out k hkl
          have z1 := fun z : Ext V.heap.size V => below_at (hX.out z).2.2 hc1
          have z2 := fun z : Ext V.heap.size V => below_at (hX.out z).2.2 hc2
          have hnex2 := hnex.out k
          replace hpre := Lib.hid hpre
          obtain ⟨q1, hq1⟩ : ∃ q, ps.getD k 0 = q := ⟨_, rfl⟩
          obtain ⟨q2, hq2⟩ : ∃ q, qs.getD k 0 = q := ⟨_, rfl⟩
          rw [hq1] at z1 hnex2
          rw [hq2] at z2 hnex2
          have hki : ((k : Int) < n) = True := by simp; omega
          replace hq1 := Lib.hid hq1
          replace hq2 := Lib.hid hq2
          replace hnex2 := Lib.hid hnex2
          clear hc1 hc2 hext hnex a1 a2 hkn
          go_wp2_with fail
          by_cases hqq : q1 = q2
          · have d1 : (q1 == q2) = true := by simpa using hqq
            have d2 : (q1 != q2) = false := by simpa using hqq
            refine ext_region' (by kernel_rfl) (by kernel_rfl) ?_
            repeat (first | (go_big_quiet_step (fail)) | ((refine wpQuiet_step (fun K hK => ?_)); go_simp; (first | (refine ⟨_, fun _ => rfl, hK _ ?_⟩) | (refine ⟨_, fun _ => ⟨rfl, rfl⟩, hK _ ?_⟩)); clear hK K))
            refine wpQuiet_nil ?_
            intro x
            go_wp2_with fail
            go_roundw
            case rel => exact ⟨k + 1, x, rfl, by omega, by go_num, fun j hj => by
              rcases Nat.lt_or_ge j k with h | h
              · exact hpre.out j h
              · obtain rfl : j = k := by omega
                rw [hq1.out, hq2.out, hqq]⟩
            case measure => simp [intOf]; omega
          · have d1 : (q1 == q2) = false := by simpa using hqq
            have d2 : (q1 != q2) = true := by simpa using hqq
            have hRf := hnex2.out hqq
            subst hRf
            refine ext_region' (by kernel_rfl) (by kernel_rfl) ?_
            repeat (first | (go_big_quiet_step (fail)) | ((refine wpQuiet_step (fun K hK => ?_)); go_simp; (first | (refine ⟨_, fun _ => rfl, hK _ ?_⟩) | (refine ⟨_, fun _ => ⟨rfl, rfl⟩, hK _ ?_⟩)); clear hK K))
            refine wpQuiet_nil ?_
            intro x
            go_wp2
            go_ret
            exact ⟨rfl, (hX.out x).1⟩
    · rw [list_nel hln]
      have hne : ((ps.length : Int) = qs.length) = False := by simp; omega
      have hne2 : ((ps.length : Int) == qs.length) = false := by simp; omega
      generalize ps.length = m at *
      generalize qs.length = n at *
      clear h1 h2
      unfold Pure
      go_enter Tryz.func29, Tryz.ntmps29
      go_wp2
      all_goals (go_ret; refine ⟨by first | rfl | (simp_all; done), ?_⟩)
      all_goals
        repeat (first | (with_reducible assumption) | (with_reducible exact Below.refl _ _) | (with_reducible apply below_drewN) | (with_reducible apply Below.drew) | (with_reducible apply Below.alloc) | (with_reducible apply Below.setCell))
        all_goals first | omega | (dsimp only; omega) | (simp; done) | (simp; omega)
  · rw [show (f1 == f2 && r1 == r2) = false by simpa using hsz, Bool.false_and]
    generalize ps.length = m at *
    generalize qs.length = n at *
    clear h1 h2
    unfold Pure
    go_enter Tryz.func29, Tryz.ntmps29
    go_wp2
    all_goals first | (exfalso; simp_all; done) | skip
    all_goals (go_ret; refine ⟨by first | rfl | (simp_all; done), ?_⟩)
    all_goals
      repeat (first | (with_reducible assumption) | (with_reducible exact Below.refl _ _) | (with_reducible apply below_drewN) | (with_reducible apply Below.drew) | (with_reducible apply Below.alloc) | (with_reducible apply Below.setCell))
      all_goals first | omega | (dsimp only; omega) | (simp; done) | (simp; omega)
end
section
def sameB (p q : Pos) : Bool := (p.f == q.f && p.r == q.r && (p.ps == q.ps)) && p.black == q.black && p.castle == q.castle && p.passant == q.passant
def eqB (p q : Pos) : Bool := sameB p q && p.half == q.half && p.full == q.full
set_option maxRecDepth 100000 in
set_option maxHeartbeats 2000000 in
theorem rsame6_c (w : World) (p q : Pos) (po qo : Option Addr) (c1 c2 : Nat) (h1 : SlcAt w po p.ps) (h2 : SlcAt w qo q.ps) (n1 : p.ps.length ≤ 1000) (n2 : q.ps.length ≤ 1000) :
    Pure 35 #[.agg (p.cells po c1), .agg (q.cells qo c2)] w (.bool (sameB p q)) := by
  obtain ⟨B, hBe⟩ : ∃ B, w.heap.size = B := ⟨_, rfl⟩
  have co1 := fun W => Lib.hid (rofb_c W p po c1)
  have co2 := fun W => Lib.hid (rofb_c W q qo c2)
  have cs := Lib.hid (fun W (hW : Below w.heap.size w W) => rsame3_c W p.f p.r q.f q.r p.ps q.ps po qo c1 c2 (h1.below hW) (h2.below hW) n1 n2)
  unfold sameB
  generalize (p.f == q.f && p.r == q.r && (p.ps == q.ps)) = S at *
  unfold Pos.cells bdV at *
  unfold Pure
  rw [hBe]
  generalize p.ps.length = m at *
  generalize q.ps.length = n at *
  clear h1 h2
  obtain ⟨f1, r1, ps, bl1, ca1, pa1, ha1, fu1⟩ := p
  obtain ⟨f2, r2, qs, bl2, ca2, pa2, ha2, fu2⟩ := q
  dsimp only at *
  go_enter Tryz.func35, Tryz.ntmps35
  go_wp2_with fail
  refine start2B hBe ?_
  intro V hN hM hX x
  have y0 := fun z : Ext V.heap.size V => cell_of (below_blk z.2 (hN).out) 0 _ rfl
  have y1 := fun z : Ext V.heap.size V => cell_of (below_blk z.2 (hN).out) 1 _ rfl
  have y2 := fun z : Ext V.heap.size V => cell_of (below_blk z.2 (hN).out) 2 _ rfl
  have y3 := fun z : Ext V.heap.size V => cell_of (below_blk z.2 (hN).out) 3 _ rfl
  have y4 := fun z : Ext V.heap.size V => cell_of (below_blk z.2 (hN).out) 4 _ rfl
  have y5 := fun z : Ext V.heap.size V => cell_of (below_blk z.2 (hN).out) 5 _ rfl
  have y6 := fun z : Ext V.heap.size V => cell_of (below_blk z.2 (hN).out) 6 _ rfl
  have y7 := fun z : Ext V.heap.size V => cell_of (below_blk z.2 (hN).out) 7 _ rfl
  have u0 := fun z : Ext V.heap.size V => cell_of (below_blk z.2 (hM).out) 0 _ rfl
  have u1 := fun z : Ext V.heap.size V => cell_of (below_blk z.2 (hM).out) 1 _ rfl
  have u2 := fun z : Ext V.heap.size V => cell_of (below_blk z.2 (hM).out) 2 _ rfl
  have u3 := fun z : Ext V.heap.size V => cell_of (below_blk z.2 (hM).out) 3 _ rfl
  have u4 := fun z : Ext V.heap.size V => cell_of (below_blk z.2 (hM).out) 4 _ rfl
  have u5 := fun z : Ext V.heap.size V => cell_of (below_blk z.2 (hM).out) 5 _ rfl
  have u6 := fun z : Ext V.heap.size V => cell_of (below_blk z.2 (hM).out) 6 _ rfl
  have u7 := fun z : Ext V.heap.size V => cell_of (below_blk z.2 (hM).out) 7 _ rfl
  cases S
  · refine ext_region' (by kernel_rfl) (by kernel_rfl) ?_
    repeat (first | (go_big_quiet_step ((first | (go_at_call 30; first | with_reducible exact Pure.st (co1 _).out | with_reducible exact Pure.st (co2 _).out) | (go_at_call 29; exact Pure.st (cs.out _ (hX.out _).2.2))))) | ((refine wpQuiet_step (fun K hK => ?_)); go_simp; (first | (refine ⟨_, fun _ => rfl, hK _ ?_⟩) | (refine ⟨_, fun _ => ⟨rfl, rfl⟩, hK _ ?_⟩)); clear hK K))
    refine wpQuiet_nil ?_
    intro x
    go_wp2
    go_ret
    exact ⟨by first | rfl | (simp_all; done), (hX.out x).1⟩
  · cases hb : (bl1 == bl2)
    · refine ext_region' (by kernel_rfl) (by kernel_rfl) ?_
      repeat (first | (go_big_quiet_step ((first | (go_at_call 30; first | with_reducible exact Pure.st (co1 _).out | with_reducible exact Pure.st (co2 _).out) | (go_at_call 29; exact Pure.st (cs.out _ (hX.out _).2.2))))) | ((refine wpQuiet_step (fun K hK => ?_)); go_simp; (first | (refine ⟨_, fun _ => rfl, hK _ ?_⟩) | (refine ⟨_, fun _ => ⟨rfl, rfl⟩, hK _ ?_⟩)); clear hK K))
      refine wpQuiet_nil ?_
      intro x
      go_wp2
      go_ret
      exact ⟨by first | rfl | (simp_all; done), (hX.out x).1⟩
    · cases hc : (ca1 == ca2)
      · refine ext_region' (by kernel_rfl) (by kernel_rfl) ?_
        repeat (first | (go_big_quiet_step ((first | (go_at_call 30; first | with_reducible exact Pure.st (co1 _).out | with_reducible exact Pure.st (co2 _).out) | (go_at_call 29; exact Pure.st (cs.out _ (hX.out _).2.2))))) | ((refine wpQuiet_step (fun K hK => ?_)); go_simp; (first | (refine ⟨_, fun _ => rfl, hK _ ?_⟩) | (refine ⟨_, fun _ => ⟨rfl, rfl⟩, hK _ ?_⟩)); clear hK K))
        refine wpQuiet_nil ?_
        intro x
        go_wp2
        go_ret
        exact ⟨by first | rfl | (simp_all; done), (hX.out x).1⟩
      · cases hp : (pa1 == pa2)
        · refine ext_region' (by kernel_rfl) (by kernel_rfl) ?_
          repeat (first | (go_big_quiet_step ((first | (go_at_call 30; first | with_reducible exact Pure.st (co1 _).out | with_reducible exact Pure.st (co2 _).out) | (go_at_call 29; exact Pure.st (cs.out _ (hX.out _).2.2))))) | ((refine wpQuiet_step (fun K hK => ?_)); go_simp; (first | (refine ⟨_, fun _ => rfl, hK _ ?_⟩) | (refine ⟨_, fun _ => ⟨rfl, rfl⟩, hK _ ?_⟩)); clear hK K))
          refine wpQuiet_nil ?_
          intro x
          go_wp2
          go_ret
          exact ⟨by first | rfl | (simp_all; done), (hX.out x).1⟩
        · refine ext_region' (by kernel_rfl) (by kernel_rfl) ?_
          repeat (first | (go_big_quiet_step ((first | (go_at_call 30; first | with_reducible exact Pure.st (co1 _).out | with_reducible exact Pure.st (co2 _).out) | (go_at_call 29; exact Pure.st (cs.out _ (hX.out _).2.2))))) | ((refine wpQuiet_step (fun K hK => ?_)); go_simp; (first | (refine ⟨_, fun _ => rfl, hK _ ?_⟩) | (refine ⟨_, fun _ => ⟨rfl, rfl⟩, hK _ ?_⟩)); clear hK K))
          refine wpQuiet_nil ?_
          intro x
          go_wp2
          go_ret
          exact ⟨by first | rfl | (simp_all; done), (hX.out x).1⟩
end
section
theorem start2Bc {f : FuncId} {args : Array Value} {Q : Ending → World → Prop} {w : World} {o o2 : Obj} {B : Nat} (hB : w.heap.size = B)
    (h : ∀ V : World, Hid (V.heap[B]? = some o) → Hid (V.heap[B + 1]? = some o2) → Hid (∀ x : Ext V.heap.size V, Below B w x.1 ∧ B < x.1.heap.size ∧ Below w.heap.size w x.1) → ∀ x : Ext V.heap.size V, Calls Tryz.prog f args x.1 Q) : Calls Tryz.prog f args ((w.alloc o).alloc o2) Q := by
  subst hB
  refine h _ (Lib.hid (blk_alloc (blk_new rfl o) o2)) (Lib.hid (blk_new (by simp) o2)) (Lib.hid fun x => ?_) ⟨_, Below.refl _ _⟩
  have h1 : Below w.heap.size w x.1 := (((Below.refl w.heap.size w).alloc (Nat.le_refl _) o).alloc (by simp) o2).trans (x.2.mono (by simp; omega))
  exact ⟨h1, Nat.lt_of_lt_of_le (by simp; omega) x.2.size, h1⟩
set_option maxHeartbeats 2000000 in
theorem requal6_c (w : World) (p q : Pos) (po qo : Option Addr) (c1 c2 : Nat) (h1 : SlcAt w po p.ps) (h2 : SlcAt w qo q.ps) (n1 : p.ps.length ≤ 1000) (n2 : q.ps.length ≤ 1000) :
    Pure 24 #[.agg (p.cells po c1), .agg (q.cells qo c2)] w (.bool (eqB p q)) := by
  obtain ⟨B, hBe⟩ : ∃ B, w.heap.size = B := ⟨_, rfl⟩
  have cs := Lib.hid (fun W (hW : Below w.heap.size w W) => rsame6_c W p q po qo c1 c2 (h1.below hW) (h2.below hW) n1 n2)
  unfold eqB
  generalize sameB p q = S at *
  unfold Pos.cells at *
  unfold Pure
  rw [hBe]
  clear h1 h2
  generalize p.ps.length = m at *
  generalize q.ps.length = n at *
  obtain ⟨f1, r1, ps, bl1, ca1, pa1, ha1, fu1⟩ := p
  obtain ⟨f2, r2, qs, bl2, ca2, pa2, ha2, fu2⟩ := q
  dsimp only at *
  go_enter Tryz.func24, Tryz.ntmps24
  go_wp2_with fail
  refine start2Bc hBe ?_
  intro V hN hM hX x
  have y0 := fun z : Ext V.heap.size V => cell_of (below_blk z.2 (hN).out) 0 _ rfl
  have y1 := fun z : Ext V.heap.size V => cell_of (below_blk z.2 (hN).out) 1 _ rfl
  have y2 := fun z : Ext V.heap.size V => cell_of (below_blk z.2 (hN).out) 2 _ rfl
  have y3 := fun z : Ext V.heap.size V => cell_of (below_blk z.2 (hN).out) 3 _ rfl
  have y4 := fun z : Ext V.heap.size V => cell_of (below_blk z.2 (hN).out) 4 _ rfl
  have y5 := fun z : Ext V.heap.size V => cell_of (below_blk z.2 (hN).out) 5 _ rfl
  have y6 := fun z : Ext V.heap.size V => cell_of (below_blk z.2 (hN).out) 6 _ rfl
  have y7 := fun z : Ext V.heap.size V => cell_of (below_blk z.2 (hN).out) 7 _ rfl
  have u0 := fun z : Ext V.heap.size V => cell_of (below_blk z.2 (hM).out) 0 _ rfl
  have u1 := fun z : Ext V.heap.size V => cell_of (below_blk z.2 (hM).out) 1 _ rfl
  have u2 := fun z : Ext V.heap.size V => cell_of (below_blk z.2 (hM).out) 2 _ rfl
  have u3 := fun z : Ext V.heap.size V => cell_of (below_blk z.2 (hM).out) 3 _ rfl
  have u4 := fun z : Ext V.heap.size V => cell_of (below_blk z.2 (hM).out) 4 _ rfl
  have u5 := fun z : Ext V.heap.size V => cell_of (below_blk z.2 (hM).out) 5 _ rfl
  have u6 := fun z : Ext V.heap.size V => cell_of (below_blk z.2 (hM).out) 6 _ rfl
  have u7 := fun z : Ext V.heap.size V => cell_of (below_blk z.2 (hM).out) 7 _ rfl
  refine (Pure.st (cs.out _ (hX.out x).2.2)).mono ?_
  rintro e _ ⟨rfl, x, rfl⟩
  go_wp2
  all_goals (go_ret; exact ⟨by first | rfl | (simp_all; done), (hX.out x).1⟩)
end
section
set_option maxRecDepth 100000 in
set_option maxHeartbeats 2000000 in
theorem rvalid6_y (w : World) (p : Pos) (b off cap : Nat) (hP0 : PcAt w b off p.ps) (ho : orthB p.f p.r p.ps = true) (hc : 0 ≤ p.castle ∧ p.castle ≤ 255)
    (hk1 : 0 ≤ kingR p.ps false) (hk2 : 0 ≤ kingR p.ps true) (hA : (attL p.f p.r p.ps (kingR p.ps (!p.black)) (!!p.black)).isEmpty = true) :
    Pure 19 #[.agg (p.cells (some ⟨b, off, none⟩) cap)] w (.bool (pawnsR p && p.castles && passR p && p.counts)) := by
  obtain ⟨B, hBe⟩ : ∃ B, w.heap.size = B := ⟨_, rfl⟩
  have hbv : bvalid p.f p.r p.ps = true := by unfold orthB at ho; rw [Bool.and_eq_true] at ho; exact ho.1
  obtain ⟨hv, hlen, h64⟩ := bvalid_len hbv
  obtain ⟨f1, f2, r1, r2⟩ := vsize_bd hv
  have hS0 : SlcAt w (some ⟨b, off, none⟩) p.ps := .inr ⟨b, off, rfl, hP0⟩
  have cof := fun W => Lib.hid (rofb_c W p (some ⟨b, off, none⟩) cap)
  have co := Lib.hid (fun W (hW : Below w.heap.size w W) => (rorth_c W p.f p.r p.ps _ cap (hS0.below hW) (by omega)).of_eq (show _ = Value.bool true by rw [ho]))
  have ck1 := Lib.hid (fun W (hW : Below w.heap.size w W) => rking_c W p.f p.r p.ps _ cap false (hS0.below hW) (by omega))
  have ck2 := Lib.hid (fun W (hW : Below w.heap.size w W) => rking_c W p.f p.r p.ps _ cap true (hS0.below hW) (by omega))
  have cch := Lib.hid (fun W (hW : Below w.heap.size w W) => (rcheck_c W p.f p.r p.ps b off cap (!p.black) (hP0.below hW) ho (by cases p.black <;> assumption)).of_eq (show _ = Value.bool false by rw [hA]; rfl))
  have cca := Lib.hid (fun W (hW : Below w.heap.size w W) => rcastle_c W p b off cap (hP0.below hW) hbv hc)
  have cpa := Lib.hid (fun W (hW : Below w.heap.size w W) => rpass_c W p b off cap (hP0.below hW) hlen)
  have cpl := fun (k : Nat) (hk : k ≤ 64) W => rplace_c W p.f p.r k hv (by omega) (by omega)
  have cla := fun bl W => rlast_c W p.f p.r bl (by omega) (by omega)
  have hpm := fun i hi h => pawns_miss (p := p) (i := i) hi h
  have hph := fun h => pawns_hit (p := p) rfl h
  have horth := fun i h => orthB_at ho (getD_at' (ps := p.ps) (i := i) h)
  have hcell := fun i h => hP0 i _ (getD_at' (ps := p.ps) (i := i) h)
  have hbad : ∀ i, pawnBad p i = (kindI (p.ps.getD i 0) == 1 && (i : Int) / p.f == (if decide (p.ps.getD i 0 < 0) then 0 else p.r - 1)) := fun i => rfl
  have d1 : decide (kingR p.ps false < 0) = false := by simpa using hk1
  have d2 : decide (kingR p.ps true < 0) = false := by simpa using hk2
  have hcts : p.counts = (decide (0 ≤ p.half) && decide (p.half ≤ 10000) && decide (1 ≤ p.full) && decide (p.full ≤ 10000)) := rfl
  obtain ⟨R, hR⟩ : ∃ R, (pawnsR p && p.castles && passR p && p.counts) = R := ⟨_, rfl⟩
  rw [hR]
  rw [hcts] at hR
  generalize kingR p.ps false = k1 at *
  generalize kingR p.ps true = k2 at *
  generalize p.castles = ca at *
  generalize passR p = pr at *
  unfold bdV at *
  unfold Pos.cells pointV at *
  unfold Pure
  rw [hBe]
  obtain ⟨n, hn⟩ : ∃ n, p.ps.length = n := ⟨_, rfl⟩
  simp only [hn] at cof co ck1 ck2 cch cca cpa hpm hph horth hcell h64 ⊢
  replace hn := Lib.hid hn
  replace hR := Lib.hid hR
  replace hpm := Lib.hid hpm
  replace hph := Lib.hid hph
  replace horth := Lib.hid horth
  replace hcell := Lib.hid hcell
  replace hbad := Lib.hid hbad
  replace cpl := Lib.hid cpl
  replace cla := Lib.hid cla
  clear ho hS0 hbv hP0 hv hA hcts hc hlen
  go_enter Tryz.func19, Tryz.ntmps19
  go_wp2_with fail
  refine start1Bc hBe ?_
  intro V hN hX x
  have y0 := fun z : Ext V.heap.size V => cell_of (below_blk z.2 (hN).out) 0 _ rfl
  have y1 := fun z : Ext V.heap.size V => cell_of (below_blk z.2 (hN).out) 1 _ rfl
  have y2 := fun z : Ext V.heap.size V => cell_of (below_blk z.2 (hN).out) 2 _ rfl
  have y3 := fun z : Ext V.heap.size V => cell_of (below_blk z.2 (hN).out) 3 _ rfl
  have y4 := fun z : Ext V.heap.size V => cell_of (below_blk z.2 (hN).out) 4 _ rfl
  have y5 := fun z : Ext V.heap.size V => cell_of (below_blk z.2 (hN).out) 5 _ rfl
  have y6 := fun z : Ext V.heap.size V => cell_of (below_blk z.2 (hN).out) 6 _ rfl
  have y7 := fun z : Ext V.heap.size V => cell_of (below_blk z.2 (hN).out) 7 _ rfl
  refine (Pure.st (cof _).out).mono ?_
  rintro e _ ⟨rfl, x, rfl⟩
  go_wp2_with fail
  refine boxed_c ?_
  intro G V2 hG hV2 hP
  rw [hG]
  replace hX := Lib.hid (fun z : Ext V2.heap.size V2 => (show Below B w z.1 ∧ B < z.1.heap.size ∧ Below w.heap.size w z.1 from hX.out ⟨z.1, hV2.trans (z.2.mono hV2.size)⟩))
  replace hN := Lib.hid (below_blk hV2 hN.out)
  replace hP := Lib.hid hP
  clear y0 y1 y2 y3 y4 y5 y6 y7 hV2 hG x cof
  obtain ⟨V, hVe⟩ : ∃ V, V = V2 := ⟨_, rfl⟩
  subst hVe
  intro x
  have y0 := fun z : Ext V.heap.size V => cell_of (below_blk z.2 (hN).out) 0 _ rfl
  have y1 := fun z : Ext V.heap.size V => cell_of (below_blk z.2 (hN).out) 1 _ rfl
  have y2 := fun z : Ext V.heap.size V => cell_of (below_blk z.2 (hN).out) 2 _ rfl
  have y3 := fun z : Ext V.heap.size V => cell_of (below_blk z.2 (hN).out) 3 _ rfl
  have y4 := fun z : Ext V.heap.size V => cell_of (below_blk z.2 (hN).out) 4 _ rfl
  have y5 := fun z : Ext V.heap.size V => cell_of (below_blk z.2 (hN).out) 5 _ rfl
  have y6 := fun z : Ext V.heap.size V => cell_of (below_blk z.2 (hN).out) 6 _ rfl
  have y7 := fun z : Ext V.heap.size V => cell_of (below_blk z.2 (hN).out) 7 _ rfl
  have u0 := fun z : Ext V.heap.size V => cell_of (below_blk z.2 (hP).out) 0 _ rfl
  have u1 := fun z : Ext V.heap.size V => cell_of (below_blk z.2 (hP).out) 1 _ rfl
  have u2 := fun z : Ext V.heap.size V => cell_of (below_blk z.2 (hP).out) 2 _ rfl
  refine (Pure.st (co.out _ (hX.out x).2.2)).mono ?_
  rintro e _ ⟨rfl, x, rfl⟩
  go_wp2_with fail
  refine (Pure.st (ck1.out _ (hX.out x).2.2)).mono ?_
  rintro e _ ⟨rfl, x, rfl⟩
  go_wp2_with fail
  refine (Pure.st (ck2.out _ (hX.out x).2.2)).mono ?_
  rintro e _ ⟨rfl, x, rfl⟩
  go_wp2_with fail
  refine (Pure.st (cch.out _ (hX.out x).2.2)).mono ?_
  rintro e _ ⟨rfl, x, rfl⟩
  go_wp2_with fail
  clear co ck1 ck2 cch d1 d2 u0 u1 u2
  go_loopw [4] (fun i wr => ∃ (k : Nat) (x : Ext V.heap.size V), wr = x.1 ∧ k ≤ n ∧ i = .int .i64 k ∧ ∀ j, j < k → pawnBad p j = false) (fun i _ => n - (intOf i).toNat)
  case atStart => exact ⟨0, x, rfl, by omega, rfl, fun j h => absurd h (by omega)⟩
  case round =>
    clear x
    obtain ⟨k, x, rfl, hk, rfl, hpre⟩ := hrel
    replace hpre := Lib.hid hpre
    by_cases hkn : k = n
    · have hpt := hph.out (by rw [← hkn]; exact hpre.out)
      have hR2 := hR.out
      rw [hpt, Bool.true_and] at hR2
      replace hR2 := Lib.hid hR2
      subst hkn
      replace hpt := Lib.hid hpt
      go_wp2_with fail
      cases ca
      · refine (Pure.st (cca.out _ (hX.out x).2.2)).mono ?_
        rintro e _ ⟨rfl, x, rfl⟩
        go_wp2_with fail
        go_ret
        exact ⟨by rw [← hR2.out]; simp, (hX.out x).1⟩
      · refine (Pure.st (cca.out _ (hX.out x).2.2)).mono ?_
        rintro e _ ⟨rfl, x, rfl⟩
        go_wp2_with fail
        cases pr
        · refine (Pure.st (cpa.out _ (hX.out x).2.2)).mono ?_
          rintro e _ ⟨rfl, x, rfl⟩
          go_wp2_with fail
          go_ret
          exact ⟨by rw [← hR2.out]; simp, (hX.out x).1⟩
        · refine (Pure.st (cpa.out _ (hX.out x).2.2)).mono ?_
          rintro e _ ⟨rfl, x, rfl⟩
          go_wp2_with fail
          all_goals
            go_ret
            exact ⟨by rw [← hR2.out]; first | (simp_all; done) | (simp_all; omega), (hX.out x).1⟩
    · have hkl : k < n := by omega
      have hbk := hbad.out k
      have hcl := hcell.out k hkl
      obtain ⟨q1, q2⟩ := horth.out k hkl
      generalize p.ps.getD k 0 = q at *
      have z0 := fun z : Ext V.heap.size V => below_at (hX.out z).2.2 hcl
      have ckd := fun W => Lib.hid (rkind_c W q (by omega) (by omega))
      have cpl2 := fun W => Lib.hid (cpl.out k (by omega) W)
      have cla2 := fun W => Lib.hid (cla.out (decide (q < 0)) W)
      have hpm2 := Lib.hid (fun h => hpm.out k hkl h)
      have hki : ((k : Int) < n) = True := by simp; omega
      generalize (if decide (q < 0) = true then 0 else p.r - 1) = lst at *
      generalize kindI q = kd at *
      obtain ⟨kf, hkf⟩ : ∃ x, (k : Int) % p.f = x := ⟨_, rfl⟩
      obtain ⟨kr, hkr⟩ : ∃ x, (k : Int) / p.f = x := ⟨_, rfl⟩
      rw [hkr] at hbk
      simp only [hkf, hkr] at cpl2
      replace hkf := Lib.hid hkf
      replace hkr := Lib.hid hkr
      replace hbk := Lib.hid hbk
      clear hcl hkn cpl cla hpm
      have cpl := cpl2
      have cla := cla2
      clear cpl2 cla2
      go_wp2_with fail
      cases t1 : (kd == 1)
      · refine ext_region' (by kernel_rfl) (by kernel_rfl) ?_
        repeat (first | (go_big_quiet_step ((first | (go_at_call 66; exact Same.st (ckd _).out) | (go_at_call 67; exact Pure.st (cpl _).out) | (go_at_call 68; exact Pure.st (cla _).out)))) | ((refine wpQuiet_step (fun K hK => ?_)); go_simp; (first | (refine ⟨_, fun _ => rfl, hK _ ?_⟩) | (refine ⟨_, fun _ => ⟨rfl, rfl⟩, hK _ ?_⟩)); clear hK K))
        refine wpQuiet_nil ?_
        intro x
        replace t1 := Lib.hid t1
        have t2 := Lib.hid (show (kr == lst) = (kr == lst) from rfl)
        replace hpre := Lib.hid (fun j (hj : j < k + 1) => (show pawnBad p j = false by
          rcases Nat.lt_or_ge j k with h | h
          · exact hpre.out j h
          · obtain rfl : j = k := by omega
            rw [hbk.out]; simp [t1.out, t2.out]))
        go_wp2_with fail
        go_roundw
        case rel => exact ⟨k + 1, x, rfl, by omega, by go_num, hpre.out⟩
        case measure => simp [intOf]; omega
      · cases t2 : (kr == lst)
        · refine ext_region' (by kernel_rfl) (by kernel_rfl) ?_
          repeat (first | (go_big_quiet_step ((first | (go_at_call 66; exact Same.st (ckd _).out) | (go_at_call 67; exact Pure.st (cpl _).out) | (go_at_call 68; exact Pure.st (cla _).out)))) | ((refine wpQuiet_step (fun K hK => ?_)); go_simp; (first | (refine ⟨_, fun _ => rfl, hK _ ?_⟩) | (refine ⟨_, fun _ => ⟨rfl, rfl⟩, hK _ ?_⟩)); clear hK K))
          refine wpQuiet_nil ?_
          intro x
          replace t1 := Lib.hid t1
          replace t2 := Lib.hid t2
          replace hpre := Lib.hid (fun j (hj : j < k + 1) => (show pawnBad p j = false by
            rcases Nat.lt_or_ge j k with h | h
            · exact hpre.out j h
            · obtain rfl : j = k := by omega
              rw [hbk.out]; simp [t1.out, t2.out]))
          go_wp2_with fail
          go_roundw
          case rel => exact ⟨k + 1, x, rfl, by omega, by go_num, hpre.out⟩
          case measure => simp [intOf]; omega
        · have hpf := hpm2.out (by rw [hbk.out, t1, t2]; rfl)
          have hR2 := hR.out
          rw [hpf, Bool.false_and, Bool.false_and, Bool.false_and] at hR2
          subst hR2
          replace hpf := Lib.hid hpf
          refine ext_region' (by kernel_rfl) (by kernel_rfl) ?_
          repeat (first | (go_big_quiet_step ((first | (go_at_call 66; exact Same.st (ckd _).out) | (go_at_call 67; exact Pure.st (cpl _).out) | (go_at_call 68; exact Pure.st (cla _).out)))) | ((refine wpQuiet_step (fun K hK => ?_)); go_simp; (first | (refine ⟨_, fun _ => rfl, hK _ ?_⟩) | (refine ⟨_, fun _ => ⟨rfl, rfl⟩, hK _ ?_⟩)); clear hK K))
          refine wpQuiet_nil ?_
          intro x
          go_wp2
          go_ret
          exact ⟨rfl, (hX.out x).1⟩
end
section
theorem bit_or (S s a : Nat) : (S ||| 2 ^ s).testBit a = (S.testBit a || decide (s = a)) := by
  rw [Nat.testBit_or, Nat.testBit_two_pow]
theorem orL_bit (l : List Nat) (a : Nat) : ∀ S, (orL S l).testBit a = (S.testBit a || decide (a ∈ l)) := by
  induction l with
  | nil => intro S; simp [orL]
  | cons x l ih =>
    intro S
    show (orL (S ||| 2 ^ x) l).testBit a = _
    rw [ih, bit_or, Bool.or_assoc]
    congr 1
    rw [Bool.eq_iff_iff]
    simp only [Bool.or_eq_true, decide_eq_true_eq, List.mem_cons]
    constructor
    · rintro (h | h)
      · exact .inl h.symm
      · exact .inr h
    · rintro (h | h)
      · exact .inl h.symm
      · exact .inr h
theorem sq_xy {f r a X Y : Int} (hv : vsize f r = true) (h : onB f r X Y = true) (ha : 0 ≤ a) : sqn f X Y = a.toNat ↔ X = a % f ∧ Y = a / f := by
  obtain ⟨f1, f2, r1, r2⟩ := vsize_bd hv
  obtain ⟨x1, x2, y1, y2⟩ := onB_bd h
  have hs := (sqn_lt hv h).2
  have e := Int.mul_ediv_add_emod a f
  constructor
  · intro h2
    have h3 : X + Y * f = a := by rw [← hs, h2]; omega
    have h4 : a % f = X := by rw [← h3, Int.add_mul_emod_self_right]; exact Int.emod_eq_of_lt x1 x2
    have h5 : a / f = Y := by rw [← h3, Int.add_mul_ediv_right _ _ (by omega), Int.ediv_eq_zero_of_lt x1 x2]; omega
    exact ⟨h4.symm, h5.symm⟩
  · rintro ⟨rfl, rfl⟩
    have : ((sqn f (a % f) (a / f) : Nat) : Int) = a := by rw [hs, Int.mul_comm]; omega
    omega
theorem on_xy {f r a : Int} (hq : vsq f r a = true) : onB f r (a % f) (a / f) = true := by
  obtain ⟨h1, h2, _, h4, h5⟩ := pass_rank hq
  unfold onB
  simp
  omega
theorem leap_bit {f r a : Int} (hv : vsize f r = true) (hq : vsq f r a = true) (x y : Int) (L : List (Int × Int)) : ∀ S, (L.foldl (addS f r x y) S).testBit a.toNat = (S.testBit a.toNat || L.any fun d => x + d.1 == a % f && y + d.2 == a / f) := by
  induction L with
  | nil => intro S; simp
  | cons d L ih =>
    intro S
    rw [List.foldl_cons, ih, List.any_cons, ← Bool.or_assoc]
    congr 1
    unfold addS
    have ha := (vsq_bd hq).2.1
    cases ho : onB f r (x + d.1) (y + d.2)
    · rw [if_neg (by simp)]
      have : (x + d.1 == a % f && y + d.2 == a / f) = false := by
        rw [← Bool.not_eq_true]
        intro h
        simp only [Bool.and_eq_true, beq_iff_eq] at h
        rw [h.1, h.2, on_xy hq] at ho
        cases ho
      rw [this, Bool.or_false]
    · rw [if_pos rfl, bit_or]
      congr 1
      rw [Bool.eq_iff_iff]
      simp only [decide_eq_true_eq, Bool.and_eq_true, beq_iff_eq]
      exact sq_xy hv ho ha
theorem leapS_bit {f r i a : Int} (hv : vsize f r = true) (hq : vsq f r a = true) (L : List (Int × Int)) : (leapS f r i L).testBit a.toNat = L.any fun d => d.1 == a % f - i % f && d.2 == a / f - i / f := by
  unfold leapS
  rw [leap_bit hv hq, Nat.zero_testBit, Bool.false_or]
  congr 1
  funext d
  rw [Bool.eq_iff_iff]
  simp only [Bool.and_eq_true, beq_iff_eq]
  omega
theorem knight_all : ((List.range 15).all fun x => (List.range 15).all fun y => (leapsL.any fun d => d.1 == (x : Int) - 7 && d.2 == (y : Int) - 7) == (((x : Int) - 7) * ((x : Int) - 7) + ((y : Int) - 7) * ((y : Int) - 7) == 5)) = true := by kernel_rfl
theorem king_all : ((List.range 15).all fun x => (List.range 15).all fun y => ((diagL.any fun d => d.1 == (x : Int) - 7 && d.2 == (y : Int) - 7) || (strL.any fun d => d.1 == (x : Int) - 7 && d.2 == (y : Int) - 7)) == (max (kindI (7 - (x : Int))) (kindI (7 - (y : Int))) == 1)) = true := by kernel_rfl
theorem diffs {f r i a : Int} (hi : vsq f r i = true) (ha : vsq f r a = true) : ∃ x y : Nat, x < 15 ∧ y < 15 ∧ a % f - i % f = (x : Int) - 7 ∧ a / f - i / f = (y : Int) - 7 := by
  obtain ⟨h1, h2, _, h4, h5⟩ := pass_rank hi
  obtain ⟨g1, g2, _, g4, g5⟩ := pass_rank ha
  obtain ⟨f1, f2, r1, r2⟩ := vsize_bd (vsq_bd hi).1
  exact ⟨(a % f - i % f + 7).toNat, (a / f - i / f + 7).toNat, by omega, by omega, by omega, by omega⟩
theorem knight_bit {f r i a : Int} (hi : vsq f r i = true) (ha : vsq f r a = true) : (leapS f r i leapsL).testBit a.toNat = ((a % f - i % f) * (a % f - i % f) + (a / f - i / f) * (a / f - i / f) == 5) := by
  rw [leapS_bit (vsq_bd hi).1 ha]
  obtain ⟨x, y, hx, hy, e1, e2⟩ := diffs hi ha
  rw [e1, e2]
  have := List.all_eq_true.1 (List.all_eq_true.1 knight_all x (List.mem_range.2 hx)) y (List.mem_range.2 hy)
  simpa using this
theorem king_bit {f r i a : Int} (hi : vsq f r i = true) (ha : vsq f r a = true) : (kingS f r i).testBit a.toNat = (distI f i a == 1) := by
  unfold kingS distI
  rw [Nat.testBit_or, leapS_bit (vsq_bd hi).1 ha, leapS_bit (vsq_bd hi).1 ha]
  obtain ⟨x, y, hx, hy, e1, e2⟩ := diffs hi ha
  rw [e1, e2, show i % f - a % f = 7 - (x : Int) by omega, show i / f - a / f = 7 - (y : Int) by omega]
  have := List.all_eq_true.1 (List.all_eq_true.1 king_all x (List.mem_range.2 hx)) y (List.mem_range.2 hy)
  simpa using this
theorem dist_self (f a : Int) : distI f a a = 0 := by unfold distI kindI; simp
theorem pawn_bit {f r i a : Int} (bl : Bool) (hi : vsq f r i = true) (ha : vsq f r a = true) : (pawnS f r bl i).testBit a.toNat = (castL (pawnL f r bl i)).contains a := by
  unfold pawnS
  rw [leapS_bit (vsq_bd hi).1 ha]
  have e : (castL (pawnL f r bl i)).contains a = pawnB f bl i a := by
    obtain ⟨hv, a0, a1⟩ := vsq_bd ha
    rw [Bool.eq_iff_iff, List.contains_iff_mem]
    unfold castL pawnL cntN
    rw [List.mem_map]
    constructor
    · rintro ⟨n, hn, rfl⟩
      exact (List.mem_filter.1 hn).2
    · intro h
      refine ⟨a.toNat, List.mem_filter.2 ⟨List.mem_range.2 (by omega), ?_⟩, by omega⟩
      rw [show ((a.toNat : Nat) : Int) = a by omega]
      exact h
  rw [e]
  unfold pawnB
  rw [Bool.eq_iff_iff]
  simp only [List.any_cons, List.any_nil, Bool.or_false, Bool.or_eq_true, Bool.and_eq_true, beq_iff_eq]
  omega
theorem hit_mem (occ : Nat) (a : Nat) : ∀ l : List Nat, a ∈ hitL occ l ↔ a ∈ l ∧ ∀ s ∈ l.takeWhile (fun x => x != a), occ.testBit s = false := by
  intro l
  induction l with
  | nil => simp [hitL]
  | cons x l ih =>
    by_cases hx : x = a
    · subst hx
      have : x ∈ hitL occ (x :: l) := by
        unfold hitL
        split <;> simp
      simp [this]
    · have hxa : ¬ a = x := fun e => hx e.symm
      rw [List.takeWhile_cons, if_pos (by simpa using hx)]
      cases ho : occ.testBit x
      · have e : hitL occ (x :: l) = x :: hitL occ l := by
          rw [hitL, if_neg (by rw [ho]; simp)]
        rw [e, List.mem_cons, ih]
        simp [hxa, ho]
      · have e : hitL occ (x :: l) = [x] := by
          rw [hitL, if_pos ho]
        rw [e]
        simp [hxa, ho]
theorem ray_mem {f r dx dy : Int} (n : Nat) : ∀ (x y : Int) (s : Nat), s ∈ rayN f r dx dy n x y → ∃ k : Nat, 1 ≤ k ∧ k ≤ n ∧ onB f r (x + k * dx) (y + k * dy) = true ∧ s = sqn f (x + k * dx) (y + k * dy) := by
  induction n with
  | zero => intro x y s h; simp [rayN] at h
  | succ n ih =>
    intro x y s h
    unfold rayN at h
    split at h
    · rename_i ho
      rcases List.mem_cons.1 h with rfl | h
      · exact ⟨1, by omega, by omega, by simpa using ho, by simp⟩
      · obtain ⟨k, h1, h2, h3, h4⟩ := ih _ _ _ h
        have ex : x + dx + (k : Int) * dx = x + ((k + 1 : Nat) : Int) * dx := by push_cast; rw [Int.add_mul]; omega
        have ey : y + dy + (k : Int) * dy = y + ((k + 1 : Nat) : Int) * dy := by push_cast; rw [Int.add_mul]; omega
        rw [ex, ey] at h3 h4
        exact ⟨k + 1, by omega, by omega, h3, h4⟩
    · cases h
theorem ray_on {f r dx dy : Int} (n : Nat) : ∀ (x y : Int) (k : Nat), 1 ≤ k → k ≤ n → (∀ j : Nat, 1 ≤ j → j ≤ k → onB f r (x + j * dx) (y + j * dy) = true) → sqn f (x + k * dx) (y + k * dy) ∈ rayN f r dx dy n x y := by
  induction n with
  | zero => intro x y k h1 h2; omega
  | succ n ih =>
    intro x y k h1 h2 h
    unfold rayN
    have ho := h 1 (by omega) h1
    simp only [Int.natCast_one, Int.one_mul] at ho
    rw [if_pos ho]
    rcases Nat.lt_or_ge 1 k with hk | hk
    · obtain ⟨m, rfl⟩ : ∃ m, k = m + 1 := ⟨k - 1, by omega⟩
      refine List.mem_cons_of_mem _ ?_
      have hx : ∀ j : Nat, x + ((j + 1 : Nat) : Int) * dx = x + dx + (j : Int) * dx := fun j => by push_cast; rw [Int.add_mul]; omega
      have hy : ∀ j : Nat, y + ((j + 1 : Nat) : Int) * dy = y + dy + (j : Int) * dy := fun j => by push_cast; rw [Int.add_mul]; omega
      rw [hx, hy]
      refine ih _ _ m (by omega) (by omega) fun j j1 j2 => ?_
      rw [← hx, ← hy]
      exact h (j + 1) (by omega) (by omega)
    · obtain rfl : k = 1 := by omega
      simp
end
section
theorem line_iff {f i a : Int} : lineB f i a = true ↔ i ≠ a ∧ (a % f - i % f = 0 ∨ a / f - i / f = 0 ∨ a % f - i % f = a / f - i / f ∨ a % f - i % f + (a / f - i / f) = 0) := by
  unfold lineB
  simp [or_assoc]
theorem ray_dir {f r i a dx dy : Int} (hi : vsq f r i = true) (ha : vsq f r a = true) (d1 : -1 ≤ dx) (d2 : dx ≤ 1) (d3 : -1 ≤ dy) (d4 : dy ≤ 1) (d0 : dx ≠ 0 ∨ dy ≠ 0) (h : a.toNat ∈ rayL f r i dx dy) :
    lineB f i a = true ∧ sgnI (a % f - i % f) = dx ∧ sgnI (a / f - i / f) = dy := by
  obtain ⟨k, h1, h2, h3, h4⟩ := ray_mem 8 _ _ _ h
  obtain ⟨e1, e2⟩ := (sq_xy (vsq_bd hi).1 h3 (vsq_bd ha).2.1).1 h4.symm
  have hne : a % f - i % f ≠ 0 ∨ a / f - i / f ≠ 0 → i ≠ a := by
    rintro h e
    subst e
    omega
  rw [line_iff]
  unfold sgnI
  obtain rfl | rfl | rfl : dx = -1 ∨ dx = 0 ∨ dx = 1 := by omega
  all_goals
    obtain rfl | rfl | rfl : dy = -1 ∨ dy = 0 ∨ dy = 1 := by omega
    all_goals first
      | (exfalso; omega)
      | (refine ⟨⟨hne (by omega), by omega⟩, ?_, ?_⟩ <;> (split <;> (try split) <;> omega))
theorem ray_conv {f r i a : Int} (hi : vsq f r i = true) (ha : vsq f r a = true) (h : lineB f i a = true) : a.toNat ∈ rayL f r i (sgnI (a % f - i % f)) (sgnI (a / f - i / f)) := by
  obtain ⟨hne, hl⟩ := line_iff.1 h
  have hd : a % f - i % f ≠ 0 ∨ a / f - i / f ≠ 0 := by
    rcases Decidable.em (a % f - i % f = 0) with h1 | h1
    · right
      intro h2
      exact hne (pt_eq (f := f) (by omega) (by omega))
    · exact .inl h1
  obtain ⟨h1, h2, _, h4, h5⟩ := pass_rank hi
  obtain ⟨g1, g2, _, g4, g5⟩ := pass_rank ha
  obtain ⟨f1, f2, r1, r2⟩ := vsize_bd (vsq_bd hi).1
  have key : ∀ (dx dy : Int) (k : Nat), 1 ≤ k → k ≤ 8 → i % f + k * dx = a % f → i / f + k * dy = a / f → (∀ j : Nat, 1 ≤ j → j ≤ k → onB f r (i % f + j * dx) (i / f + j * dy) = true) → a.toNat ∈ rayL f r i dx dy := by
    intro dx dy k k1 k2 e1 e2 ho
    have := ray_on (f := f) (r := r) (dx := dx) (dy := dy) 8 (i % f) (i / f) k k1 k2 ho
    rw [e1, e2, (sq_xy (vsq_bd hi).1 (on_xy ha) (vsq_bd ha).2.1).2 ⟨rfl, rfl⟩] at this
    exact this
  unfold sgnI
  generalize a % f = ax at *
  generalize a / f = ay at *
  generalize i % f = ix at *
  generalize i / f = iy at *
  have hon : ∀ x y : Int, (0 ≤ x ∧ x < f ∧ 0 ≤ y ∧ y < r) → onB f r x y = true := fun x y h => by unfold onB; simp; omega
  rcases (by omega : ax - ix < 0 ∨ ax - ix = 0 ∨ 0 < ax - ix) with hx | hx | hx
  · rcases (by omega : ay - iy < 0 ∨ ay - iy = 0 ∨ 0 < ay - iy) with hy | hy | hy
    · rw [if_pos hx, if_pos hy]
      exact key _ _ (ix - ax).toNat (by omega) (by omega) (by omega) (by omega) (fun j j1 j2 => hon _ _ (by omega))
    · rw [if_pos hx, if_neg (by omega), if_neg (by omega)]
      exact key _ _ (ix - ax).toNat (by omega) (by omega) (by omega) (by omega) (fun j j1 j2 => hon _ _ (by omega))
    · rw [if_pos hx, if_neg (by omega), if_pos hy]
      exact key _ _ (ix - ax).toNat (by omega) (by omega) (by omega) (by omega) (fun j j1 j2 => hon _ _ (by omega))
  · rcases (by omega : ay - iy < 0 ∨ 0 < ay - iy) with hy | hy
    · rw [if_neg (by omega), if_neg (by omega), if_pos hy]
      exact key _ _ (iy - ay).toNat (by omega) (by omega) (by omega) (by omega) (fun j j1 j2 => hon _ _ (by omega))
    · rw [if_neg (by omega), if_neg (by omega), if_neg (by omega), if_pos hy]
      exact key _ _ (ay - iy).toNat (by omega) (by omega) (by omega) (by omega) (fun j j1 j2 => hon _ _ (by omega))
  · rcases (by omega : ay - iy < 0 ∨ ay - iy = 0 ∨ 0 < ay - iy) with hy | hy | hy
    · rw [if_neg (by omega), if_pos hx, if_pos hy]
      exact key _ _ (ax - ix).toNat (by omega) (by omega) (by omega) (by omega) (fun j j1 j2 => hon _ _ (by omega))
    · rw [if_neg (by omega), if_pos hx, if_neg (by omega), if_neg (by omega)]
      exact key _ _ (ax - ix).toNat (by omega) (by omega) (by omega) (by omega) (fun j j1 j2 => hon _ _ (by omega))
    · rw [if_neg (by omega), if_pos hx, if_neg (by omega), if_pos hy]
      exact key _ _ (ax - ix).toNat (by omega) (by omega) (by omega) (by omega) (fun j j1 j2 => hon _ _ (by omega))
theorem slide_bit' (f r i : Int) (occ a : Nat) (L : List (Int × Int)) : ∀ S, (L.foldl (slideD f r i occ) S).testBit a = (S.testBit a || L.any fun d => decide (a ∈ hitL occ (rayL f r i d.1 d.2))) := by
  induction L with
  | nil => intro S; simp
  | cons d L ih =>
    intro S
    rw [List.foldl_cons, ih, List.any_cons, ← Bool.or_assoc]
    congr 1
    unfold slideD
    exact orL_bit _ _ _
theorem takeWhile_cast (l : List Nat) (a : Int) (ha : 0 ≤ a) : (castL l).takeWhile (fun x => x != a) = castL (l.takeWhile fun x => x != a.toNat) := by
  induction l with
  | nil => rfl
  | cons x l ih =>
    unfold castL at ih ⊢
    rw [List.map_cons, List.takeWhile_cons, List.takeWhile_cons]
    by_cases h : x = a.toNat
    · rw [if_neg (by simp; omega), if_neg (by simpa using h)]
      rfl
    · rw [if_pos (by simp; omega), if_pos (by simpa using h), List.map_cons, ih]
theorem free_ray {f r i a dx dy : Int} {occ : Nat} (hv : vsize f r = true) (ha : 0 ≤ a) (h : a.toNat ∈ rayL f r i dx dy) :
    freeB (betw (rayI f r i dx dy) a) occ = decide (a.toNat ∈ hitL occ (rayL f r i dx dy)) := by
  have hc : (rayI f r i dx dy).contains a = true := by
    rw [List.contains_iff_mem]
    unfold rayI
    exact List.mem_map.2 ⟨a.toNat, h, by omega⟩
  unfold betw
  rw [if_pos hc, show rayI f r i dx dy = castL (rayL f r i dx dy) from rfl, takeWhile_cast _ _ ha, Bool.eq_iff_iff, decide_eq_true_eq, hit_mem]
  unfold freeB castL
  rw [List.all_eq_true]
  constructor
  · intro hall
    refine ⟨h, fun s hs => ?_⟩
    have h1 := hall (s : Int) (List.mem_map.2 ⟨s, hs, rfl⟩)
    have h2 := rayN_bd hv 8 _ _ s ((List.takeWhile_sublist _).subset hs)
    simp at h1
    rcases h1 with h1 | h1
    · omega
    · exact h1
  · rintro ⟨_, hall⟩ x hx
    obtain ⟨s, hs, rfl⟩ := List.mem_map.1 hx
    have := hall s hs
    simp [this]
theorem slide_bit {f r i a : Int} {occ : Nat} (hi : vsq f r i = true) (ha : vsq f r a = true) (L : List (Int × Int)) (hL : ∀ d ∈ L, -1 ≤ d.1 ∧ d.1 ≤ 1 ∧ -1 ≤ d.2 ∧ d.2 ≤ 1 ∧ (d.1 ≠ 0 ∨ d.2 ≠ 0)) :
    (slideS f r i occ L).testBit a.toNat = (lineB f i a && decide ((sgnI (a % f - i % f), sgnI (a / f - i / f)) ∈ L) && freeB (betwI f r i a) occ) := by
  unfold slideS
  rw [slide_bit', Nat.zero_testBit, Bool.false_or, Bool.eq_iff_iff, List.any_eq_true]
  simp only [Bool.and_eq_true, decide_eq_true_eq]
  constructor
  · rintro ⟨d, hd, hm⟩
    obtain ⟨b1, b2, b3, b4, b0⟩ := hL d hd
    have hr := ((hit_mem occ a.toNat _).1 hm).1
    obtain ⟨h1, h2, h3⟩ := ray_dir hi ha b1 b2 b3 b4 b0 hr
    refine ⟨⟨h1, ?_⟩, ?_⟩
    · rw [h2, h3]; exact hd
    · unfold betwI
      rw [h2, h3, free_ray (vsq_bd hi).1 (vsq_bd ha).2.1 hr]
      exact decide_eq_true hm
  · rintro ⟨⟨h1, h2⟩, h3⟩
    have hr := ray_conv hi ha h1
    unfold betwI at h3
    rw [free_ray (vsq_bd hi).1 (vsq_bd ha).2.1 hr] at h3
    exact ⟨_, h2, of_decide_eq_true h3⟩
theorem dirs_all : ((List.range 3).all fun x => (List.range 3).all fun y => (decide (((x : Int) - 1, (y : Int) - 1) ∈ strL) == (((x : Int) - 1 == 0 || (y : Int) - 1 == 0) && !((x : Int) - 1 == 0 && (y : Int) - 1 == 0))) && (decide (((x : Int) - 1, (y : Int) - 1) ∈ diagL) == (!((x : Int) - 1 == 0 || (y : Int) - 1 == 0)))) = true := by kernel_rfl
theorem dirs {x y : Int} (h0 : x ≠ 0 ∨ y ≠ 0) : decide ((sgnI x, sgnI y) ∈ strL) = (x == 0 || y == 0) ∧ decide ((sgnI x, sgnI y) ∈ diagL) = !(x == 0 || y == 0) := by
  obtain ⟨s1, s2, _⟩ := sgn_bd x
  obtain ⟨t1, t2, _⟩ := sgn_bd y
  have := List.all_eq_true.1 (List.all_eq_true.1 dirs_all (sgnI x + 1).toNat (List.mem_range.2 (by omega))) (sgnI y + 1).toNat (List.mem_range.2 (by omega))
  rw [show (((sgnI x + 1).toNat : Nat) : Int) - 1 = sgnI x by omega, show (((sgnI y + 1).toNat : Nat) : Int) - 1 = sgnI y by omega] at this
  simp only [Bool.and_eq_true, beq_iff_eq] at this
  have ex : (sgnI x == 0) = (x == 0) := by
    rw [Bool.eq_iff_iff, beq_iff_eq, beq_iff_eq]; unfold sgnI; split <;> (try split) <;> omega
  have ey : (sgnI y == 0) = (y == 0) := by
    rw [Bool.eq_iff_iff, beq_iff_eq, beq_iff_eq]; unfold sgnI; split <;> (try split) <;> omega
  rw [ex, ey] at this
  have hne : (x == 0 && y == 0) = false := by
    rw [← Bool.not_eq_true]; simp; omega
  rw [hne] at this
  simpa using this
theorem reach_bit {f r k i a : Int} {occ : Nat} (hi : vsq f r i = true) (ha : vsq f r a = true) (hk : 2 ≤ k ∧ k ≤ 6) : (reachS f r i occ k).testBit a.toNat = (i != a && reachB f r k i a occ) := by
  have hdiag : ∀ d ∈ diagL, -1 ≤ d.1 ∧ d.1 ≤ 1 ∧ -1 ≤ d.2 ∧ d.2 ≤ 1 ∧ (d.1 ≠ 0 ∨ d.2 ≠ 0) := by decide
  have hstr : ∀ d ∈ strL, -1 ≤ d.1 ∧ d.1 ≤ 1 ∧ -1 ≤ d.2 ∧ d.2 ≤ 1 ∧ (d.1 ≠ 0 ∨ d.2 ≠ 0) := by decide
  by_cases hia : i = a
  · subst hia
    have hl : lineB f i i = false := by
      rw [← Bool.not_eq_true, line_iff]
      simp
    rw [show (i != i) = false by simp, Bool.false_and]
    obtain rfl | rfl | rfl | rfl | rfl : k = 2 ∨ k = 3 ∨ k = 4 ∨ k = 5 ∨ k = 6 := by omega
    · show (leapS f r i leapsL).testBit i.toNat = false
      rw [knight_bit hi ha]
      simp
    · show (slideS f r i occ diagL).testBit i.toNat = false
      rw [slide_bit hi ha _ hdiag, hl]
      simp
    · show (slideS f r i occ strL).testBit i.toNat = false
      rw [slide_bit hi ha _ hstr, hl]
      simp
    · show (queenS f r i occ).testBit i.toNat = false
      unfold queenS
      rw [Nat.testBit_or, slide_bit hi ha _ hdiag, slide_bit hi ha _ hstr, hl]
      simp
    · show (kingS f r i).testBit i.toNat = false
      rw [king_bit hi ha, dist_self]
      rfl
  · have hne : (i != a) = true := by simpa using hia
    rw [hne, Bool.true_and]
    have hd : a % f - i % f ≠ 0 ∨ a / f - i / f ≠ 0 := by
      rcases Decidable.em (a % f - i % f = 0) with h1 | h1
      · right
        intro h2
        exact hia (pt_eq (f := f) (by omega) (by omega))
      · exact .inl h1
    obtain ⟨hs, hg⟩ := dirs hd
    obtain rfl | rfl | rfl | rfl | rfl : k = 2 ∨ k = 3 ∨ k = 4 ∨ k = 5 ∨ k = 6 := by omega
    · exact knight_bit hi ha
    · show (slideS f r i occ diagL).testBit a.toNat = _
      rw [slide_bit hi ha _ hdiag, hg]
      unfold reachB
      rw [if_neg (by omega), if_neg (by omega)]
      cases (a % f - i % f == 0 || a / f - i / f == 0) <;> simp
    · show (slideS f r i occ strL).testBit a.toNat = _
      rw [slide_bit hi ha _ hstr, hs]
      unfold reachB
      rw [if_neg (by omega), if_neg (by omega)]
      cases (a % f - i % f == 0 || a / f - i / f == 0) <;> simp
    · show (queenS f r i occ).testBit a.toNat = _
      unfold queenS
      rw [Nat.testBit_or, slide_bit hi ha _ hdiag, slide_bit hi ha _ hstr, hs, hg]
      unfold reachB
      rw [if_neg (by omega), if_neg (by omega)]
      cases (a % f - i % f == 0 || a / f - i / f == 0) <;> simp
    · show (kingS f r i).testBit a.toNat = _
      rw [king_bit hi ha]
      rfl
end
section
theorem filter_none {P : Nat → Bool} {L : List Nat} (h : ∀ i ∈ L, P i = false) : L.filter P = [] := by
  rw [List.filter_eq_nil_iff]
  intro i hi
  rw [h i hi]
  simp
theorem range_one {P : Nat → Bool} {n a : Nat} (ha : a < n) (hp : P a = true) (h1 : ∀ i, i < a → P i = false) (h2 : ∀ i, a < i → i < n → P i = false) : (List.range n).filter P = [a] := by
  obtain ⟨m, rfl⟩ : ∃ m, n = a + (1 + m) := ⟨n - a - 1, by omega⟩
  rw [List.range_add, List.filter_append, filter_none (fun i hi => h1 i (List.mem_range.1 hi)), List.nil_append, List.range_add, List.map_append, List.filter_append]
  have hrest : (List.map (fun x => a + x) (List.map (fun x => 1 + x) (List.range m))).filter P = [] := filter_none fun i hi => by
    simp only [List.map_map, List.mem_map, List.mem_range, Function.comp] at hi
    obtain ⟨x, hx, rfl⟩ := hi
    exact h2 _ (by omega) (by omega)
  rw [hrest, show (List.map (fun x => a + x) (List.range 1)) = [a] by simp, List.filter_cons, if_pos hp]
  rfl
theorem getD_at {ps : List Int} {i : Nat} (h : i < ps.length) : ps[i]? = some (ps.getD i 0) := by
  rw [List.getD_eq_getElem?_getD, List.getElem?_eq_getElem h]
  rfl
theorem king_some {ps : List Int} {bl : Bool} {a : Nat} (h : kingI ps bl = some a) : kingR ps bl = a := by
  unfold kingI at h
  split at h
  · rename_i hany
    split at h
    · cases h
    · rename_i hno
      have hlt := (List.findIdx_lt_length (p := fun x => x == kingP bl) (xs := ps)).2 (List.any_eq_true.1 hany)
      cases h
      refine kingR_one rfl ?_
      unfold kingN idxN
      refine range_one hlt ?_ ?_ ?_
      · have := List.findIdx_getElem (w := hlt)
        rw [List.getD_eq_getElem?_getD, List.getElem?_eq_getElem hlt]
        exact this
      · intro i hi
        have := List.not_of_lt_findIdx hi
        rw [List.getD_eq_getElem?_getD, List.getElem?_eq_getElem (by omega)]
        simpa using this
      · intro i h1 h2
        simp only [List.any_eq_true, not_exists, not_and, Bool.not_eq_true] at hno
        have hm : ps.getD i 0 ∈ ps.drop (ps.findIdx (fun x => x == kingP bl) + 1) := by
          refine List.mem_of_getElem? (i := i - (ps.findIdx (fun x => x == kingP bl) + 1)) ?_
          rw [List.getElem?_drop, show ps.findIdx (fun x => x == kingP bl) + 1 + (i - (ps.findIdx (fun x => x == kingP bl) + 1)) = i by omega]
          exact getD_at h2
        exact hno _ hm
  · cases h
theorem king_none {ps : List Int} {bl : Bool} (h : kingI ps bl = none) : kingR ps bl = -1 := by
  refine kingR_no rfl ?_
  intro hl
  obtain ⟨a, ha⟩ := List.length_eq_one_iff.1 hl
  have hmem : ∀ i, i < ps.length → (ps.getD i 0 == kingP bl) = true → i = a := fun i hi hp => by
    have : i ∈ kingN ps bl := List.mem_filter.2 ⟨List.mem_range.2 hi, hp⟩
    rw [ha] at this
    simpa using this
  have haa : a ∈ kingN ps bl := by rw [ha]; simp
  obtain ⟨h1, h2⟩ := idxN_at haa
  unfold kingI at h
  rw [if_pos (List.any_eq_true.2 ⟨_, List.mem_of_getElem? (getD_at h1), h2⟩)] at h
  split at h
  · rename_i hany
    have hfl := (List.findIdx_lt_length (p := fun x => x == kingP bl) (xs := ps)).2 ⟨_, List.mem_of_getElem? (getD_at h1), h2⟩
    have e1 := hmem _ hfl (by
      have := List.findIdx_getElem (w := hfl)
      rw [List.getD_eq_getElem?_getD, List.getElem?_eq_getElem hfl]
      exact this)
    obtain ⟨x, hx, hp⟩ := List.any_eq_true.1 hany
    obtain ⟨j, hj⟩ := List.getElem?_of_mem hx
    rw [List.getElem?_drop] at hj
    have hjl := (List.getElem?_eq_some_iff.1 hj).1
    have e2 := hmem _ hjl (by rw [List.getD_eq_getElem?_getD, hj]; exact hp)
    omega
  · cases h
theorem orL_filter (P : Nat → Bool) (k : Nat) : orL 0 ((List.range (k + 1)).filter P) = if P k then orL 0 ((List.range k).filter P) ||| 2 ^ k else orL 0 ((List.range k).filter P) := by
  rw [List.range_succ, List.filter_append, orL_app]
  cases h : P k
  · rw [List.filter_cons, if_neg (by rw [h]; simp), if_neg (by simp)]
    simp [orL]
  · rw [List.filter_cons, if_pos h, if_pos rfl]
    simp [orL]
theorem att_range (f r : Int) (ps : List Int) (a : Nat) (bl : Bool) (k : Nat) : attS f r ps a bl k = orL 0 ((List.range k).filter fun i => isB (ps.getD i 0) bl && (ofS f r (ps.getD i 0) i (occS ps)).testBit a) := by
  induction k with
  | zero => rfl
  | succ k ih => rw [attS_snoc, orL_filter, ih]
theorem orL_zero (l : List Nat) : (orL 0 l == 0) = l.isEmpty := by
  cases l with
  | nil => rfl
  | cons x l =>
    have h : (orL 0 (x :: l)).testBit x = true := by rw [orL_bit]; simp
    have : orL 0 (x :: l) ≠ 0 := by
      intro e
      rw [e, Nat.zero_testBit] at h
      cases h
    simpa using this
theorem attL_range (f r : Int) (ps : List Int) (a : Int) (bl : Bool) : attL f r ps a bl = (List.range ps.length).filter fun i => sgnI (ps.getD i 0) == fwd bl && attR' f r ps a i := by
  unfold attL idxN
  rw [List.filter_filter]
  congr 1
  funext i
  rw [Bool.and_comm]
theorem att_same {f r : Int} {ps : List Int} {a : Nat} {bl : Bool} (ho : orthB f r ps = true) (ha : a < ps.length) : attL f r ps a bl = (List.range ps.length).filter fun i => isB (ps.getD i 0) bl && (ofS f r (ps.getD i 0) i (occS ps)).testBit a := by
  rw [attL_range]
  refine List.filter_congr fun i hi => ?_
  have hil := List.mem_range.1 hi
  have hbv : bvalid f r ps = true := by unfold orthB at ho; rw [Bool.and_eq_true] at ho; exact ho.1
  obtain ⟨hv, hlen, _⟩ := bvalid_len hbv
  have hqi := vsq_of hv hlen hil
  have hqa := vsq_of hv hlen ha
  obtain ⟨p1, p2⟩ := orthB_at ho (getD_at hil)
  unfold attR'
  generalize ps.getD i 0 = p at *
  have hs : (sgnI p == fwd bl) = isB p bl := by
    rw [Bool.eq_iff_iff]
    unfold sgnI fwd isB
    cases bl <;> simp <;> (split <;> (try split) <;> omega)
  rw [hs]
  by_cases h0 : p = 0
  · subst h0
    have : isB 0 bl = false := by unfold isB; simp
    rw [this]
    rfl
  · congr 1
    have hb := @reach_bit f r (kindI p) i a (occS ps) hqi hqa
    rw [Int.toNat_natCast] at hb
    have hpw := fun b => @pawn_bit f r i a b hqi hqa
    simp only [Int.toNat_natCast] at hpw
    unfold attR ofS
    by_cases h1 : p = 1
    · subst h1
      rw [if_pos rfl, if_pos (by rfl), hpw]
      rfl
    · by_cases h2 : p = -1
      · subst h2
        rw [if_pos (by rfl), if_neg (by decide), if_pos rfl, hpw]
        rfl
      · have hk : 2 ≤ kindI p ∧ kindI p ≤ 6 := by unfold kindI; split <;> omega
        have hmax : max p (-p) = kindI p := by unfold kindI; split <;> omega
        rw [if_neg (show ¬ kindI p = 1 by omega), if_neg h1, if_neg h2, hmax, hb hk]
theorem check_same {f r : Int} {ps : List Int} {a : Nat} {bl : Bool} (ho : orthB f r ps = true) (ha : a < ps.length) : (attL f r ps a bl).isEmpty = (attS f r ps a bl ps.length == 0) := by
  rw [att_same ho ha, att_range, orL_zero]
end
section
theorem orthB_bv {f r : Int} {ps : List Int} (ho : orthB f r ps = true) : bvalid f r ps = true := by unfold orthB at ho; rw [Bool.and_eq_true] at ho; exact ho.1
theorem rvalid6_c (w : World) (p : Pos) (po : Option Addr) (cap : Nat) (hS : SlcAt w po p.ps) (hn : p.ps.length ≤ 1000) (hc : 0 ≤ p.castle ∧ p.castle ≤ 255) :
    Pure 19 #[.agg (p.cells po cap)] w (.bool (rvB p)) := by
  unfold rvB
  cases ho : orthB p.f p.r p.ps
  · exact (rvalid6_no w p po cap hS hn ho).of_eq (by simp)
  · have hbv := orthB_bv ho
    obtain ⟨hv, hlen, h64⟩ := bvalid_len hbv
    have hm := vsize_mul hv
    obtain ⟨b, off, rfl, hPc⟩ := hS.resolve_left (by
      intro h
      rw [h] at hlen
      simp at hlen
      omega)
    by_cases h1 : 0 ≤ kingR p.ps false
    · by_cases h2 : 0 ≤ kingR p.ps true
      · cases hA : (attL p.f p.r p.ps (kingR p.ps (!p.black)) (!!p.black)).isEmpty
        · exact (rvalid6_k w p b off cap hPc ho (.inr (.inr hA))).of_eq (by simp [h1, h2])
        · exact (rvalid6_y w p b off cap hPc ho hc h1 h2 hA).of_eq (by simp [h1, h2])
      · exact (rvalid6_k w p b off cap hPc ho (.inr (.inl (by omega)))).of_eq (by simp [h1, h2])
    · exact (rvalid6_k w p b off cap hPc ho (.inl (by omega))).of_eq (by simp [h1])
theorem kings_same {p : Pos} (ho : orthB p.f p.r p.ps = true) : (decide (0 ≤ kingR p.ps false) && decide (0 ≤ kingR p.ps true) && (attL p.f p.r p.ps (kingR p.ps (!p.black)) (!!p.black)).isEmpty) = p.kings := by
  have hall : (decide (0 ≤ kingR p.ps false) && decide (0 ≤ kingR p.ps true)) = (decide (0 ≤ kingR p.ps p.black) && decide (0 ≤ kingR p.ps (!p.black))) := by
    cases p.black
    · rfl
    · exact Bool.and_comm _ _
  rw [hall]
  unfold Pos.kings
  rw [ho, Bool.true_and]
  cases h1 : kingI p.ps p.black with
  | none =>
    rw [king_none h1]
    simp
  | some a =>
    rw [king_some h1]
    cases h2 : kingI p.ps (!p.black) with
    | none =>
      rw [king_none h2]
      simp
    | some c =>
      rw [king_some h2, check_same ho (kingI_lt h2)]
      simp
theorem pawns_same {p : Pos} (hbv : bvalid p.f p.r p.ps = true) : pawnsR p = p.pawns := by
  obtain ⟨hv, hlen, h64⟩ := bvalid_len hbv
  obtain ⟨b1, b2, b3, b4⟩ := vsize_bd hv
  obtain ⟨f, hf⟩ : ∃ f : Nat, p.f = f := ⟨p.f.toNat, by omega⟩
  obtain ⟨r, hr⟩ : ∃ r : Nat, p.r = r := ⟨p.r.toNat, by omega⟩
  have hln : p.ps.length = f * r := by rw [hf, hr] at hlen; exact_mod_cast hlen
  have hfr : f ≤ f * r := Nat.le_mul_of_pos_right f (by omega)
  rw [Bool.eq_iff_iff]
  unfold pawnsR Pos.pawns
  rw [hf, Int.toNat_natCast]
  have hL : (((List.range p.ps.length).all fun i => !pawnBad p i) = true) ↔ ∀ i, i < p.ps.length → pawnBad p i = false := by simp [List.all_eq_true, List.mem_range]
  rw [hL]
  simp only [Bool.and_eq_true, Bool.not_eq_true', List.any_eq_false, beq_iff_eq, List.mem_iff_getElem?]
  have hrow : ∀ i : Nat, i < f * r → (((i : Int) / (f : Int)) = 0 ↔ i < f) ∧ (((i : Int) / (f : Int)) = p.r - 1 ↔ f * r - f ≤ i) := by
    intro i hi
    have e : (i : Int) / (f : Int) = ((i / f : Nat) : Int) := by simp
    rw [e, hr]
    have d1 : i / f < r := by rw [Nat.div_lt_iff_lt_mul (by omega)]; rw [Nat.mul_comm]; exact hi
    have d2 : i / f = 0 ↔ i < f := by rw [Nat.div_eq_zero_iff]; omega
    have d3 : r - 1 ≤ i / f ↔ (r - 1) * f ≤ i := by rw [Nat.le_div_iff_mul_le (by omega)]
    have d4 : (r - 1) * f = f * r - f := by rw [Nat.sub_mul, Nat.one_mul, Nat.mul_comm]
    rw [d4] at d3
    omega
  constructor
  · intro h
    refine ⟨?_, ?_⟩
    · rintro x ⟨i, hi⟩ rfl
      rw [List.getElem?_drop] at hi
      obtain ⟨hl, he⟩ := List.getElem?_eq_some_iff.1 hi
      have := h _ hl
      unfold pawnBad kindI at this
      rw [hf, List.getD_eq_getElem?_getD, hi] at this
      have hh := (hrow (p.ps.length - f + i) (by omega)).2.2 (by omega)
      generalize p.ps.length - f + i = j at *
      simp [hh] at this
    · rintro x ⟨i, hi⟩ rfl
      rw [List.getElem?_take] at hi
      split at hi
      · rename_i hif
        obtain ⟨hl, he⟩ := List.getElem?_eq_some_iff.1 hi
        have := h _ hl
        unfold pawnBad kindI at this
        rw [hf, List.getD_eq_getElem?_getD, hi] at this
        have hh := (hrow _ (by omega)).1.2 hif
        simp [hh] at this
      · cases hi
  · rintro ⟨h1, h2⟩ i hi
    have hg := getD_at hi
    unfold pawnBad kindI
    rw [hf]
    obtain ⟨w1, w2⟩ := hrow i (by omega)
    generalize hq : p.ps.getD i 0 = q at *
    rw [Bool.and_eq_false_iff]
    by_cases hlt : q < 0
    · rw [if_pos hlt, if_pos (by simpa using hlt)]
      by_cases hq1 : q = -1
      · right
        by_cases hlf : i < f
        · exact absurd hq1 (h2 q ⟨i, by
            rw [List.getElem?_take, if_pos hlf]
            exact hg⟩)
        · have := mt w1.1 hlf
          simpa using this
      · left
        simp
        omega
    · rw [if_neg hlt, if_neg (by simpa using hlt)]
      by_cases hq1 : q = 1
      · right
        by_cases hge : f * r - f ≤ i
        · exact absurd hq1 (h1 q ⟨i - (p.ps.length - f), by
            rw [List.getElem?_drop, show p.ps.length - f + (i - (p.ps.length - f)) = i by omega]
            exact hg⟩)
        · have := mt w2.1 hge
          simpa using this
      · left
        simp
        omega
theorem pass_same {p : Pos} : passR p = p.passes := by
  unfold passR Pos.passes
  by_cases h1 : p.passant = -1
  · rw [if_pos h1, h1]; rfl
  · rw [if_neg h1, show (p.passant == -1) = false by simpa using h1, Bool.false_or]
    by_cases h : p.r < 6 ∨ p.half ≠ 0 ∨ vsq p.f p.r p.passant = false
    · rw [if_pos h]
      have : ∀ up rank, p.passup up rank = false := by
        intro up rank
        unfold Pos.passup
        rcases h with h | h | h
        · rw [show decide (6 ≤ p.r) = false by simpa using h]; simp
        · rw [show (p.half == 0) = false by simpa using h]; simp
        · rw [h]; simp
      rw [this, this]
      simp
    · rw [if_neg h]
      simp only [not_or, Classical.not_not, Bool.not_eq_false] at h
      obtain ⟨h6, hh, hq⟩ := h
      obtain ⟨hsz, q0, q1⟩ := vsq_bd hq
      obtain ⟨b1, b2, b3, b4⟩ := vsize_bd hsz
      have hd := pass_rank hq
      unfold passLate Pos.passup
      rw [show decide (6 ≤ p.r) = true by simp; omega, show (p.half == 0) = true by simpa using hh, hq]
      have hx : ∀ a b : Int, (2 * (p.passant / p.f) == a + b) = (2 * (p.passant / p.f) == a + b) := fun _ _ => rfl
      obtain ⟨d1, d2, d3, d4, d5⟩ := hd
      generalize hF : p.passant % p.f = F at *
      generalize hY : p.passant / p.f = Y at *
      rw [d3]
      cases hb : p.black
      · simp only [Bool.false_eq_true, if_false, Bool.true_and, pofI, Bool.not_false, if_true]
        by_cases hY1 : Y = p.r - 3
        · rw [show (2 * Y == p.r - 2 + (p.r - 4)) = true by simp; omega, show (Y == p.r - 3) = true by simpa using hY1, hY1]
          have m1 := Int.sub_mul p.r 2 p.f
          have m2 := Int.mul_sub p.f p.r 3
          have m3 := Int.mul_comm p.r p.f
          have m4 := Int.sub_mul p.r 4 p.f
          rw [show (p.r - 2) * p.f + F = F + p.f * (p.r - 3) - -p.f by omega, show (p.r - 4) * p.f + F = F + p.f * (p.r - 3) + -p.f by omega]
        · rw [show (2 * Y == p.r - 2 + (p.r - 4)) = false by simp; omega, show (Y == p.r - 3) = false by simpa using hY1]
          simp
      · simp only [if_true, Bool.true_and, pofI, Bool.not_true, Bool.false_eq_true, if_false]
        by_cases hY1 : Y = 2
        · rw [show (2 * Y == 1 + 3) = true by simp; omega, show (Y == 2) = true by simpa using hY1, hY1]
          rw [show 1 * p.f + F = F + p.f * 2 - p.f by omega, show 3 * p.f + F = F + p.f * 2 + p.f by omega]
        · rw [show (2 * Y == 1 + 3) = false by simp; omega, show (Y == 2) = false by simpa using hY1]
          simp
theorem rv_same (p : Pos) : rvB p = p.valid := by
  unfold rvB Pos.valid
  cases ho : orthB p.f p.r p.ps
  · have : p.kings = false := by unfold Pos.kings; rw [ho]; rfl
    rw [this]
    simp
  · have hbv := orthB_bv ho
    rw [hbv, ← kings_same ho, ← pawns_same hbv, ← pass_same]
    simp [Bool.and_assoc]
end
section
def okT0 : ByteArray := ⟨#[51, 120, 51, 32, 107, 50, 47, 51, 47, 50, 75, 32, 119, 32, 45, 32, 45, 32, 48, 32, 49]⟩
def okT1 : ByteArray := ⟨#[51, 120, 51, 32, 107, 82, 49, 47, 51, 47, 50, 75, 32, 98, 32, 45, 32, 45, 32, 48, 32, 49]⟩
def okT2 : ByteArray := ⟨#[51, 120, 51, 32, 107, 50, 47, 51, 47, 49, 80, 75, 32, 119, 32, 45, 32, 45, 32, 48, 32, 49]⟩
def okT3 : ByteArray := ⟨#[51, 120, 54, 32, 107, 50, 47, 51, 47, 80, 50, 47, 51, 47, 51, 47, 50, 75, 32, 98, 32, 45, 32, 97, 51, 32, 48, 32, 49]⟩
def okT4 : ByteArray := ⟨#[56, 120, 56, 32, 52, 107, 51, 47, 56, 47, 56, 47, 56, 47, 56, 47, 56, 47, 56, 47, 52, 75, 50, 82, 32, 119, 32, 75, 32, 45, 32, 48, 32, 49]⟩
def noT0 : ByteArray := ⟨#[51, 120, 51, 32, 107, 82, 49, 47, 51, 47, 50, 75, 32, 119, 32, 45, 32, 45, 32, 48, 32, 49]⟩
def noT1 : ByteArray := ⟨#[51, 120, 51, 32, 107, 80, 49, 47, 51, 47, 50, 75, 32, 98, 32, 45, 32, 45, 32, 48, 32, 49]⟩
def noT2 : ByteArray := ⟨#[51, 120, 54, 32, 107, 50, 47, 51, 47, 51, 47, 80, 50, 47, 51, 47, 50, 75, 32, 98, 32, 45, 32, 97, 50, 32, 48, 32, 49]⟩
def noT3 : ByteArray := ⟨#[51, 120, 54, 32, 107, 50, 47, 51, 47, 51, 47, 80, 50, 47, 51, 47, 50, 75, 32, 98, 32, 45, 32, 97, 51, 32, 48, 32, 49]⟩
def noT4 : ByteArray := ⟨#[51, 120, 54, 32, 107, 50, 47, 51, 47, 80, 50, 47, 51, 47, 51, 47, 50, 75, 32, 98, 32, 45, 32, 97, 51, 32, 49, 32, 49]⟩
def noT5 : ByteArray := ⟨#[51, 120, 54, 32, 107, 50, 47, 51, 47, 80, 50, 47, 51, 47, 51, 47, 50, 75, 32, 119, 32, 45, 32, 97, 51, 32, 48, 32, 49]⟩
def noT6 : ByteArray := ⟨#[56, 120, 56, 32, 52, 107, 51, 47, 56, 47, 56, 47, 56, 47, 56, 47, 56, 47, 56, 47, 52, 75, 50, 82, 32, 119, 32, 81, 32, 45, 32, 48, 32, 49]⟩
theorem good_all : ([okT0, okT1, okT2, okT3, okT4].all fun t => decide (t.size ≤ 1000) && (posO t).isSome) = true := by kernel_rfl
theorem bad_all : ([noT0, noT1, noT2, noT3, noT4, noT5, noT6].all fun t => decide (t.size ≤ 1000) && (posO t).isNone) = true := by kernel_rfl
theorem posO_some {t : ByteArray} {p : Pos} (h : posO t = some p) : p.valid = true ∧ p.text = t := by
  unfold posO at h
  split at h
  · split at h
    · cases h
    · split at h
      · rename_i hc
        simp only [Bool.and_eq_true, ba_beq] at hc
        cases h
        exact hc
      · cases h
  · cases h
theorem good_t {t : ByteArray} (h : t ∈ [okT0, okT1, okT2, okT3, okT4]) : t.size ≤ 1000 ∧ ∃ p, posO t = some p ∧ p.valid = true ∧ p.text = t := by
  have := List.all_eq_true.1 good_all t h
  rw [Bool.and_eq_true] at this
  refine ⟨of_decide_eq_true this.1, ?_⟩
  obtain ⟨p, hp⟩ := Option.isSome_iff_exists.1 this.2
  exact ⟨p, hp, posO_some hp⟩
theorem bad_t {t : ByteArray} (h : t ∈ [noT0, noT1, noT2, noT3, noT4, noT5, noT6]) : t.size ≤ 1000 ∧ posO t = none := by
  have := List.all_eq_true.1 bad_all t h
  rw [Bool.and_eq_true] at this
  exact ⟨of_decide_eq_true this.1, Option.isNone_iff_eq_none.1 this.2⟩
theorem parse_at (L : Libs) {w : World} (hE : Env w) (t : ByteArray) (ht : t.size ≤ 1000) : Calls Tryz.prog 22 #[.string t] w fun e w' => PosIs w.heap.size t e w' ∧ Below w.heap.size w w' :=
  posparse_c L.split L.rev L.join L.cont w hE.max hE.kinds hE.itoa hE.atois hE.rays hE.full t ht
theorem text_at (L : Libs) {w : World} (hE : Env w) (p : Pos) (po : Option Addr) (cap : Nat) (hP : PosAt w p po cap) : Pure 20 #[.agg (p.cells po cap)] w p.textV :=
  ptext_c L.rev L.join w hE.kinds hE.itoa p po cap hP hE.full
end
section
namespace E
theorem env_stable : Stable Env := fun _ _ hw hb => hw.below hb
theorem rvalid6_a (p : Pos) (hn : p.ps.length ≤ 1000) (hc : 0 ≤ p.castle ∧ p.castle ≤ 255) : ACalls Tryz.prog Env 19 [posP p (.lst (pcs p.ps))] (.val (.bool (rvB p))) [] :=
  ac_of ⟨_, Tryz.func19, rfl, by simp [Tryz.f19]⟩ fun w xs G hw h => by
    obtain ⟨x, rfl, h'⟩ := repL1 h
    obtain ⟨po, c, rfl, hS, _⟩ := rep_pos h'
    exact rvalid6_c w p po c hS hn hc
theorem requal6_a (p q : Pos) (hn : p.ps.length ≤ 1000) (hn' : q.ps.length ≤ 1000) : ACalls Tryz.prog Env 24 [posP p (.lst (pcs p.ps)), posP q (.lst (pcs q.ps))] (.val (.bool (eqB p q))) [] :=
  ac_of ⟨_, Tryz.func24, rfl, by simp [Tryz.f24]⟩ fun w xs G hw h => by
    obtain ⟨x, y, rfl, h1, h2⟩ := repL2 h
    obtain ⟨po, c, rfl, hS, _⟩ := rep_pos h1
    obtain ⟨qo, d, rfl, hS', _⟩ := rep_pos h2
    exact requal6_c w p q po qo c d hS hS' hn hn'
theorem rsame3_a (f1 r1 f2 r2 : Int) (ps qs : List Int) (hn : ps.length ≤ 1000) (hn' : qs.length ≤ 1000) : ACalls Tryz.prog Env 29 [bdA f1 r1 (.lst (pcs ps)), bdA f2 r2 (.lst (pcs qs))] (.val (.bool (f1 == f2 && r1 == r2 && (ps == qs)))) [] :=
  ac_of ⟨_, Tryz.func29, rfl, by simp [Tryz.f29]⟩ fun w xs G hw h => by
    obtain ⟨x, y, rfl, h1, h2⟩ := repL2 h
    obtain ⟨po, c, rfl, hS, _⟩ := rep_bd h1
    obtain ⟨qo, d, rfl, hS', _⟩ := rep_bd h2
    exact rsame3_c w f1 r1 f2 r2 ps qs po qo c d hS hS' hn hn'
end E
end
section
namespace E
theorem mixed : Tryz.prog.follows .mixedOrders = true := by decide
theorem pvalid_a (p : Pos) (hn : p.ps.length ≤ 100) (hc : 0 ≤ p.castle ∧ p.castle ≤ 255) : ACalls Tryz.prog Env 18 [posP p (.lst (pcs p.ps))] (.val (.bool p.valid)) [] :=
  ac_of ⟨_, Tryz.func18, rfl, by simp [Tryz.f18]⟩ fun w xs G hw h => by
    obtain ⟨x, rfl, h'⟩ := repL1 h
    obtain ⟨po, c, rfl, hS, h1, h2⟩ := rep_pos h'
    exact valid_c w p po c ⟨hS, hn, h1, h2, hc, hw.rays⟩ hw.full
theorem ac_rep {Ev : World → Prop} {f : FuncId} {args : List AV} {a : AV} {v : Value} (hf : ∃ fn, Tryz.prog.funcs[f]? = some fn ∧ fn.body.isNone = false ∧ (fn.name == "runtime.NumGoroutine") = false) (ha : ∀ w G η, Rep w G η a v)
    (h : ∀ w xs G, Ev w → RepL w G no args xs.toList → Pure f xs w v) : ACalls Tryz.prog Ev f args a [] :=
  ⟨hf, fun w xs G hw hG hr => (h w xs G hw hr).mono fun e V ⟨he, hb⟩ => ⟨v, he, hb, G, no, fun b hb' => ⟨.inl hb', Nat.lt_of_lt_of_le (hG b hb') hb.size⟩, ha _ _ _, mem0⟩⟩
def strA (s : ByteArray) (e : Int) : AV := .tup [.val (.string s), .val (.int .i64 e)]
def Pos.textA (p : Pos) : AV := if p.valid then strA p.text 0 else strA ⟨#[]⟩ 2
theorem rep_str (s : ByteArray) (e : Int) (w : World) (G : Nat → Prop) (η : Nat → Option Value) : Rep w G η (strA s e) (.tuple #[.string s, .int .i64 e]) := ⟨[.string s, .int .i64 e], rfl, rfl, rfl, trivial⟩
theorem ptext_a (L : Libs) (p : Pos) (hn : p.ps.length ≤ 100) (hc : 0 ≤ p.castle ∧ p.castle ≤ 255) : ACalls Tryz.prog Env 20 [posP p (.lst (pcs p.ps))] (Pos.textA p) [] :=
  ac_rep (v := p.textV) ⟨_, Tryz.func20, rfl, by simp [Tryz.f20]⟩ (fun w G η => by
    unfold Pos.textA Pos.textV
    split <;> exact rep_str _ _ _ _ _) fun w xs G hw h => by
    obtain ⟨x, rfl, h'⟩ := repL1 h
    obtain ⟨po, c, rfl, hS, h1, h2⟩ := rep_pos h'
    exact text_at L hw p po c ⟨hS, hn, h1, h2, hc, hw.rays⟩
theorem pcs_repG {w : World} {G : Nat → Prop} {ps : List Int} {po : Option Addr} {c : Nat} (h : SlcAt w po ps) (h1 : ps.length ≤ c) (h2 : c ≤ 9223372036854775807) (hG : ∀ a, po = some a → ps ≠ [] → G a.block) : Rep w G no (.lst (pcs ps)) (.slice po ps.length c) := by
  refine ⟨po, _, c, 1, rfl, pcs_len ps, h1, h2, by simp [pcs], ?_⟩
  rcases h with rfl | ⟨b, o, rfl, h⟩
  · exact .inl rfl
  · cases ps with
    | nil => exact .inl rfl
    | cons p ps => exact .inr ⟨b, o, rfl, hG _ rfl (by simp), pc_rows h⟩
def pposA : Option Pos → AV
  | none => .tup [posA 0 0 (.lst []) false 0 0 0 0, .val (.int .i64 6)]
  | some p => .tup [posP p (.lst (pcs p.ps)), .val (.int .i64 0)]
theorem slc_lt {w : World} {po : Option Addr} {ps : List Int} (h : SlcAt w po ps) : ∀ a, po = some a → ps ≠ [] → a.block < w.heap.size := by
  intro a ha h0
  rcases h with h | ⟨b, o, e, h⟩
  · exact absurd h h0
  · rw [ha] at e
    cases e
    cases ps with
    | nil => exact absurd rfl h0
    | cons q l =>
      have := h 0 q rfl
      unfold World.cell? at this
      cases hb : w.heap[b]? with
      | none => simp [hb] at this
      | some _ => exact (Array.getElem?_eq_some_iff.1 hb).1
theorem pparse_a (L : Libs) (t : ByteArray) (ht : t.size ≤ 1000) : ACalls Tryz.prog Env 22 [.val (.string t)] (pposA (posO t)) [] :=
  ⟨⟨_, Tryz.func22, rfl, by simp [Tryz.f22]⟩, fun w xs G hw hG hr => by
    obtain ⟨x, rfl, h'⟩ := repL1 hr
    obtain rfl : x = .string t := h'
    refine (parse_at L hw t ht).mono fun e V ⟨h1, h2⟩ => ?_
    unfold PosIs at h1
    cases hp : posO t with
    | none =>
      rw [hp] at h1
      subst h1
      refine ⟨_, rfl, h2, G, no, fun b hb' => ⟨.inl hb', Nat.lt_of_lt_of_le (hG b hb') h2.size⟩, ?_, mem0⟩
      exact ⟨[.agg noPosC, .int .i64 6], rfl, ⟨noPosC.toList, rfl, ⟨rfl, rfl⟩, ⟨rfl, rfl⟩, ⟨rfl, none, 0, 0, 1, rfl, rfl, Nat.le_refl _, by omega, by simp, .inl rfl⟩, ⟨rfl, rfl⟩, ⟨rfl, rfl⟩, ⟨rfl, rfl⟩, ⟨rfl, rfl⟩, ⟨rfl, rfl⟩, trivial⟩, rfl, trivial⟩
    | some p =>
      rw [hp] at h1
      obtain ⟨po, cap, rfl, hP, hnw⟩ := h1
      refine ⟨_, rfl, h2, fun b => (G b ∨ w.heap.size ≤ b) ∧ b < V.heap.size, no, fun b hb' => hb', ?_, mem0⟩
      exact ⟨[.agg (p.cells po cap), .int .i64 0], rfl, ⟨(p.cells po cap).toList, rfl, ⟨rfl, rfl⟩, ⟨rfl, rfl⟩, ⟨rfl, pcs_repG hP.slc hP.cap1 hP.cap2 fun a ha h0 => ⟨.inr (hnw a ha), slc_lt hP.slc a ha h0⟩⟩, ⟨rfl, rfl⟩, ⟨rfl, rfl⟩, ⟨rfl, rfl⟩, ⟨rfl, rfl⟩, ⟨rfl, rfl⟩, trivial⟩, rfl, trivial⟩⟩
set_option maxRecDepth 100000 in
theorem pstart_a (L : Libs) : ACalls Tryz.prog Env 51 [] (posP startP (.lst (pcs startP.ps))) [] := by
  have hE := env_stable
  have hf := mixed
  have hp := pparse_a L startT (by decide)
  rw [start_o] at hp
  unfold startT at hp
  generalize startP = p at *
  simp only [pposA, posP, posA] at *
  refine ACalls.of hE hf Tryz.func51 rfl (by simp [Tryz.f51]) (Nat.le_of_ble_eq_true rfl) fun F hF => ?_
  simp only [entry, num0, Tryz.ntmps51]
  refine W ?_
  exact (hF _ ⟨[], _, rfl, rfl, rfl, rfl⟩).1
def strs (l : List ByteArray) : List (List AV) := l.map fun s => [.val (.string s)]
theorem strs_at {W : List ByteArray} {i : Nat} {x : ByteArray} (h : W[i]? = some x) : (strs W)[i]? = some [.val (.string x)] := by simp [strs, h]
def goodL : List ByteArray := [okT0, okT1, okT2, okT3, okT4]
def badL : List ByteArray := [noT0, noT1, noT2, noT3, noT4, noT5, noT6]
theorem posO_cas {t : ByteArray} {p : Pos} (h : posO t = some p) : 0 ≤ p.castle ∧ p.castle ≤ 255 := by
  unfold posO at h
  split at h
  · split at h
    · cases h
    · split at h
      · cases h
        unfold posW
        dsimp only
        exact ⟨Int.natCast_nonneg _, (fun s k => (by have := castN_le s k; omega) : ∀ s k, ((castN s k : Nat) : Int) ≤ 255) _ _⟩
      · cases h
  · cases h
theorem start_text : startP.text = startT := by kernel_rfl
set_option maxRecDepth 100000 in
theorem known_a (L : Libs) : ACalls Tryz.prog Env 17 [] (.val (.bool true)) [] := by
  have hE := env_stable
  have hf := mixed
  have hst := pstart_a L
  have hsx := ptext_a L startP (by decide) (by decide)
  unfold Pos.textA strA at hsx
  rw [start_v, start_text] at hsx
  unfold startT at hsx
  generalize startP = ps0 at *
  simp only [posP, posA, ↓reduceIte] at hst hsx
  refine ACalls.of hE hf Tryz.func17 rfl (by simp [Tryz.f17]) (Nat.le_of_ble_eq_true rfl) fun F hF => ?_
  simp only [entry, num0, Tryz.ntmps17]
  refine W ?_
  refine loopK (fun k : {k : Nat // k ≤ 5} => ⟨77, [(13, .own 0), (14, .val (.int .i64 5)), (15, .val (.int .i64 k.1))], [(0, .row 9 1 (strs goodL))], 1⟩) (fun k => 5 - k.1) ⟨0, by omega⟩ (Le.pick [13, 14, 15] [(4, 0)] 1 rfl rfl) ?_
  rintro ⟨k, hk⟩ F1 hN1 hX1 hR1
  dsimp only at hk hN1 ⊢
  rcases Nat.lt_or_ge k 5 with hk5 | hk5
  · have d1 : (k : Int) < 5 := by omega
    obtain ⟨x, hx⟩ : ∃ x, goodL[k]? = some x := ⟨_, List.getElem?_eq_getElem (show k < 5 from hk5)⟩
    obtain ⟨z1, p, hp, hv, ht⟩ := good_t (List.mem_of_getElem? hx)
    have hl : (strs goodL).length = 5 := rfl
    replace hx := strs_at hx
    have h64 : p.ps.length ≤ 100 := by
      have hb : bvalid p.f p.r p.ps = true := by unfold Pos.valid at hv; simp only [Bool.and_eq_true] at hv; exact hv.1.1.1.1.1
      unfold bvalid at hb
      simp only [Bool.and_eq_true, beq_iff_eq] at hb
      have := vsize_mul hb.1.1
      omega
    have hc : 0 ≤ p.castle ∧ p.castle ≤ 255 := posO_cas hp
    have h1 := pparse_a L x z1
    have h2 := ptext_a L p h64 hc
    have h3 := pvalid_a p h64 hc
    unfold Pos.textA strA at h2
    rw [hp] at h1
    rw [hv] at h2 h3
    rw [ht] at h2
    simp only [pposA, posP, posA, ↓reduceIte] at h1 h2 h3
    generalize strs goodL = R0 at *
    have w1 : IntKind.i64.wrap ((k : Int) + 1) = ((k + 1 : Nat) : Int) := w64 (by omega)
    have hbx := of_decide_eq_true (rfl : decide True = true)
    clear hp hv ht z1 h64 hc hbx hst hsx
    refine W ?_
    refine hN1 _ ⟨k + 1, hk5⟩ (Le.pick [13, 14, 15] [(0, 0)] 1 rfl rfl) (by show 5 - (k + 1) < 5 - k; omega)
  obtain rfl : k = 5 := by omega
  clear hN1
  have e5 : ((5 : Nat) : Int) = 5 := rfl
  refine W ?_
  refine loopK (fun k : {k : Nat // k ≤ 7} => ⟨77, [(46, .own 0), (47, .val (.int .i64 7)), (48, .val (.int .i64 k.1))], [(0, .row 9 1 (strs badL))], 1⟩) (fun k => 7 - k.1) ⟨0, by omega⟩ (Le.pick [46, 47, 48] [(5, 0)] 1 rfl rfl) ?_
  rintro ⟨k, hk⟩ F1 hN1 hX1 hR1
  dsimp only at hk hN1 ⊢
  rcases Nat.lt_or_ge k 7 with hk5 | hk5
  · have d1 : (k : Int) < 7 := by omega
    obtain ⟨x, hx⟩ : ∃ x, badL[k]? = some x := ⟨_, List.getElem?_eq_getElem (show k < 7 from hk5)⟩
    obtain ⟨z1, hp⟩ := bad_t (List.mem_of_getElem? hx)
    have hl : (strs badL).length = 7 := rfl
    replace hx := strs_at hx
    have h1 := pparse_a L x z1
    rw [hp] at h1
    simp only [pposA, posA] at h1
    generalize strs badL = R0 at *
    have w1 : IntKind.i64.wrap ((k : Int) + 1) = ((k + 1 : Nat) : Int) := w64 (by omega)
    have e0 : ((0 : Nat) : Int) = 0 := rfl
    clear hp z1 hst hsx
    refine W ?_
    refine hN1 _ ⟨k + 1, hk5⟩ (Le.pick [46, 47, 48] [(0, 0)] 1 rfl rfl) (by show 7 - (k + 1) < 7 - k; omega)
  obtain rfl : k = 7 := by omega
  clear hN1
  have e7 : ((7 : Nat) : Int) = 7 := rfl
  refine W ?_
  exact (hF _ ⟨[], _, rfl, rfl, rfl, rfl⟩).1
end E
end
section
namespace E
def begP (f r : Int) (ps : List Int) (bl : Bool) : Pos := ⟨f, r, ps, bl, 0, -1, 0, 1⟩
theorem eqB_rfl (p : Pos) : eqB p p = true := by simp [eqB, sameB]
abbrev posB (p : Pos) (x : AV) : Blk := .box [.val (.int .i64 p.f), .val (.int .i64 p.r), x, .val (.bool p.black), .val (.int .u8 p.castle), .val (.int .i64 p.passant), .val (.int .i64 p.half), .val (.int .i64 p.full)]
abbrev bdB (f r : Int) (x : AV) : Blk := .box [.val (.int .i64 f), .val (.int .i64 r), x]
abbrev rowB (ps : List Int) : Blk := .row 48 1 (pcs ps)
theorem pcs_set (ps : List Int) (k : Nat) (q : Int) : (pcs ps).set k [.val (.int .i8 q)] = pcs (ps.set k q) := by simp [pcs, List.map_set]
set_option maxRecDepth 10000 in
theorem posof_a (L : Libs) (p : Pos) (f r : Int) (ps : List Int) (bl : Bool) : ACalls Tryz.prog Env 6 [posP p (.lst (pcs p.ps)), bdA f r (.lst (pcs ps)), .val (.bool bl)] (.val (.bool true)) [] := by
  have hE := env_stable
  have hf := mixed
  have hkw := known_a L
  have hs := @small_a p.f p.r p.castle p.passant p.half p.full p.black p.ps Env hE hf
  simp only [posP, posA, bdA] at *
  have hpl := @pcs_len
  have hst := @pcs_set
  rcases Int.lt_or_le 70 p.ps.length with hl | hl
  · rw [show decide ((p.ps.length : Int) ≤ 70) = false by simp; omega] at hs
    refine ACalls.of hE hf Tryz.func6 rfl (by simp [Tryz.f6]) (Nat.le_of_ble_eq_true rfl) fun F hF => ?_
    simp only [entry, num0, Tryz.ntmps6]
    refine R ?_
    exact (hF _ ⟨[], _, rfl, rfl, rfl, rfl⟩).1
  rw [show decide ((p.ps.length : Int) ≤ 70) = true by simp; omega] at hs
  rcases Int.lt_or_le 70 ps.length with hl2 | hl2
  · have hd : decide (70 < (ps.length : Int)) = true := by simp; omega
    refine ACalls.of hE hf Tryz.func6 rfl (by simp [Tryz.f6]) (Nat.le_of_ble_eq_true rfl) fun F hF => ?_
    simp only [entry, num0, Tryz.ntmps6]
    refine R ?_
    exact (hF _ ⟨[], _, rfl, rfl, rfl, rfl⟩).1
  have hd : decide (70 < (ps.length : Int)) = false := by simp; omega
  refine ACalls.of hE hf Tryz.func6 rfl (by simp [Tryz.f6]) (Nat.le_of_ble_eq_true rfl) fun F hF => ?_
  simp only [entry, num0, Tryz.ntmps6]
  have hn1 : p.ps.length ≤ 1000 := by omega
  have hn2 : ps.length ≤ 1000 := by omega
  have hc6 := @rcopy6_a p.f p.r p.castle p.passant p.half p.full p.black p.ps Env hE hf hn1
  have hc3 := @rcopy3_a f r ps Env hE hf hn2
  have hbd := @pboard_a p.f p.r p.castle p.passant p.half p.full p.black p.ps Env hE hf hn1
  have hof0 := @rof6_a p.f p.r p.castle p.passant p.half p.full p.black p.ps Env hE hf
  have hsm := rsame3_a p.f p.r p.f p.r p.ps p.ps hn1 hn1
  have hsm2 := rsame3_a f r f r ps ps hn2 hn2
  have hbg := @rbegin6_a f r bl ps Env hE hf hn2
  have hrv := rvalid6_a (begP f r ps bl) hn2 ⟨by simp [begP], by simp [begP]⟩
  have hpv := pvalid_a (begP f r ps bl) (by show ps.length ≤ 100; omega) ⟨by simp [begP], by simp [begP]⟩
  rw [rv_same] at hrv
  generalize (begP f r ps bl).valid = v at hrv hpv
  have hof := pof_a hE hf hn2 hpv
  have heq := requal6_a (begP f r ps bl) (begP f r ps bl) hn2 hn2
  have heq2 := requal6_a p p hn1 hn1
  have hz := requal6_a ⟨0, 0, [], false, 0, 0, 0, 0⟩ ⟨0, 0, [], false, 0, 0, 0, 0⟩ (by simp) (by simp)
  rw [eqB_rfl] at heq heq2 hz
  rw [show (p.f == p.f && p.r == p.r && (p.ps == p.ps)) = true by simp] at hsm
  rw [show (f == f && r == r && (ps == ps)) = true by simp] at hsm2
  rw [show pcs (⟨0, 0, [], false, 0, 0, 0, 0⟩ : Pos).ps = [] from rfl] at hz
  simp only [posP, posA, bdA, ofR, begP] at *
  cases v
  · simp only [Bool.false_eq_true, ↓reduceIte] at *
    refine R ?_
    have hn0 := pcs_len p.ps
    refine Gl_loop (fun x : {x : Nat × List Int // x.1 ≤ p.ps.length ∧ x.2.length = p.ps.length} => ⟨102, [(3, .ref 0 0), (4, .ref 1 0), (7, .ref 4 0), (8, .ref 5 0), (9, .ref 7 0), (10, .ref 8 0), (65, .val (.int .i64 p.ps.length)), (66, .val (.int .i64 x.1.1))], [(0, posB p (.lst (pcs p.ps))), (1, bdB f r (.lst (pcs ps))), (2, rowB p.ps), (3, rowB ps), (4, posB p (.own 2)), (5, bdB f r (.own 3)), (6, rowB x.1.2), (7, bdB p.f p.r (.own 6)), (8, posB ⟨0, 0, [], false, 0, 0, 0, 0⟩ (.lst []))], 9⟩) (fun x => p.ps.length - x.1.1) ⟨(0, p.ps), by simp, rfl⟩ (Le.pick [3, 4, 7, 8, 9, 10, 65, 66] [(0, 0), (4, 1), (52, 2), (60, 3), (64, 4), (68, 5), (84, 6), (88, 7), (120, 8)] 9 rfl rfl) ?_
    rintro ⟨⟨k, qs⟩, hk, hq⟩ F1 hN1 hX1 hR1
    dsimp only at hk hq hN1 ⊢
    refine R ?_
    refine Gb_split (fun hc => ?_) (fun hc => ?_)
    · have hkn : k < qs.length := by simp at hc; omega
      have hr := pcs_at hkn
      have hw : IntKind.i64.wrap ((k : Int) + 1) = k + 1 := w64 (by omega)
      have hb : (0 ≤ (k : Int) ∧ (k : Int) < (qs.length : Int)) := ⟨by omega, by omega⟩
      have hb2 : (k : Int) < (p.ps.length : Int) := by omega
      refine R ?_
      refine hN1 _ ⟨(k + 1, qs.set k _), by show k + 1 ≤ _; omega, by simp [hq]⟩ (Le.pick [3, 4, 7, 8, 9, 10, 65, 66] [(0, 0), (1, 1), (2, 2), (3, 3), (4, 4), (5, 5), (6, 6), (7, 7), (8, 8)] 9 rfl rfl) (by show _ - (k + 1) < _ - k; omega)
    · refine R ?_
      refine hX1 _ _ ?_
      refine R ?_
      refine Gl_loop (fun x : Unit => ⟨102, [(3, .ref 0 0), (4, .ref 1 0), (7, .ref 4 0), (8, .ref 5 0), (79, .val (.int .i64 0)), (80, .val (.int .i64 0))], [(0, posB p (.lst (pcs p.ps))), (1, bdB f r (.lst (pcs ps))), (2, rowB p.ps), (3, rowB ps), (4, posB p (.own 2)), (5, bdB f r (.own 3))], 6⟩) (fun _ => 0) () (Le.pick [3, 4, 7, 8, 79, 80] [(0, 0), (1, 1), (2, 2), (3, 3), (4, 4), (5, 5)] 6 rfl rfl) ?_
      intro x F2 hN2 hX2 hR2
      refine R ?_
      refine hX2 _ _ ?_
      refine R ?_
      exact (hF _ ⟨[], _, rfl, rfl, rfl, rfl⟩).1
  · simp only [↓reduceIte] at *
    refine R ?_
    have hn0 := pcs_len p.ps
    refine Gl_loop (fun x : {x : Nat × List Int // x.1 ≤ p.ps.length ∧ x.2.length = p.ps.length} => ⟨102, [(3, .ref 0 0), (4, .ref 1 0), (7, .ref 4 0), (8, .ref 5 0), (9, .ref 7 0), (10, .ref 9 0), (65, .val (.int .i64 p.ps.length)), (66, .val (.int .i64 x.1.1))], [(0, posB p (.lst (pcs p.ps))), (1, bdB f r (.lst (pcs ps))), (2, rowB p.ps), (3, rowB ps), (4, posB p (.own 2)), (5, bdB f r (.own 3)), (6, rowB x.1.2), (7, bdB p.f p.r (.own 6)), (8, rowB ps), (9, posB (begP f r ps bl) (.own 8))], 10⟩) (fun x => p.ps.length - x.1.1) ⟨(0, p.ps), by simp, rfl⟩ (Le.pick [3, 4, 7, 8, 9, 10, 65, 66] [(0, 0), (4, 1), (52, 2), (60, 3), (64, 4), (68, 5), (84, 6), (88, 7), (104, 8), (120, 9)] 10 rfl rfl) ?_
    rintro ⟨⟨k, qs⟩, hk, hq⟩ F1 hN1 hX1 hR1
    dsimp only at hk hq hN1 ⊢
    refine R ?_
    refine Gb_split (fun hc => ?_) (fun hc => ?_)
    · have hkn : k < qs.length := by simp at hc; omega
      have hr := pcs_at hkn
      have hw : IntKind.i64.wrap ((k : Int) + 1) = k + 1 := w64 (by omega)
      have hb : (0 ≤ (k : Int) ∧ (k : Int) < (qs.length : Int)) := ⟨by omega, by omega⟩
      have hb2 : (k : Int) < (p.ps.length : Int) := by omega
      refine R ?_
      refine hN1 _ ⟨(k + 1, qs.set k _), by show k + 1 ≤ _; omega, by simp [hq]⟩ (Le.pick [3, 4, 7, 8, 9, 10, 65, 66] [(0, 0), (1, 1), (2, 2), (3, 3), (4, 4), (5, 5), (6, 6), (7, 7), (8, 8), (9, 9)] 10 rfl rfl) (by show _ - (k + 1) < _ - k; omega)
    · refine R ?_
      refine hX1 _ _ ?_
      refine R ?_
      refine Gl_loop (fun x : {x : Nat × List Int // x.1 ≤ ps.length ∧ x.2.length = ps.length} => ⟨102, [(3, .ref 0 0), (4, .ref 1 0), (7, .ref 4 0), (8, .ref 5 0), (10, .ref 7 0), (79, .val (.int .i64 ps.length)), (80, .val (.int .i64 x.1.1))], [(0, posB p (.lst (pcs p.ps))), (1, bdB f r (.lst (pcs ps))), (2, rowB p.ps), (3, rowB ps), (4, posB p (.own 2)), (5, bdB f r (.own 3)), (6, rowB x.1.2), (7, posB (begP f r ps bl) (.own 6))], 8⟩) (fun x => ps.length - x.1.1) ⟨(0, ps), by simp, rfl⟩ (Le.pick [3, 4, 7, 8, 10, 79, 80] [(0, 0), (1, 1), (2, 2), (3, 3), (4, 4), (5, 5), (8, 6), (9, 7)] 8 rfl rfl) ?_
      rintro ⟨⟨i, rs⟩, hi, hq2⟩ F2 hN2 hX2 hR2
      dsimp only [begP] at hi hq2 hN2 ⊢
      refine R ?_
      refine Gb_split (fun hc => ?_) (fun hc => ?_)
      · have hkn : i < rs.length := by simp at hc; omega
        have hr := pcs_at hkn
        have hw : IntKind.i64.wrap ((i : Int) + 1) = i + 1 := w64 (by omega)
        have hb : (0 ≤ (i : Int) ∧ (i : Int) < (rs.length : Int)) := ⟨by omega, by omega⟩
        have hb2 : (i : Int) < (ps.length : Int) := by omega
        refine R ?_
        refine hN2 _ ⟨(i + 1, rs.set i _), by show i + 1 ≤ _; omega, by simp [hq2]⟩ (Le.pick [3, 4, 7, 8, 10, 79, 80] [(0, 0), (1, 1), (2, 2), (3, 3), (4, 4), (5, 5), (6, 6), (7, 7)] 8 rfl rfl) (by show _ - (i + 1) < _ - i; omega)
      · refine R ?_
        refine hX2 _ _ ?_
        refine R ?_
        exact (hF _ ⟨[], _, rfl, rfl, rfl, rfl⟩).1
theorem posof_law (L : Libs) (w : World) (hw : Env w) (p : Pos) (po : Option Addr) (c : Nat) (f r : Int) (ps : List Int) (qo : Option Addr) (d : Nat) (bl : Bool) (h1 : SlcAt w po p.ps) (h2 : p.ps.length ≤ c) (h3 : c ≤ 9223372036854775807)
    (k1 : SlcAt w qo ps) (k2 : ps.length ≤ d) (k3 : d ≤ 9223372036854775807) : Pure 6 #[.agg (p.cells po c), bdV f r qo ps.length d, .bool bl] w (.bool true) :=
  ac_pure (posof_a L p f r ps bl) hw ⟨pos_rep h1 h2 h3, bd_rep k1 k2 k3, rfl, trivial⟩
end E
end
section
set_option maxRecDepth 100000
open Go.ChangeShapes Go.WideShapes Go.ChangeAt Go.RowKit Go.Joins Go.Deep
section
variable {H : Type} {enc : TypeId × Value → H} {W : World}
theorem bd_open {base : Nat} {r : Reach} {v : Value} {d : DataW H} {p : List MemPlace} (hv : Value.okWide Tryz.prog W r base 40 v) (h : DataW.Trod enc Tryz.prog W 0 (fun _ => true) true 40 v d p) :
    ∃ (f g : Int) (ps : List Int) (po : Option Addr) (cap : Nat), v = bdV f g po ps.length cap ∧ SlcAt W po ps ∧ ps.length ≤ cap ∧ cap ≤ 9223372036854775807 := by
  obtain ⟨cs, rfl, hsz⟩ := okWide_struct Tryz.underlying40 hv
  obtain ⟨fuel, hf⟩ := h
  obtain ⟨ys, m, hm, hx, hl, hyl, hall⟩ := DataW.trod_struct Tryz.underlying40 hf
  have hc8 : Tryz.prog.cellsOf 40 = 3 := by kernel_rfl
  rw [hc8] at hsz
  obtain ⟨l⟩ := cs
  obtain ⟨c0, c1, c2, rfl⟩ : ∃ c0 c1 c2, l = [c0, c1, c2] := by
    match l, hsz with
    | [c0, c1, c2], _ => exact ⟨_, _, _, rfl⟩
  obtain ⟨y0, y1, rfl⟩ : ∃ y0 y1, ys = [y0, y1] := by
    match ys, hyl with
    | [y0, y1], _ => exact ⟨_, _, rfl⟩
  have z0 := hall 0 _ rfl
  have z1 := hall 1 _ rfl
  have k1 : Tryz.prog.cellsOf 23 = 2 := by kernel_rfl
  have k2 : Tryz.prog.cellsOf 24 = 1 := by kernel_rfl
  have k5 : Tryz.prog.cellsOf 3 = 1 := by kernel_rfl
  clear hall hm hx hl hyl hsz hc8 hf hv
  simp only [k1, k2, k5, Value.cells, List.drop_succ_cons, List.drop_zero, List.take_succ_cons, List.take_zero, List.getElem?_cons_zero, List.getElem?_cons_succ] at z0 z1
  obtain ⟨xs, m2, _, _, _, hxl, hxa⟩ := DataW.trod_struct Tryz.underlying23 z0
  obtain ⟨x0, x1, rfl⟩ : ∃ x0 x1, xs = [x0, x1] := by
    match xs, hxl with
    | [x0, x1], _ => exact ⟨_, _, rfl⟩
  have u0 := hxa 0 _ rfl
  have u1 := hxa 1 _ rfl
  clear hxa hxl
  simp only [k5, List.drop_succ_cons, List.drop_zero, List.take_succ_cons, List.take_zero, List.getElem?_cons_zero, List.getElem?_cons_succ] at u0 u1
  obtain ⟨f, hf, _, _⟩ := DataW.trod_int Tryz.underlying3 u0
  obtain ⟨g, hg, _, _⟩ := DataW.trod_int Tryz.underlying3 u1
  obtain ⟨ps, po, cap, hp, hS, hl1, hl2, _⟩ := pieces_open (base := 0) z1
  cases hf
  cases hg
  cases hp
  exact ⟨f, g, ps, po, cap, rfl, hS, hl1, hl2⟩
end
end
end Go.Proofs.YtbhienpbfidgjaaGreatDoor
