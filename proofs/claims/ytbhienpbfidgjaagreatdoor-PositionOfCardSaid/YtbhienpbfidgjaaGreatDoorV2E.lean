/- Positions: castling rights, on plain data. Conditions: the pieces lie in memory; the table as laid. -/
import Derived.Test.YtbhienpbfidgjaaGreatDoorH0
import Derived.Test.YtbhienpbfidgjaaGreatDoorV2
set_option linter.unusedVariables false
set_option linter.unusedSimpArgs false
namespace Go.Proofs.YtbhienpbfidgjaaGreatDoor
namespace E
open Go.RowKit
theorem and_u8 (c b : Nat) (hc : c < 256) (hb : b < 256) : IntKind.u8.wrap (((bitsOf .u8 (c : Int) &&& bitsOf .u8 (b : Int)).toNat : Nat) : Int) = ((c &&& b : Nat) : Int) := by
  have e1 : (bitsOf .u8 (c : Int)).toNat = c := by
    unfold bitsOf
    rw [BitVec.toNat_ofInt]
    show ((c : Int) % ((2 ^ 8 : Nat) : Int)).toNat = c
    omega
  have e2 : (bitsOf .u8 (b : Int)).toNat = b := by
    unfold bitsOf
    rw [BitVec.toNat_ofInt]
    show ((b : Int) % ((2 ^ 8 : Nat) : Int)).toNat = b
    omega
  rw [BitVec.toNat_and, e1, e2]
  have : c &&& b ≤ c := Nat.and_le_left
  unfold IntKind.wrap
  simp [IntKind.signed, IntKind.bits]
  omega
def rightA (bit king rook : Int) (s : ByteArray) (bl : Bool) : List AV := [.val (.int .u8 bit), .val (.string s), .val (.bool bl), .val (.int .i64 king), .val (.int .i64 rook)]
def rightsA : AV := .agg (rightA 1 4 7 ⟨#[75]⟩ false ++ (rightA 2 4 0 ⟨#[81]⟩ false ++ (rightA 4 60 63 ⟨#[107]⟩ true ++ rightA 8 60 56 ⟨#[113]⟩ true)))
section
variable {Ev : World → Prop} (hE : Stable Ev) (hf : Tryz.prog.follows .mixedOrders = true)
include hE hf
set_option maxRecDepth 10000 in
theorem rights_a : ACalls Tryz.prog Ev 73 [] rightsA [] := by
  refine ACalls.of hE hf Tryz.func73 rfl (by simp [Tryz.f73]) (Nat.le_of_ble_eq_true rfl) fun F hF => ?_
  simp only [entry, num0, Tryz.ntmps73]
  refine W ?_
  exact (hF _ ⟨[], _, rfl, rfl, rfl, rfl⟩).1
set_option maxRecDepth 10000 in
theorem ofp_a (k : Int) (bl : Bool) (h : 1 ≤ k ∧ k ≤ 15) : ACalls Tryz.prog Ev 108 [.val (.int .i8 k), .val (.bool bl)] (.val (.int .i8 (pofI k bl))) [] := by
  have hw : IntKind.i8.wrap (0 - k) = -k := by
    unfold IntKind.wrap
    simp [IntKind.signed, IntKind.bits]
    split <;> omega
  unfold pofI
  cases bl <;> simp only [Bool.false_eq_true, if_false, if_true]
  · refine ACalls.of hE hf Tryz.func108 rfl (by simp [Tryz.f108]) (Nat.le_of_ble_eq_true rfl) fun F hF => ?_
    simp only [entry, num0, Tryz.ntmps108]
    refine W ?_
    exact (hF _ ⟨[], _, rfl, rfl, rfl, rfl⟩).1
  · refine ACalls.of hE hf Tryz.func108 rfl (by simp [Tryz.f108]) (Nat.le_of_ble_eq_true rfl) fun F hF => ?_
    simp only [entry, num0, Tryz.ntmps108]
    refine W ?_
    exact (hF _ ⟨[], _, rfl, rfl, rfl, rfl⟩).1
def rt (p : Pos) : Nat → Bool
  | 0 => p.right 1 4 7 false
  | 1 => p.right 2 4 0 false
  | 2 => p.right 4 60 63 true
  | _ => p.right 8 60 56 true
omit hE hf in
theorem castles_f {p : Pos} (i : Nat) (hi : i < 4) (h : rt p i = false) : p.castles = false := by
  unfold Pos.castles
  rcases (by omega : i = 0 ∨ i = 1 ∨ i = 2 ∨ i = 3) with rfl | rfl | rfl | rfl <;> (simp only [rt] at h; simp [h])
omit hE hf in
theorem pcs_at {ps : List Int} {k : Nat} (h : k < ps.length) : (pcs ps)[k]? = some [.val (.int .i8 ps[k])] := by simp [pcs, h]
set_option maxHeartbeats 4000000 in
set_option maxRecDepth 10000 in
theorem castles_a (hg : AGlob Tryz.prog Ev 23 (.pointer (some ⟨0, 0, none⟩)) (.agg [.val (.int .i64 8), .val (.int .i64 8)])) (p : Pos) (hc : 0 ≤ p.castle ∧ p.castle ≤ 255) (hv : bvalid p.f p.r p.ps = true) :
    ACalls Tryz.prog Ev 59 [posP p (.lst (pcs p.ps))] (.val (.bool p.castles)) [] := by
  have o6 := fun bl => ofp_a hE hf 6 bl (by omega)
  have o4 := fun bl => ofp_a hE hf 4 bl (by omega)
  have hra := rights_a hE hf
  unfold rightsA rightA at hra
  obtain ⟨f, r, ps, black, c, passant, half, full⟩ := p
  dsimp only at hc hv
  have h64 : (f == 8 && r == 8) = true → ps.length = 64 := fun h => by
    unfold bvalid at hv
    simp only [Bool.and_eq_true, beq_iff_eq] at hv h
    have := hv.1.2
    rw [h.1, h.2] at this
    omega
  clear hv
  obtain ⟨c, rfl⟩ : ∃ k : Nat, c = k := ⟨c.toNat, by omega⟩
  simp only [posP, posA]
  refine ACalls.of hE hf Tryz.func59 rfl (by simp [Tryz.f59]) (Nat.le_of_ble_eq_true rfl) fun F hF => ?_
  simp only [entry, num0, Tryz.ntmps59]
  refine W ?_
  refine loopK (fun i : {i : Nat // i ≤ 4 ∧ ∀ j, j < i → rt ⟨f, r, ps, black, c, passant, half, full⟩ j = true} => ⟨49, [(1, .ref 0 0), (5, rightsA), (6, .val (.int .i64 i.1))], [(0, .box [.val (.int .i64 f), .val (.int .i64 r), .lst (pcs ps), .val (.bool black), .val (.int .u8 (c : Int)), .val (.int .i64 passant), .val (.int .i64 half), .val (.int .i64 full)])], 1⟩) (fun i => 4 - i.1) ⟨0, by omega, by omega⟩ (Le.pick [1, 5, 6] [(0, 0)] 1 rfl rfl) ?_
  rintro ⟨i, hi, hup⟩ F1 hN1 hX1 hR1
  dsimp only at hi hN1 ⊢
  clear hra
  replace hup := Lib.hid hup
  rcases (by omega : i = 0 ∨ i = 1 ∨ i = 2 ∨ i = 3 ∨ i = 4) with rfl | rfl | rfl | rfl | rfl
  · unfold rightsA rightA
    have hx := o6 false
    have hy := o4 false
    have hbit : IntKind.u8.wrap (((bitsOf .u8 (c : Int) &&& bitsOf .u8 1).toNat : Nat) : Int) = ((c &&& 1 : Nat) : Int) := and_u8 c 1 (by omega) (by omega)
    have hri : rt ⟨f, r, ps, black, c, passant, half, full⟩ 0 = (!(c &&& 1 != 0) || (f == 8 && r == 8 && ps.getD 4 0 == pofI 6 false && ps.getD 7 0 == pofI 4 false)) := rfl
    cases hh : (c &&& 1 != 0)
    · have hz : (((c &&& 1 : Nat) : Int) != 0) = false := by rw [bne_eq_false_iff_eq] at hh ⊢; omega
      rw [hh] at hri
      replace hri := Lib.hid hri
      clear hh hx hy o6 o4 h64
      refine W ?_
      refine hN1 _ ⟨1, by omega, fun j hj => ?_⟩ (Le.pick [1, 5, 6] [(0, 0)] 1 rfl rfl) (by show 4 - 1 < 4 - 0; omega)
      rcases Nat.lt_or_ge j 0 with h | h
      · exact hup.out j h
      · obtain rfl : j = 0 := by omega
        exact hri.out
    · have hz : (((c &&& 1 : Nat) : Int) != 0) = true := by rw [bne_iff_ne] at hh ⊢; omega
      rw [hh, Bool.not_true, Bool.false_or] at hri
      clear hh
      cases hs : (f == 8 && r == 8)
      · rw [hs] at hri
        replace hri := Lib.hid (show rt ⟨f, r, ps, black, c, passant, half, full⟩ 0 = false from hri)
        clear hx hy o6 o4 h64
        rw [show (⟨f, r, ps, black, c, passant, half, full⟩ : Pos).castles = false from castles_f 0 (by omega) hri.out] at hF
        refine W ?_
        exact (hF _ ⟨[], _, rfl, rfl, rfl, rfl⟩).1
      · have hl := h64 hs
        have hk : (4 : Nat) < ps.length := by omega
        have hr : (7 : Nat) < ps.length := by omega
        have gk : idx (pcs ps) (4 : Int) = some _ := (if_pos (by decide)).trans (pcs_at hk)
        have gr : idx (pcs ps) (7 : Int) = some _ := (if_pos (by decide)).trans (pcs_at hr)
        rw [hs, Bool.true_and, List.getD_eq_getElem?_getD, List.getD_eq_getElem?_getD, List.getElem?_eq_getElem hk, List.getElem?_eq_getElem hr, Option.getD_some, Option.getD_some] at hri
        generalize ps[4] = pk at *
        generalize ps[7] = pr at *
        generalize pofI 6 false = v6 at *
        generalize pofI 4 false = v4 at *
        have hpl := pcs_len ps
        rw [hl] at hpl
        have hpi : ((pcs ps).length : Int) = 64 := by rw [hpl]; rfl
        clear hpl hk hr h64 o6 o4 hl
        cases e1 : (pk == v6)
        · have n1 : (pk != v6) = true := by rw [bne, e1]; rfl
          rw [e1] at hri
          replace hri := Lib.hid (show rt ⟨f, r, ps, black, c, passant, half, full⟩ 0 = false from hri)
          clear e1 hy
          rw [show (⟨f, r, ps, black, c, passant, half, full⟩ : Pos).castles = false from castles_f 0 (by omega) hri.out] at hF
          refine W ?_
          exact (hF _ ⟨[], _, rfl, rfl, rfl, rfl⟩).1
        · have n1 : (pk != v6) = false := by rw [bne, e1]; rfl
          cases e2 : (pr == v4)
          · have n2 : (pr != v4) = true := by rw [bne, e2]; rfl
            rw [e1, e2] at hri
            replace hri := Lib.hid (show rt ⟨f, r, ps, black, c, passant, half, full⟩ 0 = false from hri)
            clear e1 e2
            rw [show (⟨f, r, ps, black, c, passant, half, full⟩ : Pos).castles = false from castles_f 0 (by omega) hri.out] at hF
            refine W ?_
            exact (hF _ ⟨[], _, rfl, rfl, rfl, rfl⟩).1
          · have n2 : (pr != v4) = false := by rw [bne, e2]; rfl
            rw [e1, e2] at hri
            replace hri := Lib.hid (show rt ⟨f, r, ps, black, c, passant, half, full⟩ 0 = true from hri)
            clear e1 e2
            refine W ?_
            refine hN1 _ ⟨1, by omega, fun j hj => ?_⟩ (Le.pick [1, 5, 6] [(0, 0)] 1 rfl rfl) (by show 4 - 1 < 4 - 0; omega)
            rcases Nat.lt_or_ge j 0 with h | h
            · exact hup.out j h
            · obtain rfl : j = 0 := by omega
              exact hri.out
  · unfold rightsA rightA
    have hx := o6 false
    have hy := o4 false
    have hbit : IntKind.u8.wrap (((bitsOf .u8 (c : Int) &&& bitsOf .u8 2).toNat : Nat) : Int) = ((c &&& 2 : Nat) : Int) := and_u8 c 2 (by omega) (by omega)
    have hri : rt ⟨f, r, ps, black, c, passant, half, full⟩ 1 = (!(c &&& 2 != 0) || (f == 8 && r == 8 && ps.getD 4 0 == pofI 6 false && ps.getD 0 0 == pofI 4 false)) := rfl
    cases hh : (c &&& 2 != 0)
    · have hz : (((c &&& 2 : Nat) : Int) != 0) = false := by rw [bne_eq_false_iff_eq] at hh ⊢; omega
      rw [hh] at hri
      replace hri := Lib.hid hri
      clear hh hx hy o6 o4 h64
      refine W ?_
      refine hN1 _ ⟨2, by omega, fun j hj => ?_⟩ (Le.pick [1, 5, 6] [(0, 0)] 1 rfl rfl) (by show 4 - 2 < 4 - 1; omega)
      rcases Nat.lt_or_ge j 1 with h | h
      · exact hup.out j h
      · obtain rfl : j = 1 := by omega
        exact hri.out
    · have hz : (((c &&& 2 : Nat) : Int) != 0) = true := by rw [bne_iff_ne] at hh ⊢; omega
      rw [hh, Bool.not_true, Bool.false_or] at hri
      clear hh
      cases hs : (f == 8 && r == 8)
      · rw [hs] at hri
        replace hri := Lib.hid (show rt ⟨f, r, ps, black, c, passant, half, full⟩ 1 = false from hri)
        clear hx hy o6 o4 h64
        rw [show (⟨f, r, ps, black, c, passant, half, full⟩ : Pos).castles = false from castles_f 1 (by omega) hri.out] at hF
        refine W ?_
        exact (hF _ ⟨[], _, rfl, rfl, rfl, rfl⟩).1
      · have hl := h64 hs
        have hk : (4 : Nat) < ps.length := by omega
        have hr : (0 : Nat) < ps.length := by omega
        have gk : idx (pcs ps) (4 : Int) = some _ := (if_pos (by decide)).trans (pcs_at hk)
        have gr : idx (pcs ps) (0 : Int) = some _ := (if_pos (by decide)).trans (pcs_at hr)
        rw [hs, Bool.true_and, List.getD_eq_getElem?_getD, List.getD_eq_getElem?_getD, List.getElem?_eq_getElem hk, List.getElem?_eq_getElem hr, Option.getD_some, Option.getD_some] at hri
        generalize ps[4] = pk at *
        generalize ps[0] = pr at *
        generalize pofI 6 false = v6 at *
        generalize pofI 4 false = v4 at *
        have hpl := pcs_len ps
        rw [hl] at hpl
        have hpi : ((pcs ps).length : Int) = 64 := by rw [hpl]; rfl
        clear hpl hk hr h64 o6 o4 hl
        cases e1 : (pk == v6)
        · have n1 : (pk != v6) = true := by rw [bne, e1]; rfl
          rw [e1] at hri
          replace hri := Lib.hid (show rt ⟨f, r, ps, black, c, passant, half, full⟩ 1 = false from hri)
          clear e1 hy
          rw [show (⟨f, r, ps, black, c, passant, half, full⟩ : Pos).castles = false from castles_f 1 (by omega) hri.out] at hF
          refine W ?_
          exact (hF _ ⟨[], _, rfl, rfl, rfl, rfl⟩).1
        · have n1 : (pk != v6) = false := by rw [bne, e1]; rfl
          cases e2 : (pr == v4)
          · have n2 : (pr != v4) = true := by rw [bne, e2]; rfl
            rw [e1, e2] at hri
            replace hri := Lib.hid (show rt ⟨f, r, ps, black, c, passant, half, full⟩ 1 = false from hri)
            clear e1 e2
            rw [show (⟨f, r, ps, black, c, passant, half, full⟩ : Pos).castles = false from castles_f 1 (by omega) hri.out] at hF
            refine W ?_
            exact (hF _ ⟨[], _, rfl, rfl, rfl, rfl⟩).1
          · have n2 : (pr != v4) = false := by rw [bne, e2]; rfl
            rw [e1, e2] at hri
            replace hri := Lib.hid (show rt ⟨f, r, ps, black, c, passant, half, full⟩ 1 = true from hri)
            clear e1 e2
            refine W ?_
            refine hN1 _ ⟨2, by omega, fun j hj => ?_⟩ (Le.pick [1, 5, 6] [(0, 0)] 1 rfl rfl) (by show 4 - 2 < 4 - 1; omega)
            rcases Nat.lt_or_ge j 1 with h | h
            · exact hup.out j h
            · obtain rfl : j = 1 := by omega
              exact hri.out
  · unfold rightsA rightA
    have hx := o6 true
    have hy := o4 true
    have hbit : IntKind.u8.wrap (((bitsOf .u8 (c : Int) &&& bitsOf .u8 4).toNat : Nat) : Int) = ((c &&& 4 : Nat) : Int) := and_u8 c 4 (by omega) (by omega)
    have hri : rt ⟨f, r, ps, black, c, passant, half, full⟩ 2 = (!(c &&& 4 != 0) || (f == 8 && r == 8 && ps.getD 60 0 == pofI 6 true && ps.getD 63 0 == pofI 4 true)) := rfl
    cases hh : (c &&& 4 != 0)
    · have hz : (((c &&& 4 : Nat) : Int) != 0) = false := by rw [bne_eq_false_iff_eq] at hh ⊢; omega
      rw [hh] at hri
      replace hri := Lib.hid hri
      clear hh hx hy o6 o4 h64
      refine W ?_
      refine hN1 _ ⟨3, by omega, fun j hj => ?_⟩ (Le.pick [1, 5, 6] [(0, 0)] 1 rfl rfl) (by show 4 - 3 < 4 - 2; omega)
      rcases Nat.lt_or_ge j 2 with h | h
      · exact hup.out j h
      · obtain rfl : j = 2 := by omega
        exact hri.out
    · have hz : (((c &&& 4 : Nat) : Int) != 0) = true := by rw [bne_iff_ne] at hh ⊢; omega
      rw [hh, Bool.not_true, Bool.false_or] at hri
      clear hh
      cases hs : (f == 8 && r == 8)
      · rw [hs] at hri
        replace hri := Lib.hid (show rt ⟨f, r, ps, black, c, passant, half, full⟩ 2 = false from hri)
        clear hx hy o6 o4 h64
        rw [show (⟨f, r, ps, black, c, passant, half, full⟩ : Pos).castles = false from castles_f 2 (by omega) hri.out] at hF
        refine W ?_
        exact (hF _ ⟨[], _, rfl, rfl, rfl, rfl⟩).1
      · have hl := h64 hs
        have hk : (60 : Nat) < ps.length := by omega
        have hr : (63 : Nat) < ps.length := by omega
        have gk : idx (pcs ps) (60 : Int) = some _ := (if_pos (by decide)).trans (pcs_at hk)
        have gr : idx (pcs ps) (63 : Int) = some _ := (if_pos (by decide)).trans (pcs_at hr)
        rw [hs, Bool.true_and, List.getD_eq_getElem?_getD, List.getD_eq_getElem?_getD, List.getElem?_eq_getElem hk, List.getElem?_eq_getElem hr, Option.getD_some, Option.getD_some] at hri
        generalize ps[60] = pk at *
        generalize ps[63] = pr at *
        generalize pofI 6 true = v6 at *
        generalize pofI 4 true = v4 at *
        have hpl := pcs_len ps
        rw [hl] at hpl
        have hpi : ((pcs ps).length : Int) = 64 := by rw [hpl]; rfl
        clear hpl hk hr h64 o6 o4 hl
        cases e1 : (pk == v6)
        · have n1 : (pk != v6) = true := by rw [bne, e1]; rfl
          rw [e1] at hri
          replace hri := Lib.hid (show rt ⟨f, r, ps, black, c, passant, half, full⟩ 2 = false from hri)
          clear e1 hy
          rw [show (⟨f, r, ps, black, c, passant, half, full⟩ : Pos).castles = false from castles_f 2 (by omega) hri.out] at hF
          refine W ?_
          exact (hF _ ⟨[], _, rfl, rfl, rfl, rfl⟩).1
        · have n1 : (pk != v6) = false := by rw [bne, e1]; rfl
          cases e2 : (pr == v4)
          · have n2 : (pr != v4) = true := by rw [bne, e2]; rfl
            rw [e1, e2] at hri
            replace hri := Lib.hid (show rt ⟨f, r, ps, black, c, passant, half, full⟩ 2 = false from hri)
            clear e1 e2
            rw [show (⟨f, r, ps, black, c, passant, half, full⟩ : Pos).castles = false from castles_f 2 (by omega) hri.out] at hF
            refine W ?_
            exact (hF _ ⟨[], _, rfl, rfl, rfl, rfl⟩).1
          · have n2 : (pr != v4) = false := by rw [bne, e2]; rfl
            rw [e1, e2] at hri
            replace hri := Lib.hid (show rt ⟨f, r, ps, black, c, passant, half, full⟩ 2 = true from hri)
            clear e1 e2
            refine W ?_
            refine hN1 _ ⟨3, by omega, fun j hj => ?_⟩ (Le.pick [1, 5, 6] [(0, 0)] 1 rfl rfl) (by show 4 - 3 < 4 - 2; omega)
            rcases Nat.lt_or_ge j 2 with h | h
            · exact hup.out j h
            · obtain rfl : j = 2 := by omega
              exact hri.out
  · unfold rightsA rightA
    have hx := o6 true
    have hy := o4 true
    have hbit : IntKind.u8.wrap (((bitsOf .u8 (c : Int) &&& bitsOf .u8 8).toNat : Nat) : Int) = ((c &&& 8 : Nat) : Int) := and_u8 c 8 (by omega) (by omega)
    have hri : rt ⟨f, r, ps, black, c, passant, half, full⟩ 3 = (!(c &&& 8 != 0) || (f == 8 && r == 8 && ps.getD 60 0 == pofI 6 true && ps.getD 56 0 == pofI 4 true)) := rfl
    cases hh : (c &&& 8 != 0)
    · have hz : (((c &&& 8 : Nat) : Int) != 0) = false := by rw [bne_eq_false_iff_eq] at hh ⊢; omega
      rw [hh] at hri
      replace hri := Lib.hid hri
      clear hh hx hy o6 o4 h64
      refine W ?_
      refine hN1 _ ⟨4, by omega, fun j hj => ?_⟩ (Le.pick [1, 5, 6] [(0, 0)] 1 rfl rfl) (by show 4 - 4 < 4 - 3; omega)
      rcases Nat.lt_or_ge j 3 with h | h
      · exact hup.out j h
      · obtain rfl : j = 3 := by omega
        exact hri.out
    · have hz : (((c &&& 8 : Nat) : Int) != 0) = true := by rw [bne_iff_ne] at hh ⊢; omega
      rw [hh, Bool.not_true, Bool.false_or] at hri
      clear hh
      cases hs : (f == 8 && r == 8)
      · rw [hs] at hri
        replace hri := Lib.hid (show rt ⟨f, r, ps, black, c, passant, half, full⟩ 3 = false from hri)
        clear hx hy o6 o4 h64
        rw [show (⟨f, r, ps, black, c, passant, half, full⟩ : Pos).castles = false from castles_f 3 (by omega) hri.out] at hF
        refine W ?_
        exact (hF _ ⟨[], _, rfl, rfl, rfl, rfl⟩).1
      · have hl := h64 hs
        have hk : (60 : Nat) < ps.length := by omega
        have hr : (56 : Nat) < ps.length := by omega
        have gk : idx (pcs ps) (60 : Int) = some _ := (if_pos (by decide)).trans (pcs_at hk)
        have gr : idx (pcs ps) (56 : Int) = some _ := (if_pos (by decide)).trans (pcs_at hr)
        rw [hs, Bool.true_and, List.getD_eq_getElem?_getD, List.getD_eq_getElem?_getD, List.getElem?_eq_getElem hk, List.getElem?_eq_getElem hr, Option.getD_some, Option.getD_some] at hri
        generalize ps[60] = pk at *
        generalize ps[56] = pr at *
        generalize pofI 6 true = v6 at *
        generalize pofI 4 true = v4 at *
        have hpl := pcs_len ps
        rw [hl] at hpl
        have hpi : ((pcs ps).length : Int) = 64 := by rw [hpl]; rfl
        clear hpl hk hr h64 o6 o4 hl
        cases e1 : (pk == v6)
        · have n1 : (pk != v6) = true := by rw [bne, e1]; rfl
          rw [e1] at hri
          replace hri := Lib.hid (show rt ⟨f, r, ps, black, c, passant, half, full⟩ 3 = false from hri)
          clear e1 hy
          rw [show (⟨f, r, ps, black, c, passant, half, full⟩ : Pos).castles = false from castles_f 3 (by omega) hri.out] at hF
          refine W ?_
          exact (hF _ ⟨[], _, rfl, rfl, rfl, rfl⟩).1
        · have n1 : (pk != v6) = false := by rw [bne, e1]; rfl
          cases e2 : (pr == v4)
          · have n2 : (pr != v4) = true := by rw [bne, e2]; rfl
            rw [e1, e2] at hri
            replace hri := Lib.hid (show rt ⟨f, r, ps, black, c, passant, half, full⟩ 3 = false from hri)
            clear e1 e2
            rw [show (⟨f, r, ps, black, c, passant, half, full⟩ : Pos).castles = false from castles_f 3 (by omega) hri.out] at hF
            refine W ?_
            exact (hF _ ⟨[], _, rfl, rfl, rfl, rfl⟩).1
          · have n2 : (pr != v4) = false := by rw [bne, e2]; rfl
            rw [e1, e2] at hri
            replace hri := Lib.hid (show rt ⟨f, r, ps, black, c, passant, half, full⟩ 3 = true from hri)
            clear e1 e2
            refine W ?_
            refine hN1 _ ⟨4, by omega, fun j hj => ?_⟩ (Le.pick [1, 5, 6] [(0, 0)] 1 rfl rfl) (by show 4 - 4 < 4 - 3; omega)
            rcases Nat.lt_or_ge j 3 with h | h
            · exact hup.out j h
            · obtain rfl : j = 3 := by omega
              exact hri.out
  · have hcs : (⟨f, r, ps, black, c, passant, half, full⟩ : Pos).castles = decide ((c : Int) < 16) := by
      have h0 := hup.out 0 (by omega)
      have h1 := hup.out 1 (by omega)
      have h2 := hup.out 2 (by omega)
      have h3 := hup.out 3 (by omega)
      simp only [rt] at h0 h1 h2 h3
      unfold Pos.castles
      rw [h0, h1, h2, h3]
      rfl
    rw [hcs] at hF
    clear hN1 hcs o6 o4 h64
    refine W ?_
    exact (hF _ ⟨[], _, rfl, rfl, rfl, rfl⟩).1
end
end E
theorem castles_c (w : World) (p : Pos) (po : Option Addr) (cap : Nat) (hP : PosAt w p po cap) (hv : bvalid p.f p.r p.ps = true) (hfull : w.cell? ⟨0, 0, none⟩ = some (.int .i64 8) ∧ w.cell? ⟨0, 1, none⟩ = some (.int .i64 8)) :
    Pure 59 #[.agg (p.cells po cap)] w (.bool p.castles) := by
  refine E.ac_pure (Ev := fun w => w.cell? ⟨0, 0, none⟩ = some (.int .i64 8) ∧ w.cell? ⟨0, 1, none⟩ = some (.int .i64 8))
    (E.castles_a (fun u v hu hb => ⟨below_at hb hu.1, below_at hb hu.2⟩) (by decide) (fun u hu => ?_) p hP.cas hv) hfull ⟨E.pos_rep hP.slc hP.cap1 hP.cap2, trivial⟩
  have key : ∀ (G : Nat → Prop) (η : Nat → Option Value), _ := fun G η => E.load_end (G := G) (η := η) (P := Tryz.prog) (w := u) E.ti_23 (l := [.val (.int .i64 8), .val (.int .i64 8)]) (r := .agg [.val (.int .i64 8), .val (.int .i64 8)]) (us := [.int .i64 8, .int .i64 8]) (b := 0) (o := 0) rfl rfl ⟨⟨rfl, rfl⟩, ⟨rfl, rfl⟩, trivial⟩ rfl (fun j x hj => by
    match j, hj with
    | 0, hj => cases hj; exact hu.1
    | 1, hj => cases hj; exact hu.2)
  obtain ⟨v, h1, _⟩ := key (fun _ => False) E.no
  refine ⟨v, h1, fun G η => ?_⟩
  obtain ⟨v', h2, h3⟩ := key G η
  rw [h1] at h2
  cases h2
  exact h3
end Go.Proofs.YtbhienpbfidgjaaGreatDoor
