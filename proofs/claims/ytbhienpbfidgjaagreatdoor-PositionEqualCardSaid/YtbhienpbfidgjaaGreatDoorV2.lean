/- Positions: castling rights. Conditions: the pieces lie in memory; the tables as laid. -/
import Derived.Test.YtbhienpbfidgjaaGreatDoorV1
import Derived.Test.YtbhienpbfidgjaaGreatDoorR
set_option linter.unusedVariables false
set_option linter.unusedSimpArgs false
namespace Go.Proofs.YtbhienpbfidgjaaGreatDoor
open Go.RowKit
def rightsC : Array Value := #[.int .u8 1, .string { data := #[75] }, .bool false, .int .i64 4, .int .i64 7, .int .u8 2, .string { data := #[81] }, .bool false, .int .i64 4, .int .i64 0,
  .int .u8 4, .string { data := #[107] }, .bool true, .int .i64 60, .int .i64 63, .int .u8 8, .string { data := #[113] }, .bool true, .int .i64 60, .int .i64 56]
def rightsV : Value := .agg rightsC
theorem size92 : (Tryz.prog.info? 92).map (·.size) = some 20 := by kernel_rfl
theorem oneR : rightsC.all (·.oneCell') = true := by simp [rightsC, Value.oneCell']
theorem rights_c (w : World) : Pure 73 #[] w rightsV := by
  have HZ := fun o => Lib.hid (blk_new (w := w) rfl o)
  unfold Pure
  go_enter Tryz.func73, Tryz.ntmps73
  go_wp2_with (refine store_row 92 (.tmp 0) (.tmp 5) rfl rfl rightsC rfl (by rfl) _ (Hid.out (HZ _)) rfl size92 oneR ?_)
  refine bodyPost_ret (results_cell_row rfl _ _ _ 92 rightsC (0, 0) _ rfl (setCells_arr (Hid.out (HZ _)) rfl) Tryz.underlying92 rfl size92) rfl ⟨rfl, ?_⟩
  exact setCells_below (Nat.le_refl _) _ _ _ ((Below.refl _ _).alloc (Nat.le_refl _) _)
def pofI (k : Int) (black : Bool) : Int := if black then -k else k
theorem pof_c (w : World) (k : Int) (black : Bool) (h1 : -15 ≤ k) (h2 : k ≤ 15) : Same 108 #[.int .i8 k, .bool black] w (.int .i8 (pofI k black)) := by
  unfold Same pofI
  cases black
  · go_enter Tryz.func108, Tryz.ntmps108
    go_wp2
    go_ret
    exact ⟨by simp, rfl⟩
  · go_enter Tryz.func108, Tryz.ntmps108
    go_wp2
    go_ret
    exact ⟨by simp, rfl⟩
/-- a right of a position: if it is there, king and rook are at home -/
def Pos.has (p : Pos) (bit : Nat) : Bool := p.castle.toNat &&& bit != 0
def Pos.home (p : Pos) (king rook : Nat) (black : Bool) : Bool := p.f == 8 && p.r == 8 && p.ps.getD king 0 == pofI 6 black && p.ps.getD rook 0 == pofI 4 black
def Pos.right (p : Pos) (bit king rook : Nat) (black : Bool) : Bool := !p.has bit || p.home king rook black
def Pos.castles (p : Pos) : Bool := p.right 1 4 7 false && p.right 2 4 0 false && p.right 4 60 63 true && p.right 8 60 56 true && decide (p.castle < 16)
theorem has_run {p : Pos} (h : 0 ≤ p.castle ∧ p.castle ≤ 255) (bit : Nat) (hb : bit < 256) : (bits .and .u8 p.castle (bit : Int) != 0) = p.has bit := by
  have := u8_and p.castle bit h.1 (by omega) (by omega) (by omega)
  rw [this]
  unfold Pos.has
  rw [Int.toNat_natCast, Bool.eq_iff_iff]
  simp only [bne_iff_ne, ne_eq]
  omega
/-- the first k rights are right -/
def Pos.upto (p : Pos) (k : Nat) : Prop := (0 < k → p.right 1 4 7 false = true) ∧ (1 < k → p.right 2 4 0 false = true) ∧ (2 < k → p.right 4 60 63 true = true) ∧ (3 < k → p.right 8 60 56 true = true)
theorem idx0 (w : World) : (Instr.index 92 (.agg rightsC) (.int .i64 0)).run Tryz.prog w = .ok (.agg #[.int .u8 1, .string { data := #[75] }, .bool false, .int .i64 4, .int .i64 7]) w := by kernel_rfl
theorem idx1 (w : World) : (Instr.index 92 (.agg rightsC) (.int .i64 1)).run Tryz.prog w = .ok (.agg #[.int .u8 2, .string { data := #[81] }, .bool false, .int .i64 4, .int .i64 0]) w := by kernel_rfl
theorem idx2 (w : World) : (Instr.index 92 (.agg rightsC) (.int .i64 2)).run Tryz.prog w = .ok (.agg #[.int .u8 4, .string { data := #[107] }, .bool true, .int .i64 60, .int .i64 63]) w := by kernel_rfl
theorem idx3 (w : World) : (Instr.index 92 (.agg rightsC) (.int .i64 3)).run Tryz.prog w = .ok (.agg #[.int .u8 8, .string { data := #[113] }, .bool true, .int .i64 60, .int .i64 56]) w := by kernel_rfl
theorem Pos.castles_f {p : Pos} {bit king rook : Nat} {bl : Bool} (h : (bit = 1 ∧ king = 4 ∧ rook = 7 ∧ bl = false) ∨ (bit = 2 ∧ king = 4 ∧ rook = 0 ∧ bl = false) ∨ (bit = 4 ∧ king = 60 ∧ rook = 63 ∧ bl = true) ∨ (bit = 8 ∧ king = 60 ∧ rook = 56 ∧ bl = true)) (hb : p.has bit = true) (hh : p.home king rook bl = false) : p.castles = false := by
  unfold Pos.castles
  rcases h with ⟨rfl, rfl, rfl, rfl⟩ | ⟨rfl, rfl, rfl, rfl⟩ | ⟨rfl, rfl, rfl, rfl⟩ | ⟨rfl, rfl, rfl, rfl⟩ <;> simp [Pos.right, hb, hh]
theorem Pos.upto_snoc {p : Pos} {k : Nat} (h : p.upto k) (h0 : k = 0 → p.right 1 4 7 false = true) (h1 : k = 1 → p.right 2 4 0 false = true) (h2 : k = 2 → p.right 4 60 63 true = true) (h3 : k = 3 → p.right 8 60 56 true = true) : p.upto (k + 1) := by
  obtain ⟨u1, u2, u3, u4⟩ := h
  refine ⟨fun h => ?_, fun h => ?_, fun h => ?_, fun h => ?_⟩
  · by_cases e : k = 0
    · exact h0 e
    · exact u1 (by omega)
  · by_cases e : k = 1
    · exact h1 e
    · exact u2 (by omega)
  · by_cases e : k = 2
    · exact h2 e
    · exact u3 (by omega)
  · by_cases e : k = 3
    · exact h3 e
    · exact u4 (by omega)
set_option maxRecDepth 100000 in
set_option maxHeartbeats 4000000 in
theorem castles_c (w : World) (p : Pos) (po : Option Addr) (cap : Nat) (hP : PosAt w p po cap) (hv : bvalid p.f p.r p.ps = true) (hfull : w.cell? ⟨0, 0, none⟩ = some (.int .i64 8) ∧ w.cell? ⟨0, 1, none⟩ = some (.int .i64 8)) :
    Pure 59 #[.agg (p.cells po cap)] w (.bool p.castles) := by
  obtain ⟨hz, hl1, hn1⟩ := bvalid_len hv
  have hne : p.ps ≠ [] := by
    intro h
    have := vsize_mul hz
    rw [h] at hl1
    simp at hl1
    omega
  obtain ⟨b, off, rfl, hPc⟩ := hP.slc.resolve_left hne
  have h8 : p.f = 8 → p.r = 8 → p.ps.length = 64 := by intro h1 h2; rw [h1, h2] at hl1; omega
  have hhas := has_run hP.cas
  obtain ⟨hcap, hcap2⟩ := (⟨hP.cap1, hP.cap2⟩ : _ ∧ _)
  have hr := fun W => Lib.hid (rights_c W)
  unfold rightsV rightsC at hr
  obtain ⟨q, hq⟩ : ∃ q : Pos, q = p := ⟨_, rfl⟩
  clear hv hz hl1 hne hP
  obtain ⟨f, r, ps, black, castle, passant, half, full⟩ := p
  dsimp only [Pos.cells] at *
  replace hPc := Lib.hid hPc
  replace hfull := Lib.hid hfull
  replace h8 := Lib.hid h8
  replace hq := Lib.hid hq
  replace hhas := Lib.hid hhas
  obtain ⟨n, hln⟩ : ∃ n, ps.length = n := ⟨_, rfl⟩
  rw [hln] at hcap hn1 ⊢
  replace hln := Lib.hid hln
  unfold Pure
  go_enter Tryz.func59, Tryz.ntmps59
  go_wp2_with fail
  refine ((hr _).out).mono ?_
  rintro e V ⟨rfl, hV⟩
  have hX := box_of hV
  have hB := Lib.hid (below_of_alloc hV)
  clear hV hr
  obtain ⟨B, hBe⟩ : ∃ B, w.heap.size = B := ⟨_, rfl⟩
  rw [hBe] at hX ⊢
  replace hX := Lib.hid hX
  replace hBe := Lib.hid hBe
  go_wp2_with fail
  go_loopw [6] (fun i wr => ∃ k : Nat, k ≤ 4 ∧ i = .int .i64 k ∧ (Pos.mk f r ps black castle passant half full).upto k ∧ wr.heap[B]? = some (.cells #[.int .i64 f, .int .i64 r, .slice (some ⟨b, off, none⟩) n cap, .bool black, .int .u8 castle, .int .i64 passant, .int .i64 half, .int .i64 full] 26 (0, 0)) ∧ Below w.heap.size w wr) (fun i _ => 4 - (intOf i).toNat)
  case atStart => exact ⟨0, by omega, rfl, ⟨by omega, by omega, by omega, by omega⟩, hX.out, hB.out⟩
  case round =>
    obtain ⟨k, hk, rfl, hup, hXr, hBr⟩ := hrel
    clear hX hB
    replace hup := Lib.hid hup
    replace hXr := Lib.hid hXr
    replace hBr := Lib.hid hBr
    rcases (by omega : k = 0 ∨ k = 1 ∨ k = 2 ∨ k = 3 ∨ k = 4) with rfl | rfl | rfl | rfl | rfl
    · have hbit : (bits .and .u8 castle 1 != 0) = (Pos.mk f r ps black castle passant half full).has 1 := hhas.out 1 (by decide)
      have hrt : (Pos.mk f r ps black castle passant half full).right 1 4 7 false = (!(Pos.mk f r ps black castle passant half full).has 1 || (Pos.mk f r ps black castle passant half full).home 4 7 false) := rfl
      have hidx := idx0
      unfold rightsC at hidx
      have y2 := cell_of hXr.out 2 _ rfl
      have hBl : B < wr.heap.size := lt_of_blk hXr.out
      replace hbit := Lib.hid hbit
      replace hrt := Lib.hid hrt
      go_wp2_with fail
      clear y2 hidx
      obtain ⟨G, hG⟩ : ∃ G, wr.heap.size = G := ⟨_, rfl⟩
      obtain ⟨W2, hW2⟩ : ∃ W2, wr.alloc (.cells #[.int .u8 1, .string { data := #[75] }, .bool false, .int .i64 4, .int .i64 7] 91) = W2 := ⟨_, rfl⟩
      have hN : W2.heap[G]? = some (.cells #[.int .u8 1, .string { data := #[75] }, .bool false, .int .i64 4, .int .i64 7] 91 (0, 0)) := by rw [← hW2]; exact blk_new hG.symm _
      have hX2 : W2.heap[B]? = some (.cells #[.int .i64 f, .int .i64 r, .slice (some ⟨b, off, none⟩) n cap, .bool black, .int .u8 castle, .int .i64 passant, .int .i64 half, .int .i64 full] 26 (0, 0)) := by rw [← hW2]; exact blk_alloc hXr.out _
      have hB2 : Below w.heap.size w W2 := by rw [← hW2]; exact hBr.out.alloc hBr.out.size _
      rw [hW2, hG]
      replace hW2 := Lib.hid hW2
      replace hG := Lib.hid hG
      have y0 := fun x : Ext W2.heap.size W2 => cell_of (below_blk x.2 hX2) 0 _ rfl
      have y1 := fun x : Ext W2.heap.size W2 => cell_of (below_blk x.2 hX2) 1 _ rfl
      have y2 := fun x : Ext W2.heap.size W2 => cell_of (below_blk x.2 hX2) 2 _ rfl
      have y4 := fun x : Ext W2.heap.size W2 => cell_of (below_blk x.2 hX2) 4 _ rfl
      have z0 := fun x : Ext W2.heap.size W2 => cell_of (below_blk x.2 hN) 0 _ rfl
      have z2 := fun x : Ext W2.heap.size W2 => cell_of (below_blk x.2 hN) 2 _ rfl
      have z3 := fun x : Ext W2.heap.size W2 => cell_of (below_blk x.2 hN) 3 _ rfl
      have z4 := fun x : Ext W2.heap.size W2 => cell_of (below_blk x.2 hN) 4 _ rfl
      have g0 := fun x : Ext W2.heap.size W2 => below_at (hB2.trans (x.2.mono hB2.size)) hfull.out.1
      have g1 := fun x : Ext W2.heap.size W2 => below_at (hB2.trans (x.2.mono hB2.size)) hfull.out.2
      replace hX2 := Lib.hid hX2
      replace hN := Lib.hid hN
      replace hB2 := Lib.hid hB2
      replace hbit := hbit.out
      cases hcb : (Pos.mk f r ps black castle passant half full).has 1
      · rw [hcb] at hbit
        replace hcb := Lib.hid hcb
        have hok : Hid ((Pos.mk f r ps black castle passant half full).right 1 4 7 false = true) := Lib.hid (by rw [hrt.out, hcb.out]; rfl)
        refine ext_region (by kernel_rfl) (by kernel_rfl) ?_
        repeat (first | (go_big_quiet_step ((go_at_call 108; exact Pure.ext (Nat.le_refl _) (Same.pure (pof_c _ _ _ (by decide) (by decide)))))) | ((refine wpQuiet_step (fun K hK => ?_)); go_simp; (refine ⟨_, fun _ => rfl, hK _ ?_⟩); clear hK K))
        refine wpQuiet_nil ?_
        rintro V3 ⟨x, hx⟩
        have hX3 : V3.heap[B]? = some (.cells #[.int .i64 f, .int .i64 r, .slice (some ⟨b, off, none⟩) n cap, .bool black, .int .u8 castle, .int .i64 passant, .int .i64 half, .int .i64 full] 26 (0, 0)) := hx ▸ below_blk x.2 hX2.out
        have hB3 : Below w.heap.size w V3 := hx ▸ hB2.out.trans (x.2.mono hB2.out.size)
        replace hX3 := Lib.hid hX3
        replace hB3 := Lib.hid hB3
        clear hx x y0 y1 y2 y4 z0 z2 z3 z4 g0 g1 hbit
        go_wp2_with fail
        go_roundw
        case rel => exact ⟨0 + 1, by omega, by simp, Pos.upto_snoc hup.out (fun h => by first | (exact hok.out) | (exact absurd h (by decide))) (fun h => by first | (exact hok.out) | (exact absurd h (by decide))) (fun h => by first | (exact hok.out) | (exact absurd h (by decide))) (fun h => by first | (exact hok.out) | (exact absurd h (by decide))), hX3.out, hB3.out⟩
        case measure => simp [intOf]
      · rw [hcb] at hbit
        replace hcb := Lib.hid hcb
        cases ef : (f == 8)
        · have hh : Hid ((Pos.mk f r ps black castle passant half full).home 4 7 false = false) := Lib.hid (by simp only [Pos.home, ef, Bool.false_and])
          refine ext_region (by kernel_rfl) (by kernel_rfl) ?_
          repeat (first | (go_big_quiet_step ((go_at_call 108; exact Pure.ext (Nat.le_refl _) (Same.pure (pof_c _ _ _ (by decide) (by decide)))))) | ((refine wpQuiet_step (fun K hK => ?_)); go_simp; (refine ⟨_, fun _ => rfl, hK _ ?_⟩); clear hK K))
          refine wpQuiet_nil ?_
          rintro V3 ⟨x, hx⟩
          have hX3 : V3.heap[B]? = some (.cells #[.int .i64 f, .int .i64 r, .slice (some ⟨b, off, none⟩) n cap, .bool black, .int .u8 castle, .int .i64 passant, .int .i64 half, .int .i64 full] 26 (0, 0)) := hx ▸ below_blk x.2 hX2.out
          have hB3 : Below w.heap.size w V3 := hx ▸ hB2.out.trans (x.2.mono hB2.out.size)
          replace hX3 := Lib.hid hX3
          replace hB3 := Lib.hid hB3
          clear hx x y0 y1 y2 y4 z0 z2 z3 z4 g0 g1 hbit
          have hfin : Hid ((Pos.mk f r ps black castle passant half full).castles = false) := Lib.hid (Pos.castles_f (by decide) hcb.out hh.out)
          go_wp2_with fail
          go_ret
          exact ⟨ret_bool hfin.out.symm, hB3.out⟩
        · cases er : (r == 8)
          · have hh : Hid ((Pos.mk f r ps black castle passant half full).home 4 7 false = false) := Lib.hid (by simp only [Pos.home, er, Bool.false_and, Bool.and_false])
            refine ext_region (by kernel_rfl) (by kernel_rfl) ?_
            repeat (first | (go_big_quiet_step ((go_at_call 108; exact Pure.ext (Nat.le_refl _) (Same.pure (pof_c _ _ _ (by decide) (by decide)))))) | ((refine wpQuiet_step (fun K hK => ?_)); go_simp; (refine ⟨_, fun _ => rfl, hK _ ?_⟩); clear hK K))
            refine wpQuiet_nil ?_
            rintro V3 ⟨x, hx⟩
            have hX3 : V3.heap[B]? = some (.cells #[.int .i64 f, .int .i64 r, .slice (some ⟨b, off, none⟩) n cap, .bool black, .int .u8 castle, .int .i64 passant, .int .i64 half, .int .i64 full] 26 (0, 0)) := hx ▸ below_blk x.2 hX2.out
            have hB3 : Below w.heap.size w V3 := hx ▸ hB2.out.trans (x.2.mono hB2.out.size)
            replace hX3 := Lib.hid hX3
            replace hB3 := Lib.hid hB3
            clear hx x y0 y1 y2 y4 z0 z2 z3 z4 g0 g1 hbit
            have hfin : Hid ((Pos.mk f r ps black castle passant half full).castles = false) := Lib.hid (Pos.castles_f (by decide) hcb.out hh.out)
            go_wp2_with fail
            go_ret
            exact ⟨ret_bool hfin.out.symm, hB3.out⟩
          · have hn64 : 64 = n := by rw [← hln.out]; exact (h8.out (by simpa using ef) (by simpa using er)).symm
            have i1 : (4 : Int) < n := by omega
            have i2 : (7 : Int) < n := by omega
            obtain ⟨pk, hpk⟩ : ∃ pk, ps[4]? = some pk := ⟨_, List.getElem?_eq_getElem (by rw [hln.out]; omega)⟩
            obtain ⟨pr, hpr⟩ : ∃ pr, ps[7]? = some pr := ⟨_, List.getElem?_eq_getElem (by rw [hln.out]; omega)⟩
            have yk := fun x : Ext W2.heap.size W2 => below_at (hB2.out.trans (x.2.mono hB2.out.size)) (hPc.out 4 pk hpk)
            have yr := fun x : Ext W2.heap.size W2 => below_at (hB2.out.trans (x.2.mono hB2.out.size)) (hPc.out 7 pr hpr)
            try simp only [Nat.add_zero] at yr
            have i3 : 7 < n := by omega
            have hhm : Hid ((Pos.mk f r ps black castle passant half full).home 4 7 false = (pk == pofI 6 false && pr == pofI 4 false)) := Lib.hid (by simp only [Pos.home, ef, er, Bool.true_and, List.getD_eq_getElem?_getD, hpk, hpr, Option.getD_some])
            replace hn64 := Lib.hid hn64
            replace hpk := Lib.hid hpk
            replace hpr := Lib.hid hpr
            obtain ⟨P6, hP6⟩ : ∃ P6, pofI 6 false = P6 := ⟨_, rfl⟩
            obtain ⟨P4, hP4⟩ : ∃ P4, pofI 4 false = P4 := ⟨_, rfl⟩
            rw [hP6, hP4] at hhm
            have c6 := fun W => Lib.hid (pof_c W 6 false (by decide) (by decide))
            have c4 := fun W => Lib.hid (pof_c W 4 false (by decide) (by decide))
            rw [hP6] at c6
            rw [hP4] at c4
            replace hP6 := Lib.hid hP6
            replace hP4 := Lib.hid hP4
            cases ek : (pk == P6)
            · have hh : Hid ((Pos.mk f r ps black castle passant half full).home 4 7 false = false) := Lib.hid (by rw [hhm.out, ek]; rfl)
              have ek2 : (pk != P6) = true := by simp only [bne, ek, Bool.not_false]
              clear c4
              refine ext_region (by kernel_rfl) (by kernel_rfl) ?_
              repeat (first | (go_big_quiet_step ((go_at_call 108; first | (with_reducible exact Pure.ext (Nat.le_refl _) (Same.pure (Hid.out (c6 _)))) | (with_reducible exact Pure.ext (Nat.le_refl _) (Same.pure (Hid.out (c4 _))))))) | ((refine wpQuiet_step (fun K hK => ?_)); go_simp; (refine ⟨_, fun _ => rfl, hK _ ?_⟩); clear hK K))
              refine wpQuiet_nil ?_
              rintro V3 ⟨x, hx⟩
              have hX3 : V3.heap[B]? = some (.cells #[.int .i64 f, .int .i64 r, .slice (some ⟨b, off, none⟩) n cap, .bool black, .int .u8 castle, .int .i64 passant, .int .i64 half, .int .i64 full] 26 (0, 0)) := hx ▸ below_blk x.2 hX2.out
              have hB3 : Below w.heap.size w V3 := hx ▸ hB2.out.trans (x.2.mono hB2.out.size)
              replace hX3 := Lib.hid hX3
              replace hB3 := Lib.hid hB3
              clear hx x y0 y1 y2 y4 z0 z2 z3 z4 g0 g1 hbit
              have hfin : Hid ((Pos.mk f r ps black castle passant half full).castles = false) := Lib.hid (Pos.castles_f (by decide) hcb.out hh.out)
              go_wp2_with fail
              go_ret
              exact ⟨ret_bool hfin.out.symm, hB3.out⟩
            · have ek2 : (pk != P6) = false := by simp only [bne, ek, Bool.not_true]
              cases eo : (pr == P4)
              · have hh : Hid ((Pos.mk f r ps black castle passant half full).home 4 7 false = false) := Lib.hid (by rw [hhm.out, eo, Bool.and_false])
                have eo2 : (pr != P4) = true := by simp only [bne, eo, Bool.not_false]
                refine ext_region (by kernel_rfl) (by kernel_rfl) ?_
                repeat (first | (go_big_quiet_step ((go_at_call 108; first | (with_reducible exact Pure.ext (Nat.le_refl _) (Same.pure (Hid.out (c6 _)))) | (with_reducible exact Pure.ext (Nat.le_refl _) (Same.pure (Hid.out (c4 _))))))) | ((refine wpQuiet_step (fun K hK => ?_)); go_simp; (refine ⟨_, fun _ => rfl, hK _ ?_⟩); clear hK K))
                refine wpQuiet_nil ?_
                rintro V3 ⟨x, hx⟩
                have hX3 : V3.heap[B]? = some (.cells #[.int .i64 f, .int .i64 r, .slice (some ⟨b, off, none⟩) n cap, .bool black, .int .u8 castle, .int .i64 passant, .int .i64 half, .int .i64 full] 26 (0, 0)) := hx ▸ below_blk x.2 hX2.out
                have hB3 : Below w.heap.size w V3 := hx ▸ hB2.out.trans (x.2.mono hB2.out.size)
                replace hX3 := Lib.hid hX3
                replace hB3 := Lib.hid hB3
                clear hx x y0 y1 y2 y4 z0 z2 z3 z4 g0 g1 hbit
                have hfin : Hid ((Pos.mk f r ps black castle passant half full).castles = false) := Lib.hid (Pos.castles_f (by decide) hcb.out hh.out)
                go_wp2_with fail
                go_ret
                exact ⟨ret_bool hfin.out.symm, hB3.out⟩
              · have eo2 : (pr != P4) = false := by simp only [bne, eo, Bool.not_true]
                have hok : Hid ((Pos.mk f r ps black castle passant half full).right 1 4 7 false = true) := Lib.hid (by rw [hrt.out, hhm.out, ek, eo]; simp)
                refine ext_region (by kernel_rfl) (by kernel_rfl) ?_
                repeat (first | (go_big_quiet_step ((go_at_call 108; first | (with_reducible exact Pure.ext (Nat.le_refl _) (Same.pure (Hid.out (c6 _)))) | (with_reducible exact Pure.ext (Nat.le_refl _) (Same.pure (Hid.out (c4 _))))))) | ((refine wpQuiet_step (fun K hK => ?_)); go_simp; (refine ⟨_, fun _ => rfl, hK _ ?_⟩); clear hK K))
                refine wpQuiet_nil ?_
                rintro V3 ⟨x, hx⟩
                have hX3 : V3.heap[B]? = some (.cells #[.int .i64 f, .int .i64 r, .slice (some ⟨b, off, none⟩) n cap, .bool black, .int .u8 castle, .int .i64 passant, .int .i64 half, .int .i64 full] 26 (0, 0)) := hx ▸ below_blk x.2 hX2.out
                have hB3 : Below w.heap.size w V3 := hx ▸ hB2.out.trans (x.2.mono hB2.out.size)
                replace hX3 := Lib.hid hX3
                replace hB3 := Lib.hid hB3
                clear hx x y0 y1 y2 y4 z0 z2 z3 z4 g0 g1 hbit
                go_wp2_with fail
                go_roundw
                case rel => exact ⟨0 + 1, by omega, by simp, Pos.upto_snoc hup.out (fun h => by first | (exact hok.out) | (exact absurd h (by decide))) (fun h => by first | (exact hok.out) | (exact absurd h (by decide))) (fun h => by first | (exact hok.out) | (exact absurd h (by decide))) (fun h => by first | (exact hok.out) | (exact absurd h (by decide))), hX3.out, hB3.out⟩
                case measure => simp [intOf]
    · have hbit : (bits .and .u8 castle 2 != 0) = (Pos.mk f r ps black castle passant half full).has 2 := hhas.out 2 (by decide)
      have hrt : (Pos.mk f r ps black castle passant half full).right 2 4 0 false = (!(Pos.mk f r ps black castle passant half full).has 2 || (Pos.mk f r ps black castle passant half full).home 4 0 false) := rfl
      have hidx := idx1
      unfold rightsC at hidx
      have y2 := cell_of hXr.out 2 _ rfl
      have hBl : B < wr.heap.size := lt_of_blk hXr.out
      replace hbit := Lib.hid hbit
      replace hrt := Lib.hid hrt
      go_wp2_with fail
      clear y2 hidx
      obtain ⟨G, hG⟩ : ∃ G, wr.heap.size = G := ⟨_, rfl⟩
      obtain ⟨W2, hW2⟩ : ∃ W2, wr.alloc (.cells #[.int .u8 2, .string { data := #[81] }, .bool false, .int .i64 4, .int .i64 0] 91) = W2 := ⟨_, rfl⟩
      have hN : W2.heap[G]? = some (.cells #[.int .u8 2, .string { data := #[81] }, .bool false, .int .i64 4, .int .i64 0] 91 (0, 0)) := by rw [← hW2]; exact blk_new hG.symm _
      have hX2 : W2.heap[B]? = some (.cells #[.int .i64 f, .int .i64 r, .slice (some ⟨b, off, none⟩) n cap, .bool black, .int .u8 castle, .int .i64 passant, .int .i64 half, .int .i64 full] 26 (0, 0)) := by rw [← hW2]; exact blk_alloc hXr.out _
      have hB2 : Below w.heap.size w W2 := by rw [← hW2]; exact hBr.out.alloc hBr.out.size _
      rw [hW2, hG]
      replace hW2 := Lib.hid hW2
      replace hG := Lib.hid hG
      have y0 := fun x : Ext W2.heap.size W2 => cell_of (below_blk x.2 hX2) 0 _ rfl
      have y1 := fun x : Ext W2.heap.size W2 => cell_of (below_blk x.2 hX2) 1 _ rfl
      have y2 := fun x : Ext W2.heap.size W2 => cell_of (below_blk x.2 hX2) 2 _ rfl
      have y4 := fun x : Ext W2.heap.size W2 => cell_of (below_blk x.2 hX2) 4 _ rfl
      have z0 := fun x : Ext W2.heap.size W2 => cell_of (below_blk x.2 hN) 0 _ rfl
      have z2 := fun x : Ext W2.heap.size W2 => cell_of (below_blk x.2 hN) 2 _ rfl
      have z3 := fun x : Ext W2.heap.size W2 => cell_of (below_blk x.2 hN) 3 _ rfl
      have z4 := fun x : Ext W2.heap.size W2 => cell_of (below_blk x.2 hN) 4 _ rfl
      have g0 := fun x : Ext W2.heap.size W2 => below_at (hB2.trans (x.2.mono hB2.size)) hfull.out.1
      have g1 := fun x : Ext W2.heap.size W2 => below_at (hB2.trans (x.2.mono hB2.size)) hfull.out.2
      replace hX2 := Lib.hid hX2
      replace hN := Lib.hid hN
      replace hB2 := Lib.hid hB2
      replace hbit := hbit.out
      cases hcb : (Pos.mk f r ps black castle passant half full).has 2
      · rw [hcb] at hbit
        replace hcb := Lib.hid hcb
        have hok : Hid ((Pos.mk f r ps black castle passant half full).right 2 4 0 false = true) := Lib.hid (by rw [hrt.out, hcb.out]; rfl)
        refine ext_region (by kernel_rfl) (by kernel_rfl) ?_
        repeat (first | (go_big_quiet_step ((go_at_call 108; exact Pure.ext (Nat.le_refl _) (Same.pure (pof_c _ _ _ (by decide) (by decide)))))) | ((refine wpQuiet_step (fun K hK => ?_)); go_simp; (refine ⟨_, fun _ => rfl, hK _ ?_⟩); clear hK K))
        refine wpQuiet_nil ?_
        rintro V3 ⟨x, hx⟩
        have hX3 : V3.heap[B]? = some (.cells #[.int .i64 f, .int .i64 r, .slice (some ⟨b, off, none⟩) n cap, .bool black, .int .u8 castle, .int .i64 passant, .int .i64 half, .int .i64 full] 26 (0, 0)) := hx ▸ below_blk x.2 hX2.out
        have hB3 : Below w.heap.size w V3 := hx ▸ hB2.out.trans (x.2.mono hB2.out.size)
        replace hX3 := Lib.hid hX3
        replace hB3 := Lib.hid hB3
        clear hx x y0 y1 y2 y4 z0 z2 z3 z4 g0 g1 hbit
        go_wp2_with fail
        go_roundw
        case rel => exact ⟨1 + 1, by omega, by simp, Pos.upto_snoc hup.out (fun h => by first | (exact hok.out) | (exact absurd h (by decide))) (fun h => by first | (exact hok.out) | (exact absurd h (by decide))) (fun h => by first | (exact hok.out) | (exact absurd h (by decide))) (fun h => by first | (exact hok.out) | (exact absurd h (by decide))), hX3.out, hB3.out⟩
        case measure => simp [intOf]
      · rw [hcb] at hbit
        replace hcb := Lib.hid hcb
        cases ef : (f == 8)
        · have hh : Hid ((Pos.mk f r ps black castle passant half full).home 4 0 false = false) := Lib.hid (by simp only [Pos.home, ef, Bool.false_and])
          refine ext_region (by kernel_rfl) (by kernel_rfl) ?_
          repeat (first | (go_big_quiet_step ((go_at_call 108; exact Pure.ext (Nat.le_refl _) (Same.pure (pof_c _ _ _ (by decide) (by decide)))))) | ((refine wpQuiet_step (fun K hK => ?_)); go_simp; (refine ⟨_, fun _ => rfl, hK _ ?_⟩); clear hK K))
          refine wpQuiet_nil ?_
          rintro V3 ⟨x, hx⟩
          have hX3 : V3.heap[B]? = some (.cells #[.int .i64 f, .int .i64 r, .slice (some ⟨b, off, none⟩) n cap, .bool black, .int .u8 castle, .int .i64 passant, .int .i64 half, .int .i64 full] 26 (0, 0)) := hx ▸ below_blk x.2 hX2.out
          have hB3 : Below w.heap.size w V3 := hx ▸ hB2.out.trans (x.2.mono hB2.out.size)
          replace hX3 := Lib.hid hX3
          replace hB3 := Lib.hid hB3
          clear hx x y0 y1 y2 y4 z0 z2 z3 z4 g0 g1 hbit
          have hfin : Hid ((Pos.mk f r ps black castle passant half full).castles = false) := Lib.hid (Pos.castles_f (by decide) hcb.out hh.out)
          go_wp2_with fail
          go_ret
          exact ⟨ret_bool hfin.out.symm, hB3.out⟩
        · cases er : (r == 8)
          · have hh : Hid ((Pos.mk f r ps black castle passant half full).home 4 0 false = false) := Lib.hid (by simp only [Pos.home, er, Bool.false_and, Bool.and_false])
            refine ext_region (by kernel_rfl) (by kernel_rfl) ?_
            repeat (first | (go_big_quiet_step ((go_at_call 108; exact Pure.ext (Nat.le_refl _) (Same.pure (pof_c _ _ _ (by decide) (by decide)))))) | ((refine wpQuiet_step (fun K hK => ?_)); go_simp; (refine ⟨_, fun _ => rfl, hK _ ?_⟩); clear hK K))
            refine wpQuiet_nil ?_
            rintro V3 ⟨x, hx⟩
            have hX3 : V3.heap[B]? = some (.cells #[.int .i64 f, .int .i64 r, .slice (some ⟨b, off, none⟩) n cap, .bool black, .int .u8 castle, .int .i64 passant, .int .i64 half, .int .i64 full] 26 (0, 0)) := hx ▸ below_blk x.2 hX2.out
            have hB3 : Below w.heap.size w V3 := hx ▸ hB2.out.trans (x.2.mono hB2.out.size)
            replace hX3 := Lib.hid hX3
            replace hB3 := Lib.hid hB3
            clear hx x y0 y1 y2 y4 z0 z2 z3 z4 g0 g1 hbit
            have hfin : Hid ((Pos.mk f r ps black castle passant half full).castles = false) := Lib.hid (Pos.castles_f (by decide) hcb.out hh.out)
            go_wp2_with fail
            go_ret
            exact ⟨ret_bool hfin.out.symm, hB3.out⟩
          · have hn64 : 64 = n := by rw [← hln.out]; exact (h8.out (by simpa using ef) (by simpa using er)).symm
            have i1 : (4 : Int) < n := by omega
            have i2 : (0 : Int) < n := by omega
            obtain ⟨pk, hpk⟩ : ∃ pk, ps[4]? = some pk := ⟨_, List.getElem?_eq_getElem (by rw [hln.out]; omega)⟩
            obtain ⟨pr, hpr⟩ : ∃ pr, ps[0]? = some pr := ⟨_, List.getElem?_eq_getElem (by rw [hln.out]; omega)⟩
            have yk := fun x : Ext W2.heap.size W2 => below_at (hB2.out.trans (x.2.mono hB2.out.size)) (hPc.out 4 pk hpk)
            have yr := fun x : Ext W2.heap.size W2 => below_at (hB2.out.trans (x.2.mono hB2.out.size)) (hPc.out 0 pr hpr)
            try simp only [Nat.add_zero] at yr
            have i3 : 0 < n := by omega
            have hhm : Hid ((Pos.mk f r ps black castle passant half full).home 4 0 false = (pk == pofI 6 false && pr == pofI 4 false)) := Lib.hid (by simp only [Pos.home, ef, er, Bool.true_and, List.getD_eq_getElem?_getD, hpk, hpr, Option.getD_some])
            replace hn64 := Lib.hid hn64
            replace hpk := Lib.hid hpk
            replace hpr := Lib.hid hpr
            obtain ⟨P6, hP6⟩ : ∃ P6, pofI 6 false = P6 := ⟨_, rfl⟩
            obtain ⟨P4, hP4⟩ : ∃ P4, pofI 4 false = P4 := ⟨_, rfl⟩
            rw [hP6, hP4] at hhm
            have c6 := fun W => Lib.hid (pof_c W 6 false (by decide) (by decide))
            have c4 := fun W => Lib.hid (pof_c W 4 false (by decide) (by decide))
            rw [hP6] at c6
            rw [hP4] at c4
            replace hP6 := Lib.hid hP6
            replace hP4 := Lib.hid hP4
            cases ek : (pk == P6)
            · have hh : Hid ((Pos.mk f r ps black castle passant half full).home 4 0 false = false) := Lib.hid (by rw [hhm.out, ek]; rfl)
              have ek2 : (pk != P6) = true := by simp only [bne, ek, Bool.not_false]
              clear c4
              refine ext_region (by kernel_rfl) (by kernel_rfl) ?_
              repeat (first | (go_big_quiet_step ((go_at_call 108; first | (with_reducible exact Pure.ext (Nat.le_refl _) (Same.pure (Hid.out (c6 _)))) | (with_reducible exact Pure.ext (Nat.le_refl _) (Same.pure (Hid.out (c4 _))))))) | ((refine wpQuiet_step (fun K hK => ?_)); go_simp; (refine ⟨_, fun _ => rfl, hK _ ?_⟩); clear hK K))
              refine wpQuiet_nil ?_
              rintro V3 ⟨x, hx⟩
              have hX3 : V3.heap[B]? = some (.cells #[.int .i64 f, .int .i64 r, .slice (some ⟨b, off, none⟩) n cap, .bool black, .int .u8 castle, .int .i64 passant, .int .i64 half, .int .i64 full] 26 (0, 0)) := hx ▸ below_blk x.2 hX2.out
              have hB3 : Below w.heap.size w V3 := hx ▸ hB2.out.trans (x.2.mono hB2.out.size)
              replace hX3 := Lib.hid hX3
              replace hB3 := Lib.hid hB3
              clear hx x y0 y1 y2 y4 z0 z2 z3 z4 g0 g1 hbit
              have hfin : Hid ((Pos.mk f r ps black castle passant half full).castles = false) := Lib.hid (Pos.castles_f (by decide) hcb.out hh.out)
              go_wp2_with fail
              go_ret
              exact ⟨ret_bool hfin.out.symm, hB3.out⟩
            · have ek2 : (pk != P6) = false := by simp only [bne, ek, Bool.not_true]
              cases eo : (pr == P4)
              · have hh : Hid ((Pos.mk f r ps black castle passant half full).home 4 0 false = false) := Lib.hid (by rw [hhm.out, eo, Bool.and_false])
                have eo2 : (pr != P4) = true := by simp only [bne, eo, Bool.not_false]
                refine ext_region (by kernel_rfl) (by kernel_rfl) ?_
                repeat (first | (go_big_quiet_step ((go_at_call 108; first | (with_reducible exact Pure.ext (Nat.le_refl _) (Same.pure (Hid.out (c6 _)))) | (with_reducible exact Pure.ext (Nat.le_refl _) (Same.pure (Hid.out (c4 _))))))) | ((refine wpQuiet_step (fun K hK => ?_)); go_simp; (refine ⟨_, fun _ => rfl, hK _ ?_⟩); clear hK K))
                refine wpQuiet_nil ?_
                rintro V3 ⟨x, hx⟩
                have hX3 : V3.heap[B]? = some (.cells #[.int .i64 f, .int .i64 r, .slice (some ⟨b, off, none⟩) n cap, .bool black, .int .u8 castle, .int .i64 passant, .int .i64 half, .int .i64 full] 26 (0, 0)) := hx ▸ below_blk x.2 hX2.out
                have hB3 : Below w.heap.size w V3 := hx ▸ hB2.out.trans (x.2.mono hB2.out.size)
                replace hX3 := Lib.hid hX3
                replace hB3 := Lib.hid hB3
                clear hx x y0 y1 y2 y4 z0 z2 z3 z4 g0 g1 hbit
                have hfin : Hid ((Pos.mk f r ps black castle passant half full).castles = false) := Lib.hid (Pos.castles_f (by decide) hcb.out hh.out)
                go_wp2_with fail
                go_ret
                exact ⟨ret_bool hfin.out.symm, hB3.out⟩
              · have eo2 : (pr != P4) = false := by simp only [bne, eo, Bool.not_true]
                have hok : Hid ((Pos.mk f r ps black castle passant half full).right 2 4 0 false = true) := Lib.hid (by rw [hrt.out, hhm.out, ek, eo]; simp)
                refine ext_region (by kernel_rfl) (by kernel_rfl) ?_
                repeat (first | (go_big_quiet_step ((go_at_call 108; first | (with_reducible exact Pure.ext (Nat.le_refl _) (Same.pure (Hid.out (c6 _)))) | (with_reducible exact Pure.ext (Nat.le_refl _) (Same.pure (Hid.out (c4 _))))))) | ((refine wpQuiet_step (fun K hK => ?_)); go_simp; (refine ⟨_, fun _ => rfl, hK _ ?_⟩); clear hK K))
                refine wpQuiet_nil ?_
                rintro V3 ⟨x, hx⟩
                have hX3 : V3.heap[B]? = some (.cells #[.int .i64 f, .int .i64 r, .slice (some ⟨b, off, none⟩) n cap, .bool black, .int .u8 castle, .int .i64 passant, .int .i64 half, .int .i64 full] 26 (0, 0)) := hx ▸ below_blk x.2 hX2.out
                have hB3 : Below w.heap.size w V3 := hx ▸ hB2.out.trans (x.2.mono hB2.out.size)
                replace hX3 := Lib.hid hX3
                replace hB3 := Lib.hid hB3
                clear hx x y0 y1 y2 y4 z0 z2 z3 z4 g0 g1 hbit
                go_wp2_with fail
                go_roundw
                case rel => exact ⟨1 + 1, by omega, by simp, Pos.upto_snoc hup.out (fun h => by first | (exact hok.out) | (exact absurd h (by decide))) (fun h => by first | (exact hok.out) | (exact absurd h (by decide))) (fun h => by first | (exact hok.out) | (exact absurd h (by decide))) (fun h => by first | (exact hok.out) | (exact absurd h (by decide))), hX3.out, hB3.out⟩
                case measure => simp [intOf]
    · have hbit : (bits .and .u8 castle 4 != 0) = (Pos.mk f r ps black castle passant half full).has 4 := hhas.out 4 (by decide)
      have hrt : (Pos.mk f r ps black castle passant half full).right 4 60 63 true = (!(Pos.mk f r ps black castle passant half full).has 4 || (Pos.mk f r ps black castle passant half full).home 60 63 true) := rfl
      have hidx := idx2
      unfold rightsC at hidx
      have y2 := cell_of hXr.out 2 _ rfl
      have hBl : B < wr.heap.size := lt_of_blk hXr.out
      replace hbit := Lib.hid hbit
      replace hrt := Lib.hid hrt
      go_wp2_with fail
      clear y2 hidx
      obtain ⟨G, hG⟩ : ∃ G, wr.heap.size = G := ⟨_, rfl⟩
      obtain ⟨W2, hW2⟩ : ∃ W2, wr.alloc (.cells #[.int .u8 4, .string { data := #[107] }, .bool true, .int .i64 60, .int .i64 63] 91) = W2 := ⟨_, rfl⟩
      have hN : W2.heap[G]? = some (.cells #[.int .u8 4, .string { data := #[107] }, .bool true, .int .i64 60, .int .i64 63] 91 (0, 0)) := by rw [← hW2]; exact blk_new hG.symm _
      have hX2 : W2.heap[B]? = some (.cells #[.int .i64 f, .int .i64 r, .slice (some ⟨b, off, none⟩) n cap, .bool black, .int .u8 castle, .int .i64 passant, .int .i64 half, .int .i64 full] 26 (0, 0)) := by rw [← hW2]; exact blk_alloc hXr.out _
      have hB2 : Below w.heap.size w W2 := by rw [← hW2]; exact hBr.out.alloc hBr.out.size _
      rw [hW2, hG]
      replace hW2 := Lib.hid hW2
      replace hG := Lib.hid hG
      have y0 := fun x : Ext W2.heap.size W2 => cell_of (below_blk x.2 hX2) 0 _ rfl
      have y1 := fun x : Ext W2.heap.size W2 => cell_of (below_blk x.2 hX2) 1 _ rfl
      have y2 := fun x : Ext W2.heap.size W2 => cell_of (below_blk x.2 hX2) 2 _ rfl
      have y4 := fun x : Ext W2.heap.size W2 => cell_of (below_blk x.2 hX2) 4 _ rfl
      have z0 := fun x : Ext W2.heap.size W2 => cell_of (below_blk x.2 hN) 0 _ rfl
      have z2 := fun x : Ext W2.heap.size W2 => cell_of (below_blk x.2 hN) 2 _ rfl
      have z3 := fun x : Ext W2.heap.size W2 => cell_of (below_blk x.2 hN) 3 _ rfl
      have z4 := fun x : Ext W2.heap.size W2 => cell_of (below_blk x.2 hN) 4 _ rfl
      have g0 := fun x : Ext W2.heap.size W2 => below_at (hB2.trans (x.2.mono hB2.size)) hfull.out.1
      have g1 := fun x : Ext W2.heap.size W2 => below_at (hB2.trans (x.2.mono hB2.size)) hfull.out.2
      replace hX2 := Lib.hid hX2
      replace hN := Lib.hid hN
      replace hB2 := Lib.hid hB2
      replace hbit := hbit.out
      cases hcb : (Pos.mk f r ps black castle passant half full).has 4
      · rw [hcb] at hbit
        replace hcb := Lib.hid hcb
        have hok : Hid ((Pos.mk f r ps black castle passant half full).right 4 60 63 true = true) := Lib.hid (by rw [hrt.out, hcb.out]; rfl)
        refine ext_region (by kernel_rfl) (by kernel_rfl) ?_
        repeat (first | (go_big_quiet_step ((go_at_call 108; exact Pure.ext (Nat.le_refl _) (Same.pure (pof_c _ _ _ (by decide) (by decide)))))) | ((refine wpQuiet_step (fun K hK => ?_)); go_simp; (refine ⟨_, fun _ => rfl, hK _ ?_⟩); clear hK K))
        refine wpQuiet_nil ?_
        rintro V3 ⟨x, hx⟩
        have hX3 : V3.heap[B]? = some (.cells #[.int .i64 f, .int .i64 r, .slice (some ⟨b, off, none⟩) n cap, .bool black, .int .u8 castle, .int .i64 passant, .int .i64 half, .int .i64 full] 26 (0, 0)) := hx ▸ below_blk x.2 hX2.out
        have hB3 : Below w.heap.size w V3 := hx ▸ hB2.out.trans (x.2.mono hB2.out.size)
        replace hX3 := Lib.hid hX3
        replace hB3 := Lib.hid hB3
        clear hx x y0 y1 y2 y4 z0 z2 z3 z4 g0 g1 hbit
        go_wp2_with fail
        go_roundw
        case rel => exact ⟨2 + 1, by omega, by simp, Pos.upto_snoc hup.out (fun h => by first | (exact hok.out) | (exact absurd h (by decide))) (fun h => by first | (exact hok.out) | (exact absurd h (by decide))) (fun h => by first | (exact hok.out) | (exact absurd h (by decide))) (fun h => by first | (exact hok.out) | (exact absurd h (by decide))), hX3.out, hB3.out⟩
        case measure => simp [intOf]
      · rw [hcb] at hbit
        replace hcb := Lib.hid hcb
        cases ef : (f == 8)
        · have hh : Hid ((Pos.mk f r ps black castle passant half full).home 60 63 true = false) := Lib.hid (by simp only [Pos.home, ef, Bool.false_and])
          refine ext_region (by kernel_rfl) (by kernel_rfl) ?_
          repeat (first | (go_big_quiet_step ((go_at_call 108; exact Pure.ext (Nat.le_refl _) (Same.pure (pof_c _ _ _ (by decide) (by decide)))))) | ((refine wpQuiet_step (fun K hK => ?_)); go_simp; (refine ⟨_, fun _ => rfl, hK _ ?_⟩); clear hK K))
          refine wpQuiet_nil ?_
          rintro V3 ⟨x, hx⟩
          have hX3 : V3.heap[B]? = some (.cells #[.int .i64 f, .int .i64 r, .slice (some ⟨b, off, none⟩) n cap, .bool black, .int .u8 castle, .int .i64 passant, .int .i64 half, .int .i64 full] 26 (0, 0)) := hx ▸ below_blk x.2 hX2.out
          have hB3 : Below w.heap.size w V3 := hx ▸ hB2.out.trans (x.2.mono hB2.out.size)
          replace hX3 := Lib.hid hX3
          replace hB3 := Lib.hid hB3
          clear hx x y0 y1 y2 y4 z0 z2 z3 z4 g0 g1 hbit
          have hfin : Hid ((Pos.mk f r ps black castle passant half full).castles = false) := Lib.hid (Pos.castles_f (by decide) hcb.out hh.out)
          go_wp2_with fail
          go_ret
          exact ⟨ret_bool hfin.out.symm, hB3.out⟩
        · cases er : (r == 8)
          · have hh : Hid ((Pos.mk f r ps black castle passant half full).home 60 63 true = false) := Lib.hid (by simp only [Pos.home, er, Bool.false_and, Bool.and_false])
            refine ext_region (by kernel_rfl) (by kernel_rfl) ?_
            repeat (first | (go_big_quiet_step ((go_at_call 108; exact Pure.ext (Nat.le_refl _) (Same.pure (pof_c _ _ _ (by decide) (by decide)))))) | ((refine wpQuiet_step (fun K hK => ?_)); go_simp; (refine ⟨_, fun _ => rfl, hK _ ?_⟩); clear hK K))
            refine wpQuiet_nil ?_
            rintro V3 ⟨x, hx⟩
            have hX3 : V3.heap[B]? = some (.cells #[.int .i64 f, .int .i64 r, .slice (some ⟨b, off, none⟩) n cap, .bool black, .int .u8 castle, .int .i64 passant, .int .i64 half, .int .i64 full] 26 (0, 0)) := hx ▸ below_blk x.2 hX2.out
            have hB3 : Below w.heap.size w V3 := hx ▸ hB2.out.trans (x.2.mono hB2.out.size)
            replace hX3 := Lib.hid hX3
            replace hB3 := Lib.hid hB3
            clear hx x y0 y1 y2 y4 z0 z2 z3 z4 g0 g1 hbit
            have hfin : Hid ((Pos.mk f r ps black castle passant half full).castles = false) := Lib.hid (Pos.castles_f (by decide) hcb.out hh.out)
            go_wp2_with fail
            go_ret
            exact ⟨ret_bool hfin.out.symm, hB3.out⟩
          · have hn64 : 64 = n := by rw [← hln.out]; exact (h8.out (by simpa using ef) (by simpa using er)).symm
            have i1 : (60 : Int) < n := by omega
            have i2 : (63 : Int) < n := by omega
            obtain ⟨pk, hpk⟩ : ∃ pk, ps[60]? = some pk := ⟨_, List.getElem?_eq_getElem (by rw [hln.out]; omega)⟩
            obtain ⟨pr, hpr⟩ : ∃ pr, ps[63]? = some pr := ⟨_, List.getElem?_eq_getElem (by rw [hln.out]; omega)⟩
            have yk := fun x : Ext W2.heap.size W2 => below_at (hB2.out.trans (x.2.mono hB2.out.size)) (hPc.out 60 pk hpk)
            have yr := fun x : Ext W2.heap.size W2 => below_at (hB2.out.trans (x.2.mono hB2.out.size)) (hPc.out 63 pr hpr)
            try simp only [Nat.add_zero] at yr
            have i3 : 63 < n := by omega
            have hhm : Hid ((Pos.mk f r ps black castle passant half full).home 60 63 true = (pk == pofI 6 true && pr == pofI 4 true)) := Lib.hid (by simp only [Pos.home, ef, er, Bool.true_and, List.getD_eq_getElem?_getD, hpk, hpr, Option.getD_some])
            replace hn64 := Lib.hid hn64
            replace hpk := Lib.hid hpk
            replace hpr := Lib.hid hpr
            obtain ⟨P6, hP6⟩ : ∃ P6, pofI 6 true = P6 := ⟨_, rfl⟩
            obtain ⟨P4, hP4⟩ : ∃ P4, pofI 4 true = P4 := ⟨_, rfl⟩
            rw [hP6, hP4] at hhm
            have c6 := fun W => Lib.hid (pof_c W 6 true (by decide) (by decide))
            have c4 := fun W => Lib.hid (pof_c W 4 true (by decide) (by decide))
            rw [hP6] at c6
            rw [hP4] at c4
            replace hP6 := Lib.hid hP6
            replace hP4 := Lib.hid hP4
            cases ek : (pk == P6)
            · have hh : Hid ((Pos.mk f r ps black castle passant half full).home 60 63 true = false) := Lib.hid (by rw [hhm.out, ek]; rfl)
              have ek2 : (pk != P6) = true := by simp only [bne, ek, Bool.not_false]
              clear c4
              refine ext_region (by kernel_rfl) (by kernel_rfl) ?_
              repeat (first | (go_big_quiet_step ((go_at_call 108; first | (with_reducible exact Pure.ext (Nat.le_refl _) (Same.pure (Hid.out (c6 _)))) | (with_reducible exact Pure.ext (Nat.le_refl _) (Same.pure (Hid.out (c4 _))))))) | ((refine wpQuiet_step (fun K hK => ?_)); go_simp; (refine ⟨_, fun _ => rfl, hK _ ?_⟩); clear hK K))
              refine wpQuiet_nil ?_
              rintro V3 ⟨x, hx⟩
              have hX3 : V3.heap[B]? = some (.cells #[.int .i64 f, .int .i64 r, .slice (some ⟨b, off, none⟩) n cap, .bool black, .int .u8 castle, .int .i64 passant, .int .i64 half, .int .i64 full] 26 (0, 0)) := hx ▸ below_blk x.2 hX2.out
              have hB3 : Below w.heap.size w V3 := hx ▸ hB2.out.trans (x.2.mono hB2.out.size)
              replace hX3 := Lib.hid hX3
              replace hB3 := Lib.hid hB3
              clear hx x y0 y1 y2 y4 z0 z2 z3 z4 g0 g1 hbit
              have hfin : Hid ((Pos.mk f r ps black castle passant half full).castles = false) := Lib.hid (Pos.castles_f (by decide) hcb.out hh.out)
              go_wp2_with fail
              go_ret
              exact ⟨ret_bool hfin.out.symm, hB3.out⟩
            · have ek2 : (pk != P6) = false := by simp only [bne, ek, Bool.not_true]
              cases eo : (pr == P4)
              · have hh : Hid ((Pos.mk f r ps black castle passant half full).home 60 63 true = false) := Lib.hid (by rw [hhm.out, eo, Bool.and_false])
                have eo2 : (pr != P4) = true := by simp only [bne, eo, Bool.not_false]
                refine ext_region (by kernel_rfl) (by kernel_rfl) ?_
                repeat (first | (go_big_quiet_step ((go_at_call 108; first | (with_reducible exact Pure.ext (Nat.le_refl _) (Same.pure (Hid.out (c6 _)))) | (with_reducible exact Pure.ext (Nat.le_refl _) (Same.pure (Hid.out (c4 _))))))) | ((refine wpQuiet_step (fun K hK => ?_)); go_simp; (refine ⟨_, fun _ => rfl, hK _ ?_⟩); clear hK K))
                refine wpQuiet_nil ?_
                rintro V3 ⟨x, hx⟩
                have hX3 : V3.heap[B]? = some (.cells #[.int .i64 f, .int .i64 r, .slice (some ⟨b, off, none⟩) n cap, .bool black, .int .u8 castle, .int .i64 passant, .int .i64 half, .int .i64 full] 26 (0, 0)) := hx ▸ below_blk x.2 hX2.out
                have hB3 : Below w.heap.size w V3 := hx ▸ hB2.out.trans (x.2.mono hB2.out.size)
                replace hX3 := Lib.hid hX3
                replace hB3 := Lib.hid hB3
                clear hx x y0 y1 y2 y4 z0 z2 z3 z4 g0 g1 hbit
                have hfin : Hid ((Pos.mk f r ps black castle passant half full).castles = false) := Lib.hid (Pos.castles_f (by decide) hcb.out hh.out)
                go_wp2_with fail
                go_ret
                exact ⟨ret_bool hfin.out.symm, hB3.out⟩
              · have eo2 : (pr != P4) = false := by simp only [bne, eo, Bool.not_true]
                have hok : Hid ((Pos.mk f r ps black castle passant half full).right 4 60 63 true = true) := Lib.hid (by rw [hrt.out, hhm.out, ek, eo]; simp)
                refine ext_region (by kernel_rfl) (by kernel_rfl) ?_
                repeat (first | (go_big_quiet_step ((go_at_call 108; first | (with_reducible exact Pure.ext (Nat.le_refl _) (Same.pure (Hid.out (c6 _)))) | (with_reducible exact Pure.ext (Nat.le_refl _) (Same.pure (Hid.out (c4 _))))))) | ((refine wpQuiet_step (fun K hK => ?_)); go_simp; (refine ⟨_, fun _ => rfl, hK _ ?_⟩); clear hK K))
                refine wpQuiet_nil ?_
                rintro V3 ⟨x, hx⟩
                have hX3 : V3.heap[B]? = some (.cells #[.int .i64 f, .int .i64 r, .slice (some ⟨b, off, none⟩) n cap, .bool black, .int .u8 castle, .int .i64 passant, .int .i64 half, .int .i64 full] 26 (0, 0)) := hx ▸ below_blk x.2 hX2.out
                have hB3 : Below w.heap.size w V3 := hx ▸ hB2.out.trans (x.2.mono hB2.out.size)
                replace hX3 := Lib.hid hX3
                replace hB3 := Lib.hid hB3
                clear hx x y0 y1 y2 y4 z0 z2 z3 z4 g0 g1 hbit
                go_wp2_with fail
                go_roundw
                case rel => exact ⟨2 + 1, by omega, by simp, Pos.upto_snoc hup.out (fun h => by first | (exact hok.out) | (exact absurd h (by decide))) (fun h => by first | (exact hok.out) | (exact absurd h (by decide))) (fun h => by first | (exact hok.out) | (exact absurd h (by decide))) (fun h => by first | (exact hok.out) | (exact absurd h (by decide))), hX3.out, hB3.out⟩
                case measure => simp [intOf]
    · have hbit : (bits .and .u8 castle 8 != 0) = (Pos.mk f r ps black castle passant half full).has 8 := hhas.out 8 (by decide)
      have hrt : (Pos.mk f r ps black castle passant half full).right 8 60 56 true = (!(Pos.mk f r ps black castle passant half full).has 8 || (Pos.mk f r ps black castle passant half full).home 60 56 true) := rfl
      have hidx := idx3
      unfold rightsC at hidx
      have y2 := cell_of hXr.out 2 _ rfl
      have hBl : B < wr.heap.size := lt_of_blk hXr.out
      replace hbit := Lib.hid hbit
      replace hrt := Lib.hid hrt
      go_wp2_with fail
      clear y2 hidx
      obtain ⟨G, hG⟩ : ∃ G, wr.heap.size = G := ⟨_, rfl⟩
      obtain ⟨W2, hW2⟩ : ∃ W2, wr.alloc (.cells #[.int .u8 8, .string { data := #[113] }, .bool true, .int .i64 60, .int .i64 56] 91) = W2 := ⟨_, rfl⟩
      have hN : W2.heap[G]? = some (.cells #[.int .u8 8, .string { data := #[113] }, .bool true, .int .i64 60, .int .i64 56] 91 (0, 0)) := by rw [← hW2]; exact blk_new hG.symm _
      have hX2 : W2.heap[B]? = some (.cells #[.int .i64 f, .int .i64 r, .slice (some ⟨b, off, none⟩) n cap, .bool black, .int .u8 castle, .int .i64 passant, .int .i64 half, .int .i64 full] 26 (0, 0)) := by rw [← hW2]; exact blk_alloc hXr.out _
      have hB2 : Below w.heap.size w W2 := by rw [← hW2]; exact hBr.out.alloc hBr.out.size _
      rw [hW2, hG]
      replace hW2 := Lib.hid hW2
      replace hG := Lib.hid hG
      have y0 := fun x : Ext W2.heap.size W2 => cell_of (below_blk x.2 hX2) 0 _ rfl
      have y1 := fun x : Ext W2.heap.size W2 => cell_of (below_blk x.2 hX2) 1 _ rfl
      have y2 := fun x : Ext W2.heap.size W2 => cell_of (below_blk x.2 hX2) 2 _ rfl
      have y4 := fun x : Ext W2.heap.size W2 => cell_of (below_blk x.2 hX2) 4 _ rfl
      have z0 := fun x : Ext W2.heap.size W2 => cell_of (below_blk x.2 hN) 0 _ rfl
      have z2 := fun x : Ext W2.heap.size W2 => cell_of (below_blk x.2 hN) 2 _ rfl
      have z3 := fun x : Ext W2.heap.size W2 => cell_of (below_blk x.2 hN) 3 _ rfl
      have z4 := fun x : Ext W2.heap.size W2 => cell_of (below_blk x.2 hN) 4 _ rfl
      have g0 := fun x : Ext W2.heap.size W2 => below_at (hB2.trans (x.2.mono hB2.size)) hfull.out.1
      have g1 := fun x : Ext W2.heap.size W2 => below_at (hB2.trans (x.2.mono hB2.size)) hfull.out.2
      replace hX2 := Lib.hid hX2
      replace hN := Lib.hid hN
      replace hB2 := Lib.hid hB2
      replace hbit := hbit.out
      cases hcb : (Pos.mk f r ps black castle passant half full).has 8
      · rw [hcb] at hbit
        replace hcb := Lib.hid hcb
        have hok : Hid ((Pos.mk f r ps black castle passant half full).right 8 60 56 true = true) := Lib.hid (by rw [hrt.out, hcb.out]; rfl)
        refine ext_region (by kernel_rfl) (by kernel_rfl) ?_
        repeat (first | (go_big_quiet_step ((go_at_call 108; exact Pure.ext (Nat.le_refl _) (Same.pure (pof_c _ _ _ (by decide) (by decide)))))) | ((refine wpQuiet_step (fun K hK => ?_)); go_simp; (refine ⟨_, fun _ => rfl, hK _ ?_⟩); clear hK K))
        refine wpQuiet_nil ?_
        rintro V3 ⟨x, hx⟩
        have hX3 : V3.heap[B]? = some (.cells #[.int .i64 f, .int .i64 r, .slice (some ⟨b, off, none⟩) n cap, .bool black, .int .u8 castle, .int .i64 passant, .int .i64 half, .int .i64 full] 26 (0, 0)) := hx ▸ below_blk x.2 hX2.out
        have hB3 : Below w.heap.size w V3 := hx ▸ hB2.out.trans (x.2.mono hB2.out.size)
        replace hX3 := Lib.hid hX3
        replace hB3 := Lib.hid hB3
        clear hx x y0 y1 y2 y4 z0 z2 z3 z4 g0 g1 hbit
        go_wp2_with fail
        go_roundw
        case rel => exact ⟨3 + 1, by omega, by simp, Pos.upto_snoc hup.out (fun h => by first | (exact hok.out) | (exact absurd h (by decide))) (fun h => by first | (exact hok.out) | (exact absurd h (by decide))) (fun h => by first | (exact hok.out) | (exact absurd h (by decide))) (fun h => by first | (exact hok.out) | (exact absurd h (by decide))), hX3.out, hB3.out⟩
        case measure => simp [intOf]
      · rw [hcb] at hbit
        replace hcb := Lib.hid hcb
        cases ef : (f == 8)
        · have hh : Hid ((Pos.mk f r ps black castle passant half full).home 60 56 true = false) := Lib.hid (by simp only [Pos.home, ef, Bool.false_and])
          refine ext_region (by kernel_rfl) (by kernel_rfl) ?_
          repeat (first | (go_big_quiet_step ((go_at_call 108; exact Pure.ext (Nat.le_refl _) (Same.pure (pof_c _ _ _ (by decide) (by decide)))))) | ((refine wpQuiet_step (fun K hK => ?_)); go_simp; (refine ⟨_, fun _ => rfl, hK _ ?_⟩); clear hK K))
          refine wpQuiet_nil ?_
          rintro V3 ⟨x, hx⟩
          have hX3 : V3.heap[B]? = some (.cells #[.int .i64 f, .int .i64 r, .slice (some ⟨b, off, none⟩) n cap, .bool black, .int .u8 castle, .int .i64 passant, .int .i64 half, .int .i64 full] 26 (0, 0)) := hx ▸ below_blk x.2 hX2.out
          have hB3 : Below w.heap.size w V3 := hx ▸ hB2.out.trans (x.2.mono hB2.out.size)
          replace hX3 := Lib.hid hX3
          replace hB3 := Lib.hid hB3
          clear hx x y0 y1 y2 y4 z0 z2 z3 z4 g0 g1 hbit
          have hfin : Hid ((Pos.mk f r ps black castle passant half full).castles = false) := Lib.hid (Pos.castles_f (by decide) hcb.out hh.out)
          go_wp2_with fail
          go_ret
          exact ⟨ret_bool hfin.out.symm, hB3.out⟩
        · cases er : (r == 8)
          · have hh : Hid ((Pos.mk f r ps black castle passant half full).home 60 56 true = false) := Lib.hid (by simp only [Pos.home, er, Bool.false_and, Bool.and_false])
            refine ext_region (by kernel_rfl) (by kernel_rfl) ?_
            repeat (first | (go_big_quiet_step ((go_at_call 108; exact Pure.ext (Nat.le_refl _) (Same.pure (pof_c _ _ _ (by decide) (by decide)))))) | ((refine wpQuiet_step (fun K hK => ?_)); go_simp; (refine ⟨_, fun _ => rfl, hK _ ?_⟩); clear hK K))
            refine wpQuiet_nil ?_
            rintro V3 ⟨x, hx⟩
            have hX3 : V3.heap[B]? = some (.cells #[.int .i64 f, .int .i64 r, .slice (some ⟨b, off, none⟩) n cap, .bool black, .int .u8 castle, .int .i64 passant, .int .i64 half, .int .i64 full] 26 (0, 0)) := hx ▸ below_blk x.2 hX2.out
            have hB3 : Below w.heap.size w V3 := hx ▸ hB2.out.trans (x.2.mono hB2.out.size)
            replace hX3 := Lib.hid hX3
            replace hB3 := Lib.hid hB3
            clear hx x y0 y1 y2 y4 z0 z2 z3 z4 g0 g1 hbit
            have hfin : Hid ((Pos.mk f r ps black castle passant half full).castles = false) := Lib.hid (Pos.castles_f (by decide) hcb.out hh.out)
            go_wp2_with fail
            go_ret
            exact ⟨ret_bool hfin.out.symm, hB3.out⟩
          · have hn64 : 64 = n := by rw [← hln.out]; exact (h8.out (by simpa using ef) (by simpa using er)).symm
            have i1 : (60 : Int) < n := by omega
            have i2 : (56 : Int) < n := by omega
            obtain ⟨pk, hpk⟩ : ∃ pk, ps[60]? = some pk := ⟨_, List.getElem?_eq_getElem (by rw [hln.out]; omega)⟩
            obtain ⟨pr, hpr⟩ : ∃ pr, ps[56]? = some pr := ⟨_, List.getElem?_eq_getElem (by rw [hln.out]; omega)⟩
            have yk := fun x : Ext W2.heap.size W2 => below_at (hB2.out.trans (x.2.mono hB2.out.size)) (hPc.out 60 pk hpk)
            have yr := fun x : Ext W2.heap.size W2 => below_at (hB2.out.trans (x.2.mono hB2.out.size)) (hPc.out 56 pr hpr)
            try simp only [Nat.add_zero] at yr
            have i3 : 56 < n := by omega
            have hhm : Hid ((Pos.mk f r ps black castle passant half full).home 60 56 true = (pk == pofI 6 true && pr == pofI 4 true)) := Lib.hid (by simp only [Pos.home, ef, er, Bool.true_and, List.getD_eq_getElem?_getD, hpk, hpr, Option.getD_some])
            replace hn64 := Lib.hid hn64
            replace hpk := Lib.hid hpk
            replace hpr := Lib.hid hpr
            obtain ⟨P6, hP6⟩ : ∃ P6, pofI 6 true = P6 := ⟨_, rfl⟩
            obtain ⟨P4, hP4⟩ : ∃ P4, pofI 4 true = P4 := ⟨_, rfl⟩
            rw [hP6, hP4] at hhm
            have c6 := fun W => Lib.hid (pof_c W 6 true (by decide) (by decide))
            have c4 := fun W => Lib.hid (pof_c W 4 true (by decide) (by decide))
            rw [hP6] at c6
            rw [hP4] at c4
            replace hP6 := Lib.hid hP6
            replace hP4 := Lib.hid hP4
            cases ek : (pk == P6)
            · have hh : Hid ((Pos.mk f r ps black castle passant half full).home 60 56 true = false) := Lib.hid (by rw [hhm.out, ek]; rfl)
              have ek2 : (pk != P6) = true := by simp only [bne, ek, Bool.not_false]
              clear c4
              refine ext_region (by kernel_rfl) (by kernel_rfl) ?_
              repeat (first | (go_big_quiet_step ((go_at_call 108; first | (with_reducible exact Pure.ext (Nat.le_refl _) (Same.pure (Hid.out (c6 _)))) | (with_reducible exact Pure.ext (Nat.le_refl _) (Same.pure (Hid.out (c4 _))))))) | ((refine wpQuiet_step (fun K hK => ?_)); go_simp; (refine ⟨_, fun _ => rfl, hK _ ?_⟩); clear hK K))
              refine wpQuiet_nil ?_
              rintro V3 ⟨x, hx⟩
              have hX3 : V3.heap[B]? = some (.cells #[.int .i64 f, .int .i64 r, .slice (some ⟨b, off, none⟩) n cap, .bool black, .int .u8 castle, .int .i64 passant, .int .i64 half, .int .i64 full] 26 (0, 0)) := hx ▸ below_blk x.2 hX2.out
              have hB3 : Below w.heap.size w V3 := hx ▸ hB2.out.trans (x.2.mono hB2.out.size)
              replace hX3 := Lib.hid hX3
              replace hB3 := Lib.hid hB3
              clear hx x y0 y1 y2 y4 z0 z2 z3 z4 g0 g1 hbit
              have hfin : Hid ((Pos.mk f r ps black castle passant half full).castles = false) := Lib.hid (Pos.castles_f (by decide) hcb.out hh.out)
              go_wp2_with fail
              go_ret
              exact ⟨ret_bool hfin.out.symm, hB3.out⟩
            · have ek2 : (pk != P6) = false := by simp only [bne, ek, Bool.not_true]
              cases eo : (pr == P4)
              · have hh : Hid ((Pos.mk f r ps black castle passant half full).home 60 56 true = false) := Lib.hid (by rw [hhm.out, eo, Bool.and_false])
                have eo2 : (pr != P4) = true := by simp only [bne, eo, Bool.not_false]
                refine ext_region (by kernel_rfl) (by kernel_rfl) ?_
                repeat (first | (go_big_quiet_step ((go_at_call 108; first | (with_reducible exact Pure.ext (Nat.le_refl _) (Same.pure (Hid.out (c6 _)))) | (with_reducible exact Pure.ext (Nat.le_refl _) (Same.pure (Hid.out (c4 _))))))) | ((refine wpQuiet_step (fun K hK => ?_)); go_simp; (refine ⟨_, fun _ => rfl, hK _ ?_⟩); clear hK K))
                refine wpQuiet_nil ?_
                rintro V3 ⟨x, hx⟩
                have hX3 : V3.heap[B]? = some (.cells #[.int .i64 f, .int .i64 r, .slice (some ⟨b, off, none⟩) n cap, .bool black, .int .u8 castle, .int .i64 passant, .int .i64 half, .int .i64 full] 26 (0, 0)) := hx ▸ below_blk x.2 hX2.out
                have hB3 : Below w.heap.size w V3 := hx ▸ hB2.out.trans (x.2.mono hB2.out.size)
                replace hX3 := Lib.hid hX3
                replace hB3 := Lib.hid hB3
                clear hx x y0 y1 y2 y4 z0 z2 z3 z4 g0 g1 hbit
                have hfin : Hid ((Pos.mk f r ps black castle passant half full).castles = false) := Lib.hid (Pos.castles_f (by decide) hcb.out hh.out)
                go_wp2_with fail
                go_ret
                exact ⟨ret_bool hfin.out.symm, hB3.out⟩
              · have eo2 : (pr != P4) = false := by simp only [bne, eo, Bool.not_true]
                have hok : Hid ((Pos.mk f r ps black castle passant half full).right 8 60 56 true = true) := Lib.hid (by rw [hrt.out, hhm.out, ek, eo]; simp)
                refine ext_region (by kernel_rfl) (by kernel_rfl) ?_
                repeat (first | (go_big_quiet_step ((go_at_call 108; first | (with_reducible exact Pure.ext (Nat.le_refl _) (Same.pure (Hid.out (c6 _)))) | (with_reducible exact Pure.ext (Nat.le_refl _) (Same.pure (Hid.out (c4 _))))))) | ((refine wpQuiet_step (fun K hK => ?_)); go_simp; (refine ⟨_, fun _ => rfl, hK _ ?_⟩); clear hK K))
                refine wpQuiet_nil ?_
                rintro V3 ⟨x, hx⟩
                have hX3 : V3.heap[B]? = some (.cells #[.int .i64 f, .int .i64 r, .slice (some ⟨b, off, none⟩) n cap, .bool black, .int .u8 castle, .int .i64 passant, .int .i64 half, .int .i64 full] 26 (0, 0)) := hx ▸ below_blk x.2 hX2.out
                have hB3 : Below w.heap.size w V3 := hx ▸ hB2.out.trans (x.2.mono hB2.out.size)
                replace hX3 := Lib.hid hX3
                replace hB3 := Lib.hid hB3
                clear hx x y0 y1 y2 y4 z0 z2 z3 z4 g0 g1 hbit
                go_wp2_with fail
                go_roundw
                case rel => exact ⟨3 + 1, by omega, by simp, Pos.upto_snoc hup.out (fun h => by first | (exact hok.out) | (exact absurd h (by decide))) (fun h => by first | (exact hok.out) | (exact absurd h (by decide))) (fun h => by first | (exact hok.out) | (exact absurd h (by decide))) (fun h => by first | (exact hok.out) | (exact absurd h (by decide))), hX3.out, hB3.out⟩
                case measure => simp [intOf]
    · have y4 := cell_of hXr.out 4 _ rfl
      have hfin : Hid ((Pos.mk f r ps black castle passant half full).castles = decide (castle < 16)) := Lib.hid (by
        obtain ⟨u1, u2, u3, u4⟩ := hup.out
        unfold Pos.castles
        rw [u1 (by decide), u2 (by decide), u3 (by decide), u4 (by decide)]
        simp)
      by_cases h16 : castle < 16
      · go_wp2
        go_ret
        exact ⟨ret_bool (by rw [hfin.out]; simp [h16]), hBr.out⟩
      · go_wp2
        go_ret
        exact ⟨ret_bool (by rw [hfin.out]; simp [h16]), hBr.out⟩
end Go.Proofs.YtbhienpbfidgjaaGreatDoor
