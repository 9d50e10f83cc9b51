/- The reference: rights to castle. Conditions: numbers within bounds, as in each theorem. The reference: the square behind a pawn. Conditions: numbers within bounds, as in each theorem. The reference: which positions are valid. Conditions: as in each theorem. Boards and positions of the reference compared. Conditions: at most 1000 pieces, which lie in memory. Positions compared, by the reference and by the package. Conditions: at most 1000 pieces, which lie in memory. The reference: which positions are valid, where the kings are in place. Conditions: as in each theorem. The plain law: the package's attacks are those of the reference. Conditions: squares of a board of a valid size. The plain law: the package's sliding pieces are those of the reference. Conditions: squares of a board of a valid size. The plain law: kings, check and pawns of the reference. Conditions: as in each theorem. The reference: which positions are valid; the plain law: those are the positions the package calls valid. Conditions: as in each theorem. The examples of the chapter on positions hold. Conditions: the library as said; the tables lie in memory. Old contracts as contracts on plain data, and back. Conditions: as in each theorem. The package's Parse, Text, Valid and Start on plain data; the examples of the chapter. Conditions: the library as said; the tables lie in memory. The reference's words and numbers, on plain data. Conditions: as in each theorem. The reference's squares by name and pieces by letter, on plain data. Conditions: as in each theorem. The reference's board of a text, on plain data. Conditions: as in each theorem. The reference's board of a text is the program's: plain law. Conditions: none. scratch The reference's position of a text is the program's: plain law. Conditions: none. The law on positions of a board, on plain data. Conditions: the library as said; the tables lie in memory. The law on texts of positions, on plain data. Conditions: the library as said; the tables lie in memory. The reference's position of a text, on plain data. Conditions: the tables lie in memory. The laws on parsing positions and on the whole stage, on plain data. Conditions: the library as said; the tables lie in memory. -/
import Derived.Test.YtbhienpbfidgjaaGreatDoorJ51
import Derived.Test.YtbhienpbfidgjaaGreatDoorV4
import Derived.Test.YtbhienpbfidgjaaGreatDoorH0
import Derived.Test.YtbhienpbfidgjaaGreatDoorJ1
import Derived.Test.YtbhienpbfidgjaaGreatDoorJ0
set_option linter.unusedVariables false
set_option linter.unusedSimpArgs false
namespace Go.Proofs.YtbhienpbfidgjaaGreatDoor
open Go.RowKit
section
theorem rhome_no (w : World) (p : Pos) (po : Option Addr) (cap : Nat) (bit : Int) (h : ¬ (p.f = 8 ∧ p.r = 8)) : Pure 115 #[.agg (p.cells po cap), .int .u8 bit] w (.bool false) := by
  unfold Pos.cells
  by_cases hf : p.f = 8
  · have hr : ¬ p.r = 8 := fun e => h ⟨hf, e⟩
    have hf2 : (p.f != 8) = false := by simpa using hf
    have hr2 : (p.r != 8) = true := by simpa using hr
    clear h hf hr
    generalize p.f = f at *
    generalize p.r = r at *
    generalize p.ps.length = n
    unfold Pure
    go_enter Tryz.func115, Tryz.ntmps115
    go_wp2
    all_goals (go_ret; refine ⟨by first | (simp_all [hf2]; done) | (simp_all [hf2]; omega) | (simp [hf2]; omega), ?_⟩)
    all_goals
      repeat (first | (with_reducible assumption) | (with_reducible exact Below.refl _ _) | (with_reducible apply below_drewN) | (with_reducible apply Below.drew) | (with_reducible apply Below.alloc) | (with_reducible apply Below.setCell))
      all_goals first | omega | (dsimp only; omega) | (simp; done) | (simp; omega)
  · have hf2 : (p.f != 8) = true := by simpa using hf
    clear h hf
    generalize p.f = f at *
    generalize p.r = r at *
    generalize p.ps.length = n
    unfold Pure
    go_enter Tryz.func115, Tryz.ntmps115
    go_wp2
    all_goals (go_ret; refine ⟨by first | (simp_all [hf2]; done) | (simp_all [hf2]; omega) | (simp [hf2]; omega), ?_⟩)
    all_goals
      repeat (first | (with_reducible assumption) | (with_reducible exact Below.refl _ _) | (with_reducible apply below_drewN) | (with_reducible apply Below.drew) | (with_reducible apply Below.alloc) | (with_reducible apply Below.setCell))
      all_goals first | omega | (dsimp only; omega) | (simp; done) | (simp; omega)
theorem rhome_c (w : World) (p : Pos) (b off cap : Nat) (bit king rook : Nat) (bl : Bool) (hP : PcAt w b off p.ps) (hv : bvalid p.f p.r p.ps = true)
    (h : (bit = 1 ∧ king = 4 ∧ rook = 7 ∧ bl = false) ∨ (bit = 2 ∧ king = 4 ∧ rook = 0 ∧ bl = false) ∨ (bit = 4 ∧ king = 60 ∧ rook = 63 ∧ bl = true) ∨ (bit = 8 ∧ king = 60 ∧ rook = 56 ∧ bl = true)) :
    Pure 115 #[.agg (p.cells (some ⟨b, off, none⟩) cap), .int .u8 bit] w (.bool (p.home king rook bl)) := by
  by_cases hfr : p.f = 8 ∧ p.r = 8
  · refine rhome8_c w p b off cap bit king rook bl hP hv hfr.1 hfr.2 ?_
    rcases h with ⟨rfl, h⟩ | ⟨rfl, h⟩ | ⟨rfl, h⟩ | ⟨rfl, h⟩
    · exact .inl ⟨rfl, h⟩
    · exact .inr (.inl ⟨rfl, h⟩)
    · exact .inr (.inr (.inl ⟨rfl, h⟩))
    · exact .inr (.inr (.inr ⟨rfl, h⟩))
  · refine (rhome_no w p _ cap bit hfr).of_eq ?_
    have : p.home king rook bl = false := by
      unfold Pos.home
      rcases Decidable.em (p.f = 8) with h1 | h1
      · have h2 : ¬ p.r = 8 := fun e => hfr ⟨h1, e⟩
        simp [h2]
      · simp [h1]
    rw [this]
theorem has_div_all : ((List.range 256).all fun c => [1, 2, 4, 8].all fun b => ((((c : Nat) : Int) / (b : Int)) % 2 == 1) == (c &&& b.toNat != 0)) = true := by kernel_rfl
theorem has_div (p : Pos) (h : 0 ≤ p.castle ∧ p.castle ≤ 255) (b : Nat) (hb : (b : Int) ∈ [(1 : Int), 2, 4, 8]) : (p.castle / (b : Int) % 2 == 1) = p.has b := by
  have h1 := List.all_eq_true.1 has_div_all p.castle.toNat (List.mem_range.2 (by omega))
  have h2 := List.all_eq_true.1 h1 b hb
  have h3 : ((p.castle.toNat : Nat) : Int) = p.castle := by omega
  rw [h3] at h2
  unfold Pos.has
  simpa using h2
theorem start2B {c : Code} {Q : Exit → Act → World → Prop} {a : Act} {w : World} {o o2 : Obj} {B : Nat} (hB : w.heap.size = B)
    (h : ∀ V : World, Hid (V.heap[B]? = some o) → Hid (V.heap[B + 1]? = some o2) → Hid (∀ x : Ext V.heap.size V, Below B w x.1 ∧ B < x.1.heap.size ∧ Below w.heap.size w x.1) → ∀ x : Ext V.heap.size V, c.wp Tryz.prog Q a x.1) : c.wp Tryz.prog Q a ((w.alloc o).alloc o2) := by
  subst hB
  refine h _ (Lib.hid (blk_alloc (blk_new rfl o) o2)) (Lib.hid (blk_new (by simp) o2)) (Lib.hid fun x => ?_) ⟨_, Below.refl _ _⟩
  have h1 : Below w.heap.size w x.1 := (((Below.refl w.heap.size w).alloc (Nat.le_refl _) o).alloc (by simp) o2).trans (x.2.mono (by simp; omega))
  exact ⟨h1, Nat.lt_of_lt_of_le (by simp; omega) x.2.size, h1⟩
set_option maxHeartbeats 2000000 in
theorem rcastle_c (w : World) (p : Pos) (b off cap : Nat) (hP : PcAt w b off p.ps) (hv : bvalid p.f p.r p.ps = true) (hc : 0 ≤ p.castle ∧ p.castle ≤ 255) :
    Pure 69 #[.agg (p.cells (some ⟨b, off, none⟩) cap)] w (.bool p.castles) := by
  obtain ⟨B, hBe⟩ : ∃ B, w.heap.size = B := ⟨_, rfl⟩
  by_cases h16 : p.castle < 16
  · have hdiv := fun (b : Nat) hb => has_div p hc b hb
    have c := fun (bit king rook : Nat) bl h => Lib.hid (fun W (hW : Below w.heap.size w W) => rhome_c W p b off cap bit king rook bl (hP.below hW) hv h)
    have hgood := fun (h : p.upto 4) => (show p.castles = true by
      obtain ⟨u1, u2, u3, u4⟩ := h
      unfold Pos.castles
      rw [u1 (by omega), u2 (by omega), u3 (by omega), u4 (by omega)]
      simp [h16])
    have hbad := fun (bit king rook : Nat) (bl : Bool) h1 h2 h3 => Pos.castles_f (p := p) (bit := bit) (king := king) (rook := rook) (bl := bl) h1 h2 h3
    have h0 : p.upto 0 := ⟨fun h => absurd h (by omega), fun h => absurd h (by omega), fun h => absurd h (by omega), fun h => absurd h (by omega)⟩
    generalize p.castles = R at *
    have hcl := hc.1
    unfold Pos.cells at *
    generalize p.ps.length = n at *
    unfold Pure
    rw [hBe]
    replace hP := Lib.hid hP
    replace hv := Lib.hid hv
    replace hgood := Lib.hid hgood
    replace hbad := Lib.hid hbad
    replace hdiv := Lib.hid hdiv
    replace c := Lib.hid c
    replace h0 := Lib.hid h0
    clear hc
    go_enter Tryz.func69, Tryz.ntmps69
    go_wp2_with fail
    refine start2B hBe ?_
    intro V hN hM hX x
    have y0 := fun z : Ext V.heap.size V => cell_of (below_blk z.2 (hN).out) 0 _ rfl
    have y1 := fun z : Ext V.heap.size V => cell_of (below_blk z.2 (hN).out) 1 _ rfl
    have y2 := fun z : Ext V.heap.size V => cell_of (below_blk z.2 (hN).out) 2 _ rfl
    have y3 := fun z : Ext V.heap.size V => cell_of (below_blk z.2 (hN).out) 3 _ rfl
    have y4 := fun z : Ext V.heap.size V => cell_of (below_blk z.2 (hN).out) 4 _ rfl
    have y5 := fun z : Ext V.heap.size V => cell_of (below_blk z.2 (hN).out) 5 _ rfl
    have y6 := fun z : Ext V.heap.size V => cell_of (below_blk z.2 (hN).out) 6 _ rfl
    have y7 := fun z : Ext V.heap.size V => cell_of (below_blk z.2 (hN).out) 7 _ rfl
    go_loopw [10] (fun i wr => ∃ (k : Nat) (x : Ext V.heap.size V), wr = x.1 ∧ k ≤ 4 ∧ i = .int .i64 k ∧ p.upto k) (fun i _ => 5 - (intOf i).toNat)
    case atStart => exact ⟨0, x, rfl, by omega, rfl, h0.out⟩
    case round =>
      clear x
      obtain ⟨k, x, rfl, hk, rfl, hup⟩ := hrel
      replace hup := Lib.hid hup
      rcases (by omega : k = 0 ∨ k = 1 ∨ k = 2 ∨ k = 3 ∨ k = 4) with rfl | rfl | rfl | rfl | rfl
      · have ck := fun W hW => c.out 1 4 7 false (.inl ⟨rfl, rfl, rfl, rfl⟩) |>.out W hW
        have hb := hdiv.out 1 (by simp)
        have hbad1 := hbad.out 1 4 7 false (.inl ⟨rfl, rfl, rfl, rfl⟩)
        have zq := fun z : Ext V.heap.size V => cell_of (below_blk z.2 hM.out) 0 _ rfl
        replace hbad1 := Lib.hid hbad1
        replace ck := Lib.hid ck
        clear c hbad hdiv
        have hb2 : (p.castle % 2 == 1) = p.has 1 := by simpa using hb
        clear hb
        cases hh : p.has 1
        · rw [hh] at hb2
          have hup2 := Lib.hid (Pos.upto_snoc hup.out (fun e => by first | exact absurd e (by decide) | (unfold Pos.right; rw [hh]; rfl)) (fun e => by first | exact absurd e (by decide) | (unfold Pos.right; rw [hh]; rfl)) (fun e => by first | exact absurd e (by decide) | (unfold Pos.right; rw [hh]; rfl)) (fun e => by first | exact absurd e (by decide) | (unfold Pos.right; rw [hh]; rfl)))
          replace hh := Lib.hid hh
          go_wp2_with fail
          go_roundw
          case rel => exact ⟨0 + 1, x, rfl, by omega, by simp, hup2.out⟩
          case measure => simp [intOf]
        · rw [hh] at hb2
          cases hm : p.home 4 7 false
          · have hR := hbad1.out hh hm
            rw [hm] at ck
            replace hh := Lib.hid hh
            replace hm := Lib.hid hm
            subst hR
            go_wp2_with fail
            refine (Pure.st (ck.out _ (hX.out x).2.2)).mono ?_
            rintro e _ ⟨rfl, x, rfl⟩
            go_wp2_with fail
            go_ret
            exact ⟨rfl, (hX.out x).1⟩
          · rw [hm] at ck
            have hup2 := Lib.hid (Pos.upto_snoc hup.out (fun e => by first | exact absurd e (by decide) | (unfold Pos.right; rw [hm]; simp)) (fun e => by first | exact absurd e (by decide) | (unfold Pos.right; rw [hm]; simp)) (fun e => by first | exact absurd e (by decide) | (unfold Pos.right; rw [hm]; simp)) (fun e => by first | exact absurd e (by decide) | (unfold Pos.right; rw [hm]; simp)))
            replace hh := Lib.hid hh
            replace hm := Lib.hid hm
            go_wp2_with fail
            refine (Pure.st (ck.out _ (hX.out x).2.2)).mono ?_
            rintro e _ ⟨rfl, x, rfl⟩
            go_wp2_with fail
            go_roundw
            case rel => exact ⟨0 + 1, x, rfl, by omega, by simp, hup2.out⟩
            case measure => simp [intOf]
      · have ck := fun W hW => c.out 2 4 0 false (.inr (.inl ⟨rfl, rfl, rfl, rfl⟩)) |>.out W hW
        have hb := hdiv.out 2 (by simp)
        have hbad1 := hbad.out 2 4 0 false (.inr (.inl ⟨rfl, rfl, rfl, rfl⟩))
        have zq := fun z : Ext V.heap.size V => cell_of (below_blk z.2 hM.out) 1 _ rfl
        replace hbad1 := Lib.hid hbad1
        replace ck := Lib.hid ck
        clear c hbad hdiv
        have hb2 : (p.castle / 2 % 2 == 1) = p.has 2 := by simpa using hb
        clear hb
        cases hh : p.has 2
        · rw [hh] at hb2
          have hup2 := Lib.hid (Pos.upto_snoc hup.out (fun e => by first | exact absurd e (by decide) | (unfold Pos.right; rw [hh]; rfl)) (fun e => by first | exact absurd e (by decide) | (unfold Pos.right; rw [hh]; rfl)) (fun e => by first | exact absurd e (by decide) | (unfold Pos.right; rw [hh]; rfl)) (fun e => by first | exact absurd e (by decide) | (unfold Pos.right; rw [hh]; rfl)))
          replace hh := Lib.hid hh
          go_wp2_with fail
          go_roundw
          case rel => exact ⟨1 + 1, x, rfl, by omega, by simp, hup2.out⟩
          case measure => simp [intOf]
        · rw [hh] at hb2
          cases hm : p.home 4 0 false
          · have hR := hbad1.out hh hm
            rw [hm] at ck
            replace hh := Lib.hid hh
            replace hm := Lib.hid hm
            subst hR
            go_wp2_with fail
            refine (Pure.st (ck.out _ (hX.out x).2.2)).mono ?_
            rintro e _ ⟨rfl, x, rfl⟩
            go_wp2_with fail
            go_ret
            exact ⟨rfl, (hX.out x).1⟩
          · rw [hm] at ck
            have hup2 := Lib.hid (Pos.upto_snoc hup.out (fun e => by first | exact absurd e (by decide) | (unfold Pos.right; rw [hm]; simp)) (fun e => by first | exact absurd e (by decide) | (unfold Pos.right; rw [hm]; simp)) (fun e => by first | exact absurd e (by decide) | (unfold Pos.right; rw [hm]; simp)) (fun e => by first | exact absurd e (by decide) | (unfold Pos.right; rw [hm]; simp)))
            replace hh := Lib.hid hh
            replace hm := Lib.hid hm
            go_wp2_with fail
            refine (Pure.st (ck.out _ (hX.out x).2.2)).mono ?_
            rintro e _ ⟨rfl, x, rfl⟩
            go_wp2_with fail
            go_roundw
            case rel => exact ⟨1 + 1, x, rfl, by omega, by simp, hup2.out⟩
            case measure => simp [intOf]
      · have ck := fun W hW => c.out 4 60 63 true (.inr (.inr (.inl ⟨rfl, rfl, rfl, rfl⟩))) |>.out W hW
        have hb := hdiv.out 4 (by simp)
        have hbad1 := hbad.out 4 60 63 true (.inr (.inr (.inl ⟨rfl, rfl, rfl, rfl⟩)))
        have zq := fun z : Ext V.heap.size V => cell_of (below_blk z.2 hM.out) 2 _ rfl
        replace hbad1 := Lib.hid hbad1
        replace ck := Lib.hid ck
        clear c hbad hdiv
        have hb2 : (p.castle / 4 % 2 == 1) = p.has 4 := by simpa using hb
        clear hb
        cases hh : p.has 4
        · rw [hh] at hb2
          have hup2 := Lib.hid (Pos.upto_snoc hup.out (fun e => by first | exact absurd e (by decide) | (unfold Pos.right; rw [hh]; rfl)) (fun e => by first | exact absurd e (by decide) | (unfold Pos.right; rw [hh]; rfl)) (fun e => by first | exact absurd e (by decide) | (unfold Pos.right; rw [hh]; rfl)) (fun e => by first | exact absurd e (by decide) | (unfold Pos.right; rw [hh]; rfl)))
          replace hh := Lib.hid hh
          go_wp2_with fail
          go_roundw
          case rel => exact ⟨2 + 1, x, rfl, by omega, by simp, hup2.out⟩
          case measure => simp [intOf]
        · rw [hh] at hb2
          cases hm : p.home 60 63 true
          · have hR := hbad1.out hh hm
            rw [hm] at ck
            replace hh := Lib.hid hh
            replace hm := Lib.hid hm
            subst hR
            go_wp2_with fail
            refine (Pure.st (ck.out _ (hX.out x).2.2)).mono ?_
            rintro e _ ⟨rfl, x, rfl⟩
            go_wp2_with fail
            go_ret
            exact ⟨rfl, (hX.out x).1⟩
          · rw [hm] at ck
            have hup2 := Lib.hid (Pos.upto_snoc hup.out (fun e => by first | exact absurd e (by decide) | (unfold Pos.right; rw [hm]; simp)) (fun e => by first | exact absurd e (by decide) | (unfold Pos.right; rw [hm]; simp)) (fun e => by first | exact absurd e (by decide) | (unfold Pos.right; rw [hm]; simp)) (fun e => by first | exact absurd e (by decide) | (unfold Pos.right; rw [hm]; simp)))
            replace hh := Lib.hid hh
            replace hm := Lib.hid hm
            go_wp2_with fail
            refine (Pure.st (ck.out _ (hX.out x).2.2)).mono ?_
            rintro e _ ⟨rfl, x, rfl⟩
            go_wp2_with fail
            go_roundw
            case rel => exact ⟨2 + 1, x, rfl, by omega, by simp, hup2.out⟩
            case measure => simp [intOf]
      · have ck := fun W hW => c.out 8 60 56 true (.inr (.inr (.inr ⟨rfl, rfl, rfl, rfl⟩))) |>.out W hW
        have hb := hdiv.out 8 (by simp)
        have hbad1 := hbad.out 8 60 56 true (.inr (.inr (.inr ⟨rfl, rfl, rfl, rfl⟩)))
        have zq := fun z : Ext V.heap.size V => cell_of (below_blk z.2 hM.out) 3 _ rfl
        replace hbad1 := Lib.hid hbad1
        replace ck := Lib.hid ck
        clear c hbad hdiv
        have hb2 : (p.castle / 8 % 2 == 1) = p.has 8 := by simpa using hb
        clear hb
        cases hh : p.has 8
        · rw [hh] at hb2
          have hup2 := Lib.hid (Pos.upto_snoc hup.out (fun e => by first | exact absurd e (by decide) | (unfold Pos.right; rw [hh]; rfl)) (fun e => by first | exact absurd e (by decide) | (unfold Pos.right; rw [hh]; rfl)) (fun e => by first | exact absurd e (by decide) | (unfold Pos.right; rw [hh]; rfl)) (fun e => by first | exact absurd e (by decide) | (unfold Pos.right; rw [hh]; rfl)))
          replace hh := Lib.hid hh
          go_wp2_with fail
          go_roundw
          case rel => exact ⟨3 + 1, x, rfl, by omega, by simp, hup2.out⟩
          case measure => simp [intOf]
        · rw [hh] at hb2
          cases hm : p.home 60 56 true
          · have hR := hbad1.out hh hm
            rw [hm] at ck
            replace hh := Lib.hid hh
            replace hm := Lib.hid hm
            subst hR
            go_wp2_with fail
            refine (Pure.st (ck.out _ (hX.out x).2.2)).mono ?_
            rintro e _ ⟨rfl, x, rfl⟩
            go_wp2_with fail
            go_ret
            exact ⟨rfl, (hX.out x).1⟩
          · rw [hm] at ck
            have hup2 := Lib.hid (Pos.upto_snoc hup.out (fun e => by first | exact absurd e (by decide) | (unfold Pos.right; rw [hm]; simp)) (fun e => by first | exact absurd e (by decide) | (unfold Pos.right; rw [hm]; simp)) (fun e => by first | exact absurd e (by decide) | (unfold Pos.right; rw [hm]; simp)) (fun e => by first | exact absurd e (by decide) | (unfold Pos.right; rw [hm]; simp)))
            replace hh := Lib.hid hh
            replace hm := Lib.hid hm
            go_wp2_with fail
            refine (Pure.st (ck.out _ (hX.out x).2.2)).mono ?_
            rintro e _ ⟨rfl, x, rfl⟩
            go_wp2_with fail
            go_roundw
            case rel => exact ⟨3 + 1, x, rfl, by omega, by simp, hup2.out⟩
            case measure => simp [intOf]
      · have hR := hgood.out hup.out
        subst hR
        clear hbad hdiv c
        go_wp2
        go_ret
        exact ⟨rfl, (hX.out x).1⟩
  · have hF : p.castles = false := by unfold Pos.castles; simp [h16]
    rw [hF]
    unfold Pos.cells Pure
    generalize p.ps.length = n
    have h15 : (15 < p.castle) = True := by simp; omega
    generalize p.castle = ca at *
    clear hP hv hF hc h16
    go_enter Tryz.func69, Tryz.ntmps69
    go_wp2
    go_ret
    refine ⟨rfl, ?_⟩
    repeat (first | (with_reducible assumption) | (with_reducible exact Below.refl _ _) | (with_reducible apply below_drewN) | (with_reducible apply Below.drew) | (with_reducible apply Below.alloc) | (with_reducible apply Below.setCell))
    all_goals first | omega | (dsimp only; omega) | (simp; done) | (simp; omega)
end
section
theorem num_at {f r F y : Int} (h1 : 0 ≤ F) (h2 : F < f) (h3 : 0 ≤ y) (h4 : y < r) : numI f r F y = y * f + F := by
  unfold numI
  rw [if_pos (by unfold onB; simp; omega)]
theorem rpass_early (w : World) (p : Pos) (po : Option Addr) (cap : Nat) (hpn : p.passant ≠ -1) (h : p.r < 6 ∨ p.half ≠ 0 ∨ vsq p.f p.r p.passant = false) : Pure 70 #[.agg (p.cells po cap)] w (.bool false) := by
  obtain ⟨B, hBe⟩ : ∃ B, w.heap.size = B := ⟨_, rfl⟩
  have c1 := fun W => Lib.hid (rsq_c W p.f p.r p.passant)
  unfold Pos.cells Pure
  rw [hBe]
  generalize p.ps.length = n
  have hp1 : (p.passant == -1) = false := by simpa using hpn
  generalize p.passant = pa at *
  generalize p.r = r at *
  generalize p.half = ha at *
  clear hpn
  by_cases h6 : r < 6
  · clear c1 h
    go_enter Tryz.func70, Tryz.ntmps70
    go_wp2
    go_ret
    refine ⟨rfl, ?_⟩
    repeat (first | (with_reducible assumption) | (with_reducible exact Below.refl _ _) | (with_reducible apply below_drewN) | (with_reducible apply Below.drew) | (with_reducible apply Below.alloc) | (with_reducible apply Below.setCell))
    all_goals first | omega | (dsimp only; omega) | (simp; done) | (simp; omega)
  · by_cases h0 : ha = 0
    · have hvf : vsq p.f r pa = false := by
        rcases h with h | h | h
        · exact absurd h h6
        · exact absurd h0 h
        · exact h
      rw [hvf] at c1
      have h02 : (ha != 0) = false := by simpa using h0
      replace h0 := Lib.hid h0
      replace hvf := Lib.hid hvf
      clear h
      go_enter Tryz.func70, Tryz.ntmps70
      go_wp2_with fail
      refine start1Bc hBe ?_
      intro V hN hX x
      have y0 := fun z : Ext V.heap.size V => cell_of (below_blk z.2 (hN).out) 0 _ rfl
      have y1 := fun z : Ext V.heap.size V => cell_of (below_blk z.2 (hN).out) 1 _ rfl
      have y2 := fun z : Ext V.heap.size V => cell_of (below_blk z.2 (hN).out) 2 _ rfl
      have y3 := fun z : Ext V.heap.size V => cell_of (below_blk z.2 (hN).out) 3 _ rfl
      have y4 := fun z : Ext V.heap.size V => cell_of (below_blk z.2 (hN).out) 4 _ rfl
      have y5 := fun z : Ext V.heap.size V => cell_of (below_blk z.2 (hN).out) 5 _ rfl
      have y6 := fun z : Ext V.heap.size V => cell_of (below_blk z.2 (hN).out) 6 _ rfl
      have y7 := fun z : Ext V.heap.size V => cell_of (below_blk z.2 (hN).out) 7 _ rfl
      refine (Pure.st (c1 _).out).mono ?_
      rintro e _ ⟨rfl, x, rfl⟩
      go_wp2_with fail
      go_ret
      exact ⟨rfl, (hX.out x).1⟩
    · have h02 : (ha != 0) = true := by simpa using h0
      clear c1 h h0
      go_enter Tryz.func70, Tryz.ntmps70
      go_wp2
      go_ret
      refine ⟨rfl, ?_⟩
      repeat (first | (with_reducible assumption) | (with_reducible exact Below.refl _ _) | (with_reducible apply below_drewN) | (with_reducible apply Below.drew) | (with_reducible apply Below.alloc) | (with_reducible apply Below.setCell))
      all_goals first | omega | (dsimp only; omega) | (simp; done) | (simp; omega)
theorem rpass_none (w : World) (p : Pos) (po : Option Addr) (cap : Nat) (hpn : p.passant = -1) : Pure 70 #[.agg (p.cells po cap)] w (.bool true) := by
  unfold Pos.cells
  generalize p.ps.length = n
  rw [hpn]
  clear hpn
  unfold Pure
  go_enter Tryz.func70, Tryz.ntmps70
  go_wp2
  go_ret
  refine ⟨rfl, ?_⟩
  repeat (first | (with_reducible assumption) | (with_reducible exact Below.refl _ _) | (with_reducible apply below_drewN) | (with_reducible apply Below.drew) | (with_reducible apply Below.alloc) | (with_reducible apply Below.setCell))
  all_goals first | omega | (dsimp only; omega) | (simp; done) | (simp; omega)
def passLate (p : Pos) : Bool :=
  let sec := if p.black then 1 else p.r - 2
  let fou := if p.black then 3 else p.r - 4
  (2 * (p.passant / p.f) == sec + fou) && p.ps.getD p.passant.toNat 0 == 0 && p.ps.getD (sec * p.f + p.passant % p.f).toNat 0 == 0 && p.ps.getD (fou * p.f + p.passant % p.f).toNat 0 == pofI 1 (!p.black)
theorem idx_bd {f r F y : Int} (f1 : 3 ≤ f) (h1 : 0 ≤ F) (h2 : F < f) (h3 : 0 ≤ y) (h4 : y < r) : 0 ≤ y * f + F ∧ y * f + F < f * r := by
  have h5 : 0 ≤ y * f := Int.mul_nonneg h3 (by omega)
  have h6 : (y + 1) * f ≤ r * f := Int.mul_le_mul_of_nonneg_right (by omega) (by omega)
  rw [Int.add_mul, Int.one_mul] at h6
  rw [Int.mul_comm f r]
  omega
set_option maxHeartbeats 4000000 in
theorem rpass_late (w : World) (p : Pos) (b off cap : Nat) (hP : PcAt w b off p.ps) (hlen : (p.ps.length : Int) = p.f * p.r) (h6 : 6 ≤ p.r) (hh0 : p.half = 0) (hvq : vsq p.f p.r p.passant = true) :
    Pure 70 #[.agg (p.cells (some ⟨b, off, none⟩) cap)] w (.bool (passLate p)) := by
  obtain ⟨B, hBe⟩ : ∃ B, w.heap.size = B := ⟨_, rfl⟩
  obtain ⟨hv, a0, hlt⟩ := vsq_bd hvq
  obtain ⟨f1, f2, r1, r2⟩ := vsize_bd hv
  obtain ⟨k1, k2⟩ := vsize_mul hv
  have m1 := Int.emod_nonneg p.passant (show p.f ≠ 0 by omega)
  have m2 := Int.emod_lt_of_pos p.passant (show 0 < p.f by omega)
  have m5 := Int.ediv_nonneg a0 (show 0 ≤ p.f by omega)
  have m6 := Int.ediv_le_self p.f a0
  cases hbl : p.black
  · obtain ⟨sc, hsc⟩ : ∃ x : Int, x = (p.r - 2) := ⟨_, rfl⟩
    obtain ⟨fo, hfo⟩ : ∃ x : Int, x = (p.r - 4) := ⟨_, rfl⟩
    have hL : passLate p = ((2 * (p.passant / p.f) == sc + fo) && p.ps.getD p.passant.toNat 0 == 0 && p.ps.getD (sc * p.f + p.passant % p.f).toNat 0 == 0 && p.ps.getD (fo * p.f + p.passant % p.f).toNat 0 == (-1)) := by unfold passLate; rw [hbl, hsc, hfo]; rfl
    rw [hL]
    have ck2 := fun W => Lib.hid (show Pure 117 #[.agg #[.int .i64 p.f, .int .i64 p.r], .bool true, .int .i64 2] W (.int .i64 sc) from hsc ▸ rrank_c W p.f p.r 2 true (by omega) (by omega) (by omega) (by omega))
    have ck4 := fun W => Lib.hid (show Pure 117 #[.agg #[.int .i64 p.f, .int .i64 p.r], .bool true, .int .i64 4] W (.int .i64 fo) from hfo ▸ rrank_c W p.f p.r 4 true (by omega) (by omega) (by omega) (by omega))
    have cp := fun W => Lib.hid (show Same 119 #[.int .i8 1, .bool true] W (.int .i8 (-1)) from rpiece_c W 1 true (by omega) (by omega))
    have i1 := idx_bd (f := p.f) (r := p.r) (F := p.passant % p.f) (y := sc) (by omega) m1 m2 (by omega) (by omega)
    have i2 := idx_bd (f := p.f) (r := p.r) (F := p.passant % p.f) (y := fo) (by omega) m1 m2 (by omega) (by omega)
    obtain ⟨N1, hN1⟩ : ∃ N1 : Nat, sc * p.f + p.passant % p.f = N1 := ⟨(sc * p.f + p.passant % p.f).toNat, by omega⟩
    obtain ⟨N2, hN2⟩ : ∃ N2 : Nat, fo * p.f + p.passant % p.f = N2 := ⟨(fo * p.f + p.passant % p.f).toNat, by omega⟩
    have cn2 := fun W => Lib.hid ((rnum_c W p.f p.r (p.passant % p.f) sc hv (by omega) (by omega) (by omega) (by omega)).of_eq (show _ = Value.int .i64 (N1 : Int) by rw [num_at m1 m2 (by omega) (by omega), hN1]))
    have cn4 := fun W => Lib.hid ((rnum_c W p.f p.r (p.passant % p.f) fo hv (by omega) (by omega) (by omega) (by omega)).of_eq (show _ = Value.int .i64 (N2 : Int) by rw [num_at m1 m2 (by omega) (by omega), hN2]))
    rw [hN1] at i1
    rw [hN2] at i2
    rw [hN1, hN2, Int.toNat_natCast, Int.toNat_natCast]
    obtain ⟨P, hPa⟩ : ∃ P : Nat, p.passant = P := ⟨p.passant.toNat, by omega⟩
    have hPn : P < p.ps.length := by omega
    have hN1n : N1 < p.ps.length := by omega
    have hN2n : N2 < p.ps.length := by omega
    obtain ⟨q0, e0⟩ : ∃ q, p.ps[P]? = some q := ⟨_, List.getElem?_eq_getElem hPn⟩
    obtain ⟨q1, e1⟩ : ∃ q, p.ps[N1]? = some q := ⟨_, List.getElem?_eq_getElem hN1n⟩
    obtain ⟨q2, e2⟩ : ∃ q, p.ps[N2]? = some q := ⟨_, List.getElem?_eq_getElem hN2n⟩
    have hq0 := Lib.hid (hP P q0 e0)
    have hq1 := Lib.hid (hP N1 q1 e1)
    have hq2 := Lib.hid (hP N2 q2 e2)
    have c1 := fun W => Lib.hid (rsq_c W p.f p.r p.passant)
    rw [hvq] at c1
    have c2 := fun W => Lib.hid (rplace_c W p.f p.r p.passant hv (by omega) (by omega))
    unfold pointV at c2
    rw [hPa, Int.toNat_natCast, show p.ps.getD P 0 = q0 by rw [List.getD_eq_getElem?_getD, e0]; rfl, show p.ps.getD N1 0 = q1 by rw [List.getD_eq_getElem?_getD, e1]; rfl, show p.ps.getD N2 0 = q2 by rw [List.getD_eq_getElem?_getD, e2]; rfl]
    unfold Pos.cells Pure
    rw [hBe, hbl, hh0]
    rw [hPa] at c1 c2 cn2 cn4 m1 m2 m5 m6 hlt ⊢
    generalize p.ps.length = n at *
    generalize p.r = r at *
    generalize p.f = f at *
    obtain ⟨F, hF⟩ : ∃ x, (P : Int) % f = x := ⟨_, rfl⟩
    obtain ⟨Rk, hRk⟩ : ∃ x, (P : Int) / f = x := ⟨_, rfl⟩
    simp only [hF, hRk] at c2 cn2 cn4 m1 m2 m5 m6 ⊢
    have hpm : ((P : Int) == -1) = false := by first | (simp; done) | (simp; omega)
    have x0 : ((P : Int) < n) = True := by simp; omega
    have x1 : ((N1 : Int) < n) = True := by simp; omega
    have x2 : ((N2 : Int) < n) = True := by simp; omega
    have hr6 : (r < 6) = False := by simp; omega
    have mm : 0 ≤ Rk ∧ Rk ≤ 64 := by omega
    have ss : 0 ≤ sc ∧ sc ≤ 8 ∧ 0 ≤ fo ∧ fo ≤ 8 := by omega
    obtain ⟨ss1, ss2, ss3, ss4⟩ := ss
    obtain ⟨mm1, mm2⟩ := mm
    clear hsc hfo hL hvq hP e0 e1 e2 i1 i2 hN1 hN2 hF hRk hlen hlt hPn hN1n hN2n hPa hv
    go_enter Tryz.func70, Tryz.ntmps70
    go_wp2_with fail
    refine start1Bc hBe ?_
    intro V hN hX x
    have y0 := fun z : Ext V.heap.size V => cell_of (below_blk z.2 (hN).out) 0 _ rfl
    have y1 := fun z : Ext V.heap.size V => cell_of (below_blk z.2 (hN).out) 1 _ rfl
    have y2 := fun z : Ext V.heap.size V => cell_of (below_blk z.2 (hN).out) 2 _ rfl
    have y3 := fun z : Ext V.heap.size V => cell_of (below_blk z.2 (hN).out) 3 _ rfl
    have y4 := fun z : Ext V.heap.size V => cell_of (below_blk z.2 (hN).out) 4 _ rfl
    have y5 := fun z : Ext V.heap.size V => cell_of (below_blk z.2 (hN).out) 5 _ rfl
    have y6 := fun z : Ext V.heap.size V => cell_of (below_blk z.2 (hN).out) 6 _ rfl
    have y7 := fun z : Ext V.heap.size V => cell_of (below_blk z.2 (hN).out) 7 _ rfl
    refine (Pure.st (c1 _).out).mono ?_
    rintro e _ ⟨rfl, x, rfl⟩
    go_wp2_with fail
    refine (Pure.st (c2 _).out).mono ?_
    rintro e _ ⟨rfl, x, rfl⟩
    go_wp2_with (refine store_row 85 (.tmp 4) (.tmp 34) rfl rfl #[.int .i64 F, .int .i64 Rk] rfl (by rfl) _ (blk_new rfl _) rfl sizePt (by simp [Value.oneCell']) ?_)
    refine laid_row #[.int .i64 F, .int .i64 Rk] rfl rfl ?_
    intro G V2 hG hGV hV2 hP2
    rw [hG]
    replace hX := Lib.hid (fun z : Ext V2.heap.size V2 => (show Below B w z.1 ∧ B < z.1.heap.size ∧ Below w.heap.size w z.1 from hX.out ⟨z.1, hV2.trans (z.2.mono hV2.size)⟩))
    replace hP2 := Lib.hid hP2
    replace hN := Lib.hid (below_blk hV2 hN.out)
    clear y0 y1 y2 y3 y4 y5 y6 y7 hV2 hGV hG x c1 c2
    obtain ⟨V, hVe⟩ : ∃ V, V = V2 := ⟨_, rfl⟩
    subst hVe
    refine start0r ?_
    intro x
    have y0 := fun z : Ext V.heap.size V => cell_of (below_blk z.2 (hN).out) 0 _ rfl
    have y1 := fun z : Ext V.heap.size V => cell_of (below_blk z.2 (hN).out) 1 _ rfl
    have y2 := fun z : Ext V.heap.size V => cell_of (below_blk z.2 (hN).out) 2 _ rfl
    have y3 := fun z : Ext V.heap.size V => cell_of (below_blk z.2 (hN).out) 3 _ rfl
    have y4 := fun z : Ext V.heap.size V => cell_of (below_blk z.2 (hN).out) 4 _ rfl
    have y5 := fun z : Ext V.heap.size V => cell_of (below_blk z.2 (hN).out) 5 _ rfl
    have y6 := fun z : Ext V.heap.size V => cell_of (below_blk z.2 (hN).out) 6 _ rfl
    have y7 := fun z : Ext V.heap.size V => cell_of (below_blk z.2 (hN).out) 7 _ rfl
    refine ext_region' (by kernel_rfl) (by kernel_rfl) ?_
    repeat (first | (go_big_quiet_step ((go_at_call 117; first | (with_reducible exact Pure.st (Hid.out (ck2 _))) | (with_reducible exact Pure.st (Hid.out (ck4 _)))))) | ((refine wpQuiet_step (fun K hK => ?_)); go_simp; (refine ⟨_, fun _ => rfl, hK _ ?_⟩); clear hK K))
    refine wpQuiet_nil ?_
    intro x
    clear ck2 ck4
    have v1 := fun z : Ext V.heap.size V => cell_of (below_blk z.2 hP2.out) 1 _ rfl
    by_cases hrk : 2 * Rk = sc + fo
    · have t0 : (2 * Rk == sc + fo) = true := by simpa using hrk
      have t0' : (2 * Rk != sc + fo) = false := by simpa using hrk
      replace hrk := Lib.hid hrk
      replace t0 := Lib.hid t0
      go_wp2_with fail
      clear y0 y1 y2 y3 y4 y5 y6 y7 v1 t0'
      cases t1 : (q0 == 0)
      · have y0 := fun z : Ext V.heap.size V => cell_of (below_blk z.2 hN.out) 0 _ rfl
        have y1 := fun z : Ext V.heap.size V => cell_of (below_blk z.2 hN.out) 1 _ rfl
        have y2 := fun z : Ext V.heap.size V => cell_of (below_blk z.2 hN.out) 2 _ rfl
        have y5 := fun z : Ext V.heap.size V => cell_of (below_blk z.2 hN.out) 5 _ rfl
        have v0 := fun z : Ext V.heap.size V => cell_of (below_blk z.2 hP2.out) 0 _ rfl
        have v1 := fun z : Ext V.heap.size V => cell_of (below_blk z.2 hP2.out) 1 _ rfl
        have z0 := fun z : Ext V.heap.size V => below_at (hX.out z).2.2 hq0.out
        have z1 := fun z : Ext V.heap.size V => below_at (hX.out z).2.2 hq1.out
        have z2 := fun z : Ext V.heap.size V => below_at (hX.out z).2.2 hq2.out
        refine ext_region' (by kernel_rfl) (by kernel_rfl) ?_
        repeat (first | (go_big_quiet_step ((first | (go_at_call 118; first | (with_reducible exact Pure.st (Hid.out (cn2 _))) | (with_reducible exact Pure.st (Hid.out (cn4 _)))) | (go_at_call 119; exact Same.st (cp _).out)))) | ((refine wpQuiet_step (fun K hK => ?_)); go_simp; (refine ⟨_, fun _ => rfl, hK _ ?_⟩); clear hK K))
        refine wpQuiet_nil ?_
        intro x
        go_wp2
        go_ret
        exact ⟨by simp [t0.out, t1], (hX.out x).1⟩
      · cases t2 : (q1 == 0)
        · have y0 := fun z : Ext V.heap.size V => cell_of (below_blk z.2 hN.out) 0 _ rfl
          have y1 := fun z : Ext V.heap.size V => cell_of (below_blk z.2 hN.out) 1 _ rfl
          have y2 := fun z : Ext V.heap.size V => cell_of (below_blk z.2 hN.out) 2 _ rfl
          have y5 := fun z : Ext V.heap.size V => cell_of (below_blk z.2 hN.out) 5 _ rfl
          have v0 := fun z : Ext V.heap.size V => cell_of (below_blk z.2 hP2.out) 0 _ rfl
          have v1 := fun z : Ext V.heap.size V => cell_of (below_blk z.2 hP2.out) 1 _ rfl
          have z0 := fun z : Ext V.heap.size V => below_at (hX.out z).2.2 hq0.out
          have z1 := fun z : Ext V.heap.size V => below_at (hX.out z).2.2 hq1.out
          have z2 := fun z : Ext V.heap.size V => below_at (hX.out z).2.2 hq2.out
          refine ext_region' (by kernel_rfl) (by kernel_rfl) ?_
          repeat (first | (go_big_quiet_step ((first | (go_at_call 118; first | (with_reducible exact Pure.st (Hid.out (cn2 _))) | (with_reducible exact Pure.st (Hid.out (cn4 _)))) | (go_at_call 119; exact Same.st (cp _).out)))) | ((refine wpQuiet_step (fun K hK => ?_)); go_simp; (refine ⟨_, fun _ => rfl, hK _ ?_⟩); clear hK K))
          refine wpQuiet_nil ?_
          intro x
          go_wp2
          go_ret
          exact ⟨by simp [t0.out, t1, t2], (hX.out x).1⟩
        · have y0 := fun z : Ext V.heap.size V => cell_of (below_blk z.2 hN.out) 0 _ rfl
          have y1 := fun z : Ext V.heap.size V => cell_of (below_blk z.2 hN.out) 1 _ rfl
          have y2 := fun z : Ext V.heap.size V => cell_of (below_blk z.2 hN.out) 2 _ rfl
          have y5 := fun z : Ext V.heap.size V => cell_of (below_blk z.2 hN.out) 5 _ rfl
          have v0 := fun z : Ext V.heap.size V => cell_of (below_blk z.2 hP2.out) 0 _ rfl
          have v1 := fun z : Ext V.heap.size V => cell_of (below_blk z.2 hP2.out) 1 _ rfl
          have z0 := fun z : Ext V.heap.size V => below_at (hX.out z).2.2 hq0.out
          have z1 := fun z : Ext V.heap.size V => below_at (hX.out z).2.2 hq1.out
          have z2 := fun z : Ext V.heap.size V => below_at (hX.out z).2.2 hq2.out
          refine ext_region' (by kernel_rfl) (by kernel_rfl) ?_
          repeat (first | (go_big_quiet_step ((first | (go_at_call 118; first | (with_reducible exact Pure.st (Hid.out (cn2 _))) | (with_reducible exact Pure.st (Hid.out (cn4 _)))) | (go_at_call 119; exact Same.st (cp _).out)))) | ((refine wpQuiet_step (fun K hK => ?_)); go_simp; (refine ⟨_, fun _ => rfl, hK _ ?_⟩); clear hK K))
          refine wpQuiet_nil ?_
          intro x
          go_wp2
          go_ret
          exact ⟨by simp [t0.out, t1, t2], (hX.out x).1⟩
    · have t0 : (2 * Rk == sc + fo) = false := by simpa using hrk
      have t0' : (2 * Rk != sc + fo) = true := by simpa using hrk
      replace hrk := Lib.hid hrk
      replace t0 := Lib.hid t0
      go_wp2
      go_ret
      exact ⟨by simp [t0.out], (hX.out x).1⟩
  · obtain ⟨sc, hsc⟩ : ∃ x : Int, x = 1 := ⟨_, rfl⟩
    obtain ⟨fo, hfo⟩ : ∃ x : Int, x = 3 := ⟨_, rfl⟩
    have hL : passLate p = ((2 * (p.passant / p.f) == sc + fo) && p.ps.getD p.passant.toNat 0 == 0 && p.ps.getD (sc * p.f + p.passant % p.f).toNat 0 == 0 && p.ps.getD (fo * p.f + p.passant % p.f).toNat 0 == 1) := by unfold passLate; rw [hbl, hsc, hfo]; rfl
    rw [hL]
    have ck2 := fun W => Lib.hid (show Pure 117 #[.agg #[.int .i64 p.f, .int .i64 p.r], .bool false, .int .i64 2] W (.int .i64 sc) from hsc ▸ rrank_c W p.f p.r 2 false (by omega) (by omega) (by omega) (by omega))
    have ck4 := fun W => Lib.hid (show Pure 117 #[.agg #[.int .i64 p.f, .int .i64 p.r], .bool false, .int .i64 4] W (.int .i64 fo) from hfo ▸ rrank_c W p.f p.r 4 false (by omega) (by omega) (by omega) (by omega))
    have cp := fun W => Lib.hid (show Same 119 #[.int .i8 1, .bool false] W (.int .i8 1) from rpiece_c W 1 false (by omega) (by omega))
    have i1 := idx_bd (f := p.f) (r := p.r) (F := p.passant % p.f) (y := sc) (by omega) m1 m2 (by omega) (by omega)
    have i2 := idx_bd (f := p.f) (r := p.r) (F := p.passant % p.f) (y := fo) (by omega) m1 m2 (by omega) (by omega)
    obtain ⟨N1, hN1⟩ : ∃ N1 : Nat, sc * p.f + p.passant % p.f = N1 := ⟨(sc * p.f + p.passant % p.f).toNat, by omega⟩
    obtain ⟨N2, hN2⟩ : ∃ N2 : Nat, fo * p.f + p.passant % p.f = N2 := ⟨(fo * p.f + p.passant % p.f).toNat, by omega⟩
    have cn2 := fun W => Lib.hid ((rnum_c W p.f p.r (p.passant % p.f) sc hv (by omega) (by omega) (by omega) (by omega)).of_eq (show _ = Value.int .i64 (N1 : Int) by rw [num_at m1 m2 (by omega) (by omega), hN1]))
    have cn4 := fun W => Lib.hid ((rnum_c W p.f p.r (p.passant % p.f) fo hv (by omega) (by omega) (by omega) (by omega)).of_eq (show _ = Value.int .i64 (N2 : Int) by rw [num_at m1 m2 (by omega) (by omega), hN2]))
    rw [hN1] at i1
    rw [hN2] at i2
    rw [hN1, hN2, Int.toNat_natCast, Int.toNat_natCast]
    obtain ⟨P, hPa⟩ : ∃ P : Nat, p.passant = P := ⟨p.passant.toNat, by omega⟩
    have hPn : P < p.ps.length := by omega
    have hN1n : N1 < p.ps.length := by omega
    have hN2n : N2 < p.ps.length := by omega
    obtain ⟨q0, e0⟩ : ∃ q, p.ps[P]? = some q := ⟨_, List.getElem?_eq_getElem hPn⟩
    obtain ⟨q1, e1⟩ : ∃ q, p.ps[N1]? = some q := ⟨_, List.getElem?_eq_getElem hN1n⟩
    obtain ⟨q2, e2⟩ : ∃ q, p.ps[N2]? = some q := ⟨_, List.getElem?_eq_getElem hN2n⟩
    have hq0 := Lib.hid (hP P q0 e0)
    have hq1 := Lib.hid (hP N1 q1 e1)
    have hq2 := Lib.hid (hP N2 q2 e2)
    have c1 := fun W => Lib.hid (rsq_c W p.f p.r p.passant)
    rw [hvq] at c1
    have c2 := fun W => Lib.hid (rplace_c W p.f p.r p.passant hv (by omega) (by omega))
    unfold pointV at c2
    rw [hPa, Int.toNat_natCast, show p.ps.getD P 0 = q0 by rw [List.getD_eq_getElem?_getD, e0]; rfl, show p.ps.getD N1 0 = q1 by rw [List.getD_eq_getElem?_getD, e1]; rfl, show p.ps.getD N2 0 = q2 by rw [List.getD_eq_getElem?_getD, e2]; rfl]
    unfold Pos.cells Pure
    rw [hBe, hbl, hh0]
    rw [hPa] at c1 c2 cn2 cn4 m1 m2 m5 m6 hlt ⊢
    generalize p.ps.length = n at *
    generalize p.r = r at *
    generalize p.f = f at *
    obtain ⟨F, hF⟩ : ∃ x, (P : Int) % f = x := ⟨_, rfl⟩
    obtain ⟨Rk, hRk⟩ : ∃ x, (P : Int) / f = x := ⟨_, rfl⟩
    simp only [hF, hRk] at c2 cn2 cn4 m1 m2 m5 m6 ⊢
    have hpm : ((P : Int) == -1) = false := by first | (simp; done) | (simp; omega)
    have x0 : ((P : Int) < n) = True := by simp; omega
    have x1 : ((N1 : Int) < n) = True := by simp; omega
    have x2 : ((N2 : Int) < n) = True := by simp; omega
    have hr6 : (r < 6) = False := by simp; omega
    have mm : 0 ≤ Rk ∧ Rk ≤ 64 := by omega
    have ss : 0 ≤ sc ∧ sc ≤ 8 ∧ 0 ≤ fo ∧ fo ≤ 8 := by omega
    obtain ⟨ss1, ss2, ss3, ss4⟩ := ss
    obtain ⟨mm1, mm2⟩ := mm
    clear hsc hfo hL hvq hP e0 e1 e2 i1 i2 hN1 hN2 hF hRk hlen hlt hPn hN1n hN2n hPa hv
    go_enter Tryz.func70, Tryz.ntmps70
    go_wp2_with fail
    refine start1Bc hBe ?_
    intro V hN hX x
    have y0 := fun z : Ext V.heap.size V => cell_of (below_blk z.2 (hN).out) 0 _ rfl
    have y1 := fun z : Ext V.heap.size V => cell_of (below_blk z.2 (hN).out) 1 _ rfl
    have y2 := fun z : Ext V.heap.size V => cell_of (below_blk z.2 (hN).out) 2 _ rfl
    have y3 := fun z : Ext V.heap.size V => cell_of (below_blk z.2 (hN).out) 3 _ rfl
    have y4 := fun z : Ext V.heap.size V => cell_of (below_blk z.2 (hN).out) 4 _ rfl
    have y5 := fun z : Ext V.heap.size V => cell_of (below_blk z.2 (hN).out) 5 _ rfl
    have y6 := fun z : Ext V.heap.size V => cell_of (below_blk z.2 (hN).out) 6 _ rfl
    have y7 := fun z : Ext V.heap.size V => cell_of (below_blk z.2 (hN).out) 7 _ rfl
    refine (Pure.st (c1 _).out).mono ?_
    rintro e _ ⟨rfl, x, rfl⟩
    go_wp2_with fail
    refine (Pure.st (c2 _).out).mono ?_
    rintro e _ ⟨rfl, x, rfl⟩
    go_wp2_with (refine store_row 85 (.tmp 4) (.tmp 34) rfl rfl #[.int .i64 F, .int .i64 Rk] rfl (by rfl) _ (blk_new rfl _) rfl sizePt (by simp [Value.oneCell']) ?_)
    refine laid_row #[.int .i64 F, .int .i64 Rk] rfl rfl ?_
    intro G V2 hG hGV hV2 hP2
    rw [hG]
    replace hX := Lib.hid (fun z : Ext V2.heap.size V2 => (show Below B w z.1 ∧ B < z.1.heap.size ∧ Below w.heap.size w z.1 from hX.out ⟨z.1, hV2.trans (z.2.mono hV2.size)⟩))
    replace hP2 := Lib.hid hP2
    replace hN := Lib.hid (below_blk hV2 hN.out)
    clear y0 y1 y2 y3 y4 y5 y6 y7 hV2 hGV hG x c1 c2
    obtain ⟨V, hVe⟩ : ∃ V, V = V2 := ⟨_, rfl⟩
    subst hVe
    refine start0r ?_
    intro x
    have y0 := fun z : Ext V.heap.size V => cell_of (below_blk z.2 (hN).out) 0 _ rfl
    have y1 := fun z : Ext V.heap.size V => cell_of (below_blk z.2 (hN).out) 1 _ rfl
    have y2 := fun z : Ext V.heap.size V => cell_of (below_blk z.2 (hN).out) 2 _ rfl
    have y3 := fun z : Ext V.heap.size V => cell_of (below_blk z.2 (hN).out) 3 _ rfl
    have y4 := fun z : Ext V.heap.size V => cell_of (below_blk z.2 (hN).out) 4 _ rfl
    have y5 := fun z : Ext V.heap.size V => cell_of (below_blk z.2 (hN).out) 5 _ rfl
    have y6 := fun z : Ext V.heap.size V => cell_of (below_blk z.2 (hN).out) 6 _ rfl
    have y7 := fun z : Ext V.heap.size V => cell_of (below_blk z.2 (hN).out) 7 _ rfl
    refine ext_region' (by kernel_rfl) (by kernel_rfl) ?_
    repeat (first | (go_big_quiet_step ((go_at_call 117; first | (with_reducible exact Pure.st (Hid.out (ck2 _))) | (with_reducible exact Pure.st (Hid.out (ck4 _)))))) | ((refine wpQuiet_step (fun K hK => ?_)); go_simp; (refine ⟨_, fun _ => rfl, hK _ ?_⟩); clear hK K))
    refine wpQuiet_nil ?_
    intro x
    clear ck2 ck4
    have v1 := fun z : Ext V.heap.size V => cell_of (below_blk z.2 hP2.out) 1 _ rfl
    by_cases hrk : 2 * Rk = sc + fo
    · have t0 : (2 * Rk == sc + fo) = true := by simpa using hrk
      have t0' : (2 * Rk != sc + fo) = false := by simpa using hrk
      replace hrk := Lib.hid hrk
      replace t0 := Lib.hid t0
      go_wp2_with fail
      clear y0 y1 y2 y3 y4 y5 y6 y7 v1 t0'
      cases t1 : (q0 == 0)
      · have y0 := fun z : Ext V.heap.size V => cell_of (below_blk z.2 hN.out) 0 _ rfl
        have y1 := fun z : Ext V.heap.size V => cell_of (below_blk z.2 hN.out) 1 _ rfl
        have y2 := fun z : Ext V.heap.size V => cell_of (below_blk z.2 hN.out) 2 _ rfl
        have y5 := fun z : Ext V.heap.size V => cell_of (below_blk z.2 hN.out) 5 _ rfl
        have v0 := fun z : Ext V.heap.size V => cell_of (below_blk z.2 hP2.out) 0 _ rfl
        have v1 := fun z : Ext V.heap.size V => cell_of (below_blk z.2 hP2.out) 1 _ rfl
        have z0 := fun z : Ext V.heap.size V => below_at (hX.out z).2.2 hq0.out
        have z1 := fun z : Ext V.heap.size V => below_at (hX.out z).2.2 hq1.out
        have z2 := fun z : Ext V.heap.size V => below_at (hX.out z).2.2 hq2.out
        refine ext_region' (by kernel_rfl) (by kernel_rfl) ?_
        repeat (first | (go_big_quiet_step ((first | (go_at_call 118; first | (with_reducible exact Pure.st (Hid.out (cn2 _))) | (with_reducible exact Pure.st (Hid.out (cn4 _)))) | (go_at_call 119; exact Same.st (cp _).out)))) | ((refine wpQuiet_step (fun K hK => ?_)); go_simp; (refine ⟨_, fun _ => rfl, hK _ ?_⟩); clear hK K))
        refine wpQuiet_nil ?_
        intro x
        go_wp2
        go_ret
        exact ⟨by simp [t0.out, t1], (hX.out x).1⟩
      · cases t2 : (q1 == 0)
        · have y0 := fun z : Ext V.heap.size V => cell_of (below_blk z.2 hN.out) 0 _ rfl
          have y1 := fun z : Ext V.heap.size V => cell_of (below_blk z.2 hN.out) 1 _ rfl
          have y2 := fun z : Ext V.heap.size V => cell_of (below_blk z.2 hN.out) 2 _ rfl
          have y5 := fun z : Ext V.heap.size V => cell_of (below_blk z.2 hN.out) 5 _ rfl
          have v0 := fun z : Ext V.heap.size V => cell_of (below_blk z.2 hP2.out) 0 _ rfl
          have v1 := fun z : Ext V.heap.size V => cell_of (below_blk z.2 hP2.out) 1 _ rfl
          have z0 := fun z : Ext V.heap.size V => below_at (hX.out z).2.2 hq0.out
          have z1 := fun z : Ext V.heap.size V => below_at (hX.out z).2.2 hq1.out
          have z2 := fun z : Ext V.heap.size V => below_at (hX.out z).2.2 hq2.out
          refine ext_region' (by kernel_rfl) (by kernel_rfl) ?_
          repeat (first | (go_big_quiet_step ((first | (go_at_call 118; first | (with_reducible exact Pure.st (Hid.out (cn2 _))) | (with_reducible exact Pure.st (Hid.out (cn4 _)))) | (go_at_call 119; exact Same.st (cp _).out)))) | ((refine wpQuiet_step (fun K hK => ?_)); go_simp; (refine ⟨_, fun _ => rfl, hK _ ?_⟩); clear hK K))
          refine wpQuiet_nil ?_
          intro x
          go_wp2
          go_ret
          exact ⟨by simp [t0.out, t1, t2], (hX.out x).1⟩
        · have y0 := fun z : Ext V.heap.size V => cell_of (below_blk z.2 hN.out) 0 _ rfl
          have y1 := fun z : Ext V.heap.size V => cell_of (below_blk z.2 hN.out) 1 _ rfl
          have y2 := fun z : Ext V.heap.size V => cell_of (below_blk z.2 hN.out) 2 _ rfl
          have y5 := fun z : Ext V.heap.size V => cell_of (below_blk z.2 hN.out) 5 _ rfl
          have v0 := fun z : Ext V.heap.size V => cell_of (below_blk z.2 hP2.out) 0 _ rfl
          have v1 := fun z : Ext V.heap.size V => cell_of (below_blk z.2 hP2.out) 1 _ rfl
          have z0 := fun z : Ext V.heap.size V => below_at (hX.out z).2.2 hq0.out
          have z1 := fun z : Ext V.heap.size V => below_at (hX.out z).2.2 hq1.out
          have z2 := fun z : Ext V.heap.size V => below_at (hX.out z).2.2 hq2.out
          refine ext_region' (by kernel_rfl) (by kernel_rfl) ?_
          repeat (first | (go_big_quiet_step ((first | (go_at_call 118; first | (with_reducible exact Pure.st (Hid.out (cn2 _))) | (with_reducible exact Pure.st (Hid.out (cn4 _)))) | (go_at_call 119; exact Same.st (cp _).out)))) | ((refine wpQuiet_step (fun K hK => ?_)); go_simp; (refine ⟨_, fun _ => rfl, hK _ ?_⟩); clear hK K))
          refine wpQuiet_nil ?_
          intro x
          go_wp2
          go_ret
          exact ⟨by simp [t0.out, t1, t2], (hX.out x).1⟩
    · have t0 : (2 * Rk == sc + fo) = false := by simpa using hrk
      have t0' : (2 * Rk != sc + fo) = true := by simpa using hrk
      replace hrk := Lib.hid hrk
      replace t0 := Lib.hid t0
      go_wp2
      go_ret
      exact ⟨by simp [t0.out], (hX.out x).1⟩
end
section
theorem getD_at' {ps : List Int} {i : Nat} (h : i < ps.length) : ps[i]? = some (ps.getD i 0) := by
  rw [List.getD_eq_getElem?_getD, List.getElem?_eq_getElem h]
  rfl
theorem sizeBd3 : (Tryz.prog.info? 40).map (·.size) = some 3 := by kernel_rfl
theorem rofb_c (w : World) (p : Pos) (po : Option Addr) (cap : Nat) : Pure 30 #[.agg (p.cells po cap)] w (bdV p.f p.r po p.ps.length cap) := by
  unfold Pos.cells bdV
  generalize p.ps.length = n
  unfold Pure
  go_enter Tryz.func30, Tryz.ntmps30
  go_wp2_with fail
  refine bodyPost_ret (results_cell_row rfl _ _ _ 40 #[.int .i64 p.f, .int .i64 p.r, .slice po n cap] (0, 0) _ rfl (blk_new (by simp) _) Tryz.underlying40 rfl sizeBd3) rfl ⟨rfl, ?_⟩
  repeat (first | (with_reducible assumption) | (with_reducible exact Below.refl _ _) | (with_reducible apply below_drewN) | (with_reducible apply Below.drew) | (with_reducible apply Below.alloc) | (with_reducible apply Below.setCell))
  all_goals first | omega | (dsimp only; omega) | (simp; done) | (simp; omega)
def passR (p : Pos) : Bool := if p.passant = -1 then true else if p.r < 6 ∨ p.half ≠ 0 ∨ vsq p.f p.r p.passant = false then false else passLate p
theorem rpass_c (w : World) (p : Pos) (b off cap : Nat) (hP : PcAt w b off p.ps) (hlen : (p.ps.length : Int) = p.f * p.r) : Pure 70 #[.agg (p.cells (some ⟨b, off, none⟩) cap)] w (.bool (passR p)) := by
  unfold passR
  by_cases h1 : p.passant = -1
  · rw [if_pos h1]
    exact rpass_none w p _ cap h1
  · rw [if_neg h1]
    by_cases h2 : p.r < 6 ∨ p.half ≠ 0 ∨ vsq p.f p.r p.passant = false
    · rw [if_pos h2]
      exact rpass_early w p _ cap h1 h2
    · rw [if_neg h2]
      have h3 : p.half = 0 := by
        rcases Decidable.em (p.half = 0) with h | h
        · exact h
        · exact absurd (.inr (.inl h)) h2
      refine rpass_late w p b off cap hP hlen (by omega) h3 ?_
      cases hv : vsq p.f p.r p.passant with
      | true => rfl
      | false => exact absurd (.inr (.inr hv)) h2
def pawnBad (p : Pos) (i : Nat) : Bool := kindI (p.ps.getD i 0) == 1 && (i : Int) / p.f == (if decide (p.ps.getD i 0 < 0) then 0 else p.r - 1)
def pawnsR (p : Pos) : Bool := (List.range p.ps.length).all fun i => !pawnBad p i
def rvB (p : Pos) : Bool := orthB p.f p.r p.ps && decide (0 ≤ kingR p.ps false) && decide (0 ≤ kingR p.ps true) && (attL p.f p.r p.ps (kingR p.ps (!p.black)) (!!p.black)).isEmpty && pawnsR p && p.castles && passR p && p.counts
theorem pawns_miss {p : Pos} {i : Nat} (hi : i < p.ps.length) (h : pawnBad p i = true) : pawnsR p = false := by
  unfold pawnsR
  rw [← Bool.not_eq_true, List.all_eq_true]
  intro ha
  have := ha i (List.mem_range.2 hi)
  rw [h] at this
  cases this
theorem pawns_hit {p : Pos} {n : Nat} (hn : p.ps.length = n) (h : ∀ i, i < n → pawnBad p i = false) : pawnsR p = true := by
  unfold pawnsR
  rw [List.all_eq_true]
  intro i hi
  rw [h i (by rw [← hn]; exact List.mem_range.1 hi)]
  rfl
theorem boxed_c {f : FuncId} {args : Array Value} {Q : Ending → World → Prop} {V : World} {x : Ext V.heap.size V} {o : Obj}
    (h : ∀ (G : Nat) (W : World), x.1.heap.size = G → Below V.heap.size V W → W.heap[G]? = some o → ∀ y : Ext W.heap.size W, Calls Tryz.prog f args y.1 Q) : Calls Tryz.prog f args (x.1.alloc o) Q :=
  h x.1.heap.size _ rfl (x.2.alloc x.2.size _) (blk_new rfl _) ⟨_, Below.refl _ _⟩
set_option maxRecDepth 100000 in
set_option maxHeartbeats 1000000 in
theorem rvalid6_no (w : World) (p : Pos) (po : Option Addr) (cap : Nat) (hS : SlcAt w po p.ps) (hn : p.ps.length ≤ 1000) (ho : orthB p.f p.r p.ps = false) : Pure 19 #[.agg (p.cells po cap)] w (.bool false) := by
  obtain ⟨B, hBe⟩ : ∃ B, w.heap.size = B := ⟨_, rfl⟩
  have cof := fun W => Lib.hid (rofb_c W p po cap)
  have co := Lib.hid (fun W (hW : Below w.heap.size w W) => rorth_c W p.f p.r p.ps po cap (hS.below hW) hn)
  rw [ho] at co
  unfold bdV at cof co
  unfold Pos.cells at *
  unfold Pure
  rw [hBe]
  generalize p.ps.length = n at *
  generalize p.f = f at *
  generalize p.r = r at *
  clear ho hS
  go_enter Tryz.func19, Tryz.ntmps19
  go_wp2_with fail
  refine start1Bc hBe ?_
  intro V hN hX x
  have y0 := fun z : Ext V.heap.size V => cell_of (below_blk z.2 (hN).out) 0 _ rfl
  have y1 := fun z : Ext V.heap.size V => cell_of (below_blk z.2 (hN).out) 1 _ rfl
  have y2 := fun z : Ext V.heap.size V => cell_of (below_blk z.2 (hN).out) 2 _ rfl
  have y3 := fun z : Ext V.heap.size V => cell_of (below_blk z.2 (hN).out) 3 _ rfl
  have y4 := fun z : Ext V.heap.size V => cell_of (below_blk z.2 (hN).out) 4 _ rfl
  have y5 := fun z : Ext V.heap.size V => cell_of (below_blk z.2 (hN).out) 5 _ rfl
  have y6 := fun z : Ext V.heap.size V => cell_of (below_blk z.2 (hN).out) 6 _ rfl
  have y7 := fun z : Ext V.heap.size V => cell_of (below_blk z.2 (hN).out) 7 _ rfl
  refine (Pure.st (cof _).out).mono ?_
  rintro e _ ⟨rfl, x, rfl⟩
  go_wp2_with fail
  refine boxed_c ?_
  intro G V2 hG hV2 hP
  rw [hG]
  replace hX := Lib.hid (fun z : Ext V2.heap.size V2 => (show Below B w z.1 ∧ B < z.1.heap.size ∧ Below w.heap.size w z.1 from hX.out ⟨z.1, hV2.trans (z.2.mono hV2.size)⟩))
  replace hN := Lib.hid (below_blk hV2 hN.out)
  replace hP := Lib.hid hP
  clear y0 y1 y2 y3 y4 y5 y6 y7 hV2 hG x cof
  obtain ⟨V, hVe⟩ : ∃ V, V = V2 := ⟨_, rfl⟩
  subst hVe
  intro x
  have y0 := fun z : Ext V.heap.size V => cell_of (below_blk z.2 (hN).out) 0 _ rfl
  have y1 := fun z : Ext V.heap.size V => cell_of (below_blk z.2 (hN).out) 1 _ rfl
  have y2 := fun z : Ext V.heap.size V => cell_of (below_blk z.2 (hN).out) 2 _ rfl
  have y3 := fun z : Ext V.heap.size V => cell_of (below_blk z.2 (hN).out) 3 _ rfl
  have y4 := fun z : Ext V.heap.size V => cell_of (below_blk z.2 (hN).out) 4 _ rfl
  have y5 := fun z : Ext V.heap.size V => cell_of (below_blk z.2 (hN).out) 5 _ rfl
  have y6 := fun z : Ext V.heap.size V => cell_of (below_blk z.2 (hN).out) 6 _ rfl
  have y7 := fun z : Ext V.heap.size V => cell_of (below_blk z.2 (hN).out) 7 _ rfl
  have u0 := fun z : Ext V.heap.size V => cell_of (below_blk z.2 (hP).out) 0 _ rfl
  have u1 := fun z : Ext V.heap.size V => cell_of (below_blk z.2 (hP).out) 1 _ rfl
  have u2 := fun z : Ext V.heap.size V => cell_of (below_blk z.2 (hP).out) 2 _ rfl
  refine (Pure.st (co.out _ (hX.out x).2.2)).mono ?_
  rintro e _ ⟨rfl, x, rfl⟩
  go_wp2_with fail
  go_ret
  exact ⟨rfl, (hX.out _).1⟩
set_option maxRecDepth 100000 in
set_option maxHeartbeats 2000000 in
theorem rvalid6_k (w : World) (p : Pos) (b off cap : Nat) (hP0 : PcAt w b off p.ps) (ho : orthB p.f p.r p.ps = true)
    (hbad : kingR p.ps false < 0 ∨ kingR p.ps true < 0 ∨ (attL p.f p.r p.ps (kingR p.ps (!p.black)) (!!p.black)).isEmpty = false) : Pure 19 #[.agg (p.cells (some ⟨b, off, none⟩) cap)] w (.bool false) := by
  obtain ⟨B, hBe⟩ : ∃ B, w.heap.size = B := ⟨_, rfl⟩
  have hbv : bvalid p.f p.r p.ps = true := by unfold orthB at ho; rw [Bool.and_eq_true] at ho; exact ho.1
  obtain ⟨_, _, h64⟩ := bvalid_len hbv
  have hS0 : SlcAt w (some ⟨b, off, none⟩) p.ps := .inr ⟨b, off, rfl, hP0⟩
  have cof := fun W => Lib.hid (rofb_c W p (some ⟨b, off, none⟩) cap)
  have co := Lib.hid (fun W (hW : Below w.heap.size w W) => (rorth_c W p.f p.r p.ps _ cap (hS0.below hW) (by omega)).of_eq (show _ = Value.bool true by rw [ho]))
  have ck1 := Lib.hid (fun W (hW : Below w.heap.size w W) => rking_c W p.f p.r p.ps _ cap false (hS0.below hW) (by omega))
  have ck2 := Lib.hid (fun W (hW : Below w.heap.size w W) => rking_c W p.f p.r p.ps _ cap true (hS0.below hW) (by omega))
  have cch := Lib.hid (fun (hk : 0 ≤ kingR p.ps (!p.black)) W (hW : Below w.heap.size w W) => rcheck_c W p.f p.r p.ps b off cap (!p.black) (hP0.below hW) ho hk)
  have hkk : 0 ≤ kingR p.ps false → 0 ≤ kingR p.ps true → 0 ≤ kingR p.ps (!p.black) := fun h1 h2 => by cases p.black <;> assumption
  generalize attL p.f p.r p.ps (kingR p.ps (!p.black)) (!!p.black) = A at *
  generalize kingR p.ps false = k1 at *
  generalize kingR p.ps true = k2 at *
  generalize kingR p.ps (!p.black) = k3 at *
  unfold bdV at *
  unfold Pos.cells at *
  unfold Pure
  rw [hBe]
  generalize p.ps.length = n at *
  generalize p.f = f at *
  generalize p.r = r at *
  clear ho hS0 hbv h64 hP0
  by_cases h1 : k1 < 0
  · have d1 : decide (k1 < 0) = true := by simpa using h1
    clear hbad hkk cch ck2
    go_enter Tryz.func19, Tryz.ntmps19
    go_wp2_with fail
    refine start1Bc hBe ?_
    intro V hN hX x
    have y0 := fun z : Ext V.heap.size V => cell_of (below_blk z.2 (hN).out) 0 _ rfl
    have y1 := fun z : Ext V.heap.size V => cell_of (below_blk z.2 (hN).out) 1 _ rfl
    have y2 := fun z : Ext V.heap.size V => cell_of (below_blk z.2 (hN).out) 2 _ rfl
    have y3 := fun z : Ext V.heap.size V => cell_of (below_blk z.2 (hN).out) 3 _ rfl
    have y4 := fun z : Ext V.heap.size V => cell_of (below_blk z.2 (hN).out) 4 _ rfl
    have y5 := fun z : Ext V.heap.size V => cell_of (below_blk z.2 (hN).out) 5 _ rfl
    have y6 := fun z : Ext V.heap.size V => cell_of (below_blk z.2 (hN).out) 6 _ rfl
    have y7 := fun z : Ext V.heap.size V => cell_of (below_blk z.2 (hN).out) 7 _ rfl
    refine (Pure.st (cof _).out).mono ?_
    rintro e _ ⟨rfl, x, rfl⟩
    go_wp2_with fail
    refine boxed_c ?_
    intro G V2 hG hV2 hP
    rw [hG]
    replace hX := Lib.hid (fun z : Ext V2.heap.size V2 => (show Below B w z.1 ∧ B < z.1.heap.size ∧ Below w.heap.size w z.1 from hX.out ⟨z.1, hV2.trans (z.2.mono hV2.size)⟩))
    replace hN := Lib.hid (below_blk hV2 hN.out)
    replace hP := Lib.hid hP
    clear y0 y1 y2 y3 y4 y5 y6 y7 hV2 hG x cof
    obtain ⟨V, hVe⟩ : ∃ V, V = V2 := ⟨_, rfl⟩
    subst hVe
    intro x
    have y0 := fun z : Ext V.heap.size V => cell_of (below_blk z.2 (hN).out) 0 _ rfl
    have y1 := fun z : Ext V.heap.size V => cell_of (below_blk z.2 (hN).out) 1 _ rfl
    have y2 := fun z : Ext V.heap.size V => cell_of (below_blk z.2 (hN).out) 2 _ rfl
    have y3 := fun z : Ext V.heap.size V => cell_of (below_blk z.2 (hN).out) 3 _ rfl
    have y4 := fun z : Ext V.heap.size V => cell_of (below_blk z.2 (hN).out) 4 _ rfl
    have y5 := fun z : Ext V.heap.size V => cell_of (below_blk z.2 (hN).out) 5 _ rfl
    have y6 := fun z : Ext V.heap.size V => cell_of (below_blk z.2 (hN).out) 6 _ rfl
    have y7 := fun z : Ext V.heap.size V => cell_of (below_blk z.2 (hN).out) 7 _ rfl
    have u0 := fun z : Ext V.heap.size V => cell_of (below_blk z.2 (hP).out) 0 _ rfl
    have u1 := fun z : Ext V.heap.size V => cell_of (below_blk z.2 (hP).out) 1 _ rfl
    have u2 := fun z : Ext V.heap.size V => cell_of (below_blk z.2 (hP).out) 2 _ rfl
    refine (Pure.st (co.out _ (hX.out x).2.2)).mono ?_
    rintro e _ ⟨rfl, x, rfl⟩
    go_wp2_with fail
    refine (Pure.st (ck1.out _ (hX.out x).2.2)).mono ?_
    rintro e _ ⟨rfl, x, rfl⟩
    go_wp2_with fail
    go_ret
    exact ⟨rfl, (hX.out _).1⟩
  · have d1 : decide (k1 < 0) = false := by simpa using h1
    by_cases h2 : k2 < 0
    · have d2 : decide (k2 < 0) = true := by simpa using h2
      clear hbad hkk cch
      go_enter Tryz.func19, Tryz.ntmps19
      go_wp2_with fail
      refine start1Bc hBe ?_
      intro V hN hX x
      have y0 := fun z : Ext V.heap.size V => cell_of (below_blk z.2 (hN).out) 0 _ rfl
      have y1 := fun z : Ext V.heap.size V => cell_of (below_blk z.2 (hN).out) 1 _ rfl
      have y2 := fun z : Ext V.heap.size V => cell_of (below_blk z.2 (hN).out) 2 _ rfl
      have y3 := fun z : Ext V.heap.size V => cell_of (below_blk z.2 (hN).out) 3 _ rfl
      have y4 := fun z : Ext V.heap.size V => cell_of (below_blk z.2 (hN).out) 4 _ rfl
      have y5 := fun z : Ext V.heap.size V => cell_of (below_blk z.2 (hN).out) 5 _ rfl
      have y6 := fun z : Ext V.heap.size V => cell_of (below_blk z.2 (hN).out) 6 _ rfl
      have y7 := fun z : Ext V.heap.size V => cell_of (below_blk z.2 (hN).out) 7 _ rfl
      refine (Pure.st (cof _).out).mono ?_
      rintro e _ ⟨rfl, x, rfl⟩
      go_wp2_with fail
      refine boxed_c ?_
      intro G V2 hG hV2 hP
      rw [hG]
      replace hX := Lib.hid (fun z : Ext V2.heap.size V2 => (show Below B w z.1 ∧ B < z.1.heap.size ∧ Below w.heap.size w z.1 from hX.out ⟨z.1, hV2.trans (z.2.mono hV2.size)⟩))
      replace hN := Lib.hid (below_blk hV2 hN.out)
      replace hP := Lib.hid hP
      clear y0 y1 y2 y3 y4 y5 y6 y7 hV2 hG x cof
      obtain ⟨V, hVe⟩ : ∃ V, V = V2 := ⟨_, rfl⟩
      subst hVe
      intro x
      have y0 := fun z : Ext V.heap.size V => cell_of (below_blk z.2 (hN).out) 0 _ rfl
      have y1 := fun z : Ext V.heap.size V => cell_of (below_blk z.2 (hN).out) 1 _ rfl
      have y2 := fun z : Ext V.heap.size V => cell_of (below_blk z.2 (hN).out) 2 _ rfl
      have y3 := fun z : Ext V.heap.size V => cell_of (below_blk z.2 (hN).out) 3 _ rfl
      have y4 := fun z : Ext V.heap.size V => cell_of (below_blk z.2 (hN).out) 4 _ rfl
      have y5 := fun z : Ext V.heap.size V => cell_of (below_blk z.2 (hN).out) 5 _ rfl
      have y6 := fun z : Ext V.heap.size V => cell_of (below_blk z.2 (hN).out) 6 _ rfl
      have y7 := fun z : Ext V.heap.size V => cell_of (below_blk z.2 (hN).out) 7 _ rfl
      have u0 := fun z : Ext V.heap.size V => cell_of (below_blk z.2 (hP).out) 0 _ rfl
      have u1 := fun z : Ext V.heap.size V => cell_of (below_blk z.2 (hP).out) 1 _ rfl
      have u2 := fun z : Ext V.heap.size V => cell_of (below_blk z.2 (hP).out) 2 _ rfl
      refine (Pure.st (co.out _ (hX.out x).2.2)).mono ?_
      rintro e _ ⟨rfl, x, rfl⟩
      go_wp2_with fail
      refine (Pure.st (ck1.out _ (hX.out x).2.2)).mono ?_
      rintro e _ ⟨rfl, x, rfl⟩
      go_wp2_with fail
      refine (Pure.st (ck2.out _ (hX.out x).2.2)).mono ?_
      rintro e _ ⟨rfl, x, rfl⟩
      go_wp2_with fail
      go_ret
      exact ⟨rfl, (hX.out _).1⟩
    · have d2 : decide (k2 < 0) = false := by simpa using h2
      have hA : A.isEmpty = false := by
        rcases hbad with h | h | h
        · exact absurd h h1
        · exact absurd h h2
        · exact h
      replace cch := Lib.hid (cch.out (hkk (by omega) (by omega)))
      rw [hA] at cch
      clear hbad hkk hA
      go_enter Tryz.func19, Tryz.ntmps19
      go_wp2_with fail
      refine start1Bc hBe ?_
      intro V hN hX x
      have y0 := fun z : Ext V.heap.size V => cell_of (below_blk z.2 (hN).out) 0 _ rfl
      have y1 := fun z : Ext V.heap.size V => cell_of (below_blk z.2 (hN).out) 1 _ rfl
      have y2 := fun z : Ext V.heap.size V => cell_of (below_blk z.2 (hN).out) 2 _ rfl
      have y3 := fun z : Ext V.heap.size V => cell_of (below_blk z.2 (hN).out) 3 _ rfl
      have y4 := fun z : Ext V.heap.size V => cell_of (below_blk z.2 (hN).out) 4 _ rfl
      have y5 := fun z : Ext V.heap.size V => cell_of (below_blk z.2 (hN).out) 5 _ rfl
      have y6 := fun z : Ext V.heap.size V => cell_of (below_blk z.2 (hN).out) 6 _ rfl
      have y7 := fun z : Ext V.heap.size V => cell_of (below_blk z.2 (hN).out) 7 _ rfl
      refine (Pure.st (cof _).out).mono ?_
      rintro e _ ⟨rfl, x, rfl⟩
      go_wp2_with fail
      refine boxed_c ?_
      intro G V2 hG hV2 hP
      rw [hG]
      replace hX := Lib.hid (fun z : Ext V2.heap.size V2 => (show Below B w z.1 ∧ B < z.1.heap.size ∧ Below w.heap.size w z.1 from hX.out ⟨z.1, hV2.trans (z.2.mono hV2.size)⟩))
      replace hN := Lib.hid (below_blk hV2 hN.out)
      replace hP := Lib.hid hP
      clear y0 y1 y2 y3 y4 y5 y6 y7 hV2 hG x cof
      obtain ⟨V, hVe⟩ : ∃ V, V = V2 := ⟨_, rfl⟩
      subst hVe
      intro x
      have y0 := fun z : Ext V.heap.size V => cell_of (below_blk z.2 (hN).out) 0 _ rfl
      have y1 := fun z : Ext V.heap.size V => cell_of (below_blk z.2 (hN).out) 1 _ rfl
      have y2 := fun z : Ext V.heap.size V => cell_of (below_blk z.2 (hN).out) 2 _ rfl
      have y3 := fun z : Ext V.heap.size V => cell_of (below_blk z.2 (hN).out) 3 _ rfl
      have y4 := fun z : Ext V.heap.size V => cell_of (below_blk z.2 (hN).out) 4 _ rfl
      have y5 := fun z : Ext V.heap.size V => cell_of (below_blk z.2 (hN).out) 5 _ rfl
      have y6 := fun z : Ext V.heap.size V => cell_of (below_blk z.2 (hN).out) 6 _ rfl
      have y7 := fun z : Ext V.heap.size V => cell_of (below_blk z.2 (hN).out) 7 _ rfl
      have u0 := fun z : Ext V.heap.size V => cell_of (below_blk z.2 (hP).out) 0 _ rfl
      have u1 := fun z : Ext V.heap.size V => cell_of (below_blk z.2 (hP).out) 1 _ rfl
      have u2 := fun z : Ext V.heap.size V => cell_of (below_blk z.2 (hP).out) 2 _ rfl
      refine (Pure.st (co.out _ (hX.out x).2.2)).mono ?_
      rintro e _ ⟨rfl, x, rfl⟩
      go_wp2_with fail
      refine (Pure.st (ck1.out _ (hX.out x).2.2)).mono ?_
      rintro e _ ⟨rfl, x, rfl⟩
      go_wp2_with fail
      refine (Pure.st (ck2.out _ (hX.out x).2.2)).mono ?_
      rintro e _ ⟨rfl, x, rfl⟩
      go_wp2_with fail
      refine (Pure.st (cch.out _ (hX.out x).2.2)).mono ?_
      rintro e _ ⟨rfl, x, rfl⟩
      go_wp2_with fail
      go_ret
      exact ⟨rfl, (hX.out _).1⟩
end
section
set_option maxHeartbeats 1000000 in
theorem rsame3_c (w : World) (f1 r1 f2 r2 : Int) (ps qs : List Int) (po qo : Option Addr) (c1 c2 : Nat) (h1 : SlcAt w po ps) (h2 : SlcAt w qo qs) (n1 : ps.length ≤ 1000) (n2 : qs.length ≤ 1000) :
    Pure 29 #[bdV f1 r1 po ps.length c1, bdV f2 r2 qo qs.length c2] w (.bool (f1 == f2 && r1 == r2 && (ps == qs))) := by
  obtain ⟨B, hBe⟩ : ∃ B, w.heap.size = B := ⟨_, rfl⟩
  unfold bdV
  by_cases hsz : f1 = f2 ∧ r1 = r2
  · obtain ⟨rfl, rfl⟩ := hsz
    rw [show (f1 == f1 && r1 == r1 && (ps == qs)) = (ps == qs) by simp]
    by_cases hln : ps.length = qs.length
    · have hext := Lib.hid (@list_ext ps qs ps.length rfl hln.symm)
      have hnex := Lib.hid (fun k => @list_nex ps qs k)
      have a1 := Lib.hid (fun k hk => @slc_at w po ps h1 k hk)
      have a2 := Lib.hid (fun k hk => @slc_at w qo qs h2 k hk)
      rw [← hln] at a2 n2 ⊢
      obtain ⟨R, hR⟩ : ∃ R, (ps == qs) = R := ⟨_, rfl⟩
      rw [hR] at hext hnex ⊢
      obtain ⟨n, hn⟩ : ∃ n, ps.length = n := ⟨_, rfl⟩
      rw [hn] at hext a1 a2 n1 ⊢
      clear hR hn hln h1 h2 n2
      unfold Pure
      rw [hBe]
      go_enter Tryz.func29, Tryz.ntmps29
      go_wp2_with fail
      refine start2B hBe ?_
      intro V hN hM hX x
      have y0 := fun z : Ext V.heap.size V => cell_of (below_blk z.2 (hN).out) 0 _ rfl
      have y1 := fun z : Ext V.heap.size V => cell_of (below_blk z.2 (hN).out) 1 _ rfl
      have y2 := fun z : Ext V.heap.size V => cell_of (below_blk z.2 (hN).out) 2 _ rfl
      have u0 := fun z : Ext V.heap.size V => cell_of (below_blk z.2 (hM).out) 0 _ rfl
      have u1 := fun z : Ext V.heap.size V => cell_of (below_blk z.2 (hM).out) 1 _ rfl
      have u2 := fun z : Ext V.heap.size V => cell_of (below_blk z.2 (hM).out) 2 _ rfl
      go_loopw [5] (fun i wr => ∃ (k : Nat) (x : Ext V.heap.size V), wr = x.1 ∧ k ≤ n ∧ i = .int .i64 k ∧ ∀ j, j < k → ps.getD j 0 = qs.getD j 0) (fun i _ => n - (intOf i).toNat)
      case atStart => exact ⟨0, x, rfl, by omega, rfl, fun j h => absurd h (by omega)⟩
      case round =>
        clear x
        obtain ⟨k, x, rfl, hk, rfl, hpre⟩ := hrel
        by_cases hkn : k = n
        · have hRt := hext.out (by rw [← hkn]; exact hpre)
          subst hkn
          go_wp2
          go_ret
          exact ⟨by rw [hRt]; rfl, (hX.out x).1⟩
        · have hkl : k < n := by omega
          obtain ⟨b1, o1, rfl, hc1⟩ := a1.out k hkl
          obtain ⟨b2, o2, rfl, hc2⟩ := a2.out k hkl
          have z1 := fun z : Ext V.heap.size V => below_at (hX.out z).2.2 hc1
          have z2 := fun z : Ext V.heap.size V => below_at (hX.out z).2.2 hc2
          have hnex2 := hnex.out k
          replace hpre := Lib.hid hpre
          obtain ⟨q1, hq1⟩ : ∃ q, ps.getD k 0 = q := ⟨_, rfl⟩
          obtain ⟨q2, hq2⟩ : ∃ q, qs.getD k 0 = q := ⟨_, rfl⟩
          rw [hq1] at z1 hnex2
          rw [hq2] at z2 hnex2
          have hki : ((k : Int) < n) = True := by simp; omega
          replace hq1 := Lib.hid hq1
          replace hq2 := Lib.hid hq2
          replace hnex2 := Lib.hid hnex2
          clear hc1 hc2 hext hnex a1 a2 hkn
          go_wp2_with fail
          by_cases hqq : q1 = q2
          · have d1 : (q1 == q2) = true := by simpa using hqq
            have d2 : (q1 != q2) = false := by simpa using hqq
            refine ext_region' (by kernel_rfl) (by kernel_rfl) ?_
            repeat (first | (go_big_quiet_step (fail)) | ((refine wpQuiet_step (fun K hK => ?_)); go_simp; (first | (refine ⟨_, fun _ => rfl, hK _ ?_⟩) | (refine ⟨_, fun _ => ⟨rfl, rfl⟩, hK _ ?_⟩)); clear hK K))
            refine wpQuiet_nil ?_
            intro x
            go_wp2_with fail
            go_roundw
            case rel => exact ⟨k + 1, x, rfl, by omega, by go_num, fun j hj => by
              rcases Nat.lt_or_ge j k with h | h
              · exact hpre.out j h
              · obtain rfl : j = k := by omega
                rw [hq1.out, hq2.out, hqq]⟩
            case measure => simp [intOf]; omega
          · have d1 : (q1 == q2) = false := by simpa using hqq
            have d2 : (q1 != q2) = true := by simpa using hqq
            have hRf := hnex2.out hqq
            subst hRf
            refine ext_region' (by kernel_rfl) (by kernel_rfl) ?_
            repeat (first | (go_big_quiet_step (fail)) | ((refine wpQuiet_step (fun K hK => ?_)); go_simp; (first | (refine ⟨_, fun _ => rfl, hK _ ?_⟩) | (refine ⟨_, fun _ => ⟨rfl, rfl⟩, hK _ ?_⟩)); clear hK K))
            refine wpQuiet_nil ?_
            intro x
            go_wp2
            go_ret
            exact ⟨rfl, (hX.out x).1⟩
    · rw [list_nel hln]
      have hne : ((ps.length : Int) = qs.length) = False := by simp; omega
      have hne2 : ((ps.length : Int) == qs.length) = false := by simp; omega
      generalize ps.length = m at *
      generalize qs.length = n at *
      clear h1 h2
      unfold Pure
      go_enter Tryz.func29, Tryz.ntmps29
      go_wp2
      all_goals (go_ret; refine ⟨by first | rfl | (simp_all; done), ?_⟩)
      all_goals
        repeat (first | (with_reducible assumption) | (with_reducible exact Below.refl _ _) | (with_reducible apply below_drewN) | (with_reducible apply Below.drew) | (with_reducible apply Below.alloc) | (with_reducible apply Below.setCell))
        all_goals first | omega | (dsimp only; omega) | (simp; done) | (simp; omega)
  · rw [show (f1 == f2 && r1 == r2) = false by simpa using hsz, Bool.false_and]
    generalize ps.length = m at *
    generalize qs.length = n at *
    clear h1 h2
    unfold Pure
    go_enter Tryz.func29, Tryz.ntmps29
    go_wp2
    all_goals first | (exfalso; simp_all; done) | skip
    all_goals (go_ret; refine ⟨by first | rfl | (simp_all; done), ?_⟩)
    all_goals
      repeat (first | (with_reducible assumption) | (with_reducible exact Below.refl _ _) | (with_reducible apply below_drewN) | (with_reducible apply Below.drew) | (with_reducible apply Below.alloc) | (with_reducible apply Below.setCell))
      all_goals first | omega | (dsimp only; omega) | (simp; done) | (simp; omega)
end
section
def sameB (p q : Pos) : Bool := (p.f == q.f && p.r == q.r && (p.ps == q.ps)) && p.black == q.black && p.castle == q.castle && p.passant == q.passant
def eqB (p q : Pos) : Bool := sameB p q && p.half == q.half && p.full == q.full
set_option maxRecDepth 100000 in
set_option maxHeartbeats 2000000 in
theorem rsame6_c (w : World) (p q : Pos) (po qo : Option Addr) (c1 c2 : Nat) (h1 : SlcAt w po p.ps) (h2 : SlcAt w qo q.ps) (n1 : p.ps.length ≤ 1000) (n2 : q.ps.length ≤ 1000) :
    Pure 35 #[.agg (p.cells po c1), .agg (q.cells qo c2)] w (.bool (sameB p q)) := by
  obtain ⟨B, hBe⟩ : ∃ B, w.heap.size = B := ⟨_, rfl⟩
  have co1 := fun W => Lib.hid (rofb_c W p po c1)
  have co2 := fun W => Lib.hid (rofb_c W q qo c2)
  have cs := Lib.hid (fun W (hW : Below w.heap.size w W) => rsame3_c W p.f p.r q.f q.r p.ps q.ps po qo c1 c2 (h1.below hW) (h2.below hW) n1 n2)
  unfold sameB
  generalize (p.f == q.f && p.r == q.r && (p.ps == q.ps)) = S at *
  unfold Pos.cells bdV at *
  unfold Pure
  rw [hBe]
  generalize p.ps.length = m at *
  generalize q.ps.length = n at *
  clear h1 h2
  obtain ⟨f1, r1, ps, bl1, ca1, pa1, ha1, fu1⟩ := p
  obtain ⟨f2, r2, qs, bl2, ca2, pa2, ha2, fu2⟩ := q
  dsimp only at *
  go_enter Tryz.func35, Tryz.ntmps35
  go_wp2_with fail
  refine start2B hBe ?_
  intro V hN hM hX x
  have y0 := fun z : Ext V.heap.size V => cell_of (below_blk z.2 (hN).out) 0 _ rfl
  have y1 := fun z : Ext V.heap.size V => cell_of (below_blk z.2 (hN).out) 1 _ rfl
  have y2 := fun z : Ext V.heap.size V => cell_of (below_blk z.2 (hN).out) 2 _ rfl
  have y3 := fun z : Ext V.heap.size V => cell_of (below_blk z.2 (hN).out) 3 _ rfl
  have y4 := fun z : Ext V.heap.size V => cell_of (below_blk z.2 (hN).out) 4 _ rfl
  have y5 := fun z : Ext V.heap.size V => cell_of (below_blk z.2 (hN).out) 5 _ rfl
  have y6 := fun z : Ext V.heap.size V => cell_of (below_blk z.2 (hN).out) 6 _ rfl
  have y7 := fun z : Ext V.heap.size V => cell_of (below_blk z.2 (hN).out) 7 _ rfl
  have u0 := fun z : Ext V.heap.size V => cell_of (below_blk z.2 (hM).out) 0 _ rfl
  have u1 := fun z : Ext V.heap.size V => cell_of (below_blk z.2 (hM).out) 1 _ rfl
  have u2 := fun z : Ext V.heap.size V => cell_of (below_blk z.2 (hM).out) 2 _ rfl
  have u3 := fun z : Ext V.heap.size V => cell_of (below_blk z.2 (hM).out) 3 _ rfl
  have u4 := fun z : Ext V.heap.size V => cell_of (below_blk z.2 (hM).out) 4 _ rfl
  have u5 := fun z : Ext V.heap.size V => cell_of (below_blk z.2 (hM).out) 5 _ rfl
  have u6 := fun z : Ext V.heap.size V => cell_of (below_blk z.2 (hM).out) 6 _ rfl
  have u7 := fun z : Ext V.heap.size V => cell_of (below_blk z.2 (hM).out) 7 _ rfl
  cases S
  · refine ext_region' (by kernel_rfl) (by kernel_rfl) ?_
    repeat (first | (go_big_quiet_step ((first | (go_at_call 30; first | with_reducible exact Pure.st (co1 _).out | with_reducible exact Pure.st (co2 _).out) | (go_at_call 29; exact Pure.st (cs.out _ (hX.out _).2.2))))) | ((refine wpQuiet_step (fun K hK => ?_)); go_simp; (first | (refine ⟨_, fun _ => rfl, hK _ ?_⟩) | (refine ⟨_, fun _ => ⟨rfl, rfl⟩, hK _ ?_⟩)); clear hK K))
    refine wpQuiet_nil ?_
    intro x
    go_wp2
    go_ret
    exact ⟨by first | rfl | (simp_all; done), (hX.out x).1⟩
  · cases hb : (bl1 == bl2)
    · refine ext_region' (by kernel_rfl) (by kernel_rfl) ?_
      repeat (first | (go_big_quiet_step ((first | (go_at_call 30; first | with_reducible exact Pure.st (co1 _).out | with_reducible exact Pure.st (co2 _).out) | (go_at_call 29; exact Pure.st (cs.out _ (hX.out _).2.2))))) | ((refine wpQuiet_step (fun K hK => ?_)); go_simp; (first | (refine ⟨_, fun _ => rfl, hK _ ?_⟩) | (refine ⟨_, fun _ => ⟨rfl, rfl⟩, hK _ ?_⟩)); clear hK K))
      refine wpQuiet_nil ?_
      intro x
      go_wp2
      go_ret
      exact ⟨by first | rfl | (simp_all; done), (hX.out x).1⟩
    · cases hc : (ca1 == ca2)
      · refine ext_region' (by kernel_rfl) (by kernel_rfl) ?_
        repeat (first | (go_big_quiet_step ((first | (go_at_call 30; first | with_reducible exact Pure.st (co1 _).out | with_reducible exact Pure.st (co2 _).out) | (go_at_call 29; exact Pure.st (cs.out _ (hX.out _).2.2))))) | ((refine wpQuiet_step (fun K hK => ?_)); go_simp; (first | (refine ⟨_, fun _ => rfl, hK _ ?_⟩) | (refine ⟨_, fun _ => ⟨rfl, rfl⟩, hK _ ?_⟩)); clear hK K))
        refine wpQuiet_nil ?_
        intro x
        go_wp2
        go_ret
        exact ⟨by first | rfl | (simp_all; done), (hX.out x).1⟩
      · cases hp : (pa1 == pa2)
        · refine ext_region' (by kernel_rfl) (by kernel_rfl) ?_
          repeat (first | (go_big_quiet_step ((first | (go_at_call 30; first | with_reducible exact Pure.st (co1 _).out | with_reducible exact Pure.st (co2 _).out) | (go_at_call 29; exact Pure.st (cs.out _ (hX.out _).2.2))))) | ((refine wpQuiet_step (fun K hK => ?_)); go_simp; (first | (refine ⟨_, fun _ => rfl, hK _ ?_⟩) | (refine ⟨_, fun _ => ⟨rfl, rfl⟩, hK _ ?_⟩)); clear hK K))
          refine wpQuiet_nil ?_
          intro x
          go_wp2
          go_ret
          exact ⟨by first | rfl | (simp_all; done), (hX.out x).1⟩
        · refine ext_region' (by kernel_rfl) (by kernel_rfl) ?_
          repeat (first | (go_big_quiet_step ((first | (go_at_call 30; first | with_reducible exact Pure.st (co1 _).out | with_reducible exact Pure.st (co2 _).out) | (go_at_call 29; exact Pure.st (cs.out _ (hX.out _).2.2))))) | ((refine wpQuiet_step (fun K hK => ?_)); go_simp; (first | (refine ⟨_, fun _ => rfl, hK _ ?_⟩) | (refine ⟨_, fun _ => ⟨rfl, rfl⟩, hK _ ?_⟩)); clear hK K))
          refine wpQuiet_nil ?_
          intro x
          go_wp2
          go_ret
          exact ⟨by first | rfl | (simp_all; done), (hX.out x).1⟩
end
section
theorem start2Bc {f : FuncId} {args : Array Value} {Q : Ending → World → Prop} {w : World} {o o2 : Obj} {B : Nat} (hB : w.heap.size = B)
    (h : ∀ V : World, Hid (V.heap[B]? = some o) → Hid (V.heap[B + 1]? = some o2) → Hid (∀ x : Ext V.heap.size V, Below B w x.1 ∧ B < x.1.heap.size ∧ Below w.heap.size w x.1) → ∀ x : Ext V.heap.size V, Calls Tryz.prog f args x.1 Q) : Calls Tryz.prog f args ((w.alloc o).alloc o2) Q := by
  subst hB
  refine h _ (Lib.hid (blk_alloc (blk_new rfl o) o2)) (Lib.hid (blk_new (by simp) o2)) (Lib.hid fun x => ?_) ⟨_, Below.refl _ _⟩
  have h1 : Below w.heap.size w x.1 := (((Below.refl w.heap.size w).alloc (Nat.le_refl _) o).alloc (by simp) o2).trans (x.2.mono (by simp; omega))
  exact ⟨h1, Nat.lt_of_lt_of_le (by simp; omega) x.2.size, h1⟩
set_option maxHeartbeats 2000000 in
theorem requal6_c (w : World) (p q : Pos) (po qo : Option Addr) (c1 c2 : Nat) (h1 : SlcAt w po p.ps) (h2 : SlcAt w qo q.ps) (n1 : p.ps.length ≤ 1000) (n2 : q.ps.length ≤ 1000) :
    Pure 24 #[.agg (p.cells po c1), .agg (q.cells qo c2)] w (.bool (eqB p q)) := by
  obtain ⟨B, hBe⟩ : ∃ B, w.heap.size = B := ⟨_, rfl⟩
  have cs := Lib.hid (fun W (hW : Below w.heap.size w W) => rsame6_c W p q po qo c1 c2 (h1.below hW) (h2.below hW) n1 n2)
  unfold eqB
  generalize sameB p q = S at *
  unfold Pos.cells at *
  unfold Pure
  rw [hBe]
  clear h1 h2
  generalize p.ps.length = m at *
  generalize q.ps.length = n at *
  obtain ⟨f1, r1, ps, bl1, ca1, pa1, ha1, fu1⟩ := p
  obtain ⟨f2, r2, qs, bl2, ca2, pa2, ha2, fu2⟩ := q
  dsimp only at *
  go_enter Tryz.func24, Tryz.ntmps24
  go_wp2_with fail
  refine start2Bc hBe ?_
  intro V hN hM hX x
  have y0 := fun z : Ext V.heap.size V => cell_of (below_blk z.2 (hN).out) 0 _ rfl
  have y1 := fun z : Ext V.heap.size V => cell_of (below_blk z.2 (hN).out) 1 _ rfl
  have y2 := fun z : Ext V.heap.size V => cell_of (below_blk z.2 (hN).out) 2 _ rfl
  have y3 := fun z : Ext V.heap.size V => cell_of (below_blk z.2 (hN).out) 3 _ rfl
  have y4 := fun z : Ext V.heap.size V => cell_of (below_blk z.2 (hN).out) 4 _ rfl
  have y5 := fun z : Ext V.heap.size V => cell_of (below_blk z.2 (hN).out) 5 _ rfl
  have y6 := fun z : Ext V.heap.size V => cell_of (below_blk z.2 (hN).out) 6 _ rfl
  have y7 := fun z : Ext V.heap.size V => cell_of (below_blk z.2 (hN).out) 7 _ rfl
  have u0 := fun z : Ext V.heap.size V => cell_of (below_blk z.2 (hM).out) 0 _ rfl
  have u1 := fun z : Ext V.heap.size V => cell_of (below_blk z.2 (hM).out) 1 _ rfl
  have u2 := fun z : Ext V.heap.size V => cell_of (below_blk z.2 (hM).out) 2 _ rfl
  have u3 := fun z : Ext V.heap.size V => cell_of (below_blk z.2 (hM).out) 3 _ rfl
  have u4 := fun z : Ext V.heap.size V => cell_of (below_blk z.2 (hM).out) 4 _ rfl
  have u5 := fun z : Ext V.heap.size V => cell_of (below_blk z.2 (hM).out) 5 _ rfl
  have u6 := fun z : Ext V.heap.size V => cell_of (below_blk z.2 (hM).out) 6 _ rfl
  have u7 := fun z : Ext V.heap.size V => cell_of (below_blk z.2 (hM).out) 7 _ rfl
  refine (Pure.st (cs.out _ (hX.out x).2.2)).mono ?_
  rintro e _ ⟨rfl, x, rfl⟩
  go_wp2
  all_goals (go_ret; exact ⟨by first | rfl | (simp_all; done), (hX.out x).1⟩)
end
section
set_option maxRecDepth 100000 in
set_option maxHeartbeats 2000000 in
theorem rvalid6_y (w : World) (p : Pos) (b off cap : Nat) (hP0 : PcAt w b off p.ps) (ho : orthB p.f p.r p.ps = true) (hc : 0 ≤ p.castle ∧ p.castle ≤ 255)
    (hk1 : 0 ≤ kingR p.ps false) (hk2 : 0 ≤ kingR p.ps true) (hA : (attL p.f p.r p.ps (kingR p.ps (!p.black)) (!!p.black)).isEmpty = true) :
    Pure 19 #[.agg (p.cells (some ⟨b, off, none⟩) cap)] w (.bool (pawnsR p && p.castles && passR p && p.counts)) := by
  obtain ⟨B, hBe⟩ : ∃ B, w.heap.size = B := ⟨_, rfl⟩
  have hbv : bvalid p.f p.r p.ps = true := by unfold orthB at ho; rw [Bool.and_eq_true] at ho; exact ho.1
  obtain ⟨hv, hlen, h64⟩ := bvalid_len hbv
  obtain ⟨f1, f2, r1, r2⟩ := vsize_bd hv
  have hS0 : SlcAt w (some ⟨b, off, none⟩) p.ps := .inr ⟨b, off, rfl, hP0⟩
  have cof := fun W => Lib.hid (rofb_c W p (some ⟨b, off, none⟩) cap)
  have co := Lib.hid (fun W (hW : Below w.heap.size w W) => (rorth_c W p.f p.r p.ps _ cap (hS0.below hW) (by omega)).of_eq (show _ = Value.bool true by rw [ho]))
  have ck1 := Lib.hid (fun W (hW : Below w.heap.size w W) => rking_c W p.f p.r p.ps _ cap false (hS0.below hW) (by omega))
  have ck2 := Lib.hid (fun W (hW : Below w.heap.size w W) => rking_c W p.f p.r p.ps _ cap true (hS0.below hW) (by omega))
  have cch := Lib.hid (fun W (hW : Below w.heap.size w W) => (rcheck_c W p.f p.r p.ps b off cap (!p.black) (hP0.below hW) ho (by cases p.black <;> assumption)).of_eq (show _ = Value.bool false by rw [hA]; rfl))
  have cca := Lib.hid (fun W (hW : Below w.heap.size w W) => rcastle_c W p b off cap (hP0.below hW) hbv hc)
  have cpa := Lib.hid (fun W (hW : Below w.heap.size w W) => rpass_c W p b off cap (hP0.below hW) hlen)
  have cpl := fun (k : Nat) (hk : k ≤ 64) W => rplace_c W p.f p.r k hv (by omega) (by omega)
  have cla := fun bl W => rlast_c W p.f p.r bl (by omega) (by omega)
  have hpm := fun i hi h => pawns_miss (p := p) (i := i) hi h
  have hph := fun h => pawns_hit (p := p) rfl h
  have horth := fun i h => orthB_at ho (getD_at' (ps := p.ps) (i := i) h)
  have hcell := fun i h => hP0 i _ (getD_at' (ps := p.ps) (i := i) h)
  have hbad : ∀ i, pawnBad p i = (kindI (p.ps.getD i 0) == 1 && (i : Int) / p.f == (if decide (p.ps.getD i 0 < 0) then 0 else p.r - 1)) := fun i => rfl
  have d1 : decide (kingR p.ps false < 0) = false := by simpa using hk1
  have d2 : decide (kingR p.ps true < 0) = false := by simpa using hk2
  have hcts : p.counts = (decide (0 ≤ p.half) && decide (p.half ≤ 10000) && decide (1 ≤ p.full) && decide (p.full ≤ 10000)) := rfl
  obtain ⟨R, hR⟩ : ∃ R, (pawnsR p && p.castles && passR p && p.counts) = R := ⟨_, rfl⟩
  rw [hR]
  rw [hcts] at hR
  generalize kingR p.ps false = k1 at *
  generalize kingR p.ps true = k2 at *
  generalize p.castles = ca at *
  generalize passR p = pr at *
  unfold bdV at *
  unfold Pos.cells pointV at *
  unfold Pure
  rw [hBe]
  obtain ⟨n, hn⟩ : ∃ n, p.ps.length = n := ⟨_, rfl⟩
  simp only [hn] at cof co ck1 ck2 cch cca cpa hpm hph horth hcell h64 ⊢
  replace hn := Lib.hid hn
  replace hR := Lib.hid hR
  replace hpm := Lib.hid hpm
  replace hph := Lib.hid hph
  replace horth := Lib.hid horth
  replace hcell := Lib.hid hcell
  replace hbad := Lib.hid hbad
  replace cpl := Lib.hid cpl
  replace cla := Lib.hid cla
  clear ho hS0 hbv hP0 hv hA hcts hc hlen
  go_enter Tryz.func19, Tryz.ntmps19
  go_wp2_with fail
  refine start1Bc hBe ?_
  intro V hN hX x
  have y0 := fun z : Ext V.heap.size V => cell_of (below_blk z.2 (hN).out) 0 _ rfl
  have y1 := fun z : Ext V.heap.size V => cell_of (below_blk z.2 (hN).out) 1 _ rfl
  have y2 := fun z : Ext V.heap.size V => cell_of (below_blk z.2 (hN).out) 2 _ rfl
  have y3 := fun z : Ext V.heap.size V => cell_of (below_blk z.2 (hN).out) 3 _ rfl
  have y4 := fun z : Ext V.heap.size V => cell_of (below_blk z.2 (hN).out) 4 _ rfl
  have y5 := fun z : Ext V.heap.size V => cell_of (below_blk z.2 (hN).out) 5 _ rfl
  have y6 := fun z : Ext V.heap.size V => cell_of (below_blk z.2 (hN).out) 6 _ rfl
  have y7 := fun z : Ext V.heap.size V => cell_of (below_blk z.2 (hN).out) 7 _ rfl
  refine (Pure.st (cof _).out).mono ?_
  rintro e _ ⟨rfl, x, rfl⟩
  go_wp2_with fail
  refine boxed_c ?_
  intro G V2 hG hV2 hP
  rw [hG]
  replace hX := Lib.hid (fun z : Ext V2.heap.size V2 => (show Below B w z.1 ∧ B < z.1.heap.size ∧ Below w.heap.size w z.1 from hX.out ⟨z.1, hV2.trans (z.2.mono hV2.size)⟩))
  replace hN := Lib.hid (below_blk hV2 hN.out)
  replace hP := Lib.hid hP
  clear y0 y1 y2 y3 y4 y5 y6 y7 hV2 hG x cof
  obtain ⟨V, hVe⟩ : ∃ V, V = V2 := ⟨_, rfl⟩
  subst hVe
  intro x
  have y0 := fun z : Ext V.heap.size V => cell_of (below_blk z.2 (hN).out) 0 _ rfl
  have y1 := fun z : Ext V.heap.size V => cell_of (below_blk z.2 (hN).out) 1 _ rfl
  have y2 := fun z : Ext V.heap.size V => cell_of (below_blk z.2 (hN).out) 2 _ rfl
  have y3 := fun z : Ext V.heap.size V => cell_of (below_blk z.2 (hN).out) 3 _ rfl
  have y4 := fun z : Ext V.heap.size V => cell_of (below_blk z.2 (hN).out) 4 _ rfl
  have y5 := fun z : Ext V.heap.size V => cell_of (below_blk z.2 (hN).out) 5 _ rfl
  have y6 := fun z : Ext V.heap.size V => cell_of (below_blk z.2 (hN).out) 6 _ rfl
  have y7 := fun z : Ext V.heap.size V => cell_of (below_blk z.2 (hN).out) 7 _ rfl
  have u0 := fun z : Ext V.heap.size V => cell_of (below_blk z.2 (hP).out) 0 _ rfl
  have u1 := fun z : Ext V.heap.size V => cell_of (below_blk z.2 (hP).out) 1 _ rfl
  have u2 := fun z : Ext V.heap.size V => cell_of (below_blk z.2 (hP).out) 2 _ rfl
  refine (Pure.st (co.out _ (hX.out x).2.2)).mono ?_
  rintro e _ ⟨rfl, x, rfl⟩
  go_wp2_with fail
  refine (Pure.st (ck1.out _ (hX.out x).2.2)).mono ?_
  rintro e _ ⟨rfl, x, rfl⟩
  go_wp2_with fail
  refine (Pure.st (ck2.out _ (hX.out x).2.2)).mono ?_
  rintro e _ ⟨rfl, x, rfl⟩
  go_wp2_with fail
  refine (Pure.st (cch.out _ (hX.out x).2.2)).mono ?_
  rintro e _ ⟨rfl, x, rfl⟩
  go_wp2_with fail
  clear co ck1 ck2 cch d1 d2 u0 u1 u2
  go_loopw [4] (fun i wr => ∃ (k : Nat) (x : Ext V.heap.size V), wr = x.1 ∧ k ≤ n ∧ i = .int .i64 k ∧ ∀ j, j < k → pawnBad p j = false) (fun i _ => n - (intOf i).toNat)
  case atStart => exact ⟨0, x, rfl, by omega, rfl, fun j h => absurd h (by omega)⟩
  case round =>
    clear x
    obtain ⟨k, x, rfl, hk, rfl, hpre⟩ := hrel
    replace hpre := Lib.hid hpre
    by_cases hkn : k = n
    · have hpt := hph.out (by rw [← hkn]; exact hpre.out)
      have hR2 := hR.out
      rw [hpt, Bool.true_and] at hR2
      replace hR2 := Lib.hid hR2
      subst hkn
      replace hpt := Lib.hid hpt
      go_wp2_with fail
      cases ca
      · refine (Pure.st (cca.out _ (hX.out x).2.2)).mono ?_
        rintro e _ ⟨rfl, x, rfl⟩
        go_wp2_with fail
        go_ret
        exact ⟨by rw [← hR2.out]; simp, (hX.out x).1⟩
      · refine (Pure.st (cca.out _ (hX.out x).2.2)).mono ?_
        rintro e _ ⟨rfl, x, rfl⟩
        go_wp2_with fail
        cases pr
        · refine (Pure.st (cpa.out _ (hX.out x).2.2)).mono ?_
          rintro e _ ⟨rfl, x, rfl⟩
          go_wp2_with fail
          go_ret
          exact ⟨by rw [← hR2.out]; simp, (hX.out x).1⟩
        · refine (Pure.st (cpa.out _ (hX.out x).2.2)).mono ?_
          rintro e _ ⟨rfl, x, rfl⟩
          go_wp2_with fail
          all_goals
            go_ret
            exact ⟨by rw [← hR2.out]; first | (simp_all; done) | (simp_all; omega), (hX.out x).1⟩
    · have hkl : k < n := by omega
      have hbk := hbad.out k
      have hcl := hcell.out k hkl
      obtain ⟨q1, q2⟩ := horth.out k hkl
      generalize p.ps.getD k 0 = q at *
      have z0 := fun z : Ext V.heap.size V => below_at (hX.out z).2.2 hcl
      have ckd := fun W => Lib.hid (rkind_c W q (by omega) (by omega))
      have cpl2 := fun W => Lib.hid (cpl.out k (by omega) W)
      have cla2 := fun W => Lib.hid (cla.out (decide (q < 0)) W)
      have hpm2 := Lib.hid (fun h => hpm.out k hkl h)
      have hki : ((k : Int) < n) = True := by simp; omega
      generalize (if decide (q < 0) = true then 0 else p.r - 1) = lst at *
      generalize kindI q = kd at *
      obtain ⟨kf, hkf⟩ : ∃ x, (k : Int) % p.f = x := ⟨_, rfl⟩
      obtain ⟨kr, hkr⟩ : ∃ x, (k : Int) / p.f = x := ⟨_, rfl⟩
      rw [hkr] at hbk
      simp only [hkf, hkr] at cpl2
      replace hkf := Lib.hid hkf
      replace hkr := Lib.hid hkr
      replace hbk := Lib.hid hbk
      clear hcl hkn cpl cla hpm
      have cpl := cpl2
      have cla := cla2
      clear cpl2 cla2
      go_wp2_with fail
      cases t1 : (kd == 1)
      · refine ext_region' (by kernel_rfl) (by kernel_rfl) ?_
        repeat (first | (go_big_quiet_step ((first | (go_at_call 66; exact Same.st (ckd _).out) | (go_at_call 67; exact Pure.st (cpl _).out) | (go_at_call 68; exact Pure.st (cla _).out)))) | ((refine wpQuiet_step (fun K hK => ?_)); go_simp; (first | (refine ⟨_, fun _ => rfl, hK _ ?_⟩) | (refine ⟨_, fun _ => ⟨rfl, rfl⟩, hK _ ?_⟩)); clear hK K))
        refine wpQuiet_nil ?_
        intro x
        replace t1 := Lib.hid t1
        have t2 := Lib.hid (show (kr == lst) = (kr == lst) from rfl)
        replace hpre := Lib.hid (fun j (hj : j < k + 1) => (show pawnBad p j = false by
          rcases Nat.lt_or_ge j k with h | h
          · exact hpre.out j h
          · obtain rfl : j = k := by omega
            rw [hbk.out]; simp [t1.out, t2.out]))
        go_wp2_with fail
        go_roundw
        case rel => exact ⟨k + 1, x, rfl, by omega, by go_num, hpre.out⟩
        case measure => simp [intOf]; omega
      · cases t2 : (kr == lst)
        · refine ext_region' (by kernel_rfl) (by kernel_rfl) ?_
          repeat (first | (go_big_quiet_step ((first | (go_at_call 66; exact Same.st (ckd _).out) | (go_at_call 67; exact Pure.st (cpl _).out) | (go_at_call 68; exact Pure.st (cla _).out)))) | ((refine wpQuiet_step (fun K hK => ?_)); go_simp; (first | (refine ⟨_, fun _ => rfl, hK _ ?_⟩) | (refine ⟨_, fun _ => ⟨rfl, rfl⟩, hK _ ?_⟩)); clear hK K))
          refine wpQuiet_nil ?_
          intro x
          replace t1 := Lib.hid t1
          replace t2 := Lib.hid t2
          replace hpre := Lib.hid (fun j (hj : j < k + 1) => (show pawnBad p j = false by
            rcases Nat.lt_or_ge j k with h | h
            · exact hpre.out j h
            · obtain rfl : j = k := by omega
              rw [hbk.out]; simp [t1.out, t2.out]))
          go_wp2_with fail
          go_roundw
          case rel => exact ⟨k + 1, x, rfl, by omega, by go_num, hpre.out⟩
          case measure => simp [intOf]; omega
        · have hpf := hpm2.out (by rw [hbk.out, t1, t2]; rfl)
          have hR2 := hR.out
          rw [hpf, Bool.false_and, Bool.false_and, Bool.false_and] at hR2
          subst hR2
          replace hpf := Lib.hid hpf
          refine ext_region' (by kernel_rfl) (by kernel_rfl) ?_
          repeat (first | (go_big_quiet_step ((first | (go_at_call 66; exact Same.st (ckd _).out) | (go_at_call 67; exact Pure.st (cpl _).out) | (go_at_call 68; exact Pure.st (cla _).out)))) | ((refine wpQuiet_step (fun K hK => ?_)); go_simp; (first | (refine ⟨_, fun _ => rfl, hK _ ?_⟩) | (refine ⟨_, fun _ => ⟨rfl, rfl⟩, hK _ ?_⟩)); clear hK K))
          refine wpQuiet_nil ?_
          intro x
          go_wp2
          go_ret
          exact ⟨rfl, (hX.out x).1⟩
end
section
theorem bit_or (S s a : Nat) : (S ||| 2 ^ s).testBit a = (S.testBit a || decide (s = a)) := by
  rw [Nat.testBit_or, Nat.testBit_two_pow]
theorem orL_bit (l : List Nat) (a : Nat) : ∀ S, (orL S l).testBit a = (S.testBit a || decide (a ∈ l)) := by
  induction l with
  | nil => intro S; simp [orL]
  | cons x l ih =>
    intro S
    show (orL (S ||| 2 ^ x) l).testBit a = _
    rw [ih, bit_or, Bool.or_assoc]
    congr 1
    rw [Bool.eq_iff_iff]
    simp only [Bool.or_eq_true, decide_eq_true_eq, List.mem_cons]
    constructor
    · rintro (h | h)
      · exact .inl h.symm
      · exact .inr h
    · rintro (h | h)
      · exact .inl h.symm
      · exact .inr h
theorem sq_xy {f r a X Y : Int} (hv : vsize f r = true) (h : onB f r X Y = true) (ha : 0 ≤ a) : sqn f X Y = a.toNat ↔ X = a % f ∧ Y = a / f := by
  obtain ⟨f1, f2, r1, r2⟩ := vsize_bd hv
  obtain ⟨x1, x2, y1, y2⟩ := onB_bd h
  have hs := (sqn_lt hv h).2
  have e := Int.mul_ediv_add_emod a f
  constructor
  · intro h2
    have h3 : X + Y * f = a := by rw [← hs, h2]; omega
    have h4 : a % f = X := by rw [← h3, Int.add_mul_emod_self_right]; exact Int.emod_eq_of_lt x1 x2
    have h5 : a / f = Y := by rw [← h3, Int.add_mul_ediv_right _ _ (by omega), Int.ediv_eq_zero_of_lt x1 x2]; omega
    exact ⟨h4.symm, h5.symm⟩
  · rintro ⟨rfl, rfl⟩
    have : ((sqn f (a % f) (a / f) : Nat) : Int) = a := by rw [hs, Int.mul_comm]; omega
    omega
theorem on_xy {f r a : Int} (hq : vsq f r a = true) : onB f r (a % f) (a / f) = true := by
  obtain ⟨h1, h2, _, h4, h5⟩ := pass_rank hq
  unfold onB
  simp
  omega
theorem leap_bit {f r a : Int} (hv : vsize f r = true) (hq : vsq f r a = true) (x y : Int) (L : List (Int × Int)) : ∀ S, (L.foldl (addS f r x y) S).testBit a.toNat = (S.testBit a.toNat || L.any fun d => x + d.1 == a % f && y + d.2 == a / f) := by
  induction L with
  | nil => intro S; simp
  | cons d L ih =>
    intro S
    rw [List.foldl_cons, ih, List.any_cons, ← Bool.or_assoc]
    congr 1
    unfold addS
    have ha := (vsq_bd hq).2.1
    cases ho : onB f r (x + d.1) (y + d.2)
    · rw [if_neg (by simp)]
      have : (x + d.1 == a % f && y + d.2 == a / f) = false := by
        rw [← Bool.not_eq_true]
        intro h
        simp only [Bool.and_eq_true, beq_iff_eq] at h
        rw [h.1, h.2, on_xy hq] at ho
        cases ho
      rw [this, Bool.or_false]
    · rw [if_pos rfl, bit_or]
      congr 1
      rw [Bool.eq_iff_iff]
      simp only [decide_eq_true_eq, Bool.and_eq_true, beq_iff_eq]
      exact sq_xy hv ho ha
theorem leapS_bit {f r i a : Int} (hv : vsize f r = true) (hq : vsq f r a = true) (L : List (Int × Int)) : (leapS f r i L).testBit a.toNat = L.any fun d => d.1 == a % f - i % f && d.2 == a / f - i / f := by
  unfold leapS
  rw [leap_bit hv hq, Nat.zero_testBit, Bool.false_or]
  congr 1
  funext d
  rw [Bool.eq_iff_iff]
  simp only [Bool.and_eq_true, beq_iff_eq]
  omega
theorem knight_all : ((List.range 15).all fun x => (List.range 15).all fun y => (leapsL.any fun d => d.1 == (x : Int) - 7 && d.2 == (y : Int) - 7) == (((x : Int) - 7) * ((x : Int) - 7) + ((y : Int) - 7) * ((y : Int) - 7) == 5)) = true := by kernel_rfl
theorem king_all : ((List.range 15).all fun x => (List.range 15).all fun y => ((diagL.any fun d => d.1 == (x : Int) - 7 && d.2 == (y : Int) - 7) || (strL.any fun d => d.1 == (x : Int) - 7 && d.2 == (y : Int) - 7)) == (max (kindI (7 - (x : Int))) (kindI (7 - (y : Int))) == 1)) = true := by kernel_rfl
theorem diffs {f r i a : Int} (hi : vsq f r i = true) (ha : vsq f r a = true) : ∃ x y : Nat, x < 15 ∧ y < 15 ∧ a % f - i % f = (x : Int) - 7 ∧ a / f - i / f = (y : Int) - 7 := by
  obtain ⟨h1, h2, _, h4, h5⟩ := pass_rank hi
  obtain ⟨g1, g2, _, g4, g5⟩ := pass_rank ha
  obtain ⟨f1, f2, r1, r2⟩ := vsize_bd (vsq_bd hi).1
  exact ⟨(a % f - i % f + 7).toNat, (a / f - i / f + 7).toNat, by omega, by omega, by omega, by omega⟩
theorem knight_bit {f r i a : Int} (hi : vsq f r i = true) (ha : vsq f r a = true) : (leapS f r i leapsL).testBit a.toNat = ((a % f - i % f) * (a % f - i % f) + (a / f - i / f) * (a / f - i / f) == 5) := by
  rw [leapS_bit (vsq_bd hi).1 ha]
  obtain ⟨x, y, hx, hy, e1, e2⟩ := diffs hi ha
  rw [e1, e2]
  have := List.all_eq_true.1 (List.all_eq_true.1 knight_all x (List.mem_range.2 hx)) y (List.mem_range.2 hy)
  simpa using this
theorem king_bit {f r i a : Int} (hi : vsq f r i = true) (ha : vsq f r a = true) : (kingS f r i).testBit a.toNat = (distI f i a == 1) := by
  unfold kingS distI
  rw [Nat.testBit_or, leapS_bit (vsq_bd hi).1 ha, leapS_bit (vsq_bd hi).1 ha]
  obtain ⟨x, y, hx, hy, e1, e2⟩ := diffs hi ha
  rw [e1, e2, show i % f - a % f = 7 - (x : Int) by omega, show i / f - a / f = 7 - (y : Int) by omega]
  have := List.all_eq_true.1 (List.all_eq_true.1 king_all x (List.mem_range.2 hx)) y (List.mem_range.2 hy)
  simpa using this
theorem dist_self (f a : Int) : distI f a a = 0 := by unfold distI kindI; simp
theorem pawn_bit {f r i a : Int} (bl : Bool) (hi : vsq f r i = true) (ha : vsq f r a = true) : (pawnS f r bl i).testBit a.toNat = (castL (pawnL f r bl i)).contains a := by
  unfold pawnS
  rw [leapS_bit (vsq_bd hi).1 ha]
  have e : (castL (pawnL f r bl i)).contains a = pawnB f bl i a := by
    obtain ⟨hv, a0, a1⟩ := vsq_bd ha
    rw [Bool.eq_iff_iff, List.contains_iff_mem]
    unfold castL pawnL cntN
    rw [List.mem_map]
    constructor
    · rintro ⟨n, hn, rfl⟩
      exact (List.mem_filter.1 hn).2
    · intro h
      refine ⟨a.toNat, List.mem_filter.2 ⟨List.mem_range.2 (by omega), ?_⟩, by omega⟩
      rw [show ((a.toNat : Nat) : Int) = a by omega]
      exact h
  rw [e]
  unfold pawnB
  rw [Bool.eq_iff_iff]
  simp only [List.any_cons, List.any_nil, Bool.or_false, Bool.or_eq_true, Bool.and_eq_true, beq_iff_eq]
  omega
theorem hit_mem (occ : Nat) (a : Nat) : ∀ l : List Nat, a ∈ hitL occ l ↔ a ∈ l ∧ ∀ s ∈ l.takeWhile (fun x => x != a), occ.testBit s = false := by
  intro l
  induction l with
  | nil => simp [hitL]
  | cons x l ih =>
    by_cases hx : x = a
    · subst hx
      have : x ∈ hitL occ (x :: l) := by
        unfold hitL
        split <;> simp
      simp [this]
    · have hxa : ¬ a = x := fun e => hx e.symm
      rw [List.takeWhile_cons, if_pos (by simpa using hx)]
      cases ho : occ.testBit x
      · have e : hitL occ (x :: l) = x :: hitL occ l := by
          rw [hitL, if_neg (by rw [ho]; simp)]
        rw [e, List.mem_cons, ih]
        simp [hxa, ho]
      · have e : hitL occ (x :: l) = [x] := by
          rw [hitL, if_pos ho]
        rw [e]
        simp [hxa, ho]
theorem ray_mem {f r dx dy : Int} (n : Nat) : ∀ (x y : Int) (s : Nat), s ∈ rayN f r dx dy n x y → ∃ k : Nat, 1 ≤ k ∧ k ≤ n ∧ onB f r (x + k * dx) (y + k * dy) = true ∧ s = sqn f (x + k * dx) (y + k * dy) := by
  induction n with
  | zero => intro x y s h; simp [rayN] at h
  | succ n ih =>
    intro x y s h
    unfold rayN at h
    split at h
    · rename_i ho
      rcases List.mem_cons.1 h with rfl | h
      · exact ⟨1, by omega, by omega, by simpa using ho, by simp⟩
      · obtain ⟨k, h1, h2, h3, h4⟩ := ih _ _ _ h
        have ex : x + dx + (k : Int) * dx = x + ((k + 1 : Nat) : Int) * dx := by push_cast; rw [Int.add_mul]; omega
        have ey : y + dy + (k : Int) * dy = y + ((k + 1 : Nat) : Int) * dy := by push_cast; rw [Int.add_mul]; omega
        rw [ex, ey] at h3 h4
        exact ⟨k + 1, by omega, by omega, h3, h4⟩
    · cases h
theorem ray_on {f r dx dy : Int} (n : Nat) : ∀ (x y : Int) (k : Nat), 1 ≤ k → k ≤ n → (∀ j : Nat, 1 ≤ j → j ≤ k → onB f r (x + j * dx) (y + j * dy) = true) → sqn f (x + k * dx) (y + k * dy) ∈ rayN f r dx dy n x y := by
  induction n with
  | zero => intro x y k h1 h2; omega
  | succ n ih =>
    intro x y k h1 h2 h
    unfold rayN
    have ho := h 1 (by omega) h1
    simp only [Int.natCast_one, Int.one_mul] at ho
    rw [if_pos ho]
    rcases Nat.lt_or_ge 1 k with hk | hk
    · obtain ⟨m, rfl⟩ : ∃ m, k = m + 1 := ⟨k - 1, by omega⟩
      refine List.mem_cons_of_mem _ ?_
      have hx : ∀ j : Nat, x + ((j + 1 : Nat) : Int) * dx = x + dx + (j : Int) * dx := fun j => by push_cast; rw [Int.add_mul]; omega
      have hy : ∀ j : Nat, y + ((j + 1 : Nat) : Int) * dy = y + dy + (j : Int) * dy := fun j => by push_cast; rw [Int.add_mul]; omega
      rw [hx, hy]
      refine ih _ _ m (by omega) (by omega) fun j j1 j2 => ?_
      rw [← hx, ← hy]
      exact h (j + 1) (by omega) (by omega)
    · obtain rfl : k = 1 := by omega
      simp
end
section
theorem line_iff {f i a : Int} : lineB f i a = true ↔ i ≠ a ∧ (a % f - i % f = 0 ∨ a / f - i / f = 0 ∨ a % f - i % f = a / f - i / f ∨ a % f - i % f + (a / f - i / f) = 0) := by
  unfold lineB
  simp [or_assoc]
theorem ray_dir {f r i a dx dy : Int} (hi : vsq f r i = true) (ha : vsq f r a = true) (d1 : -1 ≤ dx) (d2 : dx ≤ 1) (d3 : -1 ≤ dy) (d4 : dy ≤ 1) (d0 : dx ≠ 0 ∨ dy ≠ 0) (h : a.toNat ∈ rayL f r i dx dy) :
    lineB f i a = true ∧ sgnI (a % f - i % f) = dx ∧ sgnI (a / f - i / f) = dy := by
  obtain ⟨k, h1, h2, h3, h4⟩ := ray_mem 8 _ _ _ h
  obtain ⟨e1, e2⟩ := (sq_xy (vsq_bd hi).1 h3 (vsq_bd ha).2.1).1 h4.symm
  have hne : a % f - i % f ≠ 0 ∨ a / f - i / f ≠ 0 → i ≠ a := by
    rintro h e
    subst e
    omega
  rw [line_iff]
  unfold sgnI
  obtain rfl | rfl | rfl : dx = -1 ∨ dx = 0 ∨ dx = 1 := by omega
  all_goals
    obtain rfl | rfl | rfl : dy = -1 ∨ dy = 0 ∨ dy = 1 := by omega
    all_goals first
      | (exfalso; omega)
      | (refine ⟨⟨hne (by omega), by omega⟩, ?_, ?_⟩ <;> (split <;> (try split) <;> omega))
theorem ray_conv {f r i a : Int} (hi : vsq f r i = true) (ha : vsq f r a = true) (h : lineB f i a = true) : a.toNat ∈ rayL f r i (sgnI (a % f - i % f)) (sgnI (a / f - i / f)) := by
  obtain ⟨hne, hl⟩ := line_iff.1 h
  have hd : a % f - i % f ≠ 0 ∨ a / f - i / f ≠ 0 := by
    rcases Decidable.em (a % f - i % f = 0) with h1 | h1
    · right
      intro h2
      exact hne (pt_eq (f := f) (by omega) (by omega))
    · exact .inl h1
  obtain ⟨h1, h2, _, h4, h5⟩ := pass_rank hi
  obtain ⟨g1, g2, _, g4, g5⟩ := pass_rank ha
  obtain ⟨f1, f2, r1, r2⟩ := vsize_bd (vsq_bd hi).1
  have key : ∀ (dx dy : Int) (k : Nat), 1 ≤ k → k ≤ 8 → i % f + k * dx = a % f → i / f + k * dy = a / f → (∀ j : Nat, 1 ≤ j → j ≤ k → onB f r (i % f + j * dx) (i / f + j * dy) = true) → a.toNat ∈ rayL f r i dx dy := by
    intro dx dy k k1 k2 e1 e2 ho
    have := ray_on (f := f) (r := r) (dx := dx) (dy := dy) 8 (i % f) (i / f) k k1 k2 ho
    rw [e1, e2, (sq_xy (vsq_bd hi).1 (on_xy ha) (vsq_bd ha).2.1).2 ⟨rfl, rfl⟩] at this
    exact this
  unfold sgnI
  generalize a % f = ax at *
  generalize a / f = ay at *
  generalize i % f = ix at *
  generalize i / f = iy at *
  have hon : ∀ x y : Int, (0 ≤ x ∧ x < f ∧ 0 ≤ y ∧ y < r) → onB f r x y = true := fun x y h => by unfold onB; simp; omega
  rcases (by omega : ax - ix < 0 ∨ ax - ix = 0 ∨ 0 < ax - ix) with hx | hx | hx
  · rcases (by omega : ay - iy < 0 ∨ ay - iy = 0 ∨ 0 < ay - iy) with hy | hy | hy
    · rw [if_pos hx, if_pos hy]
      exact key _ _ (ix - ax).toNat (by omega) (by omega) (by omega) (by omega) (fun j j1 j2 => hon _ _ (by omega))
    · rw [if_pos hx, if_neg (by omega), if_neg (by omega)]
      exact key _ _ (ix - ax).toNat (by omega) (by omega) (by omega) (by omega) (fun j j1 j2 => hon _ _ (by omega))
    · rw [if_pos hx, if_neg (by omega), if_pos hy]
      exact key _ _ (ix - ax).toNat (by omega) (by omega) (by omega) (by omega) (fun j j1 j2 => hon _ _ (by omega))
  · rcases (by omega : ay - iy < 0 ∨ 0 < ay - iy) with hy | hy
    · rw [if_neg (by omega), if_neg (by omega), if_pos hy]
      exact key _ _ (iy - ay).toNat (by omega) (by omega) (by omega) (by omega) (fun j j1 j2 => hon _ _ (by omega))
    · rw [if_neg (by omega), if_neg (by omega), if_neg (by omega), if_pos hy]
      exact key _ _ (ay - iy).toNat (by omega) (by omega) (by omega) (by omega) (fun j j1 j2 => hon _ _ (by omega))
  · rcases (by omega : ay - iy < 0 ∨ ay - iy = 0 ∨ 0 < ay - iy) with hy | hy | hy
    · rw [if_neg (by omega), if_pos hx, if_pos hy]
      exact key _ _ (ax - ix).toNat (by omega) (by omega) (by omega) (by omega) (fun j j1 j2 => hon _ _ (by omega))
    · rw [if_neg (by omega), if_pos hx, if_neg (by omega), if_neg (by omega)]
      exact key _ _ (ax - ix).toNat (by omega) (by omega) (by omega) (by omega) (fun j j1 j2 => hon _ _ (by omega))
    · rw [if_neg (by omega), if_pos hx, if_neg (by omega), if_pos hy]
      exact key _ _ (ax - ix).toNat (by omega) (by omega) (by omega) (by omega) (fun j j1 j2 => hon _ _ (by omega))
theorem slide_bit' (f r i : Int) (occ a : Nat) (L : List (Int × Int)) : ∀ S, (L.foldl (slideD f r i occ) S).testBit a = (S.testBit a || L.any fun d => decide (a ∈ hitL occ (rayL f r i d.1 d.2))) := by
  induction L with
  | nil => intro S; simp
  | cons d L ih =>
    intro S
    rw [List.foldl_cons, ih, List.any_cons, ← Bool.or_assoc]
    congr 1
    unfold slideD
    exact orL_bit _ _ _
theorem takeWhile_cast (l : List Nat) (a : Int) (ha : 0 ≤ a) : (castL l).takeWhile (fun x => x != a) = castL (l.takeWhile fun x => x != a.toNat) := by
  induction l with
  | nil => rfl
  | cons x l ih =>
    unfold castL at ih ⊢
    rw [List.map_cons, List.takeWhile_cons, List.takeWhile_cons]
    by_cases h : x = a.toNat
    · rw [if_neg (by simp; omega), if_neg (by simpa using h)]
      rfl
    · rw [if_pos (by simp; omega), if_pos (by simpa using h), List.map_cons, ih]
theorem free_ray {f r i a dx dy : Int} {occ : Nat} (hv : vsize f r = true) (ha : 0 ≤ a) (h : a.toNat ∈ rayL f r i dx dy) :
    freeB (betw (rayI f r i dx dy) a) occ = decide (a.toNat ∈ hitL occ (rayL f r i dx dy)) := by
  have hc : (rayI f r i dx dy).contains a = true := by
    rw [List.contains_iff_mem]
    unfold rayI
    exact List.mem_map.2 ⟨a.toNat, h, by omega⟩
  unfold betw
  rw [if_pos hc, show rayI f r i dx dy = castL (rayL f r i dx dy) from rfl, takeWhile_cast _ _ ha, Bool.eq_iff_iff, decide_eq_true_eq, hit_mem]
  unfold freeB castL
  rw [List.all_eq_true]
  constructor
  · intro hall
    refine ⟨h, fun s hs => ?_⟩
    have h1 := hall (s : Int) (List.mem_map.2 ⟨s, hs, rfl⟩)
    have h2 := rayN_bd hv 8 _ _ s ((List.takeWhile_sublist _).subset hs)
    simp at h1
    rcases h1 with h1 | h1
    · omega
    · exact h1
  · rintro ⟨_, hall⟩ x hx
    obtain ⟨s, hs, rfl⟩ := List.mem_map.1 hx
    have := hall s hs
    simp [this]
theorem slide_bit {f r i a : Int} {occ : Nat} (hi : vsq f r i = true) (ha : vsq f r a = true) (L : List (Int × Int)) (hL : ∀ d ∈ L, -1 ≤ d.1 ∧ d.1 ≤ 1 ∧ -1 ≤ d.2 ∧ d.2 ≤ 1 ∧ (d.1 ≠ 0 ∨ d.2 ≠ 0)) :
    (slideS f r i occ L).testBit a.toNat = (lineB f i a && decide ((sgnI (a % f - i % f), sgnI (a / f - i / f)) ∈ L) && freeB (betwI f r i a) occ) := by
  unfold slideS
  rw [slide_bit', Nat.zero_testBit, Bool.false_or, Bool.eq_iff_iff, List.any_eq_true]
  simp only [Bool.and_eq_true, decide_eq_true_eq]
  constructor
  · rintro ⟨d, hd, hm⟩
    obtain ⟨b1, b2, b3, b4, b0⟩ := hL d hd
    have hr := ((hit_mem occ a.toNat _).1 hm).1
    obtain ⟨h1, h2, h3⟩ := ray_dir hi ha b1 b2 b3 b4 b0 hr
    refine ⟨⟨h1, ?_⟩, ?_⟩
    · rw [h2, h3]; exact hd
    · unfold betwI
      rw [h2, h3, free_ray (vsq_bd hi).1 (vsq_bd ha).2.1 hr]
      exact decide_eq_true hm
  · rintro ⟨⟨h1, h2⟩, h3⟩
    have hr := ray_conv hi ha h1
    unfold betwI at h3
    rw [free_ray (vsq_bd hi).1 (vsq_bd ha).2.1 hr] at h3
    exact ⟨_, h2, of_decide_eq_true h3⟩
theorem dirs_all : ((List.range 3).all fun x => (List.range 3).all fun y => (decide (((x : Int) - 1, (y : Int) - 1) ∈ strL) == (((x : Int) - 1 == 0 || (y : Int) - 1 == 0) && !((x : Int) - 1 == 0 && (y : Int) - 1 == 0))) && (decide (((x : Int) - 1, (y : Int) - 1) ∈ diagL) == (!((x : Int) - 1 == 0 || (y : Int) - 1 == 0)))) = true := by kernel_rfl
theorem dirs {x y : Int} (h0 : x ≠ 0 ∨ y ≠ 0) : decide ((sgnI x, sgnI y) ∈ strL) = (x == 0 || y == 0) ∧ decide ((sgnI x, sgnI y) ∈ diagL) = !(x == 0 || y == 0) := by
  obtain ⟨s1, s2, _⟩ := sgn_bd x
  obtain ⟨t1, t2, _⟩ := sgn_bd y
  have := List.all_eq_true.1 (List.all_eq_true.1 dirs_all (sgnI x + 1).toNat (List.mem_range.2 (by omega))) (sgnI y + 1).toNat (List.mem_range.2 (by omega))
  rw [show (((sgnI x + 1).toNat : Nat) : Int) - 1 = sgnI x by omega, show (((sgnI y + 1).toNat : Nat) : Int) - 1 = sgnI y by omega] at this
  simp only [Bool.and_eq_true, beq_iff_eq] at this
  have ex : (sgnI x == 0) = (x == 0) := by
    rw [Bool.eq_iff_iff, beq_iff_eq, beq_iff_eq]; unfold sgnI; split <;> (try split) <;> omega
  have ey : (sgnI y == 0) = (y == 0) := by
    rw [Bool.eq_iff_iff, beq_iff_eq, beq_iff_eq]; unfold sgnI; split <;> (try split) <;> omega
  rw [ex, ey] at this
  have hne : (x == 0 && y == 0) = false := by
    rw [← Bool.not_eq_true]; simp; omega
  rw [hne] at this
  simpa using this
theorem reach_bit {f r k i a : Int} {occ : Nat} (hi : vsq f r i = true) (ha : vsq f r a = true) (hk : 2 ≤ k ∧ k ≤ 6) : (reachS f r i occ k).testBit a.toNat = (i != a && reachB f r k i a occ) := by
  have hdiag : ∀ d ∈ diagL, -1 ≤ d.1 ∧ d.1 ≤ 1 ∧ -1 ≤ d.2 ∧ d.2 ≤ 1 ∧ (d.1 ≠ 0 ∨ d.2 ≠ 0) := by decide
  have hstr : ∀ d ∈ strL, -1 ≤ d.1 ∧ d.1 ≤ 1 ∧ -1 ≤ d.2 ∧ d.2 ≤ 1 ∧ (d.1 ≠ 0 ∨ d.2 ≠ 0) := by decide
  by_cases hia : i = a
  · subst hia
    have hl : lineB f i i = false := by
      rw [← Bool.not_eq_true, line_iff]
      simp
    rw [show (i != i) = false by simp, Bool.false_and]
    obtain rfl | rfl | rfl | rfl | rfl : k = 2 ∨ k = 3 ∨ k = 4 ∨ k = 5 ∨ k = 6 := by omega
    · show (leapS f r i leapsL).testBit i.toNat = false
      rw [knight_bit hi ha]
      simp
    · show (slideS f r i occ diagL).testBit i.toNat = false
      rw [slide_bit hi ha _ hdiag, hl]
      simp
    · show (slideS f r i occ strL).testBit i.toNat = false
      rw [slide_bit hi ha _ hstr, hl]
      simp
    · show (queenS f r i occ).testBit i.toNat = false
      unfold queenS
      rw [Nat.testBit_or, slide_bit hi ha _ hdiag, slide_bit hi ha _ hstr, hl]
      simp
    · show (kingS f r i).testBit i.toNat = false
      rw [king_bit hi ha, dist_self]
      rfl
  · have hne : (i != a) = true := by simpa using hia
    rw [hne, Bool.true_and]
    have hd : a % f - i % f ≠ 0 ∨ a / f - i / f ≠ 0 := by
      rcases Decidable.em (a % f - i % f = 0) with h1 | h1
      · right
        intro h2
        exact hia (pt_eq (f := f) (by omega) (by omega))
      · exact .inl h1
    obtain ⟨hs, hg⟩ := dirs hd
    obtain rfl | rfl | rfl | rfl | rfl : k = 2 ∨ k = 3 ∨ k = 4 ∨ k = 5 ∨ k = 6 := by omega
    · exact knight_bit hi ha
    · show (slideS f r i occ diagL).testBit a.toNat = _
      rw [slide_bit hi ha _ hdiag, hg]
      unfold reachB
      rw [if_neg (by omega), if_neg (by omega)]
      cases (a % f - i % f == 0 || a / f - i / f == 0) <;> simp
    · show (slideS f r i occ strL).testBit a.toNat = _
      rw [slide_bit hi ha _ hstr, hs]
      unfold reachB
      rw [if_neg (by omega), if_neg (by omega)]
      cases (a % f - i % f == 0 || a / f - i / f == 0) <;> simp
    · show (queenS f r i occ).testBit a.toNat = _
      unfold queenS
      rw [Nat.testBit_or, slide_bit hi ha _ hdiag, slide_bit hi ha _ hstr, hs, hg]
      unfold reachB
      rw [if_neg (by omega), if_neg (by omega)]
      cases (a % f - i % f == 0 || a / f - i / f == 0) <;> simp
    · show (kingS f r i).testBit a.toNat = _
      rw [king_bit hi ha]
      rfl
end
section
theorem filter_none {P : Nat → Bool} {L : List Nat} (h : ∀ i ∈ L, P i = false) : L.filter P = [] := by
  rw [List.filter_eq_nil_iff]
  intro i hi
  rw [h i hi]
  simp
theorem range_one {P : Nat → Bool} {n a : Nat} (ha : a < n) (hp : P a = true) (h1 : ∀ i, i < a → P i = false) (h2 : ∀ i, a < i → i < n → P i = false) : (List.range n).filter P = [a] := by
  obtain ⟨m, rfl⟩ : ∃ m, n = a + (1 + m) := ⟨n - a - 1, by omega⟩
  rw [List.range_add, List.filter_append, filter_none (fun i hi => h1 i (List.mem_range.1 hi)), List.nil_append, List.range_add, List.map_append, List.filter_append]
  have hrest : (List.map (fun x => a + x) (List.map (fun x => 1 + x) (List.range m))).filter P = [] := filter_none fun i hi => by
    simp only [List.map_map, List.mem_map, List.mem_range, Function.comp] at hi
    obtain ⟨x, hx, rfl⟩ := hi
    exact h2 _ (by omega) (by omega)
  rw [hrest, show (List.map (fun x => a + x) (List.range 1)) = [a] by simp, List.filter_cons, if_pos hp]
  rfl
theorem getD_at {ps : List Int} {i : Nat} (h : i < ps.length) : ps[i]? = some (ps.getD i 0) := by
  rw [List.getD_eq_getElem?_getD, List.getElem?_eq_getElem h]
  rfl
theorem king_some {ps : List Int} {bl : Bool} {a : Nat} (h : kingI ps bl = some a) : kingR ps bl = a := by
  unfold kingI at h
  split at h
  · rename_i hany
    split at h
    · cases h
    · rename_i hno
      have hlt := (List.findIdx_lt_length (p := fun x => x == kingP bl) (xs := ps)).2 (List.any_eq_true.1 hany)
      cases h
      refine kingR_one rfl ?_
      unfold kingN idxN
      refine range_one hlt ?_ ?_ ?_
      · have := List.findIdx_getElem (w := hlt)
        rw [List.getD_eq_getElem?_getD, List.getElem?_eq_getElem hlt]
        exact this
      · intro i hi
        have := List.not_of_lt_findIdx hi
        rw [List.getD_eq_getElem?_getD, List.getElem?_eq_getElem (by omega)]
        simpa using this
      · intro i h1 h2
        simp only [List.any_eq_true, not_exists, not_and, Bool.not_eq_true] at hno
        have hm : ps.getD i 0 ∈ ps.drop (ps.findIdx (fun x => x == kingP bl) + 1) := by
          refine List.mem_of_getElem? (i := i - (ps.findIdx (fun x => x == kingP bl) + 1)) ?_
          rw [List.getElem?_drop, show ps.findIdx (fun x => x == kingP bl) + 1 + (i - (ps.findIdx (fun x => x == kingP bl) + 1)) = i by omega]
          exact getD_at h2
        exact hno _ hm
  · cases h
theorem king_none {ps : List Int} {bl : Bool} (h : kingI ps bl = none) : kingR ps bl = -1 := by
  refine kingR_no rfl ?_
  intro hl
  obtain ⟨a, ha⟩ := List.length_eq_one_iff.1 hl
  have hmem : ∀ i, i < ps.length → (ps.getD i 0 == kingP bl) = true → i = a := fun i hi hp => by
    have : i ∈ kingN ps bl := List.mem_filter.2 ⟨List.mem_range.2 hi, hp⟩
    rw [ha] at this
    simpa using this
  have haa : a ∈ kingN ps bl := by rw [ha]; simp
  obtain ⟨h1, h2⟩ := idxN_at haa
  unfold kingI at h
  rw [if_pos (List.any_eq_true.2 ⟨_, List.mem_of_getElem? (getD_at h1), h2⟩)] at h
  split at h
  · rename_i hany
    have hfl := (List.findIdx_lt_length (p := fun x => x == kingP bl) (xs := ps)).2 ⟨_, List.mem_of_getElem? (getD_at h1), h2⟩
    have e1 := hmem _ hfl (by
      have := List.findIdx_getElem (w := hfl)
      rw [List.getD_eq_getElem?_getD, List.getElem?_eq_getElem hfl]
      exact this)
    obtain ⟨x, hx, hp⟩ := List.any_eq_true.1 hany
    obtain ⟨j, hj⟩ := List.getElem?_of_mem hx
    rw [List.getElem?_drop] at hj
    have hjl := (List.getElem?_eq_some_iff.1 hj).1
    have e2 := hmem _ hjl (by rw [List.getD_eq_getElem?_getD, hj]; exact hp)
    omega
  · cases h
theorem orL_filter (P : Nat → Bool) (k : Nat) : orL 0 ((List.range (k + 1)).filter P) = if P k then orL 0 ((List.range k).filter P) ||| 2 ^ k else orL 0 ((List.range k).filter P) := by
  rw [List.range_succ, List.filter_append, orL_app]
  cases h : P k
  · rw [List.filter_cons, if_neg (by rw [h]; simp), if_neg (by simp)]
    simp [orL]
  · rw [List.filter_cons, if_pos h, if_pos rfl]
    simp [orL]
theorem att_range (f r : Int) (ps : List Int) (a : Nat) (bl : Bool) (k : Nat) : attS f r ps a bl k = orL 0 ((List.range k).filter fun i => isB (ps.getD i 0) bl && (ofS f r (ps.getD i 0) i (occS ps)).testBit a) := by
  induction k with
  | zero => rfl
  | succ k ih => rw [attS_snoc, orL_filter, ih]
theorem orL_zero (l : List Nat) : (orL 0 l == 0) = l.isEmpty := by
  cases l with
  | nil => rfl
  | cons x l =>
    have h : (orL 0 (x :: l)).testBit x = true := by rw [orL_bit]; simp
    have : orL 0 (x :: l) ≠ 0 := by
      intro e
      rw [e, Nat.zero_testBit] at h
      cases h
    simpa using this
theorem attL_range (f r : Int) (ps : List Int) (a : Int) (bl : Bool) : attL f r ps a bl = (List.range ps.length).filter fun i => sgnI (ps.getD i 0) == fwd bl && attR' f r ps a i := by
  unfold attL idxN
  rw [List.filter_filter]
  congr 1
  funext i
  rw [Bool.and_comm]
theorem att_same {f r : Int} {ps : List Int} {a : Nat} {bl : Bool} (ho : orthB f r ps = true) (ha : a < ps.length) : attL f r ps a bl = (List.range ps.length).filter fun i => isB (ps.getD i 0) bl && (ofS f r (ps.getD i 0) i (occS ps)).testBit a := by
  rw [attL_range]
  refine List.filter_congr fun i hi => ?_
  have hil := List.mem_range.1 hi
  have hbv : bvalid f r ps = true := by unfold orthB at ho; rw [Bool.and_eq_true] at ho; exact ho.1
  obtain ⟨hv, hlen, _⟩ := bvalid_len hbv
  have hqi := vsq_of hv hlen hil
  have hqa := vsq_of hv hlen ha
  obtain ⟨p1, p2⟩ := orthB_at ho (getD_at hil)
  unfold attR'
  generalize ps.getD i 0 = p at *
  have hs : (sgnI p == fwd bl) = isB p bl := by
    rw [Bool.eq_iff_iff]
    unfold sgnI fwd isB
    cases bl <;> simp <;> (split <;> (try split) <;> omega)
  rw [hs]
  by_cases h0 : p = 0
  · subst h0
    have : isB 0 bl = false := by unfold isB; simp
    rw [this]
    rfl
  · congr 1
    have hb := @reach_bit f r (kindI p) i a (occS ps) hqi hqa
    rw [Int.toNat_natCast] at hb
    have hpw := fun b => @pawn_bit f r i a b hqi hqa
    simp only [Int.toNat_natCast] at hpw
    unfold attR ofS
    by_cases h1 : p = 1
    · subst h1
      rw [if_pos rfl, if_pos (by rfl), hpw]
      rfl
    · by_cases h2 : p = -1
      · subst h2
        rw [if_pos (by rfl), if_neg (by decide), if_pos rfl, hpw]
        rfl
      · have hk : 2 ≤ kindI p ∧ kindI p ≤ 6 := by unfold kindI; split <;> omega
        have hmax : max p (-p) = kindI p := by unfold kindI; split <;> omega
        rw [if_neg (show ¬ kindI p = 1 by omega), if_neg h1, if_neg h2, hmax, hb hk]
theorem check_same {f r : Int} {ps : List Int} {a : Nat} {bl : Bool} (ho : orthB f r ps = true) (ha : a < ps.length) : (attL f r ps a bl).isEmpty = (attS f r ps a bl ps.length == 0) := by
  rw [att_same ho ha, att_range, orL_zero]
end
section
theorem orthB_bv {f r : Int} {ps : List Int} (ho : orthB f r ps = true) : bvalid f r ps = true := by unfold orthB at ho; rw [Bool.and_eq_true] at ho; exact ho.1
theorem rvalid6_c (w : World) (p : Pos) (po : Option Addr) (cap : Nat) (hS : SlcAt w po p.ps) (hn : p.ps.length ≤ 1000) (hc : 0 ≤ p.castle ∧ p.castle ≤ 255) :
    Pure 19 #[.agg (p.cells po cap)] w (.bool (rvB p)) := by
  unfold rvB
  cases ho : orthB p.f p.r p.ps
  · exact (rvalid6_no w p po cap hS hn ho).of_eq (by simp)
  · have hbv := orthB_bv ho
    obtain ⟨hv, hlen, h64⟩ := bvalid_len hbv
    have hm := vsize_mul hv
    obtain ⟨b, off, rfl, hPc⟩ := hS.resolve_left (by
      intro h
      rw [h] at hlen
      simp at hlen
      omega)
    by_cases h1 : 0 ≤ kingR p.ps false
    · by_cases h2 : 0 ≤ kingR p.ps true
      · cases hA : (attL p.f p.r p.ps (kingR p.ps (!p.black)) (!!p.black)).isEmpty
        · exact (rvalid6_k w p b off cap hPc ho (.inr (.inr hA))).of_eq (by simp [h1, h2])
        · exact (rvalid6_y w p b off cap hPc ho hc h1 h2 hA).of_eq (by simp [h1, h2])
      · exact (rvalid6_k w p b off cap hPc ho (.inr (.inl (by omega)))).of_eq (by simp [h1, h2])
    · exact (rvalid6_k w p b off cap hPc ho (.inl (by omega))).of_eq (by simp [h1])
theorem kings_same {p : Pos} (ho : orthB p.f p.r p.ps = true) : (decide (0 ≤ kingR p.ps false) && decide (0 ≤ kingR p.ps true) && (attL p.f p.r p.ps (kingR p.ps (!p.black)) (!!p.black)).isEmpty) = p.kings := by
  have hall : (decide (0 ≤ kingR p.ps false) && decide (0 ≤ kingR p.ps true)) = (decide (0 ≤ kingR p.ps p.black) && decide (0 ≤ kingR p.ps (!p.black))) := by
    cases p.black
    · rfl
    · exact Bool.and_comm _ _
  rw [hall]
  unfold Pos.kings
  rw [ho, Bool.true_and]
  cases h1 : kingI p.ps p.black with
  | none =>
    rw [king_none h1]
    simp
  | some a =>
    rw [king_some h1]
    cases h2 : kingI p.ps (!p.black) with
    | none =>
      rw [king_none h2]
      simp
    | some c =>
      rw [king_some h2, check_same ho (kingI_lt h2)]
      simp
theorem pawns_same {p : Pos} (hbv : bvalid p.f p.r p.ps = true) : pawnsR p = p.pawns := by
  obtain ⟨hv, hlen, h64⟩ := bvalid_len hbv
  obtain ⟨b1, b2, b3, b4⟩ := vsize_bd hv
  obtain ⟨f, hf⟩ : ∃ f : Nat, p.f = f := ⟨p.f.toNat, by omega⟩
  obtain ⟨r, hr⟩ : ∃ r : Nat, p.r = r := ⟨p.r.toNat, by omega⟩
  have hln : p.ps.length = f * r := by rw [hf, hr] at hlen; exact_mod_cast hlen
  have hfr : f ≤ f * r := Nat.le_mul_of_pos_right f (by omega)
  rw [Bool.eq_iff_iff]
  unfold pawnsR Pos.pawns
  rw [hf, Int.toNat_natCast]
  have hL : (((List.range p.ps.length).all fun i => !pawnBad p i) = true) ↔ ∀ i, i < p.ps.length → pawnBad p i = false := by simp [List.all_eq_true, List.mem_range]
  rw [hL]
  simp only [Bool.and_eq_true, Bool.not_eq_true', List.any_eq_false, beq_iff_eq, List.mem_iff_getElem?]
  have hrow : ∀ i : Nat, i < f * r → (((i : Int) / (f : Int)) = 0 ↔ i < f) ∧ (((i : Int) / (f : Int)) = p.r - 1 ↔ f * r - f ≤ i) := by
    intro i hi
    have e : (i : Int) / (f : Int) = ((i / f : Nat) : Int) := by simp
    rw [e, hr]
    have d1 : i / f < r := by rw [Nat.div_lt_iff_lt_mul (by omega)]; rw [Nat.mul_comm]; exact hi
    have d2 : i / f = 0 ↔ i < f := by rw [Nat.div_eq_zero_iff]; omega
    have d3 : r - 1 ≤ i / f ↔ (r - 1) * f ≤ i := by rw [Nat.le_div_iff_mul_le (by omega)]
    have d4 : (r - 1) * f = f * r - f := by rw [Nat.sub_mul, Nat.one_mul, Nat.mul_comm]
    rw [d4] at d3
    omega
  constructor
  · intro h
    refine ⟨?_, ?_⟩
    · rintro x ⟨i, hi⟩ rfl
      rw [List.getElem?_drop] at hi
      obtain ⟨hl, he⟩ := List.getElem?_eq_some_iff.1 hi
      have := h _ hl
      unfold pawnBad kindI at this
      rw [hf, List.getD_eq_getElem?_getD, hi] at this
      have hh := (hrow (p.ps.length - f + i) (by omega)).2.2 (by omega)
      generalize p.ps.length - f + i = j at *
      simp [hh] at this
    · rintro x ⟨i, hi⟩ rfl
      rw [List.getElem?_take] at hi
      split at hi
      · rename_i hif
        obtain ⟨hl, he⟩ := List.getElem?_eq_some_iff.1 hi
        have := h _ hl
        unfold pawnBad kindI at this
        rw [hf, List.getD_eq_getElem?_getD, hi] at this
        have hh := (hrow _ (by omega)).1.2 hif
        simp [hh] at this
      · cases hi
  · rintro ⟨h1, h2⟩ i hi
    have hg := getD_at hi
    unfold pawnBad kindI
    rw [hf]
    obtain ⟨w1, w2⟩ := hrow i (by omega)
    generalize hq : p.ps.getD i 0 = q at *
    rw [Bool.and_eq_false_iff]
    by_cases hlt : q < 0
    · rw [if_pos hlt, if_pos (by simpa using hlt)]
      by_cases hq1 : q = -1
      · right
        by_cases hlf : i < f
        · exact absurd hq1 (h2 q ⟨i, by
            rw [List.getElem?_take, if_pos hlf]
            exact hg⟩)
        · have := mt w1.1 hlf
          simpa using this
      · left
        simp
        omega
    · rw [if_neg hlt, if_neg (by simpa using hlt)]
      by_cases hq1 : q = 1
      · right
        by_cases hge : f * r - f ≤ i
        · exact absurd hq1 (h1 q ⟨i - (p.ps.length - f), by
            rw [List.getElem?_drop, show p.ps.length - f + (i - (p.ps.length - f)) = i by omega]
            exact hg⟩)
        · have := mt w2.1 hge
          simpa using this
      · left
        simp
        omega
theorem pass_same {p : Pos} : passR p = p.passes := by
  unfold passR Pos.passes
  by_cases h1 : p.passant = -1
  · rw [if_pos h1, h1]; rfl
  · rw [if_neg h1, show (p.passant == -1) = false by simpa using h1, Bool.false_or]
    by_cases h : p.r < 6 ∨ p.half ≠ 0 ∨ vsq p.f p.r p.passant = false
    · rw [if_pos h]
      have : ∀ up rank, p.passup up rank = false := by
        intro up rank
        unfold Pos.passup
        rcases h with h | h | h
        · rw [show decide (6 ≤ p.r) = false by simpa using h]; simp
        · rw [show (p.half == 0) = false by simpa using h]; simp
        · rw [h]; simp
      rw [this, this]
      simp
    · rw [if_neg h]
      simp only [not_or, Classical.not_not, Bool.not_eq_false] at h
      obtain ⟨h6, hh, hq⟩ := h
      obtain ⟨hsz, q0, q1⟩ := vsq_bd hq
      obtain ⟨b1, b2, b3, b4⟩ := vsize_bd hsz
      have hd := pass_rank hq
      unfold passLate Pos.passup
      rw [show decide (6 ≤ p.r) = true by simp; omega, show (p.half == 0) = true by simpa using hh, hq]
      have hx : ∀ a b : Int, (2 * (p.passant / p.f) == a + b) = (2 * (p.passant / p.f) == a + b) := fun _ _ => rfl
      obtain ⟨d1, d2, d3, d4, d5⟩ := hd
      generalize hF : p.passant % p.f = F at *
      generalize hY : p.passant / p.f = Y at *
      rw [d3]
      cases hb : p.black
      · simp only [Bool.false_eq_true, if_false, Bool.true_and, pofI, Bool.not_false, if_true]
        by_cases hY1 : Y = p.r - 3
        · rw [show (2 * Y == p.r - 2 + (p.r - 4)) = true by simp; omega, show (Y == p.r - 3) = true by simpa using hY1, hY1]
          have m1 := Int.sub_mul p.r 2 p.f
          have m2 := Int.mul_sub p.f p.r 3
          have m3 := Int.mul_comm p.r p.f
          have m4 := Int.sub_mul p.r 4 p.f
          rw [show (p.r - 2) * p.f + F = F + p.f * (p.r - 3) - -p.f by omega, show (p.r - 4) * p.f + F = F + p.f * (p.r - 3) + -p.f by omega]
        · rw [show (2 * Y == p.r - 2 + (p.r - 4)) = false by simp; omega, show (Y == p.r - 3) = false by simpa using hY1]
          simp
      · simp only [if_true, Bool.true_and, pofI, Bool.not_true, Bool.false_eq_true, if_false]
        by_cases hY1 : Y = 2
        · rw [show (2 * Y == 1 + 3) = true by simp; omega, show (Y == 2) = true by simpa using hY1, hY1]
          rw [show 1 * p.f + F = F + p.f * 2 - p.f by omega, show 3 * p.f + F = F + p.f * 2 + p.f by omega]
        · rw [show (2 * Y == 1 + 3) = false by simp; omega, show (Y == 2) = false by simpa using hY1]
          simp
theorem rv_same (p : Pos) : rvB p = p.valid := by
  unfold rvB Pos.valid
  cases ho : orthB p.f p.r p.ps
  · have : p.kings = false := by unfold Pos.kings; rw [ho]; rfl
    rw [this]
    simp
  · have hbv := orthB_bv ho
    rw [hbv, ← kings_same ho, ← pawns_same hbv, ← pass_same]
    simp [Bool.and_assoc]
end
section
def okT0 : ByteArray := ⟨#[51, 120, 51, 32, 107, 50, 47, 51, 47, 50, 75, 32, 119, 32, 45, 32, 45, 32, 48, 32, 49]⟩
def okT1 : ByteArray := ⟨#[51, 120, 51, 32, 107, 82, 49, 47, 51, 47, 50, 75, 32, 98, 32, 45, 32, 45, 32, 48, 32, 49]⟩
def okT2 : ByteArray := ⟨#[51, 120, 51, 32, 107, 50, 47, 51, 47, 49, 80, 75, 32, 119, 32, 45, 32, 45, 32, 48, 32, 49]⟩
def okT3 : ByteArray := ⟨#[51, 120, 54, 32, 107, 50, 47, 51, 47, 80, 50, 47, 51, 47, 51, 47, 50, 75, 32, 98, 32, 45, 32, 97, 51, 32, 48, 32, 49]⟩
def okT4 : ByteArray := ⟨#[56, 120, 56, 32, 52, 107, 51, 47, 56, 47, 56, 47, 56, 47, 56, 47, 56, 47, 56, 47, 52, 75, 50, 82, 32, 119, 32, 75, 32, 45, 32, 48, 32, 49]⟩
def noT0 : ByteArray := ⟨#[51, 120, 51, 32, 107, 82, 49, 47, 51, 47, 50, 75, 32, 119, 32, 45, 32, 45, 32, 48, 32, 49]⟩
def noT1 : ByteArray := ⟨#[51, 120, 51, 32, 107, 80, 49, 47, 51, 47, 50, 75, 32, 98, 32, 45, 32, 45, 32, 48, 32, 49]⟩
def noT2 : ByteArray := ⟨#[51, 120, 54, 32, 107, 50, 47, 51, 47, 51, 47, 80, 50, 47, 51, 47, 50, 75, 32, 98, 32, 45, 32, 97, 50, 32, 48, 32, 49]⟩
def noT3 : ByteArray := ⟨#[51, 120, 54, 32, 107, 50, 47, 51, 47, 51, 47, 80, 50, 47, 51, 47, 50, 75, 32, 98, 32, 45, 32, 97, 51, 32, 48, 32, 49]⟩
def noT4 : ByteArray := ⟨#[51, 120, 54, 32, 107, 50, 47, 51, 47, 80, 50, 47, 51, 47, 51, 47, 50, 75, 32, 98, 32, 45, 32, 97, 51, 32, 49, 32, 49]⟩
def noT5 : ByteArray := ⟨#[51, 120, 54, 32, 107, 50, 47, 51, 47, 80, 50, 47, 51, 47, 51, 47, 50, 75, 32, 119, 32, 45, 32, 97, 51, 32, 48, 32, 49]⟩
def noT6 : ByteArray := ⟨#[56, 120, 56, 32, 52, 107, 51, 47, 56, 47, 56, 47, 56, 47, 56, 47, 56, 47, 56, 47, 52, 75, 50, 82, 32, 119, 32, 81, 32, 45, 32, 48, 32, 49]⟩
theorem good_all : ([okT0, okT1, okT2, okT3, okT4].all fun t => decide (t.size ≤ 1000) && (posO t).isSome) = true := by kernel_rfl
theorem bad_all : ([noT0, noT1, noT2, noT3, noT4, noT5, noT6].all fun t => decide (t.size ≤ 1000) && (posO t).isNone) = true := by kernel_rfl
theorem posO_some {t : ByteArray} {p : Pos} (h : posO t = some p) : p.valid = true ∧ p.text = t := by
  unfold posO at h
  split at h
  · split at h
    · cases h
    · split at h
      · rename_i hc
        simp only [Bool.and_eq_true, ba_beq] at hc
        cases h
        exact hc
      · cases h
  · cases h
theorem good_t {t : ByteArray} (h : t ∈ [okT0, okT1, okT2, okT3, okT4]) : t.size ≤ 1000 ∧ ∃ p, posO t = some p ∧ p.valid = true ∧ p.text = t := by
  have := List.all_eq_true.1 good_all t h
  rw [Bool.and_eq_true] at this
  refine ⟨of_decide_eq_true this.1, ?_⟩
  obtain ⟨p, hp⟩ := Option.isSome_iff_exists.1 this.2
  exact ⟨p, hp, posO_some hp⟩
theorem bad_t {t : ByteArray} (h : t ∈ [noT0, noT1, noT2, noT3, noT4, noT5, noT6]) : t.size ≤ 1000 ∧ posO t = none := by
  have := List.all_eq_true.1 bad_all t h
  rw [Bool.and_eq_true] at this
  exact ⟨of_decide_eq_true this.1, Option.isNone_iff_eq_none.1 this.2⟩
theorem parse_at (L : Libs) {w : World} (hE : Env w) (t : ByteArray) (ht : t.size ≤ 1000) : Calls Tryz.prog 22 #[.string t] w fun e w' => PosIs w.heap.size t e w' ∧ Below w.heap.size w w' :=
  posparse_c L.split L.rev L.join L.cont w hE.max hE.kinds hE.itoa hE.atois hE.rays hE.full t ht
theorem text_at (L : Libs) {w : World} (hE : Env w) (p : Pos) (po : Option Addr) (cap : Nat) (hP : PosAt w p po cap) : Pure 20 #[.agg (p.cells po cap)] w p.textV :=
  ptext_c L.rev L.join w hE.kinds hE.itoa p po cap hP hE.full
end
section
namespace E
theorem env_stable : Stable Env := fun _ _ hw hb => hw.below hb
theorem rvalid6_a (p : Pos) (hn : p.ps.length ≤ 1000) (hc : 0 ≤ p.castle ∧ p.castle ≤ 255) : ACalls Tryz.prog Env 19 [posP p (.lst (pcs p.ps))] (.val (.bool (rvB p))) [] :=
  ac_of ⟨_, Tryz.func19, rfl, by simp [Tryz.f19]⟩ fun w xs G hw h => by
    obtain ⟨x, rfl, h'⟩ := repL1 h
    obtain ⟨po, c, rfl, hS, _⟩ := rep_pos h'
    exact rvalid6_c w p po c hS hn hc
theorem requal6_a (p q : Pos) (hn : p.ps.length ≤ 1000) (hn' : q.ps.length ≤ 1000) : ACalls Tryz.prog Env 24 [posP p (.lst (pcs p.ps)), posP q (.lst (pcs q.ps))] (.val (.bool (eqB p q))) [] :=
  ac_of ⟨_, Tryz.func24, rfl, by simp [Tryz.f24]⟩ fun w xs G hw h => by
    obtain ⟨x, y, rfl, h1, h2⟩ := repL2 h
    obtain ⟨po, c, rfl, hS, _⟩ := rep_pos h1
    obtain ⟨qo, d, rfl, hS', _⟩ := rep_pos h2
    exact requal6_c w p q po qo c d hS hS' hn hn'
end E
end
section
namespace E
theorem mixed : Tryz.prog.follows .mixedOrders = true := by decide
theorem pvalid_a (p : Pos) (hn : p.ps.length ≤ 100) (hc : 0 ≤ p.castle ∧ p.castle ≤ 255) : ACalls Tryz.prog Env 18 [posP p (.lst (pcs p.ps))] (.val (.bool p.valid)) [] :=
  ac_of ⟨_, Tryz.func18, rfl, by simp [Tryz.f18]⟩ fun w xs G hw h => by
    obtain ⟨x, rfl, h'⟩ := repL1 h
    obtain ⟨po, c, rfl, hS, h1, h2⟩ := rep_pos h'
    exact valid_c w p po c ⟨hS, hn, h1, h2, hc, hw.rays⟩ hw.full
theorem ac_rep {Ev : World → Prop} {f : FuncId} {args : List AV} {a : AV} {v : Value} (hf : ∃ fn, Tryz.prog.funcs[f]? = some fn ∧ fn.body.isNone = false ∧ (fn.name == "runtime.NumGoroutine") = false) (ha : ∀ w G η, Rep w G η a v)
    (h : ∀ w xs G, Ev w → RepL w G no args xs.toList → Pure f xs w v) : ACalls Tryz.prog Ev f args a [] :=
  ⟨hf, fun w xs G hw hG hr => (h w xs G hw hr).mono fun e V ⟨he, hb⟩ => ⟨v, he, hb, G, no, fun b hb' => ⟨.inl hb', Nat.lt_of_lt_of_le (hG b hb') hb.size⟩, ha _ _ _, mem0⟩⟩
def strA (s : ByteArray) (e : Int) : AV := .tup [.val (.string s), .val (.int .i64 e)]
def Pos.textA (p : Pos) : AV := if p.valid then strA p.text 0 else strA ⟨#[]⟩ 2
theorem rep_str (s : ByteArray) (e : Int) (w : World) (G : Nat → Prop) (η : Nat → Option Value) : Rep w G η (strA s e) (.tuple #[.string s, .int .i64 e]) := ⟨[.string s, .int .i64 e], rfl, rfl, rfl, trivial⟩
theorem ptext_a (L : Libs) (p : Pos) (hn : p.ps.length ≤ 100) (hc : 0 ≤ p.castle ∧ p.castle ≤ 255) : ACalls Tryz.prog Env 20 [posP p (.lst (pcs p.ps))] (Pos.textA p) [] :=
  ac_rep (v := p.textV) ⟨_, Tryz.func20, rfl, by simp [Tryz.f20]⟩ (fun w G η => by
    unfold Pos.textA Pos.textV
    split <;> exact rep_str _ _ _ _ _) fun w xs G hw h => by
    obtain ⟨x, rfl, h'⟩ := repL1 h
    obtain ⟨po, c, rfl, hS, h1, h2⟩ := rep_pos h'
    exact text_at L hw p po c ⟨hS, hn, h1, h2, hc, hw.rays⟩
theorem pcs_repG {w : World} {G : Nat → Prop} {ps : List Int} {po : Option Addr} {c : Nat} (h : SlcAt w po ps) (h1 : ps.length ≤ c) (h2 : c ≤ 9223372036854775807) (hG : ∀ a, po = some a → ps ≠ [] → G a.block) : Rep w G no (.lst (pcs ps)) (.slice po ps.length c) := by
  refine ⟨po, _, c, 1, rfl, pcs_len ps, h1, h2, by simp [pcs], ?_⟩
  rcases h with rfl | ⟨b, o, rfl, h⟩
  · exact .inl rfl
  · cases ps with
    | nil => exact .inl rfl
    | cons p ps => exact .inr ⟨b, o, rfl, hG _ rfl (by simp), pc_rows h⟩
def pposA : Option Pos → AV
  | none => .tup [posA 0 0 (.lst []) false 0 0 0 0, .val (.int .i64 6)]
  | some p => .tup [posP p (.lst (pcs p.ps)), .val (.int .i64 0)]
theorem slc_lt {w : World} {po : Option Addr} {ps : List Int} (h : SlcAt w po ps) : ∀ a, po = some a → ps ≠ [] → a.block < w.heap.size := by
  intro a ha h0
  rcases h with h | ⟨b, o, e, h⟩
  · exact absurd h h0
  · rw [ha] at e
    cases e
    cases ps with
    | nil => exact absurd rfl h0
    | cons q l =>
      have := h 0 q rfl
      unfold World.cell? at this
      cases hb : w.heap[b]? with
      | none => simp [hb] at this
      | some _ => exact (Array.getElem?_eq_some_iff.1 hb).1
theorem pparse_a (L : Libs) (t : ByteArray) (ht : t.size ≤ 1000) : ACalls Tryz.prog Env 22 [.val (.string t)] (pposA (posO t)) [] :=
  ⟨⟨_, Tryz.func22, rfl, by simp [Tryz.f22]⟩, fun w xs G hw hG hr => by
    obtain ⟨x, rfl, h'⟩ := repL1 hr
    obtain rfl : x = .string t := h'
    refine (parse_at L hw t ht).mono fun e V ⟨h1, h2⟩ => ?_
    unfold PosIs at h1
    cases hp : posO t with
    | none =>
      rw [hp] at h1
      subst h1
      refine ⟨_, rfl, h2, G, no, fun b hb' => ⟨.inl hb', Nat.lt_of_lt_of_le (hG b hb') h2.size⟩, ?_, mem0⟩
      exact ⟨[.agg noPosC, .int .i64 6], rfl, ⟨noPosC.toList, rfl, ⟨rfl, rfl⟩, ⟨rfl, rfl⟩, ⟨rfl, none, 0, 0, 1, rfl, rfl, Nat.le_refl _, by omega, by simp, .inl rfl⟩, ⟨rfl, rfl⟩, ⟨rfl, rfl⟩, ⟨rfl, rfl⟩, ⟨rfl, rfl⟩, ⟨rfl, rfl⟩, trivial⟩, rfl, trivial⟩
    | some p =>
      rw [hp] at h1
      obtain ⟨po, cap, rfl, hP, hnw⟩ := h1
      refine ⟨_, rfl, h2, fun b => (G b ∨ w.heap.size ≤ b) ∧ b < V.heap.size, no, fun b hb' => hb', ?_, mem0⟩
      exact ⟨[.agg (p.cells po cap), .int .i64 0], rfl, ⟨(p.cells po cap).toList, rfl, ⟨rfl, rfl⟩, ⟨rfl, rfl⟩, ⟨rfl, pcs_repG hP.slc hP.cap1 hP.cap2 fun a ha h0 => ⟨.inr (hnw a ha), slc_lt hP.slc a ha h0⟩⟩, ⟨rfl, rfl⟩, ⟨rfl, rfl⟩, ⟨rfl, rfl⟩, ⟨rfl, rfl⟩, ⟨rfl, rfl⟩, trivial⟩, rfl, trivial⟩⟩
set_option maxRecDepth 100000 in
theorem pstart_a (L : Libs) : ACalls Tryz.prog Env 51 [] (posP startP (.lst (pcs startP.ps))) [] := by
  have hE := env_stable
  have hf := mixed
  have hp := pparse_a L startT (by decide)
  rw [start_o] at hp
  unfold startT at hp
  generalize startP = p at *
  simp only [pposA, posP, posA] at *
  refine ACalls.of hE hf Tryz.func51 rfl (by simp [Tryz.f51]) (Nat.le_of_ble_eq_true rfl) fun F hF => ?_
  simp only [entry, num0, Tryz.ntmps51]
  refine W ?_
  exact (hF _ ⟨[], _, rfl, rfl, rfl, rfl⟩).1
def strs (l : List ByteArray) : List (List AV) := l.map fun s => [.val (.string s)]
theorem strs_at {W : List ByteArray} {i : Nat} {x : ByteArray} (h : W[i]? = some x) : (strs W)[i]? = some [.val (.string x)] := by simp [strs, h]
def goodL : List ByteArray := [okT0, okT1, okT2, okT3, okT4]
def badL : List ByteArray := [noT0, noT1, noT2, noT3, noT4, noT5, noT6]
theorem posO_cas {t : ByteArray} {p : Pos} (h : posO t = some p) : 0 ≤ p.castle ∧ p.castle ≤ 255 := by
  unfold posO at h
  split at h
  · split at h
    · cases h
    · split at h
      · cases h
        unfold posW
        dsimp only
        exact ⟨Int.natCast_nonneg _, (fun s k => (by have := castN_le s k; omega) : ∀ s k, ((castN s k : Nat) : Int) ≤ 255) _ _⟩
      · cases h
  · cases h
theorem start_text : startP.text = startT := by kernel_rfl
set_option maxRecDepth 100000 in
theorem known_a (L : Libs) : ACalls Tryz.prog Env 17 [] (.val (.bool true)) [] := by
  have hE := env_stable
  have hf := mixed
  have hst := pstart_a L
  have hsx := ptext_a L startP (by decide) (by decide)
  unfold Pos.textA strA at hsx
  rw [start_v, start_text] at hsx
  unfold startT at hsx
  generalize startP = ps0 at *
  simp only [posP, posA, ↓reduceIte] at hst hsx
  refine ACalls.of hE hf Tryz.func17 rfl (by simp [Tryz.f17]) (Nat.le_of_ble_eq_true rfl) fun F hF => ?_
  simp only [entry, num0, Tryz.ntmps17]
  refine W ?_
  refine loopK (fun k : {k : Nat // k ≤ 5} => ⟨77, [(13, .own 0), (14, .val (.int .i64 5)), (15, .val (.int .i64 k.1))], [(0, .row 9 1 (strs goodL))], 1⟩) (fun k => 5 - k.1) ⟨0, by omega⟩ (Le.pick [13, 14, 15] [(4, 0)] 1 rfl rfl) ?_
  rintro ⟨k, hk⟩ F1 hN1 hX1 hR1
  dsimp only at hk hN1 ⊢
  rcases Nat.lt_or_ge k 5 with hk5 | hk5
  · have d1 : (k : Int) < 5 := by omega
    obtain ⟨x, hx⟩ : ∃ x, goodL[k]? = some x := ⟨_, List.getElem?_eq_getElem (show k < 5 from hk5)⟩
    obtain ⟨z1, p, hp, hv, ht⟩ := good_t (List.mem_of_getElem? hx)
    have hl : (strs goodL).length = 5 := rfl
    replace hx := strs_at hx
    have h64 : p.ps.length ≤ 100 := by
      have hb : bvalid p.f p.r p.ps = true := by unfold Pos.valid at hv; simp only [Bool.and_eq_true] at hv; exact hv.1.1.1.1.1
      unfold bvalid at hb
      simp only [Bool.and_eq_true, beq_iff_eq] at hb
      have := vsize_mul hb.1.1
      omega
    have hc : 0 ≤ p.castle ∧ p.castle ≤ 255 := posO_cas hp
    have h1 := pparse_a L x z1
    have h2 := ptext_a L p h64 hc
    have h3 := pvalid_a p h64 hc
    unfold Pos.textA strA at h2
    rw [hp] at h1
    rw [hv] at h2 h3
    rw [ht] at h2
    simp only [pposA, posP, posA, ↓reduceIte] at h1 h2 h3
    generalize strs goodL = R0 at *
    have w1 : IntKind.i64.wrap ((k : Int) + 1) = ((k + 1 : Nat) : Int) := w64 (by omega)
    have hbx := of_decide_eq_true (rfl : decide True = true)
    clear hp hv ht z1 h64 hc hbx hst hsx
    refine W ?_
    refine hN1 _ ⟨k + 1, hk5⟩ (Le.pick [13, 14, 15] [(0, 0)] 1 rfl rfl) (by show 5 - (k + 1) < 5 - k; omega)
  obtain rfl : k = 5 := by omega
  clear hN1
  have e5 : ((5 : Nat) : Int) = 5 := rfl
  refine W ?_
  refine loopK (fun k : {k : Nat // k ≤ 7} => ⟨77, [(46, .own 0), (47, .val (.int .i64 7)), (48, .val (.int .i64 k.1))], [(0, .row 9 1 (strs badL))], 1⟩) (fun k => 7 - k.1) ⟨0, by omega⟩ (Le.pick [46, 47, 48] [(5, 0)] 1 rfl rfl) ?_
  rintro ⟨k, hk⟩ F1 hN1 hX1 hR1
  dsimp only at hk hN1 ⊢
  rcases Nat.lt_or_ge k 7 with hk5 | hk5
  · have d1 : (k : Int) < 7 := by omega
    obtain ⟨x, hx⟩ : ∃ x, badL[k]? = some x := ⟨_, List.getElem?_eq_getElem (show k < 7 from hk5)⟩
    obtain ⟨z1, hp⟩ := bad_t (List.mem_of_getElem? hx)
    have hl : (strs badL).length = 7 := rfl
    replace hx := strs_at hx
    have h1 := pparse_a L x z1
    rw [hp] at h1
    simp only [pposA, posA] at h1
    generalize strs badL = R0 at *
    have w1 : IntKind.i64.wrap ((k : Int) + 1) = ((k + 1 : Nat) : Int) := w64 (by omega)
    have e0 : ((0 : Nat) : Int) = 0 := rfl
    clear hp z1 hst hsx
    refine W ?_
    refine hN1 _ ⟨k + 1, hk5⟩ (Le.pick [46, 47, 48] [(0, 0)] 1 rfl rfl) (by show 7 - (k + 1) < 7 - k; omega)
  obtain rfl : k = 7 := by omega
  clear hN1
  have e7 : ((7 : Nat) : Int) = 7 := rfl
  refine W ?_
  exact (hF _ ⟨[], _, rfl, rfl, rfl, rfl⟩).1
end E
end
section
namespace E
def wS (c0 : UInt8) (s : List ByteArray × ByteArray) (c : UInt8) : List ByteArray × ByteArray := if c = c0 then (s.1 ++ [s.2], ⟨#[]⟩) else (s.1, s.2 ++ ⟨#[c]⟩)
def wF (c0 : UInt8) (l : List UInt8) : List ByteArray × ByteArray := l.foldl (wS c0) ([], ⟨#[]⟩)
def refW (c0 : UInt8) (t : ByteArray) : List ByteArray := (wF c0 t.data.toList).1 ++ [(wF c0 t.data.toList).2]
theorem wF_snoc (c0 : UInt8) (l : List UInt8) (i : Nat) (c : UInt8) (h : l[i]? = some c) : wF c0 (l.take (i + 1)) = wS c0 (wF c0 (l.take i)) c := by
  unfold wF
  rw [List.take_add_one, h]
  simp
theorem wF_len (c0 : UInt8) (l : List UInt8) : ∀ i, (wF c0 (l.take i)).1.length ≤ i ∧ (wF c0 (l.take i)).2.size ≤ i
  | 0 => by simp [wF]; rfl
  | i + 1 => by
    obtain ⟨h1, h2⟩ := wF_len c0 l i
    cases hc : l[i]? with
    | none =>
      rw [List.take_add_one, hc]
      simp
      omega
    | some c =>
      rw [wF_snoc c0 l i c hc]
      unfold wS
      split
      · exact ⟨by simp; omega, Nat.zero_le _⟩
      · refine ⟨Nat.le_succ_of_le h1, ?_⟩
        rw [ByteArray.size_append]
        show _ + 1 ≤ _
        omega
theorem strs_len (l : List ByteArray) : (strs l).length = l.length := by simp [strs]
theorem strs_add (l : List ByteArray) (s : ByteArray) : strs l ++ [[.val (.string s)]] = strs (l ++ [s]) := by simp [strs]
theorem strs_last (l : List ByteArray) (s : ByteArray) : (strs (l ++ [s]))[l.length]? = some [.val (.string s)] := by simp [strs]
theorem strs_set (l : List ByteArray) (s u : ByteArray) : (strs (l ++ [s])).set l.length [.val (.string u)] = strs (l ++ [u]) := by simp [strs]
theorem at_str {t : ByteArray} {i : Nat} (h : i < t.size) : ∃ c, t.data.toList[i]? = some c ∧ atStr t (i : Int) = some c ∧ t.extract i (i + 1) = ⟨#[c]⟩ := by
  have h2 : i < t.data.toList.length := by simpa using h
  have e : t.data.toList[i]? = some t[i] := by rw [List.getElem?_eq_getElem h2]; rfl
  refine ⟨t[i], e, ?_, ?_⟩
  · unfold atStr
    rw [if_pos (by omega), Int.toNat_natCast]
    exact getElem?_pos t i h
  · apply ByteArray.ext
    apply Array.ext'
    rw [ByteArray.data_extract, Array.toList_extract, List.extract_eq_take_drop, show i + 1 - i = 1 by omega]
    rw [List.drop_eq_getElem_cons h2]
    rfl
theorem byte_eq (c : UInt8) (k : Nat) (hk : k < 256) : (((c.toNat : Nat) : Int) == (k : Int)) = decide (c = UInt8.ofNat k) := by
  rw [Bool.eq_iff_iff]
  simp only [beq_iff_eq, decide_eq_true_eq]
  constructor
  · intro h
    apply UInt8.toNat_inj.1
    rw [UInt8.toNat_ofNat']
    omega
  · rintro rfl
    rw [UInt8.toNat_ofNat']
    omega
set_option maxRecDepth 10000 in
theorem split_a {Ev : World → Prop} (hE : Stable Ev) (hf : Tryz.prog.follows .mixedOrders = true) (t : ByteArray) (ht : t.size ≤ 1000) :
    ACalls Tryz.prog Ev 84 [.val (.string t)] (.own 0) [(0, .row 9 1 (strs (refW 32 t)))] := by
  refine ACalls.of hE hf Tryz.func84 rfl (by simp [Tryz.f84]) (Nat.le_of_ble_eq_true rfl) fun F hF => ?_
  simp only [entry, num0, Tryz.ntmps84]
  refine W ?_
  refine loopK (fun i : {i : Nat // i ≤ t.size} => ⟨37, [(0, .val (.string t)), (3, .own 0), (4, .val (.int .i64 i.1))], [(0, .row 9 1 (strs ((wF 32 (t.data.toList.take i.1)).1 ++ [(wF 32 (t.data.toList.take i.1)).2])))], 1⟩) (fun i => t.size - i.1) ⟨0, by omega⟩ (Le.pick [0, 3, 4] [(4, 0)] 1 rfl rfl) ?_
  rintro ⟨i, hi⟩ F1 hN1 hX1 hR1
  dsimp only at hN1 ⊢
  refine W ?_
  refine Gb_split (fun hc => ?_) (fun hc => ?_)
  · have hit : i < t.size := of_decide_eq_true hc
    obtain ⟨c, hc1, hc2, hc3⟩ := at_str hit
    obtain ⟨l1, l2⟩ := wF_len 32 t.data.toList i
    have hs := wF_snoc 32 t.data.toList i c hc1
    have w1 : IntKind.i64.wrap ((i : Int) + 1) = ((i + 1 : Nat) : Int) := w64 (by omega)
    generalize wF 32 (t.data.toList.take i) = q at *
    obtain ⟨A, b⟩ := q
    dsimp only at l1 l2 hs ⊢
    refine W ?_
    rw [show ((c.toNat : Int) == 32) = decide (c = 32) from byte_eq c 32 (by omega)]
    refine Gb_split (fun hq => ?_) (fun hq => ?_)
    · have e : c = 32 := of_decide_eq_true hq
      have hl : (strs (A ++ [b])).length + 1 ≤ maxR := by rw [strs_len]; simp; unfold maxR; omega
      refine W ?_
      refine hN1 _ ⟨i + 1, hit⟩ (Le.pick [0, 3, 4] [(41, 0)] 1 rfl ?_) (by show _ - (i + 1) < _ - i; omega)
      simp [pick, pickT, pickB, slots, look, ren, renB, idF, hs, wS, e, strs_add]
    · have hl1 : (strs (A ++ [b])).length = A.length + 1 := by rw [strs_len]; simp
      have hl2 := strs_last A b
      have hw : IntKind.i64.wrap (((A.length + 1 : Nat) : Int) - 1) = (A.length : Int) := by rw [w64] <;> omega
      have hb : b.size + 1 ≤ maxS := by unfold maxS; omega
      have hcs : (⟨#[c]⟩ : ByteArray).size = 1 := rfl
      have hst := strs_set A b (b ++ ⟨#[c]⟩)
      have hit2 : i + 1 ≤ t.size := hit
      refine W ?_
      refine hN1 _ ⟨i + 1, hit⟩ (Le.pick [0, 3, 4] [(0, 0)] 1 rfl ?_) (by show _ - (i + 1) < _ - i; omega)
      have hq2 : ¬ c = 32 := of_decide_eq_false hq
      simp [pick, pickT, pickB, slots, look, ren, renB, idF, hs, wS, hq2]
  · refine W ?_
    obtain rfl : i = t.size := by have := of_decide_eq_false hc; omega
    refine (hF _ ⟨[(0, 0)], _, rfl, rfl, rfl, ?_⟩).1
    simp [nbOf, look, renB, refW]
    rw [show t.size = t.data.toList.length by simp, List.take_length]
theorem wu8 {x : Int} (h : 0 ≤ x ∧ x ≤ 255) : IntKind.u8.wrap x = x := by
  unfold IntKind.wrap
  simp [IntKind.signed, IntKind.bits]
  omega
def numF (l : List UInt8) : Nat := l.foldl (fun n c => 10 * n + (c.toNat - 48)) 0
def isDig (c : UInt8) : Bool := decide (48 ≤ c.toNat) && decide (c.toNat ≤ 57)
def numR (t : ByteArray) : Int := if t.size ≤ 5 ∧ t.data.toList.all isDig = true ∧ t.size ≠ 0 ∧ digB (numF t.data.toList : Nat) = t then (numF t.data.toList : Nat) else -1
theorem numF_snoc (l : List UInt8) (i : Nat) (c : UInt8) (h : l[i]? = some c) : numF (l.take (i + 1)) = 10 * numF (l.take i) + (c.toNat - 48) := by
  unfold numF
  rw [List.take_add_one, h]
  simp
theorem numF_le (l : List UInt8) : ∀ i, (∀ c ∈ l.take i, c.toNat ≤ 57) → numF (l.take i) < 10 ^ i
  | 0, _ => by simp [numF]
  | i + 1, h => by
    cases hc : l[i]? with
    | none =>
      have e : l.take (i + 1) = l.take i := by rw [List.take_add_one, hc]; simp
      rw [e] at h ⊢
      have := numF_le l i h
      rw [Nat.pow_succ]
      omega
    | some c =>
      have h2 := numF_le l i (fun d hd => h d (by rw [List.take_add_one, hc]; simp [hd]))
      have h3 := h c (by rw [List.take_add_one, hc]; simp)
      rw [numF_snoc l i c hc, Nat.pow_succ]
      omega
set_option maxRecDepth 10000 in
theorem number_a {Ev : World → Prop} (hE : Stable Ev) (hf : Tryz.prog.follows .mixedOrders = true) (t : ByteArray) (ht : t.size ≤ 1000) :
    ACalls Tryz.prog Ev 86 [.val (.string t)] (.val (.int .i64 (numR t))) [] := by
  refine ACalls.of hE hf Tryz.func86 rfl (by simp [Tryz.f86]) (Nat.le_of_ble_eq_true rfl) fun F hF => ?_
  simp only [entry, num0, Tryz.ntmps86]
  refine W ?_
  refine loopK (fun i : {i : Nat // i ≤ t.size ∧ (0 < i → t.size ≤ 5) ∧ (t.data.toList.take i).all isDig = true} => ⟨44, [(0, .val (.string t)), (3, .val (.int .i64 (numF (t.data.toList.take i.1) : Nat))), (4, .val (.int .i64 i.1))], [], 0⟩) (fun i => t.size - i.1) ⟨0, by omega, by simp, by simp⟩ (Le.pick [0, 3, 4] [] 0 rfl rfl) ?_
  rintro ⟨i, hi, h5, hd⟩ F1 hN1 hX1 hR1
  dsimp only at hN1 ⊢
  refine W ?_
  refine Gb_split (fun hc => ?_) (fun hc => ?_)
  · have hit : i < t.size := of_decide_eq_true hc
    obtain ⟨c, hc1, hc2, hc3⟩ := at_str hit
    have w1 : IntKind.i64.wrap ((i : Int) + 1) = ((i + 1 : Nat) : Int) := w64 (by omega)
    have no : ∀ (h : isDig c = false ∨ 5 < t.size), numR t = -1 := fun h => by
      unfold numR
      rw [if_neg]
      rintro ⟨h1, h2, _⟩
      rcases h with h | h
      · rw [List.all_eq_true.1 h2 c (List.mem_of_getElem? hc1)] at h
        cases h
      · omega
    by_cases k1 : c.toNat < 48
    · have d1 : ((c.toNat : Int) < 48) := by omega
      rw [no (.inl (by unfold isDig; simp; omega))] at hF
      clear no
      refine W ?_
      exact (hF _ ⟨[], _, rfl, rfl, rfl, rfl⟩).1
    have d1 : ¬ ((c.toNat : Int) < 48) := by omega
    by_cases k2 : 57 < c.toNat
    · have d2 : ((57 : Int) < c.toNat) := by omega
      rw [no (.inl (by unfold isDig; simp; omega))] at hF
      clear no
      refine W ?_
      exact (hF _ ⟨[], _, rfl, rfl, rfl, rfl⟩).1
    have d2 : ¬ ((57 : Int) < c.toNat) := by omega
    by_cases k3 : 5 < t.size
    · have d3 : ((5 : Int) < t.size) := by omega
      rw [no (.inr k3)] at hF
      clear no
      refine W ?_
      exact (hF _ ⟨[], _, rfl, rfl, rfl, rfl⟩).1
    have d3 : ¬ ((5 : Int) < t.size) := by omega
    have hdig : isDig c = true := by unfold isDig; simp; omega
    have hle := numF_le t.data.toList i (fun x hx => by have := List.all_eq_true.1 hd x hx; unfold isDig at this; simp at this; exact this.2)
    have h10 : 10 ^ i ≤ 10 ^ 5 := Nat.pow_le_pow_right (by decide) (by omega)
    have hsn := numF_snoc t.data.toList i c hc1
    have w2 : IntKind.u8.wrap ((c.toNat : Int) - 48) = ((c.toNat - 48 : Nat) : Int) := by rw [wu8] <;> omega
    have w3 : IntKind.i64.wrap (10 * ((numF (t.data.toList.take i) : Nat) : Int)) = ((10 * numF (t.data.toList.take i) : Nat) : Int) := by rw [w64] <;> omega
    have w4 : IntKind.i64.wrap ((c.toNat - 48 : Nat) : Int) = ((c.toNat - 48 : Nat) : Int) := w64 (by omega)
    have w5 : IntKind.i64.wrap (((10 * numF (t.data.toList.take i) : Nat) : Int) + ((c.toNat - 48 : Nat) : Int)) = ((10 * numF (t.data.toList.take i) + (c.toNat - 48) : Nat) : Int) := by rw [w64] <;> omega
    have hd1 : (t.data.toList.take (i + 1)).all isDig = true := by rw [List.take_add_one, hc1, List.all_append, hd]; simp [hdig]
    clear no hd
    refine W ?_
    refine hN1 _ ⟨i + 1, hit, fun _ => by omega, hd1⟩ (Le.pick [0, 3, 4] [] 0 rfl ?_) (by show _ - (i + 1) < _ - i; omega)
    simp [pick, pickT, pickB, slots, look, ren, hsn]
  · obtain rfl : i = t.size := by have := of_decide_eq_false hc; omega
    have hl : t.data.toList.take t.size = t.data.toList := by rw [show t.size = t.data.toList.length by simp, List.take_length]
    rw [hl] at hd
    by_cases h0 : t.size = 0
    · have e : numR t = -1 := by unfold numR; rw [if_neg]; omega
      rw [e] at hF
      have hz : ((t.size : Int) == 0) = true := by rw [beq_iff_eq]; omega
      clear h0
      refine W ?_
      exact (hF _ ⟨[], _, rfl, rfl, rfl, rfl⟩).1
    have hz : ((t.size : Int) == 0) = false := by rw [beq_eq_false_iff_ne]; omega
    replace h5 := h5 (by omega)
    have hle := numF_le t.data.toList t.size (fun x hx => by rw [hl] at hx; have := List.all_eq_true.1 hd x hx; unfold isDig at this; simp at this; exact this.2)
    have h10 : 10 ^ t.size ≤ 10 ^ 5 := Nat.pow_le_pow_right (by decide) (by omega)
    rw [hl] at hle
    have hdec := decimal_a hE hf (numF t.data.toList) (by omega)
    by_cases hq : digB ((numF t.data.toList : Nat) : Int) = t
    · have e : numR t = (numF t.data.toList : Nat) := by unfold numR; rw [if_pos ⟨h5, hd, h0, hq⟩]
      rw [e] at hF
      clear hd
      refine W ?_
      exact (hF _ ⟨[], _, rfl, rfl, rfl, rfl⟩).1
    · have e : numR t = -1 := by unfold numR; rw [if_neg]; exact fun h => hq h.2.2.2
      rw [e] at hF
      clear hd
      refine W ?_
      exact (hF _ ⟨[], _, rfl, rfl, rfl, rfl⟩).1
end E
end
section
namespace E
def firstN (n : Nat) (f : Nat → Bool) : Int := match (List.range n).find? f with
  | some i => i
  | none => -1
theorem firstN_none {n : Nat} {f : Nat → Bool} (h : ∀ j, j < n → f j = false) : firstN n f = -1 := by
  unfold firstN
  rw [List.find?_eq_none.2 (fun j hj => by rw [h j (List.mem_range.1 hj)]; simp)]
theorem firstN_some {n k : Nat} {f : Nat → Bool} (hk : k < n) (h : ∀ j, j < k → f j = false) (he : f k = true) : firstN n f = k := by
  unfold firstN
  have : (List.range n).find? f = some k := by
    rw [List.find?_range_eq_some]
    exact ⟨he, by simpa using hk, fun j hj => by rw [h j hj]; rfl⟩
  rw [this]
def sqName (N a : Nat) : ByteArray := ⟨#[UInt8.ofNat (97 + a % N), UInt8.ofNat (49 + a / N)]⟩
def sqR (N M : Nat) (s : ByteArray) : Int := firstN (N * M) fun i => decide (sqName N i = s)
set_option maxRecDepth 10000 in
theorem rsquare_a {Ev : World → Prop} (hE : Stable Ev) (hf : Tryz.prog.follows .mixedOrders = true) (N M : Nat) (hN : 1 ≤ N) (hN8 : N ≤ 8) (hM8 : M ≤ 8) (s : ByteArray) :
    ACalls Tryz.prog Ev 88 [szA N M, .val (.string s)] (.val (.int .i64 (sqR N M s))) [] := by
  have hnm := fun a h => rname_a hE hf N (M : Int) a hN hN8 h
  have hNM : N * M ≤ N * 8 := Nat.mul_le_mul_left N hM8
  have hw : IntKind.i64.wrap ((N : Int) * (M : Int)) = ((N * M : Nat) : Int) := by
    have e : ((N * M : Nat) : Int) = (N : Int) * M := by simp
    rw [w64] <;> omega
  simp only [szA] at *
  refine ACalls.of hE hf Tryz.func88 rfl (by simp [Tryz.f88]) (Nat.le_of_ble_eq_true rfl) fun F hF => ?_
  simp only [entry, num0, Tryz.ntmps88]
  refine W ?_
  refine loopK (fun k : {k : Nat // k ≤ N * M ∧ ∀ j, j < k → decide (sqName N j = s) = false} => ⟨21, [(1, .val (.string s)), (2, .ref 0 0), (5, .val (.int .i64 (k.1 : Int)))], [(0, .box [.val (.int .i64 N), .val (.int .i64 M)])], 1⟩) (fun k => N * M - k.1) ⟨0, by omega, by omega⟩ (Le.pick [1, 2, 5] [(0, 0)] 1 rfl rfl) ?_
  rintro ⟨k, hk, hpre⟩ F1 hN1 hX1 hR1
  refine W ?_
  refine Gb_split (fun hc => ?_) (fun hc => ?_)
  · have hkn : k < N * M := of_decide_eq_true hc
    have hnk := hnm k (by omega)
    have w1 : IntKind.i64.wrap ((k : Int) + 1) = ((k + 1 : Nat) : Int) := w64 (by omega)
    replace hpre := Lib.hid hpre
    rw [show (⟨#[UInt8.ofNat (97 + k % N), UInt8.ofNat (49 + k / N)]⟩ : ByteArray) = sqName N k from rfl] at hnk
    by_cases hq : sqName N k = s
    · have e := firstN_some hkn hpre.out (decide_eq_true hq)
      rw [show sqR N M s = k from e] at hF
      refine W ?_
      exact (hF _ ⟨[], _, rfl, rfl, rfl, rfl⟩).1
    · have hd := decide_eq_false hq
      refine W ?_
      refine hN1 _ ⟨k + 1, hkn, fun j hj => ?_⟩ (Le.pick [1, 2, 5] [(0, 0)] 1 rfl rfl) (by show _ - (k + 1) < _ - k; omega)
      rcases Nat.lt_or_ge j k with h | h
      · exact hpre.out j h
      · obtain rfl : j = k := by omega
        exact hd
  · have hkn : k = N * M := by have := of_decide_eq_false hc; omega
    rw [show sqR N M s = -1 from firstN_none (hkn ▸ hpre)] at hF
    clear hN1 hpre hkn
    refine W ?_
    exact (hF _ ⟨[], _, rfl, rfl, rfl, rfl⟩).1
theorem let_again : ∀ k : Fin 31, k.1 ≠ 15 → pieceO ((letB ((k.1 : Int) - 15)).toNat : Int) = some ((k.1 : Int) - 15) := by decide
theorem let_none : ((List.range 256).all fun c => ((List.range 31).any fun k => k != 15 && (letB ((k : Int) - 15)).toNat == c) || (pieceO (c : Int)).isNone) = true := by kernel_rfl
def pieceR (c : UInt8) : Int := (pieceO (c.toNat : Int)).getD 0
theorem pieceR_none {c : UInt8} (h : ∀ j : Nat, j < 31 → j ≠ 15 → letB ((j : Int) - 15) ≠ c) : pieceR c = 0 := by
  have := List.all_eq_true.1 let_none c.toNat (by simpa using c.toNat_lt)
  rw [Bool.or_eq_true] at this
  rcases this with h1 | h1
  · obtain ⟨k, hk, h2⟩ := List.any_eq_true.1 h1
    simp only [Bool.and_eq_true, bne_iff_ne, beq_iff_eq] at h2
    exact absurd (UInt8.toNat_inj.1 h2.2) (h k (List.mem_range.1 hk) h2.1)
  · unfold pieceR
    cases hp : pieceO (c.toNat : Int) with
    | none => rfl
    | some x => rw [hp] at h1; cases h1
set_option maxRecDepth 10000 in
theorem rpiece_a {Ev : World → Prop} (hE : Stable Ev) (hf : Tryz.prog.follows .mixedOrders = true) (c : UInt8) :
    ACalls Tryz.prog Ev 134 [.val (.int .u8 (c.toNat : Int))] (.val (.int .i8 (pieceR c))) [] := by
  have hlt := fun p h1 h2 h0 => rletter_a hE hf p h1 h2 h0
  refine ACalls.of hE hf Tryz.func134 rfl (by simp [Tryz.f134]) (Nat.le_of_ble_eq_true rfl) fun F hF => ?_
  simp only [entry, num0, Tryz.ntmps134]
  refine W ?_
  refine loopK (fun k : {k : Nat // k ≤ 31 ∧ ∀ j, j < k → j ≠ 15 → letB ((j : Int) - 15) ≠ c} => ⟨17, [(0, .val (.int .u8 (c.toNat : Int))), (3, .val (.int .i8 ((k.1 : Int) - 15)))], [], 0⟩) (fun k => 31 - k.1) ⟨0, by omega, by omega⟩ (Le.pick [0, 3] [] 0 rfl rfl) ?_
  rintro ⟨k, hk, hpre⟩ F1 hN1 hX1 hR1
  refine W ?_
  refine Gb_split (fun hc => ?_) (fun hc => ?_)
  · have hkn : k < 31 := by have := of_decide_eq_true hc; omega
    have w1 : IntKind.i8.wrap ((k : Int) - 15 + 1) = ((k + 1 : Nat) : Int) - 15 := by rw [w8] <;> omega
    replace hpre := Lib.hid hpre
    by_cases hk15 : k = 15
    · subst hk15
      clear w1
      have w1 : IntKind.i8.wrap 1 = 1 := rfl
      simp only [show ((15 : Nat) : Int) - 15 = 0 from rfl]
      refine W ?_
      refine hN1 _ ⟨16, by omega, fun j hj h0 => hpre.out j (by omega) h0⟩ (Le.pick [0, 3] [] 0 rfl rfl) (by show _ - 16 < _ - 15; omega)
    · have hne : (((k : Int) - 15) != 0) = true := by rw [bne_iff_ne]; omega
      have hl := hlt ((k : Int) - 15) (by omega) (by omega) (by omega)
      by_cases hq : letB ((k : Int) - 15) = c
      · have e : pieceR c = (k : Int) - 15 := by
          unfold pieceR
          rw [← hq, let_again ⟨k, hkn⟩ hk15]
          rfl
        rw [e] at hF
        have hb : (((letB ((k : Int) - 15)).toNat : Int) == (c.toNat : Int)) = true := by rw [hq]; simp
        clear hq e hk15
        refine W ?_
        exact (hF _ ⟨[], _, rfl, rfl, rfl, rfl⟩).1
      · have hb : (((letB ((k : Int) - 15)).toNat : Int) == (c.toNat : Int)) = false := by
          rw [beq_eq_false_iff_ne]
          intro e
          exact hq (UInt8.toNat_inj.1 (by omega))
        refine W ?_
        refine hN1 _ ⟨k + 1, hkn, fun j hj h0 => ?_⟩ (Le.pick [0, 3] [] 0 rfl rfl) (by show _ - (k + 1) < _ - k; omega)
        rcases Nat.lt_or_ge j k with h | h
        · exact hpre.out j h h0
        · obtain rfl : j = k := by omega
          exact hq
  · have hkn : k = 31 := by have := of_decide_eq_false hc; omega
    subst hkn
    rw [pieceR_none hpre] at hF
    clear hN1 hpre
    refine W ?_
    exact (hF _ ⟨[], _, rfl, rfl, rfl, rfl⟩).1
end E
end
section
namespace E
theorem fold_none {σ α : Type} {f : Option σ → α → Option σ} (hf : ∀ a, f none a = none) : ∀ l : List α, l.foldl f none = none
  | [] => rfl
  | a :: l => by rw [List.foldl_cons, hf a]; exact fold_none hf l
theorem fold_stop {σ α : Type} {f : Option σ → α → Option σ} (hf : ∀ a, f none a = none) {l : List α} {s : Option σ} (k : Nat) (h : (l.take k).foldl f s = none) : l.foldl f s = none := by
  rw [← List.take_append_drop k l, List.foldl_append, h]
  exact fold_none hf _
theorem fold_next {σ α : Type} {f : σ → α → σ} {l : List α} {s : σ} {k : Nat} {a : α} (h : l[k]? = some a) : (l.take (k + 1)).foldl f s = f ((l.take k).foldl f s) a := by
  rw [List.take_add_one, h]
  simp
def isD8 (c : UInt8) : Bool := decide (49 ≤ c.toNat) && decide (c.toNat ≤ 56)
def rS (s : Option (List Int × Bool)) (c : UInt8) : Option (List Int × Bool) := match s with
  | none => none
  | some (row, dg) => if isD8 c then (if dg then none else some (row ++ List.replicate (c.toNat - 48) 0, true)) else if pieceR c = 0 then none else some (row ++ [pieceR c], false)
def rowP (x : List UInt8) : Option (List Int × Bool) := x.foldl rS (some ([], false))
def bdS (s : Option (List Int × Nat)) (x : ByteArray) : Option (List Int × Nat) := match s with
  | none => none
  | some (ps, F) => match rowP x.data.toList with
    | none => none
    | some (row, _) => if row.length < 3 ∨ 8 < row.length ∨ (0 < ps.length ∧ row.length ≠ F) then none else some (ps ++ row, row.length)
def brdL (W : List ByteArray) : Option (List Int × Nat) := W.reverse.foldl bdS (some ([], 0))
def brdR (t : ByteArray) : Option (Nat × Nat × List Int) := if (refW 47 t).length < 3 ∨ 8 < (refW 47 t).length then none else match brdL (refW 47 t) with
  | none => none
  | some (ps, F) => some (F, (refW 47 t).length, ps)
def brdA : Option (Nat × Nat × List Int) → AV
  | none => .tup [bdA 0 0 (.lst []), .val (.bool false)]
  | some (F, M, ps) => .tup [bdA F M (.lst (pcs ps)), .val (.bool true)]
theorem wF_size (c0 : UInt8) (l : List UInt8) : ∀ i, ∀ x ∈ (wF c0 (l.take i)).1, x.size ≤ i
  | 0 => by simp [wF]
  | i + 1 => by
    have ih := wF_size c0 l i
    obtain ⟨_, h2⟩ := wF_len c0 l i
    cases hc : l[i]? with
    | none =>
      have e : l.take (i + 1) = l.take i := by rw [List.take_add_one, hc]; simp
      rw [e]
      exact fun x hx => Nat.le_succ_of_le (ih x hx)
    | some c =>
      rw [wF_snoc c0 l i c hc]
      unfold wS
      split
      · intro x hx
        simp only [List.mem_append, List.mem_singleton] at hx
        rcases hx with hx | rfl
        · exact Nat.le_succ_of_le (ih x hx)
        · omega
      · exact fun x hx => Nat.le_succ_of_le (ih x hx)
theorem refW_size (c0 : UInt8) (t : ByteArray) : ∀ x ∈ refW c0 t, x.size ≤ t.size := by
  have e : t.data.toList.take t.size = t.data.toList := by rw [show t.size = t.data.toList.length by simp, List.take_length]
  have h1 := wF_size c0 t.data.toList t.size
  have h2 := (wF_len c0 t.data.toList t.size).2
  rw [e] at h1 h2
  intro x hx
  unfold refW at hx
  simp only [List.mem_append, List.mem_singleton] at hx
  rcases hx with hx | rfl
  · exact h1 x hx
  · exact h2
theorem pcs_app (a b : List Int) : pcs a ++ pcs b = pcs (a ++ b) := by simp [pcs]
theorem pcs_cat1 (a : List Int) (q : Int) : pcs a ++ [[.val (.int .i8 q)]] = pcs (a ++ [q]) := by simp [pcs]
def b4 : Blk := .box [.val (.int .i64 0), .val (.int .i64 0), .nil]
set_option maxRecDepth 10000 in
theorem rboard_a {Ev : World → Prop} (hE : Stable Ev) (hf : Tryz.prog.follows .mixedOrders = true) (t : ByteArray) (ht : t.size ≤ 1000) :
    ACalls Tryz.prog Ev 85 [.val (.string t)] (brdA (brdR t)) [] := by
  refine ACalls.of hE hf Tryz.func85 rfl (by simp [Tryz.f85]) (Nat.le_of_ble_eq_true rfl) fun F hF => ?_
  simp only [entry, num0, Tryz.ntmps85]
  refine W ?_
  refine loopK (fun i : {i : Nat // i ≤ t.size} => ⟨136, [(0, .val (.string t)), (2, .ref 1 0), (3, .val (.bool false)), (4, .own 0), (5, .val (.int .i64 i.1))], [(0, .row 9 1 (strs ((wF 47 (t.data.toList.take i.1)).1 ++ [(wF 47 (t.data.toList.take i.1)).2]))), (1, b4)], 2⟩) (fun i => t.size - i.1) ⟨0, by omega⟩ (Le.pick [0, 2, 3, 4, 5] [(8, 0), (0, 1)] 2 rfl rfl) ?_
  rintro ⟨i, hi⟩ F1 hN1 hX1 hR1
  dsimp only at hN1 ⊢
  refine W ?_
  refine Gb_split (fun hc => ?_) (fun hc => ?_)
  · have hit : i < t.size := of_decide_eq_true hc
    obtain ⟨c, hc1, hc2, hc3⟩ := at_str hit
    obtain ⟨l1, l2⟩ := wF_len 47 t.data.toList i
    have hs := wF_snoc 47 t.data.toList i c hc1
    have w1 : IntKind.i64.wrap ((i : Int) + 1) = ((i + 1 : Nat) : Int) := w64 (by omega)
    generalize wF 47 (t.data.toList.take i) = q at *
    obtain ⟨A, b⟩ := q
    dsimp only at l1 l2 hs ⊢
    refine W ?_
    rw [show ((c.toNat : Int) == 47) = decide (c = 47) from byte_eq c 47 (by omega)]
    refine Gb_split (fun hq => ?_) (fun hq => ?_)
    · have e : c = 47 := of_decide_eq_true hq
      have hl : (strs (A ++ [b])).length + 1 ≤ maxR := by rw [strs_len]; simp; unfold maxR; omega
      refine W ?_
      refine hN1 _ ⟨i + 1, hit⟩ (Le.pick [0, 2, 3, 4, 5] [(42, 0), (1, 1)] 2 rfl ?_) (by show _ - (i + 1) < _ - i; omega)
      simp [pick, pickT, pickB, slots, look, ren, renL, renB, idF, hs, wS, e, strs_add, b4]
    · have hl1 : (strs (A ++ [b])).length = A.length + 1 := by rw [strs_len]; simp
      have hl2 := strs_last A b
      have hw : IntKind.i64.wrap (((A.length + 1 : Nat) : Int) - 1) = (A.length : Int) := by rw [w64] <;> omega
      have hb : b.size + 1 ≤ maxS := by unfold maxS; omega
      have hcs : (⟨#[c]⟩ : ByteArray).size = 1 := rfl
      have hst := strs_set A b (b ++ ⟨#[c]⟩)
      have hit2 : i + 1 ≤ t.size := hit
      refine W ?_
      refine hN1 _ ⟨i + 1, hit⟩ (Le.pick [0, 2, 3, 4, 5] [(0, 0), (1, 1)] 2 rfl ?_) (by show _ - (i + 1) < _ - i; omega)
      have hq2 : ¬ c = 47 := of_decide_eq_false hq
      simp [pick, pickT, pickB, slots, look, ren, renL, renB, idF, hs, wS, hq2, b4]
  obtain rfl : i = t.size := by have := of_decide_eq_false hc; omega
  clear hN1
  rw [show t.size = t.data.toList.length by simp, List.take_length]
  obtain ⟨W0, hW⟩ : ∃ W0, refW 47 t = W0 := ⟨_, rfl⟩
  have hWs := refW_size 47 t
  unfold brdR at hF
  rw [hW] at hF hWs
  unfold refW at hW
  rw [hW]
  have hlen := strs_len W0
  replace hW := Lib.hid hW
  clear hc hi
  by_cases h3 : W0.length < 3
  · rw [if_pos (.inl h3)] at hF
    have d3 : ((W0.length : Int) < 3) := by omega
    clear h3
    unfold b4
    refine W ?_
    exact (hF _ ⟨[], _, rfl, rfl, rfl, rfl⟩).1
  by_cases h8 : 8 < W0.length
  · rw [if_pos (.inr h8)] at hF
    have d3 : ¬ ((W0.length : Int) < 3) := by omega
    have d8 : ((8 : Int) < W0.length) := by omega
    clear h8
    unfold b4
    refine W ?_
    exact (hF _ ⟨[], _, rfl, rfl, rfl, rfl⟩).1
  rw [if_neg (by omega)] at hF
  have d3 : ¬ ((W0.length : Int) < 3) := by omega
  have d8 : ¬ ((8 : Int) < W0.length) := by omega
  have w1 : IntKind.i64.wrap ((W0.length : Int) - 1) = (W0.length : Int) - 1 := by rw [w64]; omega
  unfold b4
  refine W ?_
  have hrl : W0.reverse.length = W0.length := List.length_reverse
  replace hWs := Lib.hid hWs
  refine loopK (fun x : {x : Nat × List Int × Nat // x.1 ≤ W0.length ∧ (W0.reverse.take x.1).foldl bdS (some ([], 0)) = some x.2 ∧ x.2.1.length ≤ 8 * x.1} => ⟨136, [(2, .ref 0 0), (3, .val (.bool false)), (4, .own 1), (6, .ref 2 0), (7, .val (.int .i64 ((W0.length : Int) - 1 - x.1.1)))], [(0, .box [.val (.int .i64 0), .val (.int .i64 0), .nil]), (1, .row 9 1 (strs W0)), (2, .box [.val (.int .i64 x.1.2.2), .val (.int .i64 ((if x.1.1 = 0 then 0 else W0.length : Nat) : Int)), .own 3]), (3, .row 48 1 (pcs x.1.2.1))], 4⟩)
    (fun x => W0.length - x.1.1) ⟨(0, [], 0), by simp, rfl, by simp⟩ ((Le.pick [2, 3, 4, 6, 7] [(1, 0), (0, 1), (54, 2)] 3 rfl rfl).trans ((Le.nilB 2 2 48 1 _ (by omega) rfl rfl).trans (Le.pick [2, 3, 4, 6, 7] [(0, 0), (1, 1), (2, 2), (3, 3)] 4 rfl ?_))) ?_
  · simp [pick, pickT, pickB, slots, look, ren, renL, renB, idF, hset, pcs]
  rintro ⟨⟨k, ps, F0⟩, hk, hfold, hpl⟩ F2 hN2 hX2 hR2
  dsimp only at hk hfold hpl hN2 ⊢
  have hpn := pcs_len ps
  refine W ?_
  rcases Nat.lt_or_ge k W0.length with hkm | hkm
  · obtain ⟨q, hq⟩ : ∃ q : Nat, (W0.length : Int) - 1 - k = q := ⟨W0.length - 1 - k, by omega⟩
    obtain ⟨x, hx⟩ : ∃ x, W0[q]? = some x := ⟨_, List.getElem?_eq_getElem (by omega)⟩
    have hxr : W0.reverse[k]? = some x := by rw [List.getElem?_reverse hkm, show W0.length - 1 - k = q by omega]; exact hx
    have hxs := strs_at hx
    have hxz : x.size ≤ 1000 := Nat.le_trans (hWs.out x (List.mem_of_getElem? hx)) ht
    have hql : q < W0.length := by omega
    have hnext := fold_next (f := bdS) (s := some ([], 0)) hxr
    rw [hfold] at hnext
    replace hfold := Lib.hid hfold
    replace hnext := Lib.hid hnext
    replace hx := Lib.hid hx
    replace hxr := Lib.hid hxr
    obtain ⟨R0, hR0⟩ : ∃ R0, (if k = 0 then 0 else W0.length) = R0 := ⟨_, rfl⟩
    rw [hR0]
    clear hR0
    refine W ?_
    have hfail : bdS (some (ps, F0)) x = none → brdL W0 = none := fun h => fold_stop (fun _ => rfl) (k + 1) (by rw [hnext.out, h])
    replace hfail := Lib.hid hfail
    refine loopK (fun y : {y : Nat × List Int × Bool // y.1 ≤ x.size ∧ (x.data.toList.take y.1).foldl rS (some ([], false)) = some y.2 ∧ y.2.1.length ≤ 8 * y.1} => ⟨136, [(2, .ref 0 0), (3, .val (.bool false)), (4, .own 1), (6, .ref 2 0), (7, .val (.int .i64 q)), (8, .own 4), (9, .val (.bool y.1.2.2)), (10, .val (.int .i64 y.1.1))], [(0, .box [.val (.int .i64 0), .val (.int .i64 0), .nil]), (1, .row 9 1 (strs W0)), (2, .box [.val (.int .i64 F0), .val (.int .i64 R0), .own 3]), (3, .row 48 1 (pcs ps)), (4, .row 48 1 (pcs y.1.2.1))], 5⟩)
      (fun y => x.size - y.1.1) ⟨(0, [], false), by simp, rfl, by simp⟩ ((Le.pick [2, 3, 4, 6, 7, 8, 9, 10] [(0, 0), (1, 1), (2, 2), (3, 3)] 4 rfl rfl).trans ((Le.nil 8 48 1 (by omega) rfl).trans (Le.pick [2, 3, 4, 6, 7, 8, 9, 10] [(0, 0), (1, 1), (2, 2), (3, 3), (4, 4)] 5 rfl rfl))) ?_
    rintro ⟨⟨j, row, dg⟩, hj, hrow, hrl2⟩ F3 hN3 hX3 hR3
    dsimp only at hj hrow hrl2 hN3 ⊢
    have hrn := pcs_len row
    refine W ?_
    refine Gb_split (fun hc => ?_) (fun hc => ?_)
    · have hjx : j < x.size := of_decide_eq_true hc
      obtain ⟨c, hc1, hc2, hc3⟩ := at_str hjx
      have hrn2 := fold_next (f := rS) (s := some ([], false)) hc1
      rw [hrow] at hrn2
      have w2 : IntKind.i64.wrap ((j : Int) + 1) = ((j + 1 : Nat) : Int) := w64 (by omega)
      have hfail2 : rS (some (row, dg)) c = none → brdL W0 = none := fun h => hfail.out (by
        have : rowP x.data.toList = none := fold_stop (fun _ => rfl) (j + 1) (by rw [hrn2, h])
        unfold bdS
        dsimp only
        rw [this])
      replace hfail2 := Lib.hid hfail2
      replace hrn2 := Lib.hid hrn2
      replace hrow := Lib.hid hrow
      cases hdig : isD8 c with
      | true =>
        have d1 : (49 : Int) ≤ c.toNat := by unfold isD8 at hdig; simp at hdig; omega
        have d2 : (c.toNat : Int) ≤ 56 := by unfold isD8 at hdig; simp at hdig; omega
        cases dg with
        | true =>
          rw [hfail2.out (by simp [rS, hdig])] at hF
          clear hdig
          refine W ?_
          exact (hF _ ⟨[], _, rfl, rfl, rfl, rfl⟩).1
        | false =>
          obtain ⟨e, he⟩ : ∃ e, c.toNat = 48 + e := ⟨c.toNat - 48, by omega⟩
          have he8 : e ≤ 8 := by omega
          have hnx : rS (some (row, false)) c = some (row ++ List.replicate e 0, true) := by simp [rS, hdig, he]
          rw [hnx] at hrn2
          rw [he] at d1 d2
          clear hdig hfail2 hnx hN2 hc3
          refine W ?_
          refine loopK (fun d : {d : Nat // d ≤ e} => ⟨136, [(2, .ref 0 0), (3, .val (.bool false)), (4, .own 1), (6, .ref 2 0), (7, .val (.int .i64 q)), (8, .own 4), (10, .val (.int .i64 j)), (11, .val (.int .u8 ((48 + e : Nat) : Int))), (12, .val (.int .u8 ((48 + d.1 : Nat) : Int)))], [(0, .box [.val (.int .i64 0), .val (.int .i64 0), .nil]), (1, .row 9 1 (strs W0)), (2, .box [.val (.int .i64 F0), .val (.int .i64 R0), .own 3]), (3, .row 48 1 (pcs ps)), (4, .row 48 1 (pcs (row ++ List.replicate d.1 0)))], 5⟩)
            (fun d => e - d.1) ⟨0, by omega⟩ (Le.pick [2, 3, 4, 6, 7, 8, 10, 11, 12] [(0, 0), (1, 1), (2, 2), (3, 3), (4, 4)] 5 rfl ?_) ?_
          · simp [pick, pickT, pickB, slots, look, ren, renL, renB, idF]
          rintro ⟨d, hd⟩ F4 hN4 hX4 hR4
          dsimp only at hd hN4 ⊢
          refine W ?_
          rcases Nat.lt_or_ge d e with hde | hde
          · have w3 : IntKind.u8.wrap (((48 + d : Nat) : Int) + 1) = ((48 + d + 1 : Nat) : Int) := by rw [wu8] <;> omega
            have hlt : 48 + d < 48 + e := by omega
            have hml : (pcs (row ++ List.replicate d 0)).length + 1 ≤ maxR := by rw [pcs_len]; simp; unfold maxR; omega
            have hok := pcs_ok (row ++ List.replicate d 0)
            refine W ?_
            refine hN4 _ ⟨d + 1, hde⟩ (Le.pick [2, 3, 4, 6, 7, 8, 10, 11, 12] [(0, 0), (1, 1), (2, 2), (3, 3), (25, 4)] 5 rfl ?_) (by show e - (d + 1) < e - d; omega)
            simp [pick, pickT, pickB, slots, look, ren, renL, renB, idF, pcs_cat1, List.replicate_succ', Nat.add_assoc]
          · obtain rfl : d = e := by omega
            refine W ?_
            refine hN3 _ ⟨(j + 1, row ++ List.replicate d 0, true), hjx, hrn2.out, by simp; omega⟩ (Le.pick [2, 3, 4, 6, 7, 8, 9, 10] [(0, 0), (1, 1), (2, 2), (3, 3), (4, 4)] 5 rfl rfl) (by show _ - (j + 1) < _ - j; omega)
      | false =>
        have hpc := rpiece_a hE hf c
        have hor : (c.toNat : Int) < 49 ∨ ¬ (c.toNat : Int) < 49 ∧ (56 : Int) < c.toNat := by unfold isD8 at hdig; simp at hdig; omega
        have key : ∀ (s : St), s = s → True := fun _ _ => trivial
        by_cases hp0 : pieceR c = 0
        · rw [hfail2.out (by simp [rS, hdig, hp0])] at hF
          have hpz : ((pieceR c) == 0) = true := by rw [hp0]; rfl
          clear hdig hp0 key
          rcases hor with d1 | ⟨d1, d2⟩
          · have d3 : ¬ (49 : Int) ≤ c.toNat := by omega
            refine W ?_
            exact (hF _ ⟨[], _, rfl, rfl, rfl, rfl⟩).1
          · have d3 : (49 : Int) ≤ c.toNat := by omega
            have d4 : ¬ (c.toNat : Int) ≤ 56 := by omega
            refine W ?_
            exact (hF _ ⟨[], _, rfl, rfl, rfl, rfl⟩).1
        · have hpz : ((pieceR c) == 0) = false := by rw [beq_eq_false_iff_ne]; exact hp0
          have hnx : rS (some (row, dg)) c = some (row ++ [pieceR c], false) := by simp [rS, hdig, hp0]
          rw [hnx] at hrn2
          have hml : row.length + 1 ≤ maxR := by unfold maxR; omega
          have hok := pcs_ok row
          clear hdig hp0 key hfail2 hnx
          rcases hor with d1 | ⟨d1, d2⟩
          · have d3 : ¬ (49 : Int) ≤ c.toNat := by omega
            refine W ?_
            refine hN3 _ ⟨(j + 1, row ++ [pieceR c], false), hjx, hrn2.out, by simp; omega⟩ (Le.pick [2, 3, 4, 6, 7, 8, 9, 10] [(0, 0), (1, 1), (2, 2), (3, 3), (117, 4)] 5 rfl ?_) (by show _ - (j + 1) < _ - j; omega)
            simp [pick, pickT, pickB, slots, look, ren, renL, renB, idF, pcs_cat1]
          · have d3 : (49 : Int) ≤ c.toNat := by omega
            have d4 : ¬ (c.toNat : Int) ≤ 56 := by omega
            refine W ?_
            refine hN3 _ ⟨(j + 1, row ++ [pieceR c], false), hjx, hrn2.out, by simp; omega⟩ (Le.pick [2, 3, 4, 6, 7, 8, 9, 10] [(0, 0), (1, 1), (2, 2), (3, 3), (117, 4)] 5 rfl ?_) (by show _ - (j + 1) < _ - j; omega)
            simp [pick, pickT, pickB, slots, look, ren, renL, renB, idF, pcs_cat1]
    · obtain rfl : j = x.size := by have := of_decide_eq_false hc; omega
      have hrow2 : rowP x.data.toList = some (row, dg) := by
        rw [← hrow, show x.size = x.data.toList.length by simp, List.take_length]
        rfl
      clear hN3 hc
      by_cases l1 : row.length < 3
      · have d1 : (row.length : Int) < 3 := by omega
        rw [hfail.out (by simp [bdS, hrow2, l1])] at hF
        clear l1 hrow2 hrow
        refine W ?_
        exact (hF _ ⟨[], _, rfl, rfl, rfl, rfl⟩).1
      have d1 : ¬ (row.length : Int) < 3 := by omega
      by_cases l2 : 8 < row.length
      · have d2 : (8 : Int) < row.length := by omega
        rw [hfail.out (by simp [bdS, hrow2, l2])] at hF
        clear l2 hrow2 hrow
        refine W ?_
        exact (hF _ ⟨[], _, rfl, rfl, rfl, rfl⟩).1
      have d2 : ¬ (8 : Int) < row.length := by omega
      by_cases l3 : 0 < ps.length
      · have d3 : (0 : Int) < ps.length := by omega
        by_cases l4 : row.length = F0
        · have d4 : ((row.length : Int) != F0) = false := by rw [bne_eq_false_iff_eq]; omega
          have hnb : bdS (some (ps, F0)) x = some (ps ++ row, row.length) := by unfold bdS; dsimp only; rw [hrow2]; dsimp only; rw [if_neg (by omega)]
          clear l4
          rw [hnb] at hnext
          have w3 : IntKind.i64.wrap ((q : Int) - 1) = (W0.length : Int) - 1 - ((k + 1 : Nat) : Int) := by rw [w64] <;> omega
          have hml : ps.length + row.length ≤ maxR := by unfold maxR; omega
          have hok := pcs_ok row
          replace hrow2 := Lib.hid hrow2
          clear hfail hnb l1 l2
          refine W ?_
          refine hN2 _ ⟨(k + 1, ps ++ row, row.length), hkm, hnext.out, by simp; omega⟩ (Le.pick [2, 3, 4, 6, 7] [(0, 0), (1, 1), (2, 2), (161, 3)] 4 rfl ?_) (by show _ - (k + 1) < _ - k; omega)

          simp [pick, pickT, pickB, slots, look, ren, renL, renB, idF, pcs_app]
        · have d4 : ((row.length : Int) != F0) = true := by rw [bne_iff_ne]; omega
          rw [hfail.out (by simp [bdS, hrow2, l3, l4])] at hF
          clear l4 hrow2 hrow
          refine W ?_
          exact (hF _ ⟨[], _, rfl, rfl, rfl, rfl⟩).1
      · have d3 : ¬ (0 : Int) < ps.length := by omega
        have hnb : bdS (some (ps, F0)) x = some (ps ++ row, row.length) := by unfold bdS; dsimp only; rw [hrow2]; dsimp only; rw [if_neg (by omega)]
        rw [hnb] at hnext
        have w3 : IntKind.i64.wrap ((q : Int) - 1) = (W0.length : Int) - 1 - ((k + 1 : Nat) : Int) := by rw [w64] <;> omega
        have hml : ps.length + row.length ≤ maxR := by unfold maxR; omega
        have hok := pcs_ok row
        replace hrow2 := Lib.hid hrow2
        clear hfail hnb l1 l2
        refine W ?_
        refine hN2 _ ⟨(k + 1, ps ++ row, row.length), hkm, hnext.out, by simp; omega⟩ (Le.pick [2, 3, 4, 6, 7] [(0, 0), (1, 1), (2, 2), (161, 3)] 4 rfl ?_) (by show _ - (k + 1) < _ - k; omega)

        simp [pick, pickT, pickB, slots, look, ren, renL, renB, idF, pcs_app]
  · obtain rfl : k = W0.length := by omega
    have hneg : ¬ (0 : Int) ≤ (W0.length : Int) - 1 - W0.length := by omega
    have hall : brdL W0 = some (ps, F0) := by
      unfold brdL
      rw [← hfold, ← hrl, List.take_length]
    rw [hall] at hF
    have hz : (if W0.length = 0 then 0 else W0.length) = W0.length := if_neg (by omega)
    clear hall hN2
    refine W ?_
    exact (hF _ ⟨[], _, rfl, rfl, rfl, rfl⟩).1
end E
end
section
namespace E
theorem join_app (c : UInt8) : ∀ (xs : List (List UInt8)), xs ≠ [] → ∀ y, Lib.join (xs ++ [y]) [c] = Lib.join xs [c] ++ c :: y
  | [], h, _ => absurd rfl h
  | [x], _, y => by simp [Lib.join, List.intercalate]
  | x :: z :: r, _, y => by
    have ih := join_app c (z :: r) (by simp) y
    rw [List.cons_append, List.cons_append, join2, ← List.cons_append, ih, join2]
    simp
theorem join_last (c : UInt8) : ∀ (xs : List (List UInt8)) (b s : List UInt8), Lib.join (xs ++ [b ++ s]) [c] = Lib.join (xs ++ [b]) [c] ++ s
  | [], b, s => by simp [Lib.join_one]
  | x :: r, b, s => by
    rw [join_app c (x :: r) (by simp), join_app c (x :: r) (by simp)]
    simp
theorem wF_join (c0 : UInt8) (l : List UInt8) : ∀ i, i ≤ l.length → Lib.join (((wF c0 (l.take i)).1 ++ [(wF c0 (l.take i)).2]).map (·.data.toList)) [c0] = l.take i ∧ ∀ x ∈ (wF c0 (l.take i)).1 ++ [(wF c0 (l.take i)).2], c0 ∉ x.data.toList
  | 0, _ => by simp [wF, Lib.join, List.intercalate]
  | i + 1, hi => by
    obtain ⟨h1, h2⟩ := wF_join c0 l i (by omega)
    have hc : l[i]? = some l[i] := List.getElem?_eq_getElem (by omega)
    generalize l[i] = c at hc
    have e : l.take (i + 1) = l.take i ++ [c] := by rw [List.take_add_one, hc]; rfl
    rw [wF_snoc c0 l i c hc]
    generalize wF c0 (l.take i) = q at h1 h2
    obtain ⟨A, b⟩ := q
    dsimp only at h1 h2
    unfold wS
    dsimp only
    split
    · rename_i hcc
      subst hcc
      dsimp only
      refine ⟨?_, fun x hx => ?_⟩
      · rw [e, ← h1, List.map_append, List.map_append]
        have := join_app c (A.map (·.data.toList) ++ [b.data.toList]) (by simp) []
        simpa using this
      · simp only [List.mem_append, List.mem_singleton] at hx
        rcases hx with hx | rfl
        · exact h2 x (by simpa using hx)
        · simp
    · rename_i hcc
      dsimp only
      refine ⟨?_, fun x hx => ?_⟩
      · rw [e, ← h1, List.map_append, List.map_append]
        simp only [List.map_cons, List.map_nil, ByteArray.data_append, Array.toList_append]
        exact join_last c0 (A.map (·.data.toList)) b.data.toList [c]
      · simp only [List.mem_append, List.mem_singleton] at hx
        rcases hx with hx | rfl
        · exact h2 x (by simp [hx])
        · have := h2 b (by simp)
          rw [ByteArray.data_append, Array.toList_append]
          simp only [List.mem_append, not_or]
          exact ⟨this, by simpa using fun e => hcc e.symm⟩
theorem refW_split (c0 : UInt8) (t : ByteArray) : splitS t ⟨#[c0]⟩ = refW c0 t := by
  obtain ⟨h1, h2⟩ := wF_join c0 t.data.toList t.data.toList.length (Nat.le_refl _)
  rw [List.take_length] at h1 h2
  have := splitS_join c0 (refW c0 t) (by simp [refW]) h2
  rw [show (Lib.join ((refW c0 t).map (·.data.toList)) [c0]) = t.data.toList from h1] at this
  simpa using this
theorem pieceR_let : ∀ k : Fin 31, k.1 ≠ 15 → pieceR (letB ((k.1 : Int) - 15)) = (k.1 : Int) - 15 ∧ isD8 (letB ((k.1 : Int) - 15)) = false := by decide
theorem pieceR_of : ((List.range 256).all fun c => pieceR (UInt8.ofNat c) == 0 || (letB (pieceR (UInt8.ofNat c)) == UInt8.ofNat c && decide (-15 ≤ pieceR (UInt8.ofNat c)) && decide (pieceR (UInt8.ofNat c) ≤ 15))) = true := by kernel_rfl
theorem piece_let {c : UInt8} (h : pieceR c ≠ 0) : letB (pieceR c) = c ∧ -15 ≤ pieceR c ∧ pieceR c ≤ 15 := by
  have := List.all_eq_true.1 pieceR_of c.toNat (by simpa using c.toNat_lt)
  rw [UInt8.ofNat_toNat] at this
  simp only [Bool.or_eq_true, Bool.and_eq_true, beq_iff_eq, decide_eq_true_eq, h, false_or] at this
  exact ⟨this.1.1, this.1.2, this.2⟩
theorem dig_d8 : ∀ e : Fin 9, 0 < e.1 → isD8 (UInt8.ofNat (48 + e.1)) = true ∧ (UInt8.ofNat (48 + e.1)).toNat - 48 = e.1 := by decide
theorem rowP_snoc (x : List UInt8) (c : UInt8) : rowP (x ++ [c]) = rS (rowP x) c := by simp [rowP]
theorem rowP_flush {a : List UInt8} {az : List Int} {e : Nat} (h : rowP a = some (az, false)) (he : e ≤ 8) : ∃ dg, rowP (flush (a, e)) = some (az ++ List.replicate e 0, dg) := by
  unfold flush
  dsimp only
  split
  · rename_i h0
    obtain ⟨d1, d2⟩ := dig_d8 ⟨e, by omega⟩ h0
    simp only at d1 d2
    exact ⟨true, by rw [rowP_snoc, h]; simp only [rS, d1, d2, if_true, Bool.false_eq_true, if_false]⟩
  · obtain rfl : e = 0 := by omega
    exact ⟨false, by simpa using h⟩
theorem rowP_row : ∀ (l : List Int) (a : List UInt8) (az : List Int) (e : Nat), rowP a = some (az, false) → e + l.length ≤ 8 → (∀ p ∈ l, -15 ≤ p ∧ p ≤ 15) → ∃ dg, rowP (flush (l.foldl rowStep (a, e))) = some (az ++ List.replicate e 0 ++ l, dg)
  | [], a, az, e, h, he, _ => by simpa using rowP_flush h (by simpa using he)
  | p :: l, a, az, e, h, he, hb => by
    have hp := hb p (by simp)
    have hb2 : ∀ q ∈ l, -15 ≤ q ∧ q ≤ 15 := fun q hq => hb q (List.mem_cons_of_mem _ hq)
    simp only [List.length_cons] at he
    by_cases h0 : p = 0
    · subst h0
      obtain ⟨dg, hd⟩ := rowP_row l a az (e + 1) h (by omega) hb2
      refine ⟨dg, ?_⟩
      rw [List.foldl_cons, show rowStep (a, e) 0 = (a, e + 1) from rfl, hd, List.replicate_succ']
      simp
    · obtain ⟨k, hk, rfl⟩ : ∃ k : Nat, k < 31 ∧ p = (k : Int) - 15 := ⟨(p + 15).toNat, by omega, by omega⟩
      obtain ⟨q1, q2⟩ := pieceR_let ⟨k, hk⟩ (by show k ≠ 15; omega)
      simp only at q1 q2
      obtain ⟨dg, hd⟩ := rowP_flush h (show e ≤ 8 by omega)
      have h3 : rowP (flush (a, e) ++ [letB ((k : Int) - 15)]) = some (az ++ List.replicate e 0 ++ [(k : Int) - 15], false) := by
        rw [rowP_snoc, hd]
        simp [rS, q1, q2, h0]
      obtain ⟨dg2, hd2⟩ := rowP_row l _ _ 0 h3 (by omega) hb2
      refine ⟨dg2, ?_⟩
      rw [List.foldl_cons, show rowStep (a, e) ((k : Int) - 15) = (flush (a, e) ++ [letB ((k : Int) - 15)], 0) by simp [rowStep, h0], hd2]
      simp
theorem rowP_rank {l : List Int} (hl : l.length ≤ 8) (hb : ∀ p ∈ l, -15 ≤ p ∧ p ≤ 15) : ∃ dg, rowP (rankL l) = some (l, dg) := by
  have h := row_flush [] hl hb
  rw [List.nil_append] at h
  rw [← h]
  obtain ⟨dg, hd⟩ := rowP_row l [] [] 0 rfl (by omega) hb
  exact ⟨dg, by simpa [rowK] using hd⟩
theorem rankL_snoc1 (l : List Int) (p : Int) : rankL (l ++ [p]) = rankStep (rankL l) p := by simp [rankL]
theorem rank_zeros {l : List Int} (h : ∀ b, (rankL l).getLast? = some b → isD8 b = false) : ∀ d, 0 < d → d ≤ 8 → rankL (l ++ List.replicate d 0) = rankL l ++ [UInt8.ofNat (48 + d)]
  | 0, h0, _ => absurd h0 (by omega)
  | 1, _, _ => by
    rw [show List.replicate 1 (0 : Int) = [0] from rfl, rankL_snoc1]
    refine rankStep_new fun d hd hq => ?_
    have := h d hd
    unfold isD8 at this
    simp only [Bool.and_eq_false_iff, decide_eq_false_iff_not] at this
    omega
  | d + 2, _, hd => by
    have ih := rank_zeros h (d + 1) (by omega) (by omega)
    obtain ⟨d1, d2⟩ := dig_up ⟨d + 1, by omega⟩
    simp only at d1 d2
    rw [List.replicate_succ', ← List.append_assoc, rankL_snoc1, ih]
    unfold rankStep
    simp only [ne_eq, not_true_eq_false, if_false, List.getLast?_append, List.getLast?_singleton, Option.some_or]
    rw [d2, if_pos (by omega), d1]
    show _ = rankL l ++ [UInt8.ofNat (48 + (d + 1 + 1))]
    generalize UInt8.ofNat (48 + (d + 1 + 1)) = z
    generalize UInt8.ofNat (48 + (d + 1)) = y
    simp
theorem rowP_back : ∀ (n : Nat) (x : List UInt8) (row : List Int) (dg : Bool), x.length = n → rowP x = some (row, dg) → rankL row = x ∧ (∀ p ∈ row, -15 ≤ p ∧ p ≤ 15) ∧ (dg = false → ∀ b, x.getLast? = some b → isD8 b = false)
  | 0, x, row, dg, hn, h => by
    obtain rfl : x = [] := List.length_eq_zero_iff.1 hn
    simp only [rowP, List.foldl_nil, Option.some.injEq, Prod.mk.injEq] at h
    obtain ⟨rfl, rfl⟩ := h
    exact ⟨rfl, by simp, by simp⟩
  | n + 1, x, row, dg, hn, h => by
    obtain ⟨y, c, rfl⟩ : ∃ y c, x = y ++ [c] := ⟨x.dropLast, x.getLast (by intro e; rw [e] at hn; simp at hn), (List.dropLast_concat_getLast _).symm⟩
    rw [rowP_snoc] at h
    cases hy : rowP y with
    | none => rw [hy] at h; cases h
    | some q =>
      obtain ⟨r0, d0⟩ := q
      obtain ⟨i1, i2, i3⟩ := rowP_back n y r0 d0 (by simpa using hn) hy
      rw [hy] at h
      simp only [rS] at h
      split at h
      · rename_i hd
        split at h
        · cases h
        · rename_i hd0
          simp only [Option.some.injEq, Prod.mk.injEq] at h
          obtain ⟨rfl, rfl⟩ := h
          have hc : 49 ≤ c.toNat ∧ c.toNat ≤ 56 := by unfold isD8 at hd; simpa using hd
          have := rank_zeros (l := r0) (by rw [i1]; exact i3 (by simpa using hd0)) (c.toNat - 48) (by omega) (by omega)
          refine ⟨?_, fun p hp => ?_, by simp⟩
          · rw [this, i1, show 48 + (c.toNat - 48) = c.toNat by omega, UInt8.ofNat_toNat]
          · simp only [List.mem_append, List.mem_replicate] at hp
            rcases hp with hp | ⟨_, rfl⟩
            · exact i2 p hp
            · omega
      · rename_i hd
        split at h
        · cases h
        · rename_i hp0
          simp only [Option.some.injEq, Prod.mk.injEq] at h
          obtain ⟨rfl, rfl⟩ := h
          obtain ⟨q1, q2, q3⟩ := piece_let hp0
          refine ⟨by rw [rankL_snoc1, rankStep_p hp0, i1, q1], fun p hp => ?_, fun _ b hb => ?_⟩
          · simp only [List.mem_append, List.mem_singleton] at hp
            rcases hp with hp | rfl
            · exact i2 p hp
            · exact ⟨q2, q3⟩
          · simp only [List.getLast?_append, List.getLast?_singleton, Option.some_or, Option.some.injEq] at hb
            subst hb
            simpa using hd
theorem brd_back {F : Nat} {ps : List Int} : ∀ (X : List ByteArray), X.foldl bdS (some ([], 0)) = some (ps, F) → X ≠ [] →
    (3 ≤ F ∧ F ≤ 8) ∧ ps.length = F * X.length ∧ (∀ p ∈ ps, -15 ≤ p ∧ p ≤ 15) ∧ ∀ i, i < X.length → ∃ x, X[i]? = some x ∧ rankAt F ps i = x := by
  intro X
  generalize hn : X.length = n
  induction n generalizing X F ps with
  | zero => intro _ h0; exact absurd (List.length_eq_zero_iff.1 hn) h0
  | succ n ih =>
    intro h _
    obtain ⟨Y, x, rfl⟩ : ∃ Y x, X = Y ++ [x] := ⟨X.dropLast, X.getLast (by intro e; rw [e] at hn; simp at hn), (List.dropLast_concat_getLast _).symm⟩
    have hY : Y.length = n := by simpa using hn
    rw [List.foldl_append, List.foldl_cons, List.foldl_nil] at h
    cases hy : Y.foldl bdS (some ([], 0)) with
    | none => rw [hy] at h; cases h
    | some q =>
      obtain ⟨p0, F0⟩ := q
      rw [hy] at h
      simp only [bdS] at h
      cases hr : rowP x.data.toList with
      | none => rw [hr] at h; cases h
      | some q =>
        obtain ⟨row, dg⟩ := q
        obtain ⟨b1, b2, _⟩ := rowP_back _ _ row dg rfl hr
        rw [hr] at h
        dsimp only at h
        split at h
        · cases h
        · rename_i hcond
          simp only [not_or, not_and, Nat.not_lt] at hcond
          obtain ⟨c1, c2, c3⟩ := hcond
          simp only [Option.some.injEq, Prod.mk.injEq] at h
          obtain ⟨rfl, rfl⟩ := h
          have hx : ∀ (m : Nat), p0.length = row.length * m → rankAt row.length (p0 ++ row) m = x := fun m hm => by
            apply ByteArray.ext
            apply Array.ext'
            rw [rankAt_l, List.drop_append_of_le_length (by omega), List.drop_of_length_le (by omega), List.nil_append, List.take_length]
            exact b1
          rcases Nat.eq_zero_or_pos n with h0 | h0
          · subst h0
            obtain rfl : Y = [] := List.length_eq_zero_iff.1 hY
            simp only [List.foldl_nil, Option.some.injEq, Prod.mk.injEq] at hy
            obtain ⟨rfl, rfl⟩ := hy
            refine ⟨⟨c1, c2⟩, by simp, by simpa using b2, fun i hi => ?_⟩
            obtain rfl : i = 0 := by omega
            exact ⟨x, by simp, hx 0 (by simp)⟩
          · have hYn : Y ≠ [] := by intro e; rw [e] at hY; simp at hY; omega
            obtain ⟨⟨f1, f2⟩, i1, i2, i3⟩ := ih Y hY hy hYn
            have hpos : 0 < p0.length := by rw [i1]; exact Nat.mul_pos (by omega) h0
            have hF : row.length = F0 := by
              have := c3 hpos
              omega
            refine ⟨⟨c1, c2⟩, ?_, ?_, fun i hi => ?_⟩
            · rw [List.length_append, i1, hF, Nat.mul_succ]
            · intro p hp
              simp only [List.mem_append] at hp
              rcases hp with hp | hp
              · exact i2 p hp
              · exact b2 p hp
            · rcases Nat.lt_or_ge i n with hin | hin
              · obtain ⟨z, z1, z2⟩ := i3 i hin
                refine ⟨z, by rw [List.getElem?_append_left (by omega)]; exact z1, ?_⟩
                rw [← z2]
                apply ByteArray.ext
                apply Array.ext'
                rw [rankAt_l, rankAt_l, hF]
                have hle : F0 * i + F0 ≤ p0.length := by rw [i1, ← Nat.mul_succ]; exact Nat.mul_le_mul_left _ hin
                rw [List.drop_append_of_le_length (by omega), List.take_append_of_le_length (by rw [List.length_drop]; omega)]
              · obtain rfl : i = n := by omega
                exact ⟨x, by rw [List.getElem?_append_right (by omega), hY]; simp, hx i (by rw [i1, hF])⟩
theorem brd_on {F M : Nat} {ps : List Int} (h : bvalid F M ps = true) : ∀ k, k ≤ M → ((List.range k).map (rankAt F ps)).foldl bdS (some ([], 0)) = some (ps.take (F * k), if k = 0 then 0 else F)
  | 0, _ => by simp
  | k + 1, hk => by
    obtain ⟨⟨f3, hf, _, _⟩, hl, hb⟩ := bvalid_bd h
    have ih := brd_on h k (by omega)
    have hle : F * k + F ≤ ps.length := by rw [hl, ← Nat.mul_succ]; exact Nat.mul_le_mul_left _ hk
    have hlen : ((ps.drop (F * k)).take F).length = F := by rw [List.length_take, List.length_drop]; omega
    obtain ⟨dg, hd⟩ := rowP_rank (l := (ps.drop (F * k)).take F) (by omega) (row_in hb k)
    rw [List.range_succ, List.map_append, List.foldl_append, ih]
    simp only [List.map_cons, List.map_nil, List.foldl_cons, List.foldl_nil, bdS]
    rw [rankAt_l, hd]
    dsimp only
    rw [if_neg, hlen, Nat.mul_succ, List.take_add]
    · simp
    · rw [hlen]
      rintro (h1 | h1 | ⟨h1, h2⟩)
      · omega
      · omega
      · split at h2
        · rename_i h0
          subst h0
          simp at h1
        · exact h2 rfl
theorem brdR_some {t : ByteArray} {F M : Nat} {ps : List Int} (h : brdR t = some (F, M, ps)) : boardO t = some (F, M, ps) := by
  unfold brdR at h
  split at h
  · cases h
  · rename_i hlen
    split at h
    · cases h
    · rename_i p0 F0 hq
      simp only [Option.some.injEq, Prod.mk.injEq] at h
      obtain ⟨rfl, hM, rfl⟩ := h
      obtain ⟨⟨f1, f2⟩, l1, l2, l3⟩ := brd_back _ hq (by intro e; have := congrArg List.length e; simp at this; rw [this] at hlen; simp at hlen)
      simp only [List.length_reverse] at l1 l3
      rw [hM] at l1 l3 hlen
      have hany : p0.any badB = false := List.any_eq_false.2 (fun p hp => by have := l2 p hp; simp [badB]; omega)
      have hb : bvalid F0 M p0 = true := by
        unfold bvalid vsize sideB
        rw [hany, l1]
        simp
        omega
      have hrv : (List.range M).map (rankAt F0 p0) = (refW 47 t).reverse := by
        apply List.ext_getElem?
        intro i
        rcases Nat.lt_or_ge i M with hi | hi
        · obtain ⟨x, x1, x2⟩ := l3 i hi
          rw [x1, List.getElem?_map, List.getElem?_range hi, ← x2]
          rfl
        · rw [List.getElem?_eq_none (by simpa using hi), List.getElem?_eq_none (by simpa [hM] using hi)]
      have ht : boardL F0 M p0 = t.data.toList := by
        unfold boardL
        rw [hrv, List.reverse_reverse]
        have := (wF_join 47 t.data.toList t.data.toList.length (Nat.le_refl _)).1
        rw [List.take_length] at this
        exact this
      have := board_again hb
      rw [ht] at this
      simpa using this
theorem boardO_text {t : ByteArray} {f r : Nat} {ps : List Int} (h : boardO t = some (f, r, ps)) : boardL f r ps = t.data.toList := by
  unfold boardO at h
  split at h
  · cases h
  · split at h
    · cases h
    · split at h
      · rename_i hc
        simp only [Bool.and_eq_true, beq_iff_eq] at hc
        simp only [Option.some.injEq, Prod.mk.injEq] at h
        obtain ⟨rfl, rfl, rfl⟩ := h
        exact hc.2
      · cases h
theorem brdR_board (t : ByteArray) : brdR t = boardO t := by
  cases h1 : brdR t with
  | some q => exact (brdR_some h1).symm
  | none =>
    cases h2 : boardO t with
    | none => rfl
    | some q =>
      exfalso
      obtain ⟨F, M, ps⟩ := q
      have hb := boardO_valid h2
      have ht := boardO_text h2
      obtain ⟨⟨_, _, m1, m2⟩, hl, _⟩ := bvalid_bd hb
      have hw := board_words hb
      rw [ht] at hw
      have hw2 : refW 47 t = ((List.range M).map (rankAt F ps)).reverse := by rw [← refW_split]; simpa using hw
      have hlen : (refW 47 t).length = M := by rw [hw2]; simp
      have hon := brd_on hb M (Nat.le_refl _)
      rw [← hl, List.take_length, if_neg (by omega)] at hon
      unfold brdR brdL at h1
      rw [hlen, if_neg (by omega), hw2, List.reverse_reverse, hon] at h1
      cases h1
end E
end
section
namespace E
def kq : ByteArray := ⟨#[75, 81, 107, 113]⟩
def letters (n : Nat) : Nat → ByteArray
  | 0 => ⟨#[]⟩
  | i + 1 => if n / 2 ^ i % 2 = 1 then letters n i ++ kq.extract i (i + 1) else letters n i
def ctext (n : Nat) : ByteArray := if letters n 4 = ⟨#[]⟩ then ⟨#[45]⟩ else letters n 4
def castleR (s : ByteArray) : Int := match (List.range 16).find? (fun n => decide (ctext n = s)) with
  | some n => n
  | none => -1
theorem letters_len (n : Nat) : ∀ i, i ≤ 4 → (letters n i).size ≤ i
  | 0, _ => Nat.le_refl _
  | i + 1, h => by
    have := letters_len n i (by omega)
    simp only [letters]
    split
    · rw [ByteArray.size_append]
      simp [kq, ByteArray.size_extract]
      omega
    · omega
theorem castleR_none {s : ByteArray} (h : ∀ j, j < 16 → ctext j ≠ s) : castleR s = -1 := by
  unfold castleR
  rw [List.find?_eq_none.2 (by simpa using h)]
theorem castleR_some {s : ByteArray} {k : Nat} (hk : k < 16) (h : ∀ j, j < k → ctext j ≠ s) (he : ctext k = s) : castleR s = k := by
  unfold castleR
  have : (List.range 16).find? (fun n => decide (ctext n = s)) = some k := by
    rw [List.find?_range_eq_some]
    simp [he, hk]
    exact h
  rw [this]
set_option maxRecDepth 10000 in
theorem castle_a (Ev : World → Prop) (hE : Stable Ev) (hf : Tryz.prog.follows .mixedOrders = true) (s : ByteArray) : ACalls Tryz.prog Ev 87 [.val (.string s)] (.val (.int .i64 (castleR s))) [] := by
  refine ACalls.of hE hf Tryz.func87 rfl (by simp [Tryz.f87]) (Nat.le_of_ble_eq_true rfl) fun F hF => ?_
  simp only [entry, num0, Tryz.ntmps87]
  refine R ?_
  refine Gl_loop (fun k : {k : Nat // k ≤ 16 ∧ ∀ j, j < k → ctext j ≠ s} => ⟨31, [(0, .val (.string s)), (3, .val (.int .i64 k.1))], [], 0⟩) (fun k => 16 - k.1) ⟨0, by omega, by omega⟩ (Le.pick [0, 3] [] 0 rfl rfl) ?_
  rintro ⟨k, hk, hpre⟩ F1 hN1 hX1 hR1
  have hwk : k < 16 → IntKind.i64.wrap ((k : Int) + 1) = k + 1 := fun _ => w64 (by omega)
  refine R ?_
  refine Gb_split (fun hc => ?_) (fun hc => ?_)
  · have hk16 : k < 16 := by simp at hc; omega
    refine R ?_
    refine Gl_loop (fun i : {i : Nat // i ≤ 4} => ⟨31, [(0, .val (.string s)), (3, .val (.int .i64 k)), (4, .val (.string (letters k i.1))), (5, .val (.int .i64 i.1))], [], 0⟩) (fun i => 4 - i.1) ⟨0, by omega⟩ (Le.pick [0, 3, 4, 5] [] 0 rfl rfl) ?_
    rintro ⟨i, hi⟩ F2 hN2 hX2 hR2
    dsimp only at hN2
    refine R ?_
    refine Gb_split (fun hc => ?_) (fun hc => ?_)
    · have hi4 : i < 4 := by simp at hc; omega
      have hw : IntKind.i64.wrap ((i : Int) + 1) = i + 1 := w64 (by omega)
      have hsr := shr_nat k i (by omega)
      have h2 : ((k / 2 ^ i : Nat) : Int).tmod 2 = ((k / 2 ^ i % 2 : Nat) : Int) := rfl
      have hb : (((k / 2 ^ i % 2 : Nat) : Int) == 1) = decide (k / 2 ^ i % 2 = 1) := by
        generalize k / 2 ^ i % 2 = q
        rw [Bool.eq_iff_iff]
        simp only [beq_iff_eq, decide_eq_true_eq]
        omega
      have hsz : (i : Int) ≤ i + 1 ∧ (i : Int) + 1 ≤ (⟨#[75, 81, 107, 113]⟩ : ByteArray).size := by
        have : (⟨#[75, 81, 107, 113]⟩ : ByteArray).size = 4 := rfl
        omega
      have h0 : 0 ≤ (i : Int) + 1 := by omega
      have hn : ((i : Int) + 1).toNat = i + 1 := by omega
      have hcat : (letters k i).size + (ByteArray.extract ⟨#[75, 81, 107, 113]⟩ i (i + 1)).size ≤ maxS := by
        unfold maxS
        have := letters_len k i hi
        simp [ByteArray.size_extract]
        omega
      refine R ?_
      refine Gb_split (fun hc => ?_) (fun hc => ?_)
      · refine R ?_
        refine hN2 _ ⟨i + 1, by omega⟩ (Le.pick [0, 3, 4, 5] [] 0 rfl ?_) (by simp; omega)
        have : k / 2 ^ i % 2 = 1 := of_decide_eq_true hc
        simp [pick, pickT, pickB, slots, look, ren, letters, this, kq]
      · refine R ?_
        refine hN2 _ ⟨i + 1, by omega⟩ (Le.pick [0, 3, 4, 5] [] 0 rfl ?_) (by simp; omega)
        have : ¬ k / 2 ^ i % 2 = 1 := of_decide_eq_false hc
        simp [pick, pickT, pickB, slots, look, ren, letters, this]
    · have hi4 : i = 4 := by simp at hc; omega
      subst hi4
      refine R ?_
      refine hX2 _ _ ?_
      refine R ?_
      refine Gb_split (fun hc => ?_) (fun hc => ?_)
      · have hct : ctext k = ⟨#[45]⟩ := by unfold ctext; rw [if_pos (by simpa using hc)]
        refine R ?_
        refine Gb_split (fun hc2 => ?_) (fun hc2 => ?_)
        · refine R ?_
          refine hR1 _ (hF _ ⟨[], _, rfl, rfl, ?_, rfl⟩).1
          rw [castleR_some hk16 hpre (by rw [hct]; exact of_decide_eq_true hc2)]
          simp [slots, look, out, fin]
        · refine R ?_
          refine hN1 _ ⟨k + 1, by omega, fun j hj => ?_⟩ (Le.pick [0, 3] [] 0 rfl ?_) (by simp; omega)
          · rcases Nat.lt_or_ge j k with h | h
            · exact hpre j h
            · obtain rfl : j = k := by omega
              rw [hct]; exact of_decide_eq_false hc2
          · simp [pick, pickT, pickB, slots, look, ren]
      · have hct : ctext k = letters k 4 := by unfold ctext; rw [if_neg (by simpa using hc)]
        refine R ?_
        refine Gb_split (fun hc2 => ?_) (fun hc2 => ?_)
        · refine R ?_
          refine hR1 _ (hF _ ⟨[], _, rfl, rfl, ?_, rfl⟩).1
          rw [castleR_some hk16 hpre (by rw [hct]; exact of_decide_eq_true hc2)]
          simp [slots, look, out, fin]
        · refine R ?_
          refine hN1 _ ⟨k + 1, by omega, fun j hj => ?_⟩ (Le.pick [0, 3] [] 0 rfl ?_) (by simp; omega)
          · rcases Nat.lt_or_ge j k with h | h
            · exact hpre j h
            · obtain rfl : j = k := by omega
              rw [hct]; exact of_decide_eq_false hc2
          · simp [pick, pickT, pickB, slots, look, ren]
  · refine R ?_
    refine hX1 _ _ ?_
    refine R ?_
    have hk16 : k = 16 := by simp at hc; omega
    subst hk16
    refine (hF _ ⟨[], _, rfl, rfl, ?_, rfl⟩).1
    rw [castleR_none hpre]
    simp [slots, look, out, fin]
end E
end
section
namespace E
def rposW (F M : Nat) (ps : List Int) (s2 s3 s4 s5 s6 : ByteArray) : Pos := ⟨F, M, ps, decide (s2 = ⟨#[98]⟩), castleR s3, if s4 = ⟨#[45]⟩ then -1 else sqR F M s4, numR s5, numR s6⟩
def rposL (s0 s1 s2 s3 s4 s5 s6 : ByteArray) : Option Pos := if ¬ s2 = ⟨#[119]⟩ ∧ ¬ s2 = ⟨#[98]⟩ then none else match boardO s1 with
  | none => none
  | some (F, M, ps) => if ¬ s0 = digB (F : Int) ++ ⟨#[120]⟩ ++ digB (M : Int) then none else if castleR s3 < 0 then none else if ¬ s4 = ⟨#[45]⟩ ∧ sqR F M s4 < 0 then none else
    if (rposW F M ps s2 s3 s4 s5 s6).valid then some (rposW F M ps s2 s3 s4 s5 s6) else none
def rposM : List ByteArray → Option Pos
  | [s0, s1, s2, s3, s4, s5, s6] => rposL s0 s1 s2 s3 s4 s5 s6
  | _ => none
def rposO (t : ByteArray) : Option Pos := rposM (refW 32 t)
theorem castleR_ctext : ∀ c : Fin 16, castleR (ctext c.1) = c.1 ∧ (⟨0, 0, [], false, c.1, 0, 0, 0⟩ : Pos).castT = ctext c.1 := by decide
theorem castleR_ge {s : ByteArray} (h : 0 ≤ castleR s) : ∃ c : Nat, c < 16 ∧ castleR s = c ∧ ctext c = s := by
  unfold castleR at h ⊢
  split at h
  · rename_i n hn
    have h1 := List.find?_some hn
    have h2 := List.mem_of_find?_eq_some hn
    exact ⟨n, List.mem_range.1 h2, rfl, of_decide_eq_true h1⟩
  · omega
theorem firstN_ge {n : Nat} {f : Nat → Bool} (h : 0 ≤ firstN n f) : ∃ a : Nat, a < n ∧ firstN n f = a ∧ f a = true := by
  unfold firstN at h ⊢
  split at h
  · rename_i k hk
    exact ⟨k, List.mem_range.1 (List.mem_of_find?_eq_some hk), rfl, List.find?_some hk⟩
  · omega
theorem nameB_sq (F a : Nat) : nameB (F : Int) (a : Int) = sqName F a := by
  have e1 : ((a : Int) % (F : Int)).toNat = a % F := by norm_cast
  have e2 : ((a : Int) / (F : Int)).toNat = a / F := by norm_cast
  unfold nameB sqName
  rw [e1, e2]
theorem sqR_name {F M a : Nat} (h1 : 1 ≤ F) (h2 : F ≤ 8) (h3 : M ≤ 8) (ha : a < F * M) : sqR F M (sqName F a) = a := by
  have key : ∀ j, j < F * M → sqO F M (sqName F j) = some (j : Int) := fun j hj => by
    rw [← nameB_sq]
    exact sq_name F M j h2 h3 hj (Nat.mod_lt _ (by omega))
  refine firstN_some ha (fun j hj => ?_) (by simp)
  rw [decide_eq_false_iff_not]
  intro e
  have k1 := key j (by omega)
  rw [e, key a ha] at k1
  simp only [Option.some.injEq] at k1
  omega
theorem numF_app (l : List UInt8) (c : UInt8) : numF (l ++ [c]) = 10 * numF l + (c.toNat - 48) := by simp [numF]
theorem numF_dec (n : Nat) : numF (Lib.decDigits n) = n := by
  induction n using Nat.strongRecOn with
  | ind n ih =>
    by_cases h : n < 10
    · obtain ⟨_, h2, h3⟩ := dig_val ⟨n, h⟩
      simp only at h2 h3
      rw [Lib.decDigits_one h]
      have : (UInt8.ofNat (48 + n)).toNat = 48 + n := by rw [UInt8.toNat_ofNat']; omega
      show 10 * 0 + ((UInt8.ofNat (48 + n)).toNat - 48) = n
      omega
    · have : (UInt8.ofNat (48 + n % 10)).toNat = 48 + n % 10 := by rw [UInt8.toNat_ofNat']; omega
      rw [dec_next h, numF_app, ih (n / 10) (by omega), this]
      omega
theorem numR_dig {n : Nat} (h : n ≤ 10000) : numR (digB (n : Int)) = n := by
  have hd : (digB (n : Int)).data.toList = Lib.decDigits n := rfl
  obtain ⟨h1, h2, h3⟩ := dec_from n
  have hl := dec_len h
  have hsz : (digB (n : Int)).size = (Lib.decDigits n).length := by rw [← hd]; simp
  unfold numR
  rw [hd, numF_dec, if_pos]
  refine ⟨by omega, List.all_eq_true.2 fun b hb => ?_, ?_, rfl⟩
  · have := h3 b hb
    unfold isDig
    simpa using this
  · rw [hsz]
    intro e
    exact h2 (List.length_eq_zero_iff.1 e)
theorem numR_ge {s : ByteArray} (h : 0 ≤ numR s) : digB (numR s) = s := by
  unfold numR at h ⊢
  split
  · rename_i hc
    exact hc.2.2.2
  · rename_i hc
    rw [if_neg hc] at h
    omega
theorem ref_join (t : ByteArray) : (⟨(Lib.join ((refW 32 t).map (·.data.toList)) [32]).toArray⟩ : ByteArray) = t := by
  have := (wF_join 32 t.data.toList t.data.toList.length (Nat.le_refl _)).1
  rw [List.take_length] at this
  unfold refW
  rw [this]
theorem pos_some {t : ByteArray} {p : Pos} (h : posO t = some p) : p.valid = true ∧ p.text = t := by
  unfold posO at h
  split at h
  · split at h
    · cases h
    · split at h
      · rename_i hc
        simp only [Bool.and_eq_true, ba_beq] at hc
        cases h
        exact hc
      · cases h
  · cases h
theorem rpos_some {t : ByteArray} {p : Pos} (h : rposO t = some p) : posO t = some p := by
  unfold rposO at h
  unfold rposM at h
  split at h
  · rename_i s0 s1 s2 s3 s4 s5 s6 hw
    unfold rposL at h
    split at h
    · cases h
    · rename_i hs2
      split at h
      · cases h
      · rename_i F M ps hb
        split at h
        · cases h
        · rename_i hs0
          split at h
          · cases h
          · rename_i hs3
            split at h
            · cases h
            · rename_i hs4
              split at h
              · rename_i hv
                simp only [Option.some.injEq] at h
                subst h
                have hbv := boardO_valid hb
                have hbt := boardO_text hb
                obtain ⟨⟨f1, f2, m1, m2⟩, _, _⟩ := bvalid_bd hbv
                obtain ⟨_, _, _, hn⟩ := valid_bd hv
                obtain ⟨n1, n2, n3, n4⟩ := counts_bd hn
                obtain ⟨c, hc16, hc1, hc2⟩ := castleR_ge (by omega : 0 ≤ castleR s3)
                have hcas : 0 ≤ (rposW F M ps s2 s3 s4 s5 s6).castle := by show 0 ≤ castleR s3; omega
                have hwords : (rposW F M ps s2 s3 s4 s5 s6).words = refW 32 t := by
                  rw [hw]
                  have e0 : digB (F : Int) ++ ⟨#[120]⟩ ++ digB (M : Int) = s0 := (Decidable.not_not.1 hs0).symm
                  have e1 : (⟨(boardL (F : Int).toNat (M : Int).toNat ps).toArray⟩ : ByteArray) = s1 := by
                    rw [Int.toNat_natCast, Int.toNat_natCast, hbt]
                  have e2 : (rposW F M ps s2 s3 s4 s5 s6).sideT = s2 := by
                    unfold Pos.sideT rposW
                    dsimp only
                    by_cases h98 : s2 = ⟨#[98]⟩
                    · rw [if_pos (by simpa using h98), h98]
                    · rw [if_neg (by simpa using h98)]
                      exact (Decidable.not_not.1 fun h => hs2 ⟨h, h98⟩).symm
                  have e3 : (rposW F M ps s2 s3 s4 s5 s6).castT = s3 := by
                    rw [castT_of]
                    show (⟨0, 0, [], false, castleR s3, 0, 0, 0⟩ : Pos).castT = s3
                    rw [hc1, (castleR_ctext ⟨c, hc16⟩).2, hc2]
                  have e4 : (rposW F M ps s2 s3 s4 s5 s6).behindT = s4 := by
                    unfold Pos.behindT rposW
                    dsimp only
                    by_cases h45 : s4 = ⟨#[45]⟩
                    · rw [if_pos h45, if_neg (by omega), h45]
                    · have hge : 0 ≤ sqR F M s4 := by
                        rcases Int.lt_or_le (sqR F M s4) 0 with h | h
                        · exact absurd ⟨h45, h⟩ hs4
                        · exact h
                      obtain ⟨a, _, a1, a2⟩ := firstN_ge hge
                      have a3 : sqR F M s4 = a := a1
                      rw [if_neg h45, a3, if_pos (by omega), nameB_sq]
                      exact of_decide_eq_true a2
                  have e5 : digB (rposW F M ps s2 s3 s4 s5 s6).half = s5 := numR_ge n1
                  have e6 : digB (rposW F M ps s2 s3 s4 s5 s6).full = s6 := numR_ge (by have : 1 ≤ numR s6 := n3; omega)
                  unfold Pos.words
                  rw [e2, e3, e4, e5, e6]
                  show [digB (F : Int) ++ ⟨#[120]⟩ ++ digB (M : Int), ⟨(boardL (F : Int).toNat (M : Int).toNat ps).toArray⟩, s2, s3, s4, s5, s6] = _
                  rw [e0, e1]
                have ht : (rposW F M ps s2 s3 s4 s5 s6).text = t := by
                  unfold Pos.text
                  rw [hwords]
                  exact ref_join t
                have := text_again hv hcas
                rw [ht] at this
                exact this
              · cases h
  · cases h
theorem rpos_pos (t : ByteArray) : rposO t = posO t := by
  cases h1 : rposO t with
  | some q => exact (rpos_some h1).symm
  | none =>
    cases h2 : posO t with
    | none => rfl
    | some p =>
      exfalso
      obtain ⟨hv, ht⟩ := pos_some h2
      have hcs := posO_cas h2
      obtain ⟨hb, hc, hp, hn⟩ := valid_bd hv
      obtain ⟨n1, n2, n3, n4⟩ := counts_bd hn
      have hz : vsize p.f p.r = true := by unfold bvalid at hb; simp only [Bool.and_eq_true] at hb; exact hb.1.1
      obtain ⟨z1, z2, z3, z4⟩ := vsize_bd hz
      have hw := text_words hv hcs.1
      rw [ht, refW_split] at hw
      unfold rposO at h1
      rw [hw] at h1
      simp only [Pos.words, rposM] at h1
      obtain ⟨f, r, ps, b, c, e, hh, nn⟩ := p
      dsimp only at *
      obtain ⟨F, rfl⟩ : ∃ k : Nat, f = k := ⟨f.toNat, by omega⟩
      obtain ⟨M, rfl⟩ : ∃ k : Nat, r = k := ⟨r.toNat, by omega⟩
      obtain ⟨c, rfl⟩ : ∃ k : Nat, c = k := ⟨c.toNat, by omega⟩
      obtain ⟨hh, rfl⟩ : ∃ k : Nat, hh = k := ⟨hh.toNat, by omega⟩
      obtain ⟨nn, rfl⟩ : ∃ k : Nat, nn = k := ⟨nn.toNat, by omega⟩
      have hc16 : c < 16 := by have := castle_bd hc; dsimp only at this; omega
      obtain ⟨k1, k2⟩ := castleR_ctext ⟨c, hc16⟩
      simp only at k1 k2
      have hba := board_again hb
      have e3 : castleR (⟨F, M, ps, b, c, e, hh, nn⟩ : Pos).castT = c := by rw [castT_of]; dsimp only; rw [k2, k1]
      have e2 : (⟨F, M, ps, b, c, e, hh, nn⟩ : Pos).sideT = if b then ⟨#[98]⟩ else ⟨#[119]⟩ := rfl
      have hnw : ¬ (¬ (if b then (⟨#[98]⟩ : ByteArray) else ⟨#[119]⟩) = ⟨#[119]⟩ ∧ ¬ (if b then (⟨#[98]⟩ : ByteArray) else ⟨#[119]⟩) = ⟨#[98]⟩) := by cases b <;> simp
      have hbb : decide ((if b then (⟨#[98]⟩ : ByteArray) else ⟨#[119]⟩) = ⟨#[98]⟩) = b := by cases b <;> decide
      have e4 : (if (⟨F, M, ps, b, c, e, hh, nn⟩ : Pos).behindT = ⟨#[45]⟩ then -1 else sqR F M (⟨F, M, ps, b, c, e, hh, nn⟩ : Pos).behindT) = e ∧ ¬ (¬ (⟨F, M, ps, b, c, e, hh, nn⟩ : Pos).behindT = ⟨#[45]⟩ ∧ sqR F M (⟨F, M, ps, b, c, e, hh, nn⟩ : Pos).behindT < 0) := by
        rcases passes_bd hp with h | h
        · dsimp only at h
          subst h
          have : (⟨F, M, ps, b, c, -1, hh, nn⟩ : Pos).behindT = ⟨#[45]⟩ := rfl
          rw [this]
          simp
        · obtain ⟨_, h3, h4⟩ := vsq_bd h
          dsimp only at h3 h4
          obtain ⟨a, rfl⟩ : ∃ k : Nat, e = k := ⟨e.toNat, by omega⟩
          have hlt : a < F * M := by exact_mod_cast h4
          have : (⟨F, M, ps, b, c, a, hh, nn⟩ : Pos).behindT = sqName F a := by
            unfold Pos.behindT
            dsimp only
            rw [if_pos (by omega), nameB_sq]
          have hne : ¬ sqName F a = ⟨#[45]⟩ := by
            intro e
            have := congrArg ByteArray.size e
            simp [sqName, ByteArray.size] at this
          rw [this, if_neg hne, sqR_name (by omega) (by omega) (by omega) hlt]
          exact ⟨rfl, fun h => by omega⟩
      have hpw : rposW F M ps (⟨F, M, ps, b, c, e, hh, nn⟩ : Pos).sideT (⟨F, M, ps, b, c, e, hh, nn⟩ : Pos).castT (⟨F, M, ps, b, c, e, hh, nn⟩ : Pos).behindT (digB hh) (digB nn) = ⟨F, M, ps, b, c, e, hh, nn⟩ := by
        unfold rposW
        rw [e3, e4.1, numR_dig (by omega), numR_dig (by omega), e2, hbb]
      unfold rposL at h1
      rw [if_neg (by rw [e2]; exact hnw)] at h1
      simp only [Int.toNat_natCast] at h1
      rw [hba] at h1
      dsimp only at h1
      rw [if_neg (by simp), if_neg (by rw [e3]; omega), if_neg e4.2, hpw, if_pos hv] at h1
      cases h1
end E
end
section
namespace E
theorem eqB_rfl (p : Pos) : eqB p p = true := by simp [eqB, sameB]
end E
end
section
namespace E
end E
end
section
namespace E
def rposA : Option Pos → AV
  | none => .tup [posA 0 0 (.lst []) false 0 0 0 0, .val (.bool false)]
  | some p => .tup [posP p (.lst (pcs p.ps)), .val (.bool true)]
theorem castleR_lo {s : ByteArray} (h : ¬ castleR s < 0) : ∃ c : Nat, c < 16 ∧ castleR s = c := by
  obtain ⟨c, h1, h2, _⟩ := castleR_ge (by omega : 0 ≤ castleR s)
  exact ⟨c, h1, h2⟩
set_option maxHeartbeats 8000000 in
set_option maxRecDepth 10000 in
theorem rparse6_a (t : ByteArray) (ht : t.size ≤ 1000) : ACalls Tryz.prog Env 23 [.val (.string t)] (rposA (posO t)) [] := by
  have hE := env_stable
  have hf := mixed
  have hsp := split_a (Ev := Env) hE hf t ht
  rw [← rpos_pos]
  unfold rposO
  have hWs := refW_size 32 t
  generalize refW 32 t = W0 at *
  have hlen := strs_len W0
  by_cases h7 : W0.length = 7
  · obtain ⟨s0, s1, s2, s3, s4, s5, s6, rfl⟩ := list7 W0 h7
    simp only [rposM]
    have z1 : s1.size ≤ 1000 := Nat.le_trans (hWs s1 (by simp)) ht
    have z5 : s5.size ≤ 1000 := Nat.le_trans (hWs s5 (by simp)) ht
    have z6 : s6.size ≤ 1000 := Nat.le_trans (hWs s6 (by simp)) ht
    have hb := rboard_a (Ev := Env) hE hf s1 z1
    have h5 := number_a (Ev := Env) hE hf s5 z5
    have h6 := number_a (Ev := Env) hE hf s6 z6
    have h3 := castle_a Env hE hf s3
    rw [brdR_board] at hb
    clear hWs z1 z5 z6
    have hl7 : ((strs [s0, s1, s2, s3, s4, s5, s6]).length : Int) = 7 := rfl
    have hr : strs [s0, s1, s2, s3, s4, s5, s6] = [[.val (.string s0)], [.val (.string s1)], [.val (.string s2)], [.val (.string s3)], [.val (.string s4)], [.val (.string s5)], [.val (.string s6)]] := rfl
    have g0 : (strs [s0, s1, s2, s3, s4, s5, s6])[0]? = some [.val (.string s0)] := rfl
    have g1 : (strs [s0, s1, s2, s3, s4, s5, s6])[1]? = some [.val (.string s1)] := rfl
    have g2 : (strs [s0, s1, s2, s3, s4, s5, s6])[2]? = some [.val (.string s2)] := rfl
    have g3 : (strs [s0, s1, s2, s3, s4, s5, s6])[3]? = some [.val (.string s3)] := rfl
    have g4 : (strs [s0, s1, s2, s3, s4, s5, s6])[4]? = some [.val (.string s4)] := rfl
    have g5 : (strs [s0, s1, s2, s3, s4, s5, s6])[5]? = some [.val (.string s5)] := rfl
    have g6 : (strs [s0, s1, s2, s3, s4, s5, s6])[6]? = some [.val (.string s6)] := rfl
    clear hlen hr h7
    generalize strs [s0, s1, s2, s3, s4, s5, s6] = R0 at *
    unfold rposL
    by_cases c1 : s2 = ⟨#[119]⟩
    · have d1 := decide_eq_true c1
      have d2 : decide (s2 = ⟨#[98]⟩) = false := by rw [c1]; decide
      have hd2 : (s2 = ⟨#[98]⟩) = False := by simpa using d2
      rw [if_neg (fun h => h.1 c1)]
      clear c1
      cases hbo : boardO s1 with
      | none =>
        rw [hbo] at hb
        clear hbo h5 h6 h3
        unfold brdA bdA at hb
        refine ACalls.of hE hf Tryz.func23 rfl (by simp [Tryz.f23]) (Nat.le_of_ble_eq_true rfl) fun F hF => ?_
        simp only [entry, num0, Tryz.ntmps23]
        refine W ?_
        exact (hF _ ⟨[], _, rfl, rfl, rfl, rfl⟩).1
      | some q =>
        obtain ⟨F0, M, ps⟩ := q
        rw [hbo] at hb
        dsimp only
        obtain ⟨⟨f1, f2, m1, m2⟩, hl, _⟩ := bvalid_bd (boardO_valid hbo)
        have hN64 : F0 * M ≤ 8 * 8 := Nat.mul_le_mul f2 m2
        clear hbo
        unfold brdA bdA at hb
        have k1 := decimal_a (Ev := Env) hE hf F0 (by omega)
        have k2 := decimal_a (Ev := Env) hE hf M (by omega)
        have hsq := rsquare_a (Ev := Env) hE hf F0 M (by omega) f2 m2 s4
        unfold szA at hsq
        have b1 := digB_20 (n := F0) (by omega)
        have b2 := digB_20 (n := M) (by omega)
        have q1 : (digB (F0 : Int)).size + (⟨#[120]⟩ : ByteArray).size ≤ maxS := by show _ + 1 ≤ _; unfold maxS; omega
        have q2 : (digB (F0 : Int) ++ ⟨#[120]⟩).size + (digB (M : Int)).size ≤ maxS := by rw [ByteArray.size_append]; show _ + 1 + _ ≤ _; unfold maxS; omega
        clear b1 b2
        by_cases c0 : s0 = digB (F0 : Int) ++ ⟨#[120]⟩ ++ digB (M : Int)
        · have d0 := decide_eq_true c0
          rw [if_neg (fun h => h c0)]
          clear c0
          by_cases c3 : castleR s3 < 0
          · have d3 := decide_eq_true c3
            rw [if_pos c3]
            clear c3
            refine ACalls.of hE hf Tryz.func23 rfl (by simp [Tryz.f23]) (Nat.le_of_ble_eq_true rfl) fun F hF => ?_
            simp only [entry, num0, Tryz.ntmps23]
            refine W ?_
            exact (hF _ ⟨[], _, rfl, rfl, rfl, rfl⟩).1
          · rw [if_neg c3]
            obtain ⟨c, hc16, hc⟩ := castleR_lo c3
            have wc : IntKind.u8.wrap (c : Int) = c := wu8 (by omega)
            unfold rposW
            rw [hc] at h3 ⊢
            clear c3 hc
            by_cases c4 : s4 = ⟨#[45]⟩
            · have d4 := decide_eq_true c4
              rw [if_neg (fun h => h.1 c4), if_pos c4]
              clear c4 hsq
              have hv := rvalid6_a ⟨F0, M, ps, decide (s2 = ⟨#[98]⟩), c, -1, numR s5, numR s6⟩ (by show ps.length ≤ 1000; omega) (by show 0 ≤ (c : Int) ∧ (c : Int) ≤ 255; omega)
              rw [rv_same] at hv
              generalize numR s5 = x5 at *
              generalize numR s6 = x6 at *
              cases hvv : (⟨F0, M, ps, decide (s2 = ⟨#[98]⟩), c, -1, x5, x6⟩ : Pos).valid
              · rw [hvv] at hv
                rw [if_neg (by simp)]
                clear hvv
                simp only [posP, posA, d2] at hv
                refine ACalls.of hE hf Tryz.func23 rfl (by simp [Tryz.f23]) (Nat.le_of_ble_eq_true rfl) fun F hF => ?_
                simp only [entry, num0, Tryz.ntmps23]
                refine W ?_
                exact (hF _ ⟨[], _, rfl, rfl, rfl, rfl⟩).1
              · rw [hvv] at hv
                rw [if_pos rfl]
                clear hvv
                simp only [posP, posA, d2] at hv
                unfold rposA
                simp only [posP, posA, d2]
                refine ACalls.of hE hf Tryz.func23 rfl (by simp [Tryz.f23]) (Nat.le_of_ble_eq_true rfl) fun F hF => ?_
                simp only [entry, num0, Tryz.ntmps23]
                refine W ?_
                exact (hF _ ⟨[], _, rfl, rfl, rfl, rfl⟩).1
            · have d4 := decide_eq_false c4
              by_cases c5 : sqR F0 M s4 < 0
              · have d5 := decide_eq_true c5
                rw [if_pos ⟨c4, c5⟩]
                clear c4 c5
                generalize numR s5 = x5 at *
                generalize numR s6 = x6 at *
                refine ACalls.of hE hf Tryz.func23 rfl (by simp [Tryz.f23]) (Nat.le_of_ble_eq_true rfl) fun F hF => ?_
                simp only [entry, num0, Tryz.ntmps23]
                refine W ?_
                exact (hF _ ⟨[], _, rfl, rfl, rfl, rfl⟩).1
              · have d5 := decide_eq_false c5
                rw [if_neg (fun h => c5 h.2), if_neg c4]
                clear c4 c5
                have hv := rvalid6_a ⟨F0, M, ps, decide (s2 = ⟨#[98]⟩), c, sqR F0 M s4, numR s5, numR s6⟩ (by show ps.length ≤ 1000; omega) (by show 0 ≤ (c : Int) ∧ (c : Int) ≤ 255; omega)
                rw [rv_same] at hv
                generalize sqR F0 M s4 = x4 at *
                generalize numR s5 = x5 at *
                generalize numR s6 = x6 at *
                cases hvv : (⟨F0, M, ps, decide (s2 = ⟨#[98]⟩), c, x4, x5, x6⟩ : Pos).valid
                · rw [hvv] at hv
                  rw [if_neg (by simp)]
                  clear hvv
                  simp only [posP, posA, d2] at hv
                  refine ACalls.of hE hf Tryz.func23 rfl (by simp [Tryz.f23]) (Nat.le_of_ble_eq_true rfl) fun F hF => ?_
                  simp only [entry, num0, Tryz.ntmps23]
                  refine W ?_
                  exact (hF _ ⟨[], _, rfl, rfl, rfl, rfl⟩).1
                · rw [hvv] at hv
                  rw [if_pos rfl]
                  clear hvv
                  simp only [posP, posA, d2] at hv
                  unfold rposA
                  simp only [posP, posA, d2]
                  refine ACalls.of hE hf Tryz.func23 rfl (by simp [Tryz.f23]) (Nat.le_of_ble_eq_true rfl) fun F hF => ?_
                  simp only [entry, num0, Tryz.ntmps23]
                  refine W ?_
                  exact (hF _ ⟨[], _, rfl, rfl, rfl, rfl⟩).1
        · have d0 := decide_eq_false c0
          rw [if_pos c0]
          clear c0
          refine ACalls.of hE hf Tryz.func23 rfl (by simp [Tryz.f23]) (Nat.le_of_ble_eq_true rfl) fun F hF => ?_
          simp only [entry, num0, Tryz.ntmps23]
          refine W ?_
          exact (hF _ ⟨[], _, rfl, rfl, rfl, rfl⟩).1
    · have d1 := decide_eq_false c1
      by_cases c2 : s2 = ⟨#[98]⟩
      · have d2 := decide_eq_true c2
        rw [if_neg (fun h => h.2 c2)]
        clear c1 c2
        cases hbo : boardO s1 with
        | none =>
          rw [hbo] at hb
          clear hbo h5 h6 h3
          unfold brdA bdA at hb
          refine ACalls.of hE hf Tryz.func23 rfl (by simp [Tryz.f23]) (Nat.le_of_ble_eq_true rfl) fun F hF => ?_
          simp only [entry, num0, Tryz.ntmps23]
          refine W ?_
          exact (hF _ ⟨[], _, rfl, rfl, rfl, rfl⟩).1
        | some q =>
          obtain ⟨F0, M, ps⟩ := q
          rw [hbo] at hb
          dsimp only
          obtain ⟨⟨f1, f2, m1, m2⟩, hl, _⟩ := bvalid_bd (boardO_valid hbo)
          have hN64 : F0 * M ≤ 8 * 8 := Nat.mul_le_mul f2 m2
          clear hbo
          unfold brdA bdA at hb
          have k1 := decimal_a (Ev := Env) hE hf F0 (by omega)
          have k2 := decimal_a (Ev := Env) hE hf M (by omega)
          have hsq := rsquare_a (Ev := Env) hE hf F0 M (by omega) f2 m2 s4
          unfold szA at hsq
          have b1 := digB_20 (n := F0) (by omega)
          have b2 := digB_20 (n := M) (by omega)
          have q1 : (digB (F0 : Int)).size + (⟨#[120]⟩ : ByteArray).size ≤ maxS := by show _ + 1 ≤ _; unfold maxS; omega
          have q2 : (digB (F0 : Int) ++ ⟨#[120]⟩).size + (digB (M : Int)).size ≤ maxS := by rw [ByteArray.size_append]; show _ + 1 + _ ≤ _; unfold maxS; omega
          clear b1 b2
          by_cases c0 : s0 = digB (F0 : Int) ++ ⟨#[120]⟩ ++ digB (M : Int)
          · have d0 := decide_eq_true c0
            rw [if_neg (fun h => h c0)]
            clear c0
            by_cases c3 : castleR s3 < 0
            · have d3 := decide_eq_true c3
              rw [if_pos c3]
              clear c3
              refine ACalls.of hE hf Tryz.func23 rfl (by simp [Tryz.f23]) (Nat.le_of_ble_eq_true rfl) fun F hF => ?_
              simp only [entry, num0, Tryz.ntmps23]
              refine W ?_
              exact (hF _ ⟨[], _, rfl, rfl, rfl, rfl⟩).1
            · rw [if_neg c3]
              obtain ⟨c, hc16, hc⟩ := castleR_lo c3
              have wc : IntKind.u8.wrap (c : Int) = c := wu8 (by omega)
              unfold rposW
              rw [hc] at h3 ⊢
              clear c3 hc
              by_cases c4 : s4 = ⟨#[45]⟩
              · have d4 := decide_eq_true c4
                rw [if_neg (fun h => h.1 c4), if_pos c4]
                clear c4 hsq
                have hv := rvalid6_a ⟨F0, M, ps, decide (s2 = ⟨#[98]⟩), c, -1, numR s5, numR s6⟩ (by show ps.length ≤ 1000; omega) (by show 0 ≤ (c : Int) ∧ (c : Int) ≤ 255; omega)
                rw [rv_same] at hv
                generalize numR s5 = x5 at *
                generalize numR s6 = x6 at *
                cases hvv : (⟨F0, M, ps, decide (s2 = ⟨#[98]⟩), c, -1, x5, x6⟩ : Pos).valid
                · rw [hvv] at hv
                  rw [if_neg (by simp)]
                  clear hvv
                  simp only [posP, posA, d2] at hv
                  refine ACalls.of hE hf Tryz.func23 rfl (by simp [Tryz.f23]) (Nat.le_of_ble_eq_true rfl) fun F hF => ?_
                  simp only [entry, num0, Tryz.ntmps23]
                  refine W ?_
                  exact (hF _ ⟨[], _, rfl, rfl, rfl, rfl⟩).1
                · rw [hvv] at hv
                  rw [if_pos rfl]
                  clear hvv
                  simp only [posP, posA, d2] at hv
                  unfold rposA
                  simp only [posP, posA, d2]
                  refine ACalls.of hE hf Tryz.func23 rfl (by simp [Tryz.f23]) (Nat.le_of_ble_eq_true rfl) fun F hF => ?_
                  simp only [entry, num0, Tryz.ntmps23]
                  refine W ?_
                  exact (hF _ ⟨[], _, rfl, rfl, rfl, rfl⟩).1
              · have d4 := decide_eq_false c4
                by_cases c5 : sqR F0 M s4 < 0
                · have d5 := decide_eq_true c5
                  rw [if_pos ⟨c4, c5⟩]
                  clear c4 c5
                  generalize numR s5 = x5 at *
                  generalize numR s6 = x6 at *
                  refine ACalls.of hE hf Tryz.func23 rfl (by simp [Tryz.f23]) (Nat.le_of_ble_eq_true rfl) fun F hF => ?_
                  simp only [entry, num0, Tryz.ntmps23]
                  refine W ?_
                  exact (hF _ ⟨[], _, rfl, rfl, rfl, rfl⟩).1
                · have d5 := decide_eq_false c5
                  rw [if_neg (fun h => c5 h.2), if_neg c4]
                  clear c4 c5
                  have hv := rvalid6_a ⟨F0, M, ps, decide (s2 = ⟨#[98]⟩), c, sqR F0 M s4, numR s5, numR s6⟩ (by show ps.length ≤ 1000; omega) (by show 0 ≤ (c : Int) ∧ (c : Int) ≤ 255; omega)
                  rw [rv_same] at hv
                  generalize sqR F0 M s4 = x4 at *
                  generalize numR s5 = x5 at *
                  generalize numR s6 = x6 at *
                  cases hvv : (⟨F0, M, ps, decide (s2 = ⟨#[98]⟩), c, x4, x5, x6⟩ : Pos).valid
                  · rw [hvv] at hv
                    rw [if_neg (by simp)]
                    clear hvv
                    simp only [posP, posA, d2] at hv
                    refine ACalls.of hE hf Tryz.func23 rfl (by simp [Tryz.f23]) (Nat.le_of_ble_eq_true rfl) fun F hF => ?_
                    simp only [entry, num0, Tryz.ntmps23]
                    refine W ?_
                    exact (hF _ ⟨[], _, rfl, rfl, rfl, rfl⟩).1
                  · rw [hvv] at hv
                    rw [if_pos rfl]
                    clear hvv
                    simp only [posP, posA, d2] at hv
                    unfold rposA
                    simp only [posP, posA, d2]
                    refine ACalls.of hE hf Tryz.func23 rfl (by simp [Tryz.f23]) (Nat.le_of_ble_eq_true rfl) fun F hF => ?_
                    simp only [entry, num0, Tryz.ntmps23]
                    refine W ?_
                    exact (hF _ ⟨[], _, rfl, rfl, rfl, rfl⟩).1
          · have d0 := decide_eq_false c0
            rw [if_pos c0]
            clear c0
            refine ACalls.of hE hf Tryz.func23 rfl (by simp [Tryz.f23]) (Nat.le_of_ble_eq_true rfl) fun F hF => ?_
            simp only [entry, num0, Tryz.ntmps23]
            refine W ?_
            exact (hF _ ⟨[], _, rfl, rfl, rfl, rfl⟩).1
      · have d2 := decide_eq_false c2
        rw [if_pos ⟨c1, c2⟩]
        clear c1 c2 hb h5 h6 h3
        refine ACalls.of hE hf Tryz.func23 rfl (by simp [Tryz.f23]) (Nat.le_of_ble_eq_true rfl) fun F hF => ?_
        simp only [entry, num0, Tryz.ntmps23]
        refine W ?_
        exact (hF _ ⟨[], _, rfl, rfl, rfl, rfl⟩).1
  · have hn : rposM W0 = none := by
      unfold rposM
      split
      · simp at h7
      · rfl
    rw [hn]
    have d7 : ((W0.length : Int) != 7) = true := by rw [bne_iff_ne]; omega
    refine ACalls.of hE hf Tryz.func23 rfl (by simp [Tryz.f23]) (Nat.le_of_ble_eq_true rfl) fun F hF => ?_
    simp only [entry, num0, Tryz.ntmps23]
    refine W ?_
    exact (hF _ ⟨[], _, rfl, rfl, rfl, rfl⟩).1
end E
end
section
namespace E
theorem pos_len {p : Pos} (h : p.valid = true) : p.ps.length ≤ 64 := by
  obtain ⟨hb, _⟩ := valid_bd h
  unfold bvalid at hb
  simp only [Bool.and_eq_true, beq_iff_eq] at hb
  have := vsize_mul hb.1.1
  omega
set_option maxRecDepth 10000 in
theorem posparses_a (L : Libs) (t : ByteArray) : ACalls Tryz.prog Env 5 [.val (.string t)] (.val (.bool true)) [] := by
  have hE := env_stable
  have hf := mixed
  have hkw := known_a L
  by_cases hl : 200 < t.size
  · have d1 : (200 : Int) < t.size := by omega
    refine ACalls.of hE hf Tryz.func5 rfl (by simp [Tryz.f5]) (Nat.le_of_ble_eq_true rfl) fun F hF => ?_
    simp only [entry, num0, Tryz.ntmps5]
    refine W ?_
    exact (hF _ ⟨[], _, rfl, rfl, rfl, rfl⟩).1
  have d1 : ¬ (200 : Int) < t.size := by omega
  have hp := pparse_a L t (by omega)
  have hr := rparse6_a t (by omega)
  cases ho : posO t with
  | none =>
    rw [ho] at hp hr
    have hz := requal6_a ⟨0, 0, [], false, 0, 0, 0, 0⟩ ⟨0, 0, [], false, 0, 0, 0, 0⟩ (by simp) (by simp)
    rw [eqB_rfl] at hz
    rw [show pcs (⟨0, 0, [], false, 0, 0, 0, 0⟩ : Pos).ps = [] from rfl] at hz
    simp only [pposA, rposA, posA, posP] at hp hr hz
    clear ho hl
    refine ACalls.of hE hf Tryz.func5 rfl (by simp [Tryz.f5]) (Nat.le_of_ble_eq_true rfl) fun F hF => ?_
    simp only [entry, num0, Tryz.ntmps5]
    refine W ?_
    exact (hF _ ⟨[], _, rfl, rfl, rfl, rfl⟩).1
  | some p =>
    rw [ho] at hp hr
    have h64 := pos_len (pos_some ho).1
    have hz := requal6_a p p (by omega) (by omega)
    rw [eqB_rfl] at hz
    simp only [pposA, rposA, posA, posP] at hp hr hz
    clear ho hl
    refine ACalls.of hE hf Tryz.func5 rfl (by simp [Tryz.f5]) (Nat.le_of_ble_eq_true rfl) fun F hF => ?_
    simp only [entry, num0, Tryz.ntmps5]
    refine W ?_
    exact (hF _ ⟨[], _, rfl, rfl, rfl, rfl⟩).1
theorem posparses_law (L : Libs) (w : World) (hw : Env w) (t : ByteArray) : Pure 5 #[.string t] w (.bool true) :=
  ac_pure (posparses_a L t) hw ⟨rfl, trivial⟩
end E
end
end Go.Proofs.YtbhienpbfidgjaaGreatDoor
