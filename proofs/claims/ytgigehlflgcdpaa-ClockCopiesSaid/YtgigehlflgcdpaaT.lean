/- A clock looks like the reference: the contract of Same. Conditions: the numbers are within bounds. -/
import Derived.Test.YtgigehlflgcdpaaH
import Derived.Test.YtgigehlflgcdpaaM
import Derived.Deep.DeepCutAuto
set_option linter.unusedVariables false
set_option linter.unusedSimpArgs false
namespace Go.Proofs.Ytgigehlflgcdpaa
open Go.RowKit
/-- the contract of Moves, at a number -/
theorem moves_i {w : World} {b : Nat} {L : Ctl} {c : Ck} (s : Bool) (si : Int) (hs : sideI s = si) (h : ClkAt w b L c) :
    Quiet 24 #[.pointer (some ⟨b, 0, none⟩), .int .i64 si] w (.tuple #[.int .i64 (c.hand s).moves, .int .i64 (c.hand s).period, .int .i64 0]) := by
  subst hs
  exact moves_c s h
theorem left_i {w : World} {b : Nat} {L : Ctl} {c : Ck} (s : Bool) (si now : Int) (hs : sideI s = si) (h : ClkAt w b L c) (hL : CtlAt w L) (hI : Inv L c) (v : Value) (hv : c.leftV L s now = v) :
    Quiet 20 #[.pointer (some ⟨b, 0, none⟩), .int .i64 si, .int .i64 now] w v := by
  subst hs
  subst hv
  exact left_c s now h hL hI
theorem leftr_i {w : World} {L : Ctl} {c : Ck} (r : Rf) (s : Bool) (si now : Int) (hs : sideI s = si) (hP : PerAt w L.ps r.pb r.off) (hI : Inv L c) (hn0 : c.last ≤ now) (hn1 : now ≤ 1099511627776) :
    Pure 30 #[.agg (c.rcells L r), .int .i64 si, .int .i64 now] w (.int .i64 (c.left L s now)) := by
  subst hs
  exact left_r r s now hP hI hn0 hn1
theorem leftV_t {L : Ctl} {c : Ck} {s : Bool} {now : Int} (h : c.intime now = true) : c.leftV L s now = .tuple #[.int .i64 (c.left L s now), .int .i64 0] := by
  unfold Ck.leftV
  rw [if_pos h]
theorem leftV_f {L : Ctl} {c : Ck} {s : Bool} {now : Int} (h : c.intime now = false) : c.leftV L s now = .tuple #[.int .i64 0, .int .i64 3] := by
  unfold Ck.leftV
  rw [if_neg (by simp [h])]
theorem flag_t {L : Ctl} {c : Ck} {now : Int} (h : c.intime now = true) : c.flag L now = .tuple #[.bool (c.fallen L now), .int .i64 0] := by
  unfold Ck.flag
  rw [if_pos h]
theorem flag_f {L : Ctl} {c : Ck} {now : Int} (h : c.intime now = false) : c.flag L now = .tuple #[.bool false, .int .i64 3] := by
  unfold Ck.flag
  rw [if_neg (by simp [h])]
theorem below_grownN {w V : World} {B : Nat} (h : Below B w V) (hs : w.heap.size ≤ B) : w.grownBy V none := grown_of_below h hs
set_option maxHeartbeats 2000000 in
set_option maxRecDepth 100000 in
theorem same_f {w : World} {b : Nat} {L : Ctl} {c : Ck} (r : Rf) (now : Int) (h : ClkAt w b L c) (hL : CtlAt w L) (hP : PerAt w L.ps r.pb r.off) (hI : Inv L c) (ht : c.intime now = false) :
    Pure 12 #[.pointer (some ⟨b, 0, none⟩), .agg (c.rcells L r), .int .i64 now] w (.bool true) := by
  have t := Ck.intime_f (c := c) (now := now) (by simp [ht])
  replace t : now < c.last ∨ (c.last ≤ now ∧ 1099511627776 < now) := by omega
  have hC := Lib.hid h
  have hCL := Lib.hid hL
  have hb : b < w.heap.size := (Array.getElem?_eq_some_iff.1 h).1
  have hmv := fun W (hB : Below w.heap.size w W) => Lib.hid (Quiet.pure (move_c (hC.out.grown (grown_of_below hB (Nat.le_refl _)) (by simp))))
  have hmo := fun (s : Bool) (si : Int) (hs : sideI s = si) W (hB : Below w.heap.size w W) => Lib.hid (Quiet.pure (moves_i s si hs (hC.out.grown (grown_of_below hB (Nat.le_refl _)) (by simp))))
  have hle := fun (s : Bool) (si : Int) (hs : sideI s = si) W (hB : Below w.heap.size w W) => Lib.hid (Quiet.pure (left_i s si now hs (hC.out.grown (grown_of_below hB (Nat.le_refl _)) (by simp)) (hCL.out.grown (grown_of_below hB (Nat.le_refl _)) (by simp) (by simp)) hI _ (leftV_f ht)))
  have hfl := fun W (hB : Below w.heap.size w W) => Lib.hid (Quiet.pure (flag_c now (hC.out.grown (grown_of_below hB (Nat.le_refl _)) (by simp)) (hCL.out.grown (grown_of_below hB (Nat.le_refl _)) (by simp) (by simp)) hI))
  rw [flag_f ht] at hfl
  clear h hL hI ht
  obtain ⟨⟨sa, ma, pa, da⟩, ⟨sb, mb, pb, db⟩, side, used, since, last, runs⟩ := c
  dsimp only [Ck.rcells, Ck.hand] at *
  unfold Pure
  go_enter Try.func12, Try.ntmps12
  go_wp2_with fail
  refine (hmv _ ((Below.refl _ _).alloc (Nat.le_refl _) _)).out.mono ?_
  rintro e V ⟨rfl, hV⟩
  have hB := below_of_alloc hV
  have hX := box_of hV
  clear hV
  have y10 := (cells15 hX).2.2.2.2.2.2.2.2.2.2.1
  have y12 := (cells15 hX).2.2.2.2.2.2.2.2.2.2.2.2.1
  go_wp2_with fail
  clear y10 y12
  go_loopw [9] (fun i wr => ∃ j : Nat, i = .int .i64 j ∧ j ≤ 2 ∧ Below V.heap.size V wr) (fun i _ => 2 - (intOf i).toNat)
  case atStart => exact ⟨0, rfl, by omega, Below.refl _ _⟩
  case round =>
    obtain ⟨j, rfl, hj, hB2⟩ := hrel
    have hX2 := below_blk hB2 hX
    have hBw := hB.trans (hB2.mono hB.size)
    clear hX
    by_cases hj2 : j = 2
    · subst hj2
      go_wp2_with fail
      refine (hfl _ hBw).out.mono ?_
      rintro e W ⟨rfl, hW⟩
      have hX3 := below_blk hW hX2
      have y14 := (cells15 hX3).2.2.2.2.2.2.2.2.2.2.2.2.2.2
      have hB3 := hBw.trans (hW.mono hBw.size)
      rcases t with t | ⟨t, t'⟩
      all_goals
        go_wp2
        go_ret
        exact ⟨rfl, hB3⟩
    · obtain rfl | rfl : j = 0 ∨ j = 1 := by omega
      · go_wp2_with fail
        refine (hmo false _ rfl _ hBw).out.mono ?_
        rintro e W1 ⟨rfl, hW⟩
        have hX3 := below_blk hW hX2
        have hB3 := hBw.trans (hW.mono hBw.size)
        have hB4 := hB2.trans (hW.mono hB2.size)
        clear hW hBw hX2 hB2
        go_wp2_with fail
        refine (hle false _ rfl _ hB3).out.mono ?_
        rintro e W2 ⟨rfl, hW⟩
        have hX2 := below_blk hW hX3
        have hBw := hB3.trans (hW.mono hB3.size)
        have hB2 := hB4.trans (hW.mono hB4.size)
        clear hX3 hW hB3 hB4
        obtain ⟨y0, y1, y2, y3, y4, y5, y6, y7, y8, y9, y10, y11, y12, y13, y14⟩ := cells15 hX2
        rcases t with t | ⟨t, t'⟩
        all_goals
          go_wp2_with fail
          go_roundw
          case rel =>
            first
              | (refine ⟨0 + 1, by simp, by omega, ?_⟩)
              | ((repeat apply Exists.intro); refine And.intro ?_ rfl; refine ⟨0 + 1, by simp, by omega, ?_⟩)
            exact hB2
          case measure =>
            simp [intOf] <;> omega
      · go_wp2_with fail
        refine (hmo true _ rfl _ hBw).out.mono ?_
        rintro e W1 ⟨rfl, hW⟩
        have hX3 := below_blk hW hX2
        have hB3 := hBw.trans (hW.mono hBw.size)
        have hB4 := hB2.trans (hW.mono hB2.size)
        clear hW hBw hX2 hB2
        go_wp2_with fail
        refine (hle true _ rfl _ hB3).out.mono ?_
        rintro e W2 ⟨rfl, hW⟩
        have hX2 := below_blk hW hX3
        have hBw := hB3.trans (hW.mono hB3.size)
        have hB2 := hB4.trans (hW.mono hB4.size)
        clear hX3 hW hB3 hB4
        obtain ⟨y0, y1, y2, y3, y4, y5, y6, y7, y8, y9, y10, y11, y12, y13, y14⟩ := cells15 hX2
        rcases t with t | ⟨t, t'⟩
        all_goals
          go_wp2_with fail
          go_roundw
          case rel =>
            first
              | (refine ⟨1 + 1, by simp, by omega, ?_⟩)
              | ((repeat apply Exists.intro); refine And.intro ?_ rfl; refine ⟨1 + 1, by simp, by omega, ?_⟩)
            exact hB2
          case measure =>
            simp [intOf] <;> omega
set_option maxHeartbeats 2000000 in
set_option maxRecDepth 100000 in
theorem same_t {w : World} {b : Nat} {L : Ctl} {c : Ck} (r : Rf) (now : Int) (h : ClkAt w b L c) (hL : CtlAt w L) (hP : PerAt w L.ps r.pb r.off) (hI : Inv L c) (ht : c.intime now = true) :
    Pure 12 #[.pointer (some ⟨b, 0, none⟩), .agg (c.rcells L r), .int .i64 now] w (.bool true) := by
  obtain ⟨t1, t2⟩ := Ck.intime_t ht
  have hC := Lib.hid h
  have hCL := Lib.hid hL
  have hb : b < w.heap.size := (Array.getElem?_eq_some_iff.1 h).1
  have hmv := fun W (hB : Below w.heap.size w W) => Lib.hid (Quiet.pure (move_c (hC.out.grown (grown_of_below hB (Nat.le_refl _)) (by simp))))
  have hmo := fun (s : Bool) (si : Int) (hs : sideI s = si) W (hB : Below w.heap.size w W) => Lib.hid (Quiet.pure (moves_i s si hs (hC.out.grown (grown_of_below hB (Nat.le_refl _)) (by simp))))
  have hle := fun (s : Bool) (si : Int) (hs : sideI s = si) W (hB : Below w.heap.size w W) => Lib.hid (Quiet.pure (left_i s si now hs (hC.out.grown (grown_of_below hB (Nat.le_refl _)) (by simp)) (hCL.out.grown (grown_of_below hB (Nat.le_refl _)) (by simp) (by simp)) hI _ (leftV_t ht)))
  have hfl := fun W (hB : Below w.heap.size w W) => Lib.hid (Quiet.pure (flag_c now (hC.out.grown (grown_of_below hB (Nat.le_refl _)) (by simp)) (hCL.out.grown (grown_of_below hB (Nat.le_refl _)) (by simp) (by simp)) hI))
  rw [flag_t ht] at hfl
  have hlr := fun (s : Bool) (si : Int) (hs : sideI s = si) W (hB : Below w.heap.size w W) => Lib.hid (leftr_i r s si now hs (hP.below hB) hI t1 t2)
  have hfr := fun W (hB : Below w.heap.size w W) => Lib.hid (fallen_r r now (hP.below hB) hI t1 t2)
  generalize c.fallen L now = fl at *
  have hll := hlr
  clear hll
  clear h hL hI ht
  generalize hlv : (fun s => c.left L s now) = lf at hle hlr
  have hle' : ∀ (s : Bool), c.left L s now = lf s := fun s => by rw [← hlv]
  simp only [hle'] at hle hlr
  clear hlv hle'
  obtain ⟨⟨sa, ma, pa, da⟩, ⟨sb, mb, pb, db⟩, side, used, since, last, runs⟩ := c
  dsimp only [Ck.rcells, Ck.hand] at *
  unfold Pure
  go_enter Try.func12, Try.ntmps12
  go_wp2_with fail
  refine (hmv _ ((Below.refl _ _).alloc (Nat.le_refl _) _)).out.mono ?_
  rintro e V ⟨rfl, hV⟩
  have hB := below_of_alloc hV
  have hX := box_of hV
  clear hV
  have y10 := (cells15 hX).2.2.2.2.2.2.2.2.2.2.1
  have y12 := (cells15 hX).2.2.2.2.2.2.2.2.2.2.2.2.1
  go_wp2_with fail
  clear y10 y12
  go_loopw [9] (fun i wr => ∃ j : Nat, i = .int .i64 j ∧ j ≤ 2 ∧ Below V.heap.size V wr) (fun i _ => 2 - (intOf i).toNat)
  case atStart => exact ⟨0, rfl, by omega, Below.refl _ _⟩
  case round =>
    obtain ⟨j, rfl, hj, hB2⟩ := hrel
    have hX2 := below_blk hB2 hX
    have hBw := hB.trans (hB2.mono hB.size)
    clear hX
    by_cases hj2 : j = 2
    · subst hj2
      go_wp2_with fail
      refine (hfl _ hBw).out.mono ?_
      rintro e W ⟨rfl, hW⟩
      have hX3 := below_blk hW hX2
      have y14 := (cells15 hX3).2.2.2.2.2.2.2.2.2.2.2.2.2.2
      have hB3 := hBw.trans (hW.mono hBw.size)
      obtain ⟨y0, y1, y2, y3, y4, y5, y6, y7, y8, y9, y10, y11, y12, y13, y14⟩ := cells15 hX3
      go_wp2_with fail
      refine (hfr _ hB3).out.mono ?_
      rintro e W4 ⟨rfl, hW4⟩
      go_wp2
      go_ret
      exact ⟨ret_bool (by simp), hB3.trans (hW4.mono hB3.size)⟩
    · obtain rfl | rfl : j = 0 ∨ j = 1 := by omega
      · go_wp2_with fail
        refine (hmo false _ rfl _ hBw).out.mono ?_
        rintro e W1 ⟨rfl, hW⟩
        have hX3 := below_blk hW hX2
        have hB3 := hBw.trans (hW.mono hBw.size)
        have hB4 := hB2.trans (hW.mono hB2.size)
        clear hW hBw hX2 hB2
        go_wp2_with fail
        refine (hle false _ rfl _ hB3).out.mono ?_
        rintro e W2 ⟨rfl, hW⟩
        have hX2 := below_blk hW hX3
        have hBw := hB3.trans (hW.mono hB3.size)
        have hB2 := hB4.trans (hW.mono hB4.size)
        clear hX3 hW hB3 hB4
        obtain ⟨y0, y1, y2, y3, y4, y5, y6, y7, y8, y9, y10, y11, y12, y13, y14⟩ := cells15 hX2
        go_wp2_with fail
        refine (hlr false _ rfl _ hBw).out.mono ?_
        rintro e W3 ⟨rfl, hW⟩
        have hBw := hBw.trans (hW.mono hBw.size)
        have hB2 := hB2.trans (hW.mono hB2.size)
        go_wp2_with fail
        all_goals
          go_roundw
          case rel =>
            first
              | (refine ⟨0 + 1, by simp, by omega, ?_⟩)
              | ((repeat apply Exists.intro); refine And.intro ?_ rfl; refine ⟨0 + 1, by simp, by omega, ?_⟩)
            exact hB2
          case measure =>
            simp [intOf] <;> omega
      · go_wp2_with fail
        refine (hmo true _ rfl _ hBw).out.mono ?_
        rintro e W1 ⟨rfl, hW⟩
        have hX3 := below_blk hW hX2
        have hB3 := hBw.trans (hW.mono hBw.size)
        have hB4 := hB2.trans (hW.mono hB2.size)
        clear hW hBw hX2 hB2
        go_wp2_with fail
        refine (hle true _ rfl _ hB3).out.mono ?_
        rintro e W2 ⟨rfl, hW⟩
        have hX2 := below_blk hW hX3
        have hBw := hB3.trans (hW.mono hB3.size)
        have hB2 := hB4.trans (hW.mono hB4.size)
        clear hX3 hW hB3 hB4
        obtain ⟨y0, y1, y2, y3, y4, y5, y6, y7, y8, y9, y10, y11, y12, y13, y14⟩ := cells15 hX2
        go_wp2_with fail
        refine (hlr true _ rfl _ hBw).out.mono ?_
        rintro e W3 ⟨rfl, hW⟩
        have hBw := hBw.trans (hW.mono hBw.size)
        have hB2 := hB2.trans (hW.mono hB2.size)
        go_wp2_with fail
        all_goals
          go_roundw
          case rel =>
            first
              | (refine ⟨1 + 1, by simp, by omega, ?_⟩)
              | ((repeat apply Exists.intro); refine And.intro ?_ rfl; refine ⟨1 + 1, by simp, by omega, ?_⟩)
            exact hB2
          case measure =>
            simp [intOf] <;> omega
theorem same_c {w : World} {b : Nat} {L : Ctl} {c : Ck} (r : Rf) (now : Int) (h : ClkAt w b L c) (hL : CtlAt w L) (hP : PerAt w L.ps r.pb r.off) (hI : Inv L c) :
    Pure 12 #[.pointer (some ⟨b, 0, none⟩), .agg (c.rcells L r), .int .i64 now] w (.bool true) := by
  cases ht : c.intime now
  · exact same_f r now h hL hP hI ht
  · exact same_t r now h hL hP hI ht
end Go.Proofs.Ytgigehlflgcdpaa
