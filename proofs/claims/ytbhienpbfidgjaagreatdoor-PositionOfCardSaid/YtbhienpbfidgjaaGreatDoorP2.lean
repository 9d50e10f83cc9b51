/- Contracts of the package ray that leap: leap, Pawn, on; sets of squares as numbers. Conditions: a square of a board; steps that lie in memory. -/
import Derived.Test.YtbhienpbfidgjaaGreatDoorP1
import Derived.Laws.BitsAllLaws
set_option linter.unusedVariables false
set_option linter.unusedSimpArgs false
namespace Go.Proofs.YtbhienpbfidgjaaGreatDoor
open Go.RowKit
theorem pow64 {n : Nat} (h : n < 64) : 2 ^ n < 18446744073709551616 := Nat.lt_of_lt_of_le (Nat.pow_lt_pow_right (by omega) h) (by decide)
theorem or64 {a b : Nat} (ha : a < 18446744073709551616) (hb : b < 18446744073709551616) : a ||| b < 18446744073709551616 := Nat.or_lt_two_pow (n := 64) ha hb
theorem wrap_pow {s : Nat} (h : s < 64) : IntKind.u64.wrap (2 ^ s) = ((2 ^ s : Nat) : Int) := by
  rw [IntKind.wrap_u64]
  have := pow64 h
  rw [show ((2 : Int) ^ s) = ((2 ^ s : Nat) : Int) by simp]
  generalize 2 ^ s = p at *
  exact Int.emod_eq_of_lt (by omega) (by omega)
theorem or_bit {S s : Nat} (hS : S < 18446744073709551616) (h : s < 64) : bits .or .u64 (S : Int) (IntKind.u64.wrap (2 ^ s)) = ((S ||| 2 ^ s : Nat) : Int) := by
  rw [wrap_pow h]
  exact u64_or_nat S (2 ^ s) hS (pow64 h)
def StepsAt (w : World) (b off : Nat) (L : List (Int × Int)) : Prop :=
  ∀ i d, L[i]? = some d → w.cell? ⟨b, off + i * 2, none⟩ = some (.int .i64 d.1) ∧ w.cell? ⟨b, off + i * 2 + 1, none⟩ = some (.int .i64 d.2)
theorem StepsAt.below {w V : World} {b off : Nat} {L : List (Int × Int)} (h : StepsAt w b off L) (hb : Below w.heap.size w V) : StepsAt V b off L :=
  fun i d hd => ⟨below_at hb (h i d hd).1, below_at hb (h i d hd).2⟩
def sqn (f x y : Int) : Nat := (x + y * f).toNat
def addS (f r x y : Int) (S : Nat) (d : Int × Int) : Nat := if onB f r (x + d.1) (y + d.2) then S ||| 2 ^ sqn f (x + d.1) (y + d.2) else S
def leapS (f r a : Int) (L : List (Int × Int)) : Nat := L.foldl (addS f r (a % f) (a / f)) 0
theorem sqn_lt {f r x y : Int} (hv : vsize f r = true) (h : onB f r x y = true) : sqn f x y < 64 ∧ (sqn f x y : Int) = x + y * f := by
  obtain ⟨_, _, h0, h1⟩ := on_mul hv h
  obtain ⟨_, m⟩ := vsize_mul hv
  unfold sqn
  omega
theorem addS_lt {f r x y : Int} {S : Nat} (hv : vsize f r = true) (d : Int × Int) (hS : S < 18446744073709551616) : addS f r x y S d < 18446744073709551616 := by
  unfold addS
  split
  · rename_i h
    exact or64 hS (pow64 (sqn_lt hv h).1)
  · exact hS
theorem leap_lt {f r x y : Int} (hv : vsize f r = true) (L : List (Int × Int)) : ∀ S, S < 18446744073709551616 → L.foldl (addS f r x y) S < 18446744073709551616 := by
  induction L with
  | nil => exact fun _ h => h
  | cons d L ih => exact fun S h => ih _ (addS_lt hv d h)
theorem leapS_lt {f r a : Int} (hv : vsize f r = true) (L : List (Int × Int)) : leapS f r a L < 18446744073709551616 := leap_lt hv L 0 (by decide)
theorem leap_snoc (f r a : Int) (L : List (Int × Int)) (k : Nat) (d : Int × Int) (h : L[k]? = some d) : leapS f r a (L.take (k + 1)) = addS f r (a % f) (a / f) (leapS f r a (L.take k)) d := by
  obtain ⟨hk, he⟩ := List.getElem?_eq_some_iff.1 h
  rw [List.take_succ_eq_append_getElem hk, he]
  simp [leapS, List.foldl_append]
set_option maxHeartbeats 1000000 in
theorem leap_c (w : World) (f r a : Int) (b off cap : Nat) (L : List (Int × Int)) (hq : vsq f r a = true) (hL : StepsAt w b off L) (hd : ∀ d ∈ L, -8 ≤ d.1 ∧ d.1 ≤ 8 ∧ -8 ≤ d.2 ∧ d.2 ≤ 8) (hn : L.length ≤ 8) :
    Pure 215 #[.agg #[.int .i64 f, .int .i64 r], .int .i64 a, .slice (some ⟨b, off, none⟩) L.length cap] w (.int .u64 (leapS f r a L)) := by
  have h1 := fun W => Lib.hid (place_c W f r a)
  unfold placeV at h1
  rw [if_pos hq] at h1
  obtain ⟨hz, a0, a1⟩ := vsq_bd hq
  obtain ⟨b1, b2, b3, b4⟩ := vsize_bd hz
  obtain ⟨k1, k2⟩ := vsize_mul hz
  have x0 := Int.emod_nonneg a (by omega : f ≠ 0)
  have x1 := Int.emod_lt_of_pos a (by omega : 0 < f)
  have y0 : 0 ≤ a / f := Int.ediv_nonneg a0 (by omega)
  have y1 : a / f < 64 := by
    have := Int.ediv_le_self f a0
    omega
  have hat := fun W x y => Lib.hid (at_c W f r x y)
  unfold atV at hat
  simp only [hz, if_true] at hat
  have hsn := fun k d h => Lib.hid (leap_snoc f r a L k d h)
  have hlt := fun k => Lib.hid (leapS_lt (a := a) hz (L.take k))
  have hsq := fun x y h => Lib.hid (sqn_lt (x := x) (y := y) hz h)
  have hfull : Hid (leapS f r a (L.take L.length) = leapS f r a L) := Lib.hid (by rw [List.take_length])
  have hzero : Hid (leapS f r a (L.take 0) = 0) := Lib.hid (by simp [leapS])
  replace hz := Lib.hid hz
  replace hq := Lib.hid hq
  replace hL := Lib.hid hL
  replace hd := Lib.hid hd
  unfold addS at hsn
  obtain ⟨x, hx⟩ : ∃ x, a % f = x := ⟨_, rfl⟩
  obtain ⟨y, hy⟩ : ∃ y, a / f = y := ⟨_, rfl⟩
  rw [hx] at h1 hsn x0 x1
  rw [hy] at h1 hsn y0 y1
  clear hx hy
  obtain ⟨n, hln⟩ : ∃ n, L.length = n := ⟨_, rfl⟩
  rw [hln] at hfull hn ⊢
  replace hln := Lib.hid hln
  unfold Pure
  go_enter Tryz.func215, Tryz.ntmps215
  go_wp2_with fail
  refine ((h1 _).out).mono ?_
  rintro e V ⟨rfl, hV⟩
  obtain ⟨B, hB⟩ : ∃ B, w.heap.size = B := ⟨_, rfl⟩
  have hX := Lib.hid (box_of hV)
  have hBw := Lib.hid (below_of_alloc hV)
  rw [hB] at hX ⊢
  replace hB := Lib.hid hB
  clear hV h1
  go_wp2_with fail
  go_loopw [10, 24] (fun s i wr => ∃ k : Nat, k ≤ n ∧ s = .int .u64 (leapS f r a (L.take k)) ∧ i = .int .i64 k ∧ wr.heap[B]? = some (.cells #[.int .i64 f, .int .i64 r] 23 (0, 0)) ∧ Below w.heap.size w wr) (fun _ i _ => n - (intOf i).toNat)
  case atStart => exact ⟨0, by omega, by rw [hzero.out]; rfl, rfl, hX.out, hBw.out⟩
  case round =>
    obtain ⟨k, hk, rfl, rfl, hX2, hB2⟩ := hrel
    clear hX hBw
    replace hX2 := Lib.hid hX2
    replace hB2 := Lib.hid hB2
    by_cases hkn : k = n
    · subst hkn
      rw [hfull.out]
      go_wp2
      go_ret
      exact ⟨rfl, hB2.out⟩
    · have hkl : k < n := by omega
      obtain ⟨d, hdk⟩ : ∃ d, L[k]? = some d := ⟨_, List.getElem?_eq_getElem (by rw [hln.out]; exact hkl)⟩
      obtain ⟨d1, d2, d3, d4⟩ := hd.out d (List.mem_of_getElem? hdk)
      obtain ⟨z0, z1⟩ := (hL.out.below hB2.out) k d hdk
      have hBl : B < wr.heap.size := lt_of_blk hX2.out
      have y0' := cell_of hX2.out 0 _ rfl
      have y1' := cell_of hX2.out 1 _ rfl
      replace hsn := hsn k d hdk
      have hlk := (hlt k).out
      clear hdk
      obtain ⟨dx, dy⟩ := d
      dsimp only at *
      obtain ⟨S, hS⟩ : ∃ S, leapS f r a (L.take k) = S := ⟨_, rfl⟩
      rw [hS] at hsn hlk ⊢
      replace hS := Lib.hid hS
      clear hkn
      have hatx := fun W => (hat W (x + dx) (y + dy)).out
      clear hat
      cases ho : onB f r (x + dx) (y + dy)
      · simp only [ho, Bool.false_eq_true, if_false] at hatx hsn
        replace hatx := fun W => Lib.hid (hatx W)
        replace ho := Lib.hid ho
        clear hsq
        go_wp2_with fail
        refine ((hatx _).out).mono ?_
        rintro e V ⟨rfl, hV⟩
        replace hB2 := Lib.hid (hB2.out.trans ((below_of_alloc hV).mono hB2.out.size))
        replace hX2 := Lib.hid (below_blk (below_of_alloc hV) hX2.out)
        clear hV y0' y1' z0 z1 hatx
        go_wp2
        go_roundw
        case rel => exact ⟨k + 1, by omega, by rw [hsn.out], by go_num, hX2.out, hB2.out⟩
        case measure => simp [intOf]; omega
      · simp only [ho, if_true] at hatx hsn
        obtain ⟨hs1, hs2⟩ := (hsq _ _ ho).out
        obtain ⟨s, hs⟩ : ∃ s, sqn f (x + dx) (y + dy) = s := ⟨_, rfl⟩
        rw [hs] at hs1 hs2 hsn
        replace hatx := fun W => Lib.hid (by have := hatx W; rw [← hs2] at this; exact this)
        have e1 := Lib.hid (or_bit hlk hs1)
        replace ho := Lib.hid ho
        replace hs := Lib.hid hs
        replace hs2 := Lib.hid hs2
        clear hsq
        go_wp2_with fail
        refine ((hatx _).out).mono ?_
        rintro e V ⟨rfl, hV⟩
        replace hB2 := Lib.hid (hB2.out.trans ((below_of_alloc hV).mono hB2.out.size))
        replace hX2 := Lib.hid (below_blk (below_of_alloc hV) hX2.out)
        clear hV y0' y1' z0 z1 hatx
        go_wp2
        go_roundw
        case rel => exact ⟨k + 1, by omega, by rw [hsn.out, e1.out], by go_num, hX2.out, hB2.out⟩
        case measure => simp [intOf]; omega
def fwd (black : Bool) : Int := if black then -1 else 1
theorem forward_c (w : World) (black : Bool) : Same 214 #[.bool black] w (.int .i64 (fwd black)) := by
  unfold Same
  cases black
  · go_enter Tryz.func214, Tryz.ntmps214
    go_wp2
    go_ret
    exact ⟨rfl, rfl⟩
  · go_enter Tryz.func214, Tryz.ntmps214
    go_wp2
    go_ret
    exact ⟨rfl, rfl⟩
def pawnS (f r : Int) (black : Bool) (a : Int) : Nat := leapS f r a [(-1, fwd black), (1, fwd black)]
theorem pawn_c (w : World) (f r a : Int) (black : Bool) (hq : vsq f r a = true) : Pure 191 #[.agg #[.int .i64 f, .int .i64 r], .bool black, .int .i64 a] w (.tuple #[.int .u64 (pawnS f r black a), .int .i64 0]) := by
  have h1 := fun W => Lib.hid (vsq_c W f r a)
  rw [hq] at h1
  have hb : fwd black = -1 ∨ fwd black = 1 := by cases black <;> simp [fwd]
  have h2 := fun W b hs => Lib.hid (leap_c W f r a b 0 2 [(-1, fwd black), (1, fwd black)] hq hs (by
    intro d hd
    simp only [List.mem_cons, List.not_mem_nil, or_false] at hd
    rcases hd with rfl | rfl <;> (dsimp only; omega)) (by simp))
  have h3 := fun W => Lib.hid (forward_c W black)
  unfold pawnS
  obtain ⟨u, hu⟩ : ∃ u, fwd black = u := ⟨_, rfl⟩
  rw [hu] at h2 h3 ⊢
  obtain ⟨S, hS⟩ : ∃ S, leapS f r a [(-1, u), (1, u)] = S := ⟨_, rfl⟩
  rw [hS] at h2 ⊢
  clear hb
  replace hq := Lib.hid hq
  replace hu := Lib.hid hu
  replace hS := Lib.hid hS
  unfold Pure
  go_enter Tryz.func191, Tryz.ntmps191
  go_wp2_with fail
  refine ((h1 _).out).mono ?_
  rintro e V ⟨rfl, hV⟩
  have hX := box_of hV
  have y0 := cell_of hX 0 _ rfl
  have y1 := cell_of hX 1 _ rfl
  have hBl : w.heap.size < V.heap.size := lt_of_blk hX
  have hB := Lib.hid (below_of_alloc hV)
  clear hX hV
  go_wp2_with fail
  refine (h3 _).out.mono ?_
  rintro e V2 ⟨rfl, rfl⟩
  go_wp2_with fail
  obtain ⟨G, hG⟩ : ∃ G, V.heap.size = G := ⟨_, rfl⟩
  have hSt : StepsAt (V.alloc (.cells #[.int .i64 (-1), .int .i64 u, .int .i64 1, .int .i64 u] 237)) G 0 [(-1, u), (1, u)] := by
    have hN := blk_new hG.symm (.cells #[.int .i64 (-1), .int .i64 u, .int .i64 1, .int .i64 u] 237)
    intro i d hd
    match i, hd with
    | 0, hd => obtain rfl := (Option.some.inj hd); exact ⟨cell_of hN 0 _ rfl, cell_of hN 1 _ rfl⟩
    | 1, hd => obtain rfl := (Option.some.inj hd); exact ⟨cell_of hN 2 _ rfl, cell_of hN 3 _ rfl⟩
  rw [hG]
  replace hSt := Lib.hid hSt
  replace hG := Lib.hid hG
  refine ((h2 _ G hSt.out).out).mono ?_
  rintro e V ⟨rfl, hV⟩
  clear hSt
  have hB2 := Lib.hid (hB.out.trans ((below_of_alloc hV).mono hB.out.size))
  clear hV y0 y1
  go_wp2
  go_ret2
  exact ⟨rfl, hB2.out⟩
end Go.Proofs.YtbhienpbfidgjaaGreatDoor
