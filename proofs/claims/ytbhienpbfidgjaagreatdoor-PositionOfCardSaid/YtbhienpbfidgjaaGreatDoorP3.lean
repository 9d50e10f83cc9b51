/- The iterator over the squares of a ray: its contract. Conditions: a square of a board, a direction by at most one file and rank. -/
import Derived.Test.YtbhienpbfidgjaaGreatDoorP2
import Derived.RangeFuncNested
import Derived.RangeFuncBound
import Derived.RangeFuncCalls
import Derived.RangeFuncLeaves
import Derived.RangeFuncFrom
import Derived.Shelf.Abstract
import Derived.Shelf.RegionOpen
import Derived.OwnWalkIn
import Derived.TacticsInMore
import Derived.LoopNIn
import Derived.LoopIn
set_option linter.unusedVariables false
set_option linter.unusedSimpArgs false
namespace Go.Proofs.YtbhienpbfidgjaaGreatDoor
open Go.RowKit
attribute [local go_sem] Oper.semAt_some
def rayN (f r dx dy : Int) : Nat → Int → Int → List Nat
  | 0, _, _ => []
  | n + 1, x, y => if onB f r (x + dx) (y + dy) then sqn f (x + dx) (y + dy) :: rayN f r dx dy n (x + dx) (y + dy) else []
def rleft (f r dx dy x y : Int) : Nat := if 0 < dx then (f - x).toNat else if dx < 0 then (x + 1).toNat else if 0 < dy then (r - y).toNat else (y + 1).toNat
theorem rleft_lt {f r dx dy x y : Int} (h1 : -1 ≤ dx) (h2 : dx ≤ 1) (h3 : -1 ≤ dy) (h4 : dy ≤ 1) (h0 : dx ≠ 0 ∨ dy ≠ 0) (ho : onB f r (x + dx) (y + dy) = true) :
    rleft f r dx dy (x + dx) (y + dy) + 1 = rleft f r dx dy x y := by
  obtain ⟨x1, x2, y1, y2⟩ := onB_bd ho
  unfold rleft
  split
  · omega
  · split
    · omega
    · split <;> omega
theorem rayN_on {f r dx dy : Int} {n : Nat} {x y : Int} (h1 : -1 ≤ dx) (h2 : dx ≤ 1) (h3 : -1 ≤ dy) (h4 : dy ≤ 1) (h0 : dx ≠ 0 ∨ dy ≠ 0) (hn : rleft f r dx dy x y ≤ n) (ho : onB f r (x + dx) (y + dy) = true) :
    ∃ m, n = m + 1 ∧ rayN f r dx dy n x y = sqn f (x + dx) (y + dy) :: rayN f r dx dy m (x + dx) (y + dy) ∧ rleft f r dx dy (x + dx) (y + dy) ≤ m := by
  have := rleft_lt h1 h2 h3 h4 h0 ho
  obtain ⟨m, rfl⟩ : ∃ m, n = m + 1 := ⟨n - 1, by omega⟩
  exact ⟨m, rfl, by simp [rayN, ho], by omega⟩
theorem rayN_off {f r dx dy : Int} {n : Nat} {x y : Int} (ho : onB f r (x + dx) (y + dy) = false) : rayN f r dx dy n x y = [] := by
  cases n <;> simp [rayN, ho]
def rayL (f r a dx dy : Int) : List Nat := rayN f r dx dy 8 (a % f) (a / f)
theorem rayN_len (f r dx dy : Int) (n : Nat) : ∀ x y, (rayN f r dx dy n x y).length ≤ n := by
  induction n with
  | zero => intro x y; simp [rayN]
  | succ n ih =>
    intro x y
    simp only [rayN]
    split
    · simpa using ih _ _
    · simp
theorem grown_undrew {a w : World} {row : Option Nat} (h : a.drew.grownBy w row) : a.grownBy w row := ⟨h.os, h.tape, h.output, h.size, h.block⟩
theorem below_undrew {B : Nat} {a w : World} (h : Below B a.drew w) : Below B a w := ⟨h.os, h.tape, h.output, h.size, h.block⟩
theorem Pure.inW {f : FuncId} {args : Array Value} {w : World} {v : Value} (n : Nat) (h : Pure f args w v) : CallsIn Fence.wide n Tryz.prog f args w (fun e w' => e = .returned v ∧ Below w.heap.size w w') := callsIn_wide.2 h
theorem max4 (dx dy : Int) (d1 : -1 ≤ dx) (d2 : dx ≤ 1) (d3 : -1 ≤ dy) (d4 : dy ≤ 1) (d0 : dx ≠ 0 ∨ dy ≠ 0) (W : World) :
    Sem.run Tryz.prog (Builtin.max_ #[3, 3, 3, 3] 3 #[.int .i64 dx, .int .i64 (-dx), .int .i64 dy, .int .i64 (-dy)]) W = .ok (.int .i64 1) W := by
  rcases (by omega : dx = -1 ∨ dx = 0 ∨ dx = 1) with rfl | rfl | rfl <;> rcases (by omega : dy = -1 ∨ dy = 0 ∨ dy = 1) with rfl | rfl | rfl
  all_goals first | (exact absurd d0 (by decide)) | kernel_rfl
structure RayAt (W : World) (b1 b2 b3 b4 : Nat) (f r a dx dy : Int) : Prop where
  size : W.heap[b1]? = some (.cells #[.int .i64 f, .int .i64 r] 23 (0, 0))
  sq : W.heap[b2]? = some (.cells #[.int .i64 a] 3 (0, 0))
  dx : W.heap[b3]? = some (.cells #[.int .i64 dx] 3 (0, 0))
  dy : W.heap[b4]? = some (.cells #[.int .i64 dy] 3 (0, 0))
theorem RayAt.below {n : Nat} {W V : World} {b1 b2 b3 b4 : Nat} {f r a dx dy : Int} (h : RayAt W b1 b2 b3 b4 f r a dx dy) (hb : Below n W V) (h1 : b1 < n) (h2 : b2 < n) (h3 : b3 < n) (h4 : b4 < n) : RayAt V b1 b2 b3 b4 f r a dx dy :=
  ⟨(hb.block _ h1).trans h.size, (hb.block _ h2).trans h.sq, (hb.block _ h3).trans h.dx, (hb.block _ h4).trans h.dy⟩
set_option maxRecDepth 100000 in
set_option maxHeartbeats 1000000 in
theorem ray1_in (n : Nat) (hn : 1 ≤ n) (l n0 b1 b2 b3 b4 : Nat) (f r a dx dy : Int) (hq : vsq f r a = true) (d1 : -1 ≤ dx) (d2 : dx ≤ 1) (d3 : -1 ≤ dy) (d4 : dy ≤ 1) (d0 : dx ≠ 0 ∨ dy ≠ 0) (c1 : b1 < n0) (c2 : b2 < n0) (c3 : b3 < n0) (c4 : b4 < n0)
    (Kp : World → World → Prop) (hK : ∀ A B, Kp A B → RayAt A b1 b2 b3 b4 f r a dx dy → RayAt B b1 b2 b3 b4 f r a dx dy) (hKs : ∀ A B, Kp A B → A.heap.size ≤ B.heap.size)
    (J Jx : List Nat → World → Prop) (W : World) (hJ : AbidesFrom W.heap.size J)
    (hY : ∀ pre x W, x < 64 → J pre W → pre.length < 8 → YieldAt Fence.wide (n - 1) Tryz.prog l #[.int .i64 (x : Nat)] W fun e W' =>
      (e = .returned (.bool true) ∧ J (pre ++ [x]) W' ∧ Kp W W') ∨ (e = .returned (.bool false) ∧ Jx (pre ++ [x]) W'))
    (hR : RayAt W b1 b2 b3 b4 f r a dx dy) (hn0 : n0 ≤ W.heap.size) (h0 : J [] W) :
    CallsIn Fence.wide n Tryz.prog 227 #[.func (.yield l) #[] #[], .pointer (some ⟨b1, 0, none⟩), .pointer (some ⟨b2, 0, none⟩), .pointer (some ⟨b3, 0, none⟩), .pointer (some ⟨b4, 0, none⟩)] W fun e W' => (∃ v, e = .returned v) ∧
      ((∃ ys, ys = rayL f r a dx dy ∧ J ys W') ∨ (∃ pre, pre <+: rayL f r a dx dy ∧ Jx pre W')) := by
  have hpl := fun W => Lib.hid (place_c W f r a)
  unfold placeV at hpl
  simp only [hq, if_true] at hpl
  obtain ⟨hz, a0, a1⟩ := vsq_bd hq
  obtain ⟨z1, z2, z3, z4⟩ := vsize_bd hz
  have hat := fun W x y => Lib.hid (at_c W f r x y)
  unfold atV at hat
  simp only [hz, if_true] at hat
  have hsq := fun x y h => Lib.hid (sqn_lt (x := x) (y := y) hz h)
  have x0 := Int.emod_nonneg a (by omega : f ≠ 0)
  have x1 := Int.emod_lt_of_pos a (by omega : 0 < f)
  have y0 : 0 ≤ a / f := Int.ediv_nonneg a0 (by omega)
  have y1 : a / f < r := Int.ediv_lt_of_lt_mul (by omega) (by rw [Int.mul_comm]; exact a1)
  have hfull : Hid (rayL f r a dx dy = rayN f r dx dy 8 (a % f) (a / f)) := Lib.hid rfl
  obtain ⟨L, hL⟩ : ∃ L, rayL f r a dx dy = L := ⟨_, rfl⟩
  rw [hL] at hfull ⊢
  obtain ⟨x, hx⟩ : ∃ x, a % f = x := ⟨_, rfl⟩
  obtain ⟨y, hy⟩ : ∃ y, a / f = y := ⟨_, rfl⟩
  rw [hx, hy] at hpl hfull
  rw [hx] at x0 x1
  rw [hy] at y0 y1
  clear hx hy
  have hl8 : Hid (rleft f r dx dy x y ≤ 8) := Lib.hid (by
    unfold rleft
    split
    · omega
    · split
      · omega
      · split <;> omega)
  replace hL := Lib.hid hL
  replace hz := Lib.hid hz
  replace hq := Lib.hid hq
  replace hR := Lib.hid hR
  replace hJ := Lib.hid hJ
  replace d0 := Lib.hid d0
  refine callsIn_of_wp Tryz.func227 rfl trivial ?_ rfl
  simp only [Tryz.ntmps227, List.size_toArray, List.length_cons, List.length_nil, Nat.reduceAdd, Nat.reduceSub, Array.replicate_succ, Array.replicate_zero, List.push_toArray, List.append_toArray, List.nil_append, List.cons_append]
  have v0 := cell_of hR.out.size 0 _ rfl
  have v1 := cell_of hR.out.size 1 _ rfl
  have v2 := cell_of hR.out.sq 0 _ rfl
  have v3 := cell_of hR.out.dx 0 _ rfl
  have v4 := cell_of hR.out.dy 0 _ rfl
  have hnN : 1 ≤ n - 1 ∨ n = 1 := by omega
  gi_wp2
  refine ⟨trivial, ?_⟩
  refine ((hpl _).out.inW _).mono ?_
  rintro e V ⟨rfl, hV⟩
  replace h0 := hJ.out [] W V none h0 (grown_of_below hV (Nat.le_refl _)) (by simp)
  replace hR := Lib.hid (hR.out.below hV (by omega) (by omega) (by omega) (by omega))
  have hVs := hV.size
  have hBV := Lib.hid hV
  clear v0 v1 v2 v3 v4 hV hpl
  have v0 := cell_of hR.out.size 0 _ rfl
  have v1 := cell_of hR.out.size 1 _ rfl
  have v3 := cell_of hR.out.dx 0 _ rfl
  have v4 := cell_of hR.out.dy 0 _ rfl
  have ho1 : ((dx == 0) && (dy == 0)) = false := by
    have := d0.out
    simp only [Bool.and_eq_false_iff, beq_eq_false_iff_ne]
    omega
  replace h0 := Lib.hid h0
  have t1 : decide (dx < -8) = false := by simp; omega
  have t2 : decide (dy < -8) = false := by simp; omega
  have hmx := max4 dx dy d1 d2 d3 d4 d0.out
  cases e3 : (dx == 0)
  · gi_wp2
    gi_loopw [6, 7] (fun X Y wr => ∃ (pre : List Nat) (m : Nat) (xx yy : Int), X = .int .i64 xx ∧ Y = .int .i64 yy ∧ L = pre ++ rayN f r dx dy m xx yy ∧ rleft f r dx dy xx yy ≤ m ∧ pre.length + m ≤ 8 ∧ 0 ≤ xx ∧ xx < f ∧ 0 ≤ yy ∧ yy < r ∧ J pre wr ∧ RayAt wr b1 b2 b3 b4 f r a dx dy ∧ W.heap.size ≤ wr.heap.size) (fun X Y _ => rleft f r dx dy (intOf X) (intOf Y))
    case atStart => exact ⟨[], 8, x, y, rfl, rfl, by simpa using hfull.out, hl8.out, by simp, x0, x1, y0, y1, h0.out, hR.out, hVs⟩
    case round =>
      obtain ⟨pre, m, xx, yy, rfl, rfl, hLx, hm, hpm, q0, q1, p0, p1, hJr, hRr, hsz⟩ := hrel
      clear v0 v1 v3 v4 h0 hBV hl8
      have v0 := cell_of hRr.size 0 _ rfl
      have v1 := cell_of hRr.size 1 _ rfl
      have v3 := cell_of hRr.dx 0 _ rfl
      have v4 := cell_of hRr.dy 0 _ rfl
      have hatx := fun W => (hat W (xx + dx) (yy + dy)).out
      replace hJr := Lib.hid hJr
      replace hRr := Lib.hid hRr
      replace hLx := Lib.hid hLx
      cases ho : onB f r (xx + dx) (yy + dy)
      · simp only [ho, Bool.false_eq_true, if_false] at hatx
        replace hatx := fun W => Lib.hid (show Pure _ _ W _ from hatx W)
        replace ho := Lib.hid ho
        clear hat hsq
        gi_wp2
        gi_region
        gi_wp2
        refine ⟨trivial, ?_⟩
        refine ((hatx _).out.inW _).mono ?_
        rintro e V2 ⟨rfl, hV2⟩
        have hJ2 := Lib.hid (hJ.out pre wr V2 none hJr.out (grown_undrew (grown_of_below hV2 (Nat.le_refl _))) (by simp))
        have hLp : Hid (pre = L) := Lib.hid (by rw [hLx.out, rayN_off ho.out, List.append_nil])
        clear hV2 v0 v1 v3 v4
        gi_wp2
        refine ⟨fun _ h => (by cases h), ?_⟩
        gi_wp2
        refine bodyPost_ret (results_none rfl _ _ _) rfl ?_
        exact ⟨⟨_, rfl⟩, .inl ⟨pre, hLp.out, hJ2.out⟩⟩
      · simp only [ho, if_true] at hatx
        obtain ⟨hs1, hs2⟩ := (hsq _ _ ho).out
        obtain ⟨m2, hm2, hray, hle⟩ := rayN_on d1 d2 d3 d4 d0.out hm ho
        obtain ⟨o1, o2, o3, o4⟩ := onB_bd ho
        have hlt := rleft_lt d1 d2 d3 d4 d0.out ho
        have hL2 : Hid (L = (pre ++ [sqn f (xx + dx) (yy + dy)]) ++ rayN f r dx dy m2 (xx + dx) (yy + dy)) := Lib.hid (by rw [hLx.out, hray, List.append_assoc]; rfl)
        obtain ⟨s, hs⟩ : ∃ s, sqn f (xx + dx) (yy + dy) = s := ⟨_, rfl⟩
        rw [hs] at hs1 hs2 hL2
        replace hatx := fun W => Lib.hid (show Pure 223 #[.agg #[.int .i64 f, .int .i64 r], .int .i64 (xx + dx), .int .i64 (yy + dy)] W (.tuple #[.int .i64 (s : Int), .int .i64 0]) from by have := hatx W; rw [← hs2] at this; exact this)
        have hlen : pre.length < 8 := by omega
        have hpm2 : (pre ++ [s]).length + m2 ≤ 8 := by simp; omega
        have hpre : Hid ((pre ++ [s]) <+: L) := Lib.hid ⟨_, hL2.out.symm⟩
        replace ho := Lib.hid ho
        replace hs := Lib.hid hs
        replace hs2 := Lib.hid hs2
        replace hm2 := Lib.hid hm2
        replace hlt := Lib.hid hlt
        replace hpm2 := Lib.hid hpm2
        clear hat hsq hray
        gi_wp2
        gi_region
        gi_wp2
        refine ⟨trivial, ?_⟩
        refine ((hatx _).out.inW _).mono ?_
        rintro e V2 ⟨rfl, hV2⟩
        have hJ2 := Lib.hid (hJ.out pre wr V2 none hJr.out (grown_undrew (grown_of_below hV2 (Nat.le_refl _))) (by simp))
        have hz2 : wr.heap.size ≤ V2.heap.size := hV2.size
        have hRV := Lib.hid (hRr.out.below (below_undrew (B := wr.heap.size) hV2) (by omega) (by omega) (by omega) (by omega))
        obtain ⟨fn, tmps, assign, body, hy, hRo⟩ := hY pre s V2 hs1 hJ2.out hlen
        replace hRo := Lib.hid hRo
        clear hV2 v0 v1 v3 v4
        gi_wp2
        refine hRo.out.mono ?_
        rintro e W3 (⟨rfl, hJ3, hk3⟩ | ⟨rfl, hJx3⟩)
        · replace hJ3 := Lib.hid hJ3
          have hR3 := Lib.hid (hK _ _ hk3 hRV.out)
          have hz3 := hKs _ _ hk3
          clear hk3
          gi_wp2
          go_roundw
          case rel => exact ⟨pre ++ [s], m2, xx + dx, yy + dy, rfl, rfl, hL2.out, hle, hpm2.out, o1, o2, o3, o4, hJ3.out, hR3.out, by omega⟩
          case measure => have := hlt.out; simp only [intOf]; omega
        · replace hJx3 := Lib.hid hJx3
          gi_wp2
          refine bodyPost_ret (results_none rfl _ _ _) rfl ?_
          exact ⟨⟨_, rfl⟩, .inr ⟨pre ++ [s], hpre.out, hJx3.out⟩⟩
  · cases e4 : (dy == 0)
    · gi_wp2
      gi_loopw [6, 7] (fun X Y wr => ∃ (pre : List Nat) (m : Nat) (xx yy : Int), X = .int .i64 xx ∧ Y = .int .i64 yy ∧ L = pre ++ rayN f r dx dy m xx yy ∧ rleft f r dx dy xx yy ≤ m ∧ pre.length + m ≤ 8 ∧ 0 ≤ xx ∧ xx < f ∧ 0 ≤ yy ∧ yy < r ∧ J pre wr ∧ RayAt wr b1 b2 b3 b4 f r a dx dy ∧ W.heap.size ≤ wr.heap.size) (fun X Y _ => rleft f r dx dy (intOf X) (intOf Y))
      case atStart => exact ⟨[], 8, x, y, rfl, rfl, by simpa using hfull.out, hl8.out, by simp, x0, x1, y0, y1, h0.out, hR.out, hVs⟩
      case round =>
        obtain ⟨pre, m, xx, yy, rfl, rfl, hLx, hm, hpm, q0, q1, p0, p1, hJr, hRr, hsz⟩ := hrel
        clear v0 v1 v3 v4 h0 hBV hl8
        have v0 := cell_of hRr.size 0 _ rfl
        have v1 := cell_of hRr.size 1 _ rfl
        have v3 := cell_of hRr.dx 0 _ rfl
        have v4 := cell_of hRr.dy 0 _ rfl
        have hatx := fun W => (hat W (xx + dx) (yy + dy)).out
        replace hJr := Lib.hid hJr
        replace hRr := Lib.hid hRr
        replace hLx := Lib.hid hLx
        cases ho : onB f r (xx + dx) (yy + dy)
        · simp only [ho, Bool.false_eq_true, if_false] at hatx
          replace hatx := fun W => Lib.hid (show Pure _ _ W _ from hatx W)
          replace ho := Lib.hid ho
          clear hat hsq
          gi_wp2
          gi_region
          gi_wp2
          refine ⟨trivial, ?_⟩
          refine ((hatx _).out.inW _).mono ?_
          rintro e V2 ⟨rfl, hV2⟩
          have hJ2 := Lib.hid (hJ.out pre wr V2 none hJr.out (grown_undrew (grown_of_below hV2 (Nat.le_refl _))) (by simp))
          have hLp : Hid (pre = L) := Lib.hid (by rw [hLx.out, rayN_off ho.out, List.append_nil])
          clear hV2 v0 v1 v3 v4
          gi_wp2
          refine ⟨fun _ h => (by cases h), ?_⟩
          gi_wp2
          refine bodyPost_ret (results_none rfl _ _ _) rfl ?_
          exact ⟨⟨_, rfl⟩, .inl ⟨pre, hLp.out, hJ2.out⟩⟩
        · simp only [ho, if_true] at hatx
          obtain ⟨hs1, hs2⟩ := (hsq _ _ ho).out
          obtain ⟨m2, hm2, hray, hle⟩ := rayN_on d1 d2 d3 d4 d0.out hm ho
          obtain ⟨o1, o2, o3, o4⟩ := onB_bd ho
          have hlt := rleft_lt d1 d2 d3 d4 d0.out ho
          have hL2 : Hid (L = (pre ++ [sqn f (xx + dx) (yy + dy)]) ++ rayN f r dx dy m2 (xx + dx) (yy + dy)) := Lib.hid (by rw [hLx.out, hray, List.append_assoc]; rfl)
          obtain ⟨s, hs⟩ : ∃ s, sqn f (xx + dx) (yy + dy) = s := ⟨_, rfl⟩
          rw [hs] at hs1 hs2 hL2
          replace hatx := fun W => Lib.hid (show Pure 223 #[.agg #[.int .i64 f, .int .i64 r], .int .i64 (xx + dx), .int .i64 (yy + dy)] W (.tuple #[.int .i64 (s : Int), .int .i64 0]) from by have := hatx W; rw [← hs2] at this; exact this)
          have hlen : pre.length < 8 := by omega
          have hpm2 : (pre ++ [s]).length + m2 ≤ 8 := by simp; omega
          have hpre : Hid ((pre ++ [s]) <+: L) := Lib.hid ⟨_, hL2.out.symm⟩
          replace ho := Lib.hid ho
          replace hs := Lib.hid hs
          replace hs2 := Lib.hid hs2
          replace hm2 := Lib.hid hm2
          replace hlt := Lib.hid hlt
          replace hpm2 := Lib.hid hpm2
          clear hat hsq hray
          gi_wp2
          gi_region
          gi_wp2
          refine ⟨trivial, ?_⟩
          refine ((hatx _).out.inW _).mono ?_
          rintro e V2 ⟨rfl, hV2⟩
          have hJ2 := Lib.hid (hJ.out pre wr V2 none hJr.out (grown_undrew (grown_of_below hV2 (Nat.le_refl _))) (by simp))
          have hz2 : wr.heap.size ≤ V2.heap.size := hV2.size
          have hRV := Lib.hid (hRr.out.below (below_undrew (B := wr.heap.size) hV2) (by omega) (by omega) (by omega) (by omega))
          obtain ⟨fn, tmps, assign, body, hy, hRo⟩ := hY pre s V2 hs1 hJ2.out hlen
          replace hRo := Lib.hid hRo
          clear hV2 v0 v1 v3 v4
          gi_wp2
          refine hRo.out.mono ?_
          rintro e W3 (⟨rfl, hJ3, hk3⟩ | ⟨rfl, hJx3⟩)
          · replace hJ3 := Lib.hid hJ3
            have hR3 := Lib.hid (hK _ _ hk3 hRV.out)
            have hz3 := hKs _ _ hk3
            clear hk3
            gi_wp2
            go_roundw
            case rel => exact ⟨pre ++ [s], m2, xx + dx, yy + dy, rfl, rfl, hL2.out, hle, hpm2.out, o1, o2, o3, o4, hJ3.out, hR3.out, by omega⟩
            case measure => have := hlt.out; simp only [intOf]; omega
          · replace hJx3 := Lib.hid hJx3
            gi_wp2
            refine bodyPost_ret (results_none rfl _ _ _) rfl ?_
            exact ⟨⟨_, rfl⟩, .inr ⟨pre ++ [s], hpre.out, hJx3.out⟩⟩
    · rw [e3, e4] at ho1
      cases ho1
end Go.Proofs.YtbhienpbfidgjaaGreatDoor
