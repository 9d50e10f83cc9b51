/- Stipulations: texts. Conditions: Itoa as said. -/
import Derived.Test.YtbhienpbfidgjaaGreatDoorT1
import Derived.Test.YtbhienpbfidgjaaGreatDoorS2
import Derived.Lib.ItoaNum
set_option linter.unusedVariables false
set_option linter.unusedSimpArgs false
namespace Go.Proofs.YtbhienpbfidgjaaGreatDoor
open Go.RowKit
def Stip.head (s : Stip) : ByteArray := ((#[#[⟨#[35]⟩, ⟨#[61]⟩], #[⟨#[104, 35]⟩, ⟨#[104, 61]⟩], #[⟨#[115, 35]⟩, ⟨#[115, 61]⟩], #[⟨#[114, 35]⟩, ⟨#[114, 61]⟩]] : Array (Array ByteArray)).getD (s.play - 1).toNat #[]).getD (s.goal - 1).toNat ⟨#[]⟩
def Stip.textB (s : Stip) (d : ByteArray) : ByteArray := if s.half then s.head ++ d ++ ⟨#[46, 53]⟩ else s.head ++ d
def Stip.textV (s : Stip) (d : ByteArray) : Value := if s.valid then .tuple #[.string (s.textB d), .int .i64 0] else .tuple #[.string ⟨#[]⟩, .int .i64 2]
theorem headJ0 (w : World) (a b : ByteArray) : (Instr.index 117 (.agg #[.string a, .string b]) (.int .i64 0)).run Tryz.prog w = .ok (.string a) w := by kernel_rfl
theorem headJ1 (w : World) (a b : ByteArray) : (Instr.index 117 (.agg #[.string a, .string b]) (.int .i64 1)).run Tryz.prog w = .ok (.string b) w := by kernel_rfl
set_option maxRecDepth 100000 in
set_option maxHeartbeats 4000000 in
theorem text_g (w : World) (s : Stip) (d : ByteArray) (hd : d.size ≤ 100) (hI : s.valid = true → ∀ W, Pure 71 #[.int .i64 s.moves] W (.string d)) : Pure 39 #[s.v] w (s.textV d) := by
  have h1 := fun W => Lib.hid (svalid_c W s)
  unfold Stip.textV
  cases hv : s.valid
  · rw [hv] at h1
    replace hv := Lib.hid hv
    clear hI
    obtain ⟨play, goal, moves, half⟩ := s
    dsimp only [Stip.v] at *
    unfold Pure
    go_enter Tryz.func39, Tryz.ntmps39
    go_wp2_with fail
    refine ((h1 _).out).mono ?_
    rintro e V ⟨rfl, hV⟩
    go_wp2
    go_ret2
    exact ⟨rfl, below_of_alloc hV⟩
  · rw [hv] at h1
    obtain ⟨p1, p2, g, -, -, -⟩ := Stip.of_valid hv
    replace hI := fun W => Lib.hid (hI hv W)
    replace hv := Lib.hid hv
    obtain ⟨play, goal, moves, half⟩ := s
    dsimp only [Stip.v] at *
    rcases (by omega : play = 1 ∨ play = 2 ∨ play = 3 ∨ play = 4) with rfl | rfl | rfl | rfl <;> rcases g with rfl | rfl <;> cases half
    · have hidx := headI0
      unfold headsC at hidx
      have hh := fun W => Lib.hid (heads_c W)
      unfold headsV headsC at hh
      have hj0 := headJ0
      have hz1 : (9223372036854775807 < 1 + d.size) = False := by simp; omega
      have hz2 : (9223372036854775807 < 2 + d.size) = False := by simp; omega
      have hz3 : (9223372036854775807 < 1 + d.size + 2) = False := by simp; omega
      have hz4 : (9223372036854775807 < 2 + d.size + 2) = False := by simp; omega
      have hw0 : IntKind.i64.wrap 0 = 0 := by decide
      have hw1 : IntKind.i64.wrap 1 = 1 := by decide
      have hw2 : IntKind.i64.wrap 2 = 2 := by decide
      have hw3 : IntKind.i64.wrap 3 = 3 := by decide
      have hj1 := headJ1
      unfold Pure
      go_enter Tryz.func39, Tryz.ntmps39
      go_wp2_with fail
      refine ((h1 _).out).mono ?_
      rintro e V ⟨rfl, hV⟩
      have hX := box_of hV
      have hB := Lib.hid (below_of_alloc hV)
      clear hV h1
      have x0 := fun x : Ext V.heap.size V => cell_of (below_blk x.2 hX) 0 _ rfl
      have x1 := fun x : Ext V.heap.size V => cell_of (below_blk x.2 hX) 1 _ rfl
      have x2 := fun x : Ext V.heap.size V => cell_of (below_blk x.2 hX) 2 _ rfl
      have x3 := fun x : Ext V.heap.size V => cell_of (below_blk x.2 hX) 3 _ rfl
      replace hX := Lib.hid hX
      go_wp2_with fail
      refine ext_region (by kernel_rfl) (by kernel_rfl) ?_
      repeat (first | (go_big_quiet_step ((first | (go_at_call 94; exact Pure.ext (Nat.le_refl _) (Hid.out (hh _))) | (go_at_call 71; exact Pure.ext (Nat.le_refl _) (Hid.out (hI _)))))) | ((refine wpQuiet_step (fun K hK => ?_)); go_simp; (refine ⟨_, fun _ => rfl, hK _ ?_⟩); clear hK K))
      refine wpQuiet_nil ?_
      rintro V3 ⟨x, rfl⟩
      have hB3 : Below w.heap.size w x.1 := hB.out.trans (x.2.mono hB.out.size)
      have z3 := cell_of (below_blk x.2 hX.out) 3 _ rfl
      go_wp2
      go_ret2
      exact ⟨by rfl, hB3⟩
    · have hidx := headI0
      unfold headsC at hidx
      have hh := fun W => Lib.hid (heads_c W)
      unfold headsV headsC at hh
      have hj0 := headJ0
      have hz1 : (9223372036854775807 < 1 + d.size) = False := by simp; omega
      have hz2 : (9223372036854775807 < 2 + d.size) = False := by simp; omega
      have hz3 : (9223372036854775807 < 1 + d.size + 2) = False := by simp; omega
      have hz4 : (9223372036854775807 < 2 + d.size + 2) = False := by simp; omega
      have hw0 : IntKind.i64.wrap 0 = 0 := by decide
      have hw1 : IntKind.i64.wrap 1 = 1 := by decide
      have hw2 : IntKind.i64.wrap 2 = 2 := by decide
      have hw3 : IntKind.i64.wrap 3 = 3 := by decide
      have hj1 := headJ1
      unfold Pure
      go_enter Tryz.func39, Tryz.ntmps39
      go_wp2_with fail
      refine ((h1 _).out).mono ?_
      rintro e V ⟨rfl, hV⟩
      have hX := box_of hV
      have hB := Lib.hid (below_of_alloc hV)
      clear hV h1
      have x0 := fun x : Ext V.heap.size V => cell_of (below_blk x.2 hX) 0 _ rfl
      have x1 := fun x : Ext V.heap.size V => cell_of (below_blk x.2 hX) 1 _ rfl
      have x2 := fun x : Ext V.heap.size V => cell_of (below_blk x.2 hX) 2 _ rfl
      have x3 := fun x : Ext V.heap.size V => cell_of (below_blk x.2 hX) 3 _ rfl
      replace hX := Lib.hid hX
      go_wp2_with fail
      refine ext_region (by kernel_rfl) (by kernel_rfl) ?_
      repeat (first | (go_big_quiet_step ((first | (go_at_call 94; exact Pure.ext (Nat.le_refl _) (Hid.out (hh _))) | (go_at_call 71; exact Pure.ext (Nat.le_refl _) (Hid.out (hI _)))))) | ((refine wpQuiet_step (fun K hK => ?_)); go_simp; (refine ⟨_, fun _ => rfl, hK _ ?_⟩); clear hK K))
      refine wpQuiet_nil ?_
      rintro V3 ⟨x, rfl⟩
      have hB3 : Below w.heap.size w x.1 := hB.out.trans (x.2.mono hB.out.size)
      have z3 := cell_of (below_blk x.2 hX.out) 3 _ rfl
      go_wp2
      go_ret2
      exact ⟨by rfl, hB3⟩
    · have hidx := headI0
      unfold headsC at hidx
      have hh := fun W => Lib.hid (heads_c W)
      unfold headsV headsC at hh
      have hj0 := headJ0
      have hz1 : (9223372036854775807 < 1 + d.size) = False := by simp; omega
      have hz2 : (9223372036854775807 < 2 + d.size) = False := by simp; omega
      have hz3 : (9223372036854775807 < 1 + d.size + 2) = False := by simp; omega
      have hz4 : (9223372036854775807 < 2 + d.size + 2) = False := by simp; omega
      have hw0 : IntKind.i64.wrap 0 = 0 := by decide
      have hw1 : IntKind.i64.wrap 1 = 1 := by decide
      have hw2 : IntKind.i64.wrap 2 = 2 := by decide
      have hw3 : IntKind.i64.wrap 3 = 3 := by decide
      have hj1 := headJ1
      unfold Pure
      go_enter Tryz.func39, Tryz.ntmps39
      go_wp2_with fail
      refine ((h1 _).out).mono ?_
      rintro e V ⟨rfl, hV⟩
      have hX := box_of hV
      have hB := Lib.hid (below_of_alloc hV)
      clear hV h1
      have x0 := fun x : Ext V.heap.size V => cell_of (below_blk x.2 hX) 0 _ rfl
      have x1 := fun x : Ext V.heap.size V => cell_of (below_blk x.2 hX) 1 _ rfl
      have x2 := fun x : Ext V.heap.size V => cell_of (below_blk x.2 hX) 2 _ rfl
      have x3 := fun x : Ext V.heap.size V => cell_of (below_blk x.2 hX) 3 _ rfl
      replace hX := Lib.hid hX
      go_wp2_with fail
      refine ext_region (by kernel_rfl) (by kernel_rfl) ?_
      repeat (first | (go_big_quiet_step ((first | (go_at_call 94; exact Pure.ext (Nat.le_refl _) (Hid.out (hh _))) | (go_at_call 71; exact Pure.ext (Nat.le_refl _) (Hid.out (hI _)))))) | ((refine wpQuiet_step (fun K hK => ?_)); go_simp; (refine ⟨_, fun _ => rfl, hK _ ?_⟩); clear hK K))
      refine wpQuiet_nil ?_
      rintro V3 ⟨x, rfl⟩
      have hB3 : Below w.heap.size w x.1 := hB.out.trans (x.2.mono hB.out.size)
      have z3 := cell_of (below_blk x.2 hX.out) 3 _ rfl
      go_wp2
      go_ret2
      exact ⟨by rfl, hB3⟩
    · have hidx := headI0
      unfold headsC at hidx
      have hh := fun W => Lib.hid (heads_c W)
      unfold headsV headsC at hh
      have hj0 := headJ0
      have hz1 : (9223372036854775807 < 1 + d.size) = False := by simp; omega
      have hz2 : (9223372036854775807 < 2 + d.size) = False := by simp; omega
      have hz3 : (9223372036854775807 < 1 + d.size + 2) = False := by simp; omega
      have hz4 : (9223372036854775807 < 2 + d.size + 2) = False := by simp; omega
      have hw0 : IntKind.i64.wrap 0 = 0 := by decide
      have hw1 : IntKind.i64.wrap 1 = 1 := by decide
      have hw2 : IntKind.i64.wrap 2 = 2 := by decide
      have hw3 : IntKind.i64.wrap 3 = 3 := by decide
      have hj1 := headJ1
      unfold Pure
      go_enter Tryz.func39, Tryz.ntmps39
      go_wp2_with fail
      refine ((h1 _).out).mono ?_
      rintro e V ⟨rfl, hV⟩
      have hX := box_of hV
      have hB := Lib.hid (below_of_alloc hV)
      clear hV h1
      have x0 := fun x : Ext V.heap.size V => cell_of (below_blk x.2 hX) 0 _ rfl
      have x1 := fun x : Ext V.heap.size V => cell_of (below_blk x.2 hX) 1 _ rfl
      have x2 := fun x : Ext V.heap.size V => cell_of (below_blk x.2 hX) 2 _ rfl
      have x3 := fun x : Ext V.heap.size V => cell_of (below_blk x.2 hX) 3 _ rfl
      replace hX := Lib.hid hX
      go_wp2_with fail
      refine ext_region (by kernel_rfl) (by kernel_rfl) ?_
      repeat (first | (go_big_quiet_step ((first | (go_at_call 94; exact Pure.ext (Nat.le_refl _) (Hid.out (hh _))) | (go_at_call 71; exact Pure.ext (Nat.le_refl _) (Hid.out (hI _)))))) | ((refine wpQuiet_step (fun K hK => ?_)); go_simp; (refine ⟨_, fun _ => rfl, hK _ ?_⟩); clear hK K))
      refine wpQuiet_nil ?_
      rintro V3 ⟨x, rfl⟩
      have hB3 : Below w.heap.size w x.1 := hB.out.trans (x.2.mono hB.out.size)
      have z3 := cell_of (below_blk x.2 hX.out) 3 _ rfl
      go_wp2
      go_ret2
      exact ⟨by rfl, hB3⟩
    · have hidx := headI1
      unfold headsC at hidx
      have hh := fun W => Lib.hid (heads_c W)
      unfold headsV headsC at hh
      have hj0 := headJ0
      have hz1 : (9223372036854775807 < 1 + d.size) = False := by simp; omega
      have hz2 : (9223372036854775807 < 2 + d.size) = False := by simp; omega
      have hz3 : (9223372036854775807 < 1 + d.size + 2) = False := by simp; omega
      have hz4 : (9223372036854775807 < 2 + d.size + 2) = False := by simp; omega
      have hw0 : IntKind.i64.wrap 0 = 0 := by decide
      have hw1 : IntKind.i64.wrap 1 = 1 := by decide
      have hw2 : IntKind.i64.wrap 2 = 2 := by decide
      have hw3 : IntKind.i64.wrap 3 = 3 := by decide
      have hj1 := headJ1
      unfold Pure
      go_enter Tryz.func39, Tryz.ntmps39
      go_wp2_with fail
      refine ((h1 _).out).mono ?_
      rintro e V ⟨rfl, hV⟩
      have hX := box_of hV
      have hB := Lib.hid (below_of_alloc hV)
      clear hV h1
      have x0 := fun x : Ext V.heap.size V => cell_of (below_blk x.2 hX) 0 _ rfl
      have x1 := fun x : Ext V.heap.size V => cell_of (below_blk x.2 hX) 1 _ rfl
      have x2 := fun x : Ext V.heap.size V => cell_of (below_blk x.2 hX) 2 _ rfl
      have x3 := fun x : Ext V.heap.size V => cell_of (below_blk x.2 hX) 3 _ rfl
      replace hX := Lib.hid hX
      go_wp2_with fail
      refine ext_region (by kernel_rfl) (by kernel_rfl) ?_
      repeat (first | (go_big_quiet_step ((first | (go_at_call 94; exact Pure.ext (Nat.le_refl _) (Hid.out (hh _))) | (go_at_call 71; exact Pure.ext (Nat.le_refl _) (Hid.out (hI _)))))) | ((refine wpQuiet_step (fun K hK => ?_)); go_simp; (refine ⟨_, fun _ => rfl, hK _ ?_⟩); clear hK K))
      refine wpQuiet_nil ?_
      rintro V3 ⟨x, rfl⟩
      have hB3 : Below w.heap.size w x.1 := hB.out.trans (x.2.mono hB.out.size)
      have z3 := cell_of (below_blk x.2 hX.out) 3 _ rfl
      go_wp2
      go_ret2
      exact ⟨by rfl, hB3⟩
    · have hidx := headI1
      unfold headsC at hidx
      have hh := fun W => Lib.hid (heads_c W)
      unfold headsV headsC at hh
      have hj0 := headJ0
      have hz1 : (9223372036854775807 < 1 + d.size) = False := by simp; omega
      have hz2 : (9223372036854775807 < 2 + d.size) = False := by simp; omega
      have hz3 : (9223372036854775807 < 1 + d.size + 2) = False := by simp; omega
      have hz4 : (9223372036854775807 < 2 + d.size + 2) = False := by simp; omega
      have hw0 : IntKind.i64.wrap 0 = 0 := by decide
      have hw1 : IntKind.i64.wrap 1 = 1 := by decide
      have hw2 : IntKind.i64.wrap 2 = 2 := by decide
      have hw3 : IntKind.i64.wrap 3 = 3 := by decide
      have hj1 := headJ1
      unfold Pure
      go_enter Tryz.func39, Tryz.ntmps39
      go_wp2_with fail
      refine ((h1 _).out).mono ?_
      rintro e V ⟨rfl, hV⟩
      have hX := box_of hV
      have hB := Lib.hid (below_of_alloc hV)
      clear hV h1
      have x0 := fun x : Ext V.heap.size V => cell_of (below_blk x.2 hX) 0 _ rfl
      have x1 := fun x : Ext V.heap.size V => cell_of (below_blk x.2 hX) 1 _ rfl
      have x2 := fun x : Ext V.heap.size V => cell_of (below_blk x.2 hX) 2 _ rfl
      have x3 := fun x : Ext V.heap.size V => cell_of (below_blk x.2 hX) 3 _ rfl
      replace hX := Lib.hid hX
      go_wp2_with fail
      refine ext_region (by kernel_rfl) (by kernel_rfl) ?_
      repeat (first | (go_big_quiet_step ((first | (go_at_call 94; exact Pure.ext (Nat.le_refl _) (Hid.out (hh _))) | (go_at_call 71; exact Pure.ext (Nat.le_refl _) (Hid.out (hI _)))))) | ((refine wpQuiet_step (fun K hK => ?_)); go_simp; (refine ⟨_, fun _ => rfl, hK _ ?_⟩); clear hK K))
      refine wpQuiet_nil ?_
      rintro V3 ⟨x, rfl⟩
      have hB3 : Below w.heap.size w x.1 := hB.out.trans (x.2.mono hB.out.size)
      have z3 := cell_of (below_blk x.2 hX.out) 3 _ rfl
      go_wp2
      go_ret2
      exact ⟨by rfl, hB3⟩
    · have hidx := headI1
      unfold headsC at hidx
      have hh := fun W => Lib.hid (heads_c W)
      unfold headsV headsC at hh
      have hj0 := headJ0
      have hz1 : (9223372036854775807 < 1 + d.size) = False := by simp; omega
      have hz2 : (9223372036854775807 < 2 + d.size) = False := by simp; omega
      have hz3 : (9223372036854775807 < 1 + d.size + 2) = False := by simp; omega
      have hz4 : (9223372036854775807 < 2 + d.size + 2) = False := by simp; omega
      have hw0 : IntKind.i64.wrap 0 = 0 := by decide
      have hw1 : IntKind.i64.wrap 1 = 1 := by decide
      have hw2 : IntKind.i64.wrap 2 = 2 := by decide
      have hw3 : IntKind.i64.wrap 3 = 3 := by decide
      have hj1 := headJ1
      unfold Pure
      go_enter Tryz.func39, Tryz.ntmps39
      go_wp2_with fail
      refine ((h1 _).out).mono ?_
      rintro e V ⟨rfl, hV⟩
      have hX := box_of hV
      have hB := Lib.hid (below_of_alloc hV)
      clear hV h1
      have x0 := fun x : Ext V.heap.size V => cell_of (below_blk x.2 hX) 0 _ rfl
      have x1 := fun x : Ext V.heap.size V => cell_of (below_blk x.2 hX) 1 _ rfl
      have x2 := fun x : Ext V.heap.size V => cell_of (below_blk x.2 hX) 2 _ rfl
      have x3 := fun x : Ext V.heap.size V => cell_of (below_blk x.2 hX) 3 _ rfl
      replace hX := Lib.hid hX
      go_wp2_with fail
      refine ext_region (by kernel_rfl) (by kernel_rfl) ?_
      repeat (first | (go_big_quiet_step ((first | (go_at_call 94; exact Pure.ext (Nat.le_refl _) (Hid.out (hh _))) | (go_at_call 71; exact Pure.ext (Nat.le_refl _) (Hid.out (hI _)))))) | ((refine wpQuiet_step (fun K hK => ?_)); go_simp; (refine ⟨_, fun _ => rfl, hK _ ?_⟩); clear hK K))
      refine wpQuiet_nil ?_
      rintro V3 ⟨x, rfl⟩
      have hB3 : Below w.heap.size w x.1 := hB.out.trans (x.2.mono hB.out.size)
      have z3 := cell_of (below_blk x.2 hX.out) 3 _ rfl
      go_wp2
      go_ret2
      exact ⟨by rfl, hB3⟩
    · have hidx := headI1
      unfold headsC at hidx
      have hh := fun W => Lib.hid (heads_c W)
      unfold headsV headsC at hh
      have hj0 := headJ0
      have hz1 : (9223372036854775807 < 1 + d.size) = False := by simp; omega
      have hz2 : (9223372036854775807 < 2 + d.size) = False := by simp; omega
      have hz3 : (9223372036854775807 < 1 + d.size + 2) = False := by simp; omega
      have hz4 : (9223372036854775807 < 2 + d.size + 2) = False := by simp; omega
      have hw0 : IntKind.i64.wrap 0 = 0 := by decide
      have hw1 : IntKind.i64.wrap 1 = 1 := by decide
      have hw2 : IntKind.i64.wrap 2 = 2 := by decide
      have hw3 : IntKind.i64.wrap 3 = 3 := by decide
      have hj1 := headJ1
      unfold Pure
      go_enter Tryz.func39, Tryz.ntmps39
      go_wp2_with fail
      refine ((h1 _).out).mono ?_
      rintro e V ⟨rfl, hV⟩
      have hX := box_of hV
      have hB := Lib.hid (below_of_alloc hV)
      clear hV h1
      have x0 := fun x : Ext V.heap.size V => cell_of (below_blk x.2 hX) 0 _ rfl
      have x1 := fun x : Ext V.heap.size V => cell_of (below_blk x.2 hX) 1 _ rfl
      have x2 := fun x : Ext V.heap.size V => cell_of (below_blk x.2 hX) 2 _ rfl
      have x3 := fun x : Ext V.heap.size V => cell_of (below_blk x.2 hX) 3 _ rfl
      replace hX := Lib.hid hX
      go_wp2_with fail
      refine ext_region (by kernel_rfl) (by kernel_rfl) ?_
      repeat (first | (go_big_quiet_step ((first | (go_at_call 94; exact Pure.ext (Nat.le_refl _) (Hid.out (hh _))) | (go_at_call 71; exact Pure.ext (Nat.le_refl _) (Hid.out (hI _)))))) | ((refine wpQuiet_step (fun K hK => ?_)); go_simp; (refine ⟨_, fun _ => rfl, hK _ ?_⟩); clear hK K))
      refine wpQuiet_nil ?_
      rintro V3 ⟨x, rfl⟩
      have hB3 : Below w.heap.size w x.1 := hB.out.trans (x.2.mono hB.out.size)
      have z3 := cell_of (below_blk x.2 hX.out) 3 _ rfl
      go_wp2
      go_ret2
      exact ⟨by rfl, hB3⟩
    · have hidx := headI2
      unfold headsC at hidx
      have hh := fun W => Lib.hid (heads_c W)
      unfold headsV headsC at hh
      have hj0 := headJ0
      have hz1 : (9223372036854775807 < 1 + d.size) = False := by simp; omega
      have hz2 : (9223372036854775807 < 2 + d.size) = False := by simp; omega
      have hz3 : (9223372036854775807 < 1 + d.size + 2) = False := by simp; omega
      have hz4 : (9223372036854775807 < 2 + d.size + 2) = False := by simp; omega
      have hw0 : IntKind.i64.wrap 0 = 0 := by decide
      have hw1 : IntKind.i64.wrap 1 = 1 := by decide
      have hw2 : IntKind.i64.wrap 2 = 2 := by decide
      have hw3 : IntKind.i64.wrap 3 = 3 := by decide
      have hj1 := headJ1
      unfold Pure
      go_enter Tryz.func39, Tryz.ntmps39
      go_wp2_with fail
      refine ((h1 _).out).mono ?_
      rintro e V ⟨rfl, hV⟩
      have hX := box_of hV
      have hB := Lib.hid (below_of_alloc hV)
      clear hV h1
      have x0 := fun x : Ext V.heap.size V => cell_of (below_blk x.2 hX) 0 _ rfl
      have x1 := fun x : Ext V.heap.size V => cell_of (below_blk x.2 hX) 1 _ rfl
      have x2 := fun x : Ext V.heap.size V => cell_of (below_blk x.2 hX) 2 _ rfl
      have x3 := fun x : Ext V.heap.size V => cell_of (below_blk x.2 hX) 3 _ rfl
      replace hX := Lib.hid hX
      go_wp2_with fail
      refine ext_region (by kernel_rfl) (by kernel_rfl) ?_
      repeat (first | (go_big_quiet_step ((first | (go_at_call 94; exact Pure.ext (Nat.le_refl _) (Hid.out (hh _))) | (go_at_call 71; exact Pure.ext (Nat.le_refl _) (Hid.out (hI _)))))) | ((refine wpQuiet_step (fun K hK => ?_)); go_simp; (refine ⟨_, fun _ => rfl, hK _ ?_⟩); clear hK K))
      refine wpQuiet_nil ?_
      rintro V3 ⟨x, rfl⟩
      have hB3 : Below w.heap.size w x.1 := hB.out.trans (x.2.mono hB.out.size)
      have z3 := cell_of (below_blk x.2 hX.out) 3 _ rfl
      go_wp2
      go_ret2
      exact ⟨by rfl, hB3⟩
    · have hidx := headI2
      unfold headsC at hidx
      have hh := fun W => Lib.hid (heads_c W)
      unfold headsV headsC at hh
      have hj0 := headJ0
      have hz1 : (9223372036854775807 < 1 + d.size) = False := by simp; omega
      have hz2 : (9223372036854775807 < 2 + d.size) = False := by simp; omega
      have hz3 : (9223372036854775807 < 1 + d.size + 2) = False := by simp; omega
      have hz4 : (9223372036854775807 < 2 + d.size + 2) = False := by simp; omega
      have hw0 : IntKind.i64.wrap 0 = 0 := by decide
      have hw1 : IntKind.i64.wrap 1 = 1 := by decide
      have hw2 : IntKind.i64.wrap 2 = 2 := by decide
      have hw3 : IntKind.i64.wrap 3 = 3 := by decide
      have hj1 := headJ1
      unfold Pure
      go_enter Tryz.func39, Tryz.ntmps39
      go_wp2_with fail
      refine ((h1 _).out).mono ?_
      rintro e V ⟨rfl, hV⟩
      have hX := box_of hV
      have hB := Lib.hid (below_of_alloc hV)
      clear hV h1
      have x0 := fun x : Ext V.heap.size V => cell_of (below_blk x.2 hX) 0 _ rfl
      have x1 := fun x : Ext V.heap.size V => cell_of (below_blk x.2 hX) 1 _ rfl
      have x2 := fun x : Ext V.heap.size V => cell_of (below_blk x.2 hX) 2 _ rfl
      have x3 := fun x : Ext V.heap.size V => cell_of (below_blk x.2 hX) 3 _ rfl
      replace hX := Lib.hid hX
      go_wp2_with fail
      refine ext_region (by kernel_rfl) (by kernel_rfl) ?_
      repeat (first | (go_big_quiet_step ((first | (go_at_call 94; exact Pure.ext (Nat.le_refl _) (Hid.out (hh _))) | (go_at_call 71; exact Pure.ext (Nat.le_refl _) (Hid.out (hI _)))))) | ((refine wpQuiet_step (fun K hK => ?_)); go_simp; (refine ⟨_, fun _ => rfl, hK _ ?_⟩); clear hK K))
      refine wpQuiet_nil ?_
      rintro V3 ⟨x, rfl⟩
      have hB3 : Below w.heap.size w x.1 := hB.out.trans (x.2.mono hB.out.size)
      have z3 := cell_of (below_blk x.2 hX.out) 3 _ rfl
      go_wp2
      go_ret2
      exact ⟨by rfl, hB3⟩
    · have hidx := headI2
      unfold headsC at hidx
      have hh := fun W => Lib.hid (heads_c W)
      unfold headsV headsC at hh
      have hj0 := headJ0
      have hz1 : (9223372036854775807 < 1 + d.size) = False := by simp; omega
      have hz2 : (9223372036854775807 < 2 + d.size) = False := by simp; omega
      have hz3 : (9223372036854775807 < 1 + d.size + 2) = False := by simp; omega
      have hz4 : (9223372036854775807 < 2 + d.size + 2) = False := by simp; omega
      have hw0 : IntKind.i64.wrap 0 = 0 := by decide
      have hw1 : IntKind.i64.wrap 1 = 1 := by decide
      have hw2 : IntKind.i64.wrap 2 = 2 := by decide
      have hw3 : IntKind.i64.wrap 3 = 3 := by decide
      have hj1 := headJ1
      unfold Pure
      go_enter Tryz.func39, Tryz.ntmps39
      go_wp2_with fail
      refine ((h1 _).out).mono ?_
      rintro e V ⟨rfl, hV⟩
      have hX := box_of hV
      have hB := Lib.hid (below_of_alloc hV)
      clear hV h1
      have x0 := fun x : Ext V.heap.size V => cell_of (below_blk x.2 hX) 0 _ rfl
      have x1 := fun x : Ext V.heap.size V => cell_of (below_blk x.2 hX) 1 _ rfl
      have x2 := fun x : Ext V.heap.size V => cell_of (below_blk x.2 hX) 2 _ rfl
      have x3 := fun x : Ext V.heap.size V => cell_of (below_blk x.2 hX) 3 _ rfl
      replace hX := Lib.hid hX
      go_wp2_with fail
      refine ext_region (by kernel_rfl) (by kernel_rfl) ?_
      repeat (first | (go_big_quiet_step ((first | (go_at_call 94; exact Pure.ext (Nat.le_refl _) (Hid.out (hh _))) | (go_at_call 71; exact Pure.ext (Nat.le_refl _) (Hid.out (hI _)))))) | ((refine wpQuiet_step (fun K hK => ?_)); go_simp; (refine ⟨_, fun _ => rfl, hK _ ?_⟩); clear hK K))
      refine wpQuiet_nil ?_
      rintro V3 ⟨x, rfl⟩
      have hB3 : Below w.heap.size w x.1 := hB.out.trans (x.2.mono hB.out.size)
      have z3 := cell_of (below_blk x.2 hX.out) 3 _ rfl
      go_wp2
      go_ret2
      exact ⟨by rfl, hB3⟩
    · have hidx := headI2
      unfold headsC at hidx
      have hh := fun W => Lib.hid (heads_c W)
      unfold headsV headsC at hh
      have hj0 := headJ0
      have hz1 : (9223372036854775807 < 1 + d.size) = False := by simp; omega
      have hz2 : (9223372036854775807 < 2 + d.size) = False := by simp; omega
      have hz3 : (9223372036854775807 < 1 + d.size + 2) = False := by simp; omega
      have hz4 : (9223372036854775807 < 2 + d.size + 2) = False := by simp; omega
      have hw0 : IntKind.i64.wrap 0 = 0 := by decide
      have hw1 : IntKind.i64.wrap 1 = 1 := by decide
      have hw2 : IntKind.i64.wrap 2 = 2 := by decide
      have hw3 : IntKind.i64.wrap 3 = 3 := by decide
      have hj1 := headJ1
      unfold Pure
      go_enter Tryz.func39, Tryz.ntmps39
      go_wp2_with fail
      refine ((h1 _).out).mono ?_
      rintro e V ⟨rfl, hV⟩
      have hX := box_of hV
      have hB := Lib.hid (below_of_alloc hV)
      clear hV h1
      have x0 := fun x : Ext V.heap.size V => cell_of (below_blk x.2 hX) 0 _ rfl
      have x1 := fun x : Ext V.heap.size V => cell_of (below_blk x.2 hX) 1 _ rfl
      have x2 := fun x : Ext V.heap.size V => cell_of (below_blk x.2 hX) 2 _ rfl
      have x3 := fun x : Ext V.heap.size V => cell_of (below_blk x.2 hX) 3 _ rfl
      replace hX := Lib.hid hX
      go_wp2_with fail
      refine ext_region (by kernel_rfl) (by kernel_rfl) ?_
      repeat (first | (go_big_quiet_step ((first | (go_at_call 94; exact Pure.ext (Nat.le_refl _) (Hid.out (hh _))) | (go_at_call 71; exact Pure.ext (Nat.le_refl _) (Hid.out (hI _)))))) | ((refine wpQuiet_step (fun K hK => ?_)); go_simp; (refine ⟨_, fun _ => rfl, hK _ ?_⟩); clear hK K))
      refine wpQuiet_nil ?_
      rintro V3 ⟨x, rfl⟩
      have hB3 : Below w.heap.size w x.1 := hB.out.trans (x.2.mono hB.out.size)
      have z3 := cell_of (below_blk x.2 hX.out) 3 _ rfl
      go_wp2
      go_ret2
      exact ⟨by rfl, hB3⟩
    · have hidx := headI3
      unfold headsC at hidx
      have hh := fun W => Lib.hid (heads_c W)
      unfold headsV headsC at hh
      have hj0 := headJ0
      have hz1 : (9223372036854775807 < 1 + d.size) = False := by simp; omega
      have hz2 : (9223372036854775807 < 2 + d.size) = False := by simp; omega
      have hz3 : (9223372036854775807 < 1 + d.size + 2) = False := by simp; omega
      have hz4 : (9223372036854775807 < 2 + d.size + 2) = False := by simp; omega
      have hw0 : IntKind.i64.wrap 0 = 0 := by decide
      have hw1 : IntKind.i64.wrap 1 = 1 := by decide
      have hw2 : IntKind.i64.wrap 2 = 2 := by decide
      have hw3 : IntKind.i64.wrap 3 = 3 := by decide
      have hj1 := headJ1
      unfold Pure
      go_enter Tryz.func39, Tryz.ntmps39
      go_wp2_with fail
      refine ((h1 _).out).mono ?_
      rintro e V ⟨rfl, hV⟩
      have hX := box_of hV
      have hB := Lib.hid (below_of_alloc hV)
      clear hV h1
      have x0 := fun x : Ext V.heap.size V => cell_of (below_blk x.2 hX) 0 _ rfl
      have x1 := fun x : Ext V.heap.size V => cell_of (below_blk x.2 hX) 1 _ rfl
      have x2 := fun x : Ext V.heap.size V => cell_of (below_blk x.2 hX) 2 _ rfl
      have x3 := fun x : Ext V.heap.size V => cell_of (below_blk x.2 hX) 3 _ rfl
      replace hX := Lib.hid hX
      go_wp2_with fail
      refine ext_region (by kernel_rfl) (by kernel_rfl) ?_
      repeat (first | (go_big_quiet_step ((first | (go_at_call 94; exact Pure.ext (Nat.le_refl _) (Hid.out (hh _))) | (go_at_call 71; exact Pure.ext (Nat.le_refl _) (Hid.out (hI _)))))) | ((refine wpQuiet_step (fun K hK => ?_)); go_simp; (refine ⟨_, fun _ => rfl, hK _ ?_⟩); clear hK K))
      refine wpQuiet_nil ?_
      rintro V3 ⟨x, rfl⟩
      have hB3 : Below w.heap.size w x.1 := hB.out.trans (x.2.mono hB.out.size)
      have z3 := cell_of (below_blk x.2 hX.out) 3 _ rfl
      go_wp2
      go_ret2
      exact ⟨by rfl, hB3⟩
    · have hidx := headI3
      unfold headsC at hidx
      have hh := fun W => Lib.hid (heads_c W)
      unfold headsV headsC at hh
      have hj0 := headJ0
      have hz1 : (9223372036854775807 < 1 + d.size) = False := by simp; omega
      have hz2 : (9223372036854775807 < 2 + d.size) = False := by simp; omega
      have hz3 : (9223372036854775807 < 1 + d.size + 2) = False := by simp; omega
      have hz4 : (9223372036854775807 < 2 + d.size + 2) = False := by simp; omega
      have hw0 : IntKind.i64.wrap 0 = 0 := by decide
      have hw1 : IntKind.i64.wrap 1 = 1 := by decide
      have hw2 : IntKind.i64.wrap 2 = 2 := by decide
      have hw3 : IntKind.i64.wrap 3 = 3 := by decide
      have hj1 := headJ1
      unfold Pure
      go_enter Tryz.func39, Tryz.ntmps39
      go_wp2_with fail
      refine ((h1 _).out).mono ?_
      rintro e V ⟨rfl, hV⟩
      have hX := box_of hV
      have hB := Lib.hid (below_of_alloc hV)
      clear hV h1
      have x0 := fun x : Ext V.heap.size V => cell_of (below_blk x.2 hX) 0 _ rfl
      have x1 := fun x : Ext V.heap.size V => cell_of (below_blk x.2 hX) 1 _ rfl
      have x2 := fun x : Ext V.heap.size V => cell_of (below_blk x.2 hX) 2 _ rfl
      have x3 := fun x : Ext V.heap.size V => cell_of (below_blk x.2 hX) 3 _ rfl
      replace hX := Lib.hid hX
      go_wp2_with fail
      refine ext_region (by kernel_rfl) (by kernel_rfl) ?_
      repeat (first | (go_big_quiet_step ((first | (go_at_call 94; exact Pure.ext (Nat.le_refl _) (Hid.out (hh _))) | (go_at_call 71; exact Pure.ext (Nat.le_refl _) (Hid.out (hI _)))))) | ((refine wpQuiet_step (fun K hK => ?_)); go_simp; (refine ⟨_, fun _ => rfl, hK _ ?_⟩); clear hK K))
      refine wpQuiet_nil ?_
      rintro V3 ⟨x, rfl⟩
      have hB3 : Below w.heap.size w x.1 := hB.out.trans (x.2.mono hB.out.size)
      have z3 := cell_of (below_blk x.2 hX.out) 3 _ rfl
      go_wp2
      go_ret2
      exact ⟨by rfl, hB3⟩
    · have hidx := headI3
      unfold headsC at hidx
      have hh := fun W => Lib.hid (heads_c W)
      unfold headsV headsC at hh
      have hj0 := headJ0
      have hz1 : (9223372036854775807 < 1 + d.size) = False := by simp; omega
      have hz2 : (9223372036854775807 < 2 + d.size) = False := by simp; omega
      have hz3 : (9223372036854775807 < 1 + d.size + 2) = False := by simp; omega
      have hz4 : (9223372036854775807 < 2 + d.size + 2) = False := by simp; omega
      have hw0 : IntKind.i64.wrap 0 = 0 := by decide
      have hw1 : IntKind.i64.wrap 1 = 1 := by decide
      have hw2 : IntKind.i64.wrap 2 = 2 := by decide
      have hw3 : IntKind.i64.wrap 3 = 3 := by decide
      have hj1 := headJ1
      unfold Pure
      go_enter Tryz.func39, Tryz.ntmps39
      go_wp2_with fail
      refine ((h1 _).out).mono ?_
      rintro e V ⟨rfl, hV⟩
      have hX := box_of hV
      have hB := Lib.hid (below_of_alloc hV)
      clear hV h1
      have x0 := fun x : Ext V.heap.size V => cell_of (below_blk x.2 hX) 0 _ rfl
      have x1 := fun x : Ext V.heap.size V => cell_of (below_blk x.2 hX) 1 _ rfl
      have x2 := fun x : Ext V.heap.size V => cell_of (below_blk x.2 hX) 2 _ rfl
      have x3 := fun x : Ext V.heap.size V => cell_of (below_blk x.2 hX) 3 _ rfl
      replace hX := Lib.hid hX
      go_wp2_with fail
      refine ext_region (by kernel_rfl) (by kernel_rfl) ?_
      repeat (first | (go_big_quiet_step ((first | (go_at_call 94; exact Pure.ext (Nat.le_refl _) (Hid.out (hh _))) | (go_at_call 71; exact Pure.ext (Nat.le_refl _) (Hid.out (hI _)))))) | ((refine wpQuiet_step (fun K hK => ?_)); go_simp; (refine ⟨_, fun _ => rfl, hK _ ?_⟩); clear hK K))
      refine wpQuiet_nil ?_
      rintro V3 ⟨x, rfl⟩
      have hB3 : Below w.heap.size w x.1 := hB.out.trans (x.2.mono hB.out.size)
      have z3 := cell_of (below_blk x.2 hX.out) 3 _ rfl
      go_wp2
      go_ret2
      exact ⟨by rfl, hB3⟩
    · have hidx := headI3
      unfold headsC at hidx
      have hh := fun W => Lib.hid (heads_c W)
      unfold headsV headsC at hh
      have hj0 := headJ0
      have hz1 : (9223372036854775807 < 1 + d.size) = False := by simp; omega
      have hz2 : (9223372036854775807 < 2 + d.size) = False := by simp; omega
      have hz3 : (9223372036854775807 < 1 + d.size + 2) = False := by simp; omega
      have hz4 : (9223372036854775807 < 2 + d.size + 2) = False := by simp; omega
      have hw0 : IntKind.i64.wrap 0 = 0 := by decide
      have hw1 : IntKind.i64.wrap 1 = 1 := by decide
      have hw2 : IntKind.i64.wrap 2 = 2 := by decide
      have hw3 : IntKind.i64.wrap 3 = 3 := by decide
      have hj1 := headJ1
      unfold Pure
      go_enter Tryz.func39, Tryz.ntmps39
      go_wp2_with fail
      refine ((h1 _).out).mono ?_
      rintro e V ⟨rfl, hV⟩
      have hX := box_of hV
      have hB := Lib.hid (below_of_alloc hV)
      clear hV h1
      have x0 := fun x : Ext V.heap.size V => cell_of (below_blk x.2 hX) 0 _ rfl
      have x1 := fun x : Ext V.heap.size V => cell_of (below_blk x.2 hX) 1 _ rfl
      have x2 := fun x : Ext V.heap.size V => cell_of (below_blk x.2 hX) 2 _ rfl
      have x3 := fun x : Ext V.heap.size V => cell_of (below_blk x.2 hX) 3 _ rfl
      replace hX := Lib.hid hX
      go_wp2_with fail
      refine ext_region (by kernel_rfl) (by kernel_rfl) ?_
      repeat (first | (go_big_quiet_step ((first | (go_at_call 94; exact Pure.ext (Nat.le_refl _) (Hid.out (hh _))) | (go_at_call 71; exact Pure.ext (Nat.le_refl _) (Hid.out (hI _)))))) | ((refine wpQuiet_step (fun K hK => ?_)); go_simp; (refine ⟨_, fun _ => rfl, hK _ ?_⟩); clear hK K))
      refine wpQuiet_nil ?_
      rintro V3 ⟨x, rfl⟩
      have hB3 : Below w.heap.size w x.1 := hB.out.trans (x.2.mono hB.out.size)
      have z3 := cell_of (below_blk x.2 hX.out) 3 _ rfl
      go_wp2
      go_ret2
      exact ⟨by rfl, hB3⟩
/-- the digits of a number of moves -/
def digB (m : Int) : ByteArray := ⟨(Lib.decDigits m.toNat).toArray⟩
/-- Itoa of a small number -/
def ItoaOK : Prop := ∀ (i : Nat) (w : World), i < 100 → Pure 71 #[.int .i64 i] w (.string ⟨(Lib.decDigits i).toArray⟩)
theorem text_c (hI : ItoaOK) (w : World) (s : Stip) : Pure 39 #[s.v] w (s.textV (digB s.moves)) := by
  by_cases hm : s.moves.toNat < 100
  · refine text_g w s _ ?_ fun hv W => ?_
    · show (Lib.decDigits s.moves.toNat).toArray.size ≤ 100
      by_cases h : s.moves.toNat < 10
      · rw [Lib.decDigits_one h]; simp
      · rw [Lib.decDigits_two h hm]; simp
    · obtain ⟨-, -, -, m1, m2, -⟩ := Stip.of_valid hv
      have := hI s.moves.toNat W hm
      rw [Int.toNat_of_nonneg (by omega)] at this
      exact this
  · have hv : s.valid = false := by
      cases hv : s.valid
      · rfl
      · obtain ⟨-, -, -, m1, m2, -⟩ := Stip.of_valid hv
        omega
    have e : s.textV (digB s.moves) = s.textV ⟨#[]⟩ := by unfold Stip.textV; rw [hv]; rfl
    rw [e]
    exact text_g w s _ (by decide) fun h => by rw [hv] at h; cases h
end Go.Proofs.YtbhienpbfidgjaaGreatDoor
