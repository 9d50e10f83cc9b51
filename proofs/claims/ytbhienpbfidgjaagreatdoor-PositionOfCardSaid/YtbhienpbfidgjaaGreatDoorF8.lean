/- Squares: Parse, Name; positions: words. Conditions: the library's Join as said. -/
import Derived.Test.YtbhienpbfidgjaaGreatDoorF4
import Derived.Test.YtbhienpbfidgjaaGreatDoorV2
set_option linter.unusedVariables false
set_option linter.unusedSimpArgs false
namespace Go.Proofs.YtbhienpbfidgjaaGreatDoor
open Go.RowKit
def sqO (f r : Int) (s : ByteArray) : Option Int :=
  if s.size = 2 then
    if onB f r (((s.data.getD 0 0).toNat : Int) - 97) (((s.data.getD 1 0).toNat : Int) - 49) then some (((s.data.getD 0 0).toNat : Int) - 97 + (((s.data.getD 1 0).toNat : Int) - 49) * f) else none
  else none
def sqV (f r : Int) (s : ByteArray) : Value := match sqO f r s with
  | some a => .tuple #[.int .i64 a, .int .i64 0]
  | none => .tuple #[.int .i64 0, .int .i64 6]
set_option maxHeartbeats 1000000 in
theorem sqparse_c (w : World) (f r : Int) (s : ByteArray) (hz : vsize f r = true) : Pure 82 #[.agg #[.int .i64 f, .int .i64 r], .string s] w (sqV f r s) := by
  have h1 := fun W => Lib.hid (vsize_c W f r)
  rw [hz] at h1
  obtain ⟨z1, z2, z3, z4⟩ := vsize_bd hz
  replace hz := Lib.hid hz
  unfold sqV sqO
  by_cases h2 : s.size = 2
  · rw [if_pos h2]
    have l0 : 0 < s.size := by omega
    have l1 : 1 < s.size := by omega
    obtain ⟨a, b, ea, eb, ga, gb⟩ : ∃ a b, s.data.getD 0 0 = a ∧ s.data.getD 1 0 = b ∧ s[0]'l0 = a ∧ s[1]'l1 = b := by
      obtain ⟨d⟩ := s
      obtain ⟨l⟩ := d
      match l, h2, l0, l1 with
      | [a, b], _, _, _ => exact ⟨a, b, rfl, rfl, rfl, rfl⟩
    rw [ea, eb]
    clear ea eb
    have ha : a.toNat < 256 := a.toNat_lt
    have hb : b.toNat < 256 := b.toNat_lt
    have w1 : IntKind.i64.wrap (a.toNat : Int) = (a.toNat : Int) := by rw [IntKind.wrap_i64]; omega
    have w2 : IntKind.i64.wrap ((a.toNat : Int) - 97) = (a.toNat : Int) - 97 := by rw [IntKind.wrap_i64]; omega
    have w3 : IntKind.i64.wrap (b.toNat : Int) = (b.toNat : Int) := by rw [IntKind.wrap_i64]; omega
    have w4 : IntKind.i64.wrap ((b.toNat : Int) - 49) = (b.toNat : Int) - 49 := by rw [IntKind.wrap_i64]; omega
    obtain ⟨ia, hia⟩ : ∃ ia, a.toNat = ia := ⟨_, rfl⟩
    obtain ⟨ib, hib⟩ : ∃ ib, b.toNat = ib := ⟨_, rfl⟩
    have hon := fun W => Lib.hid (on_c W f r ((ia : Int) - 97) ((ib : Int) - 49))
    obtain ⟨o, ho⟩ : ∃ o, onB f r ((ia : Int) - 97) ((ib : Int) - 49) = o := ⟨_, rfl⟩
    rw [hia, hib]
    rw [ho] at hon ⊢
    have hbd := Lib.hid (fun h : o = true => onB_bd (ho.trans h))
    replace ho := Lib.hid ho
    rw [hia] at ha w1 w2
    rw [hib] at hb w3 w4
    unfold Pure
    go_enter Tryz.func82, Tryz.ntmps82
    go_wp2_with fail
    refine ((h1 _).out).mono ?_
    rintro e V ⟨rfl, hV⟩
    have hX := box_of hV
    have hB := Lib.hid (below_of_alloc hV)
    clear hV h1
    have y0 := fun x : Ext V.heap.size V => cell_of (below_blk x.2 hX) 0 _ rfl
    have y1 := fun x : Ext V.heap.size V => cell_of (below_blk x.2 hX) 1 _ rfl
    replace hX := Lib.hid hX
    go_wp2_with fail
    refine ext_region (by kernel_rfl) (by kernel_rfl) ?_
    repeat (first | (go_big_quiet_step ((first | (go_at_call 131; exact Pure.ext (Nat.le_refl _) (Hid.out (hon _)))))) | ((refine wpQuiet_step (fun K hK => ?_)); go_simp; (refine ⟨_, fun _ => rfl, hK _ ?_⟩); clear hK K))
    refine wpQuiet_nil ?_
    rintro V3 ⟨x, hx⟩
    have hX3 := Lib.hid (hx ▸ below_blk x.2 hX.out : V3.heap[w.heap.size]? = _)
    have hB3 := Lib.hid (hx ▸ hB.out.trans (x.2.mono hB.out.size) : Below w.heap.size w V3)
    clear hx x y0 y1 hon hX hB
    cases o
    · go_wp2
      go_ret2
      exact ⟨by simp, hB3.out⟩
    · obtain ⟨q1, q2, q3, q4⟩ := hbd.out rfl
      have m1 : 0 ≤ ((ib : Int) - 49) * f := Int.mul_nonneg q3 (by omega)
      have m2 : ((ib : Int) - 49) * f ≤ 8 * 8 := Int.mul_le_mul (by omega) (by omega) (by omega) (by omega)
      have w5 : IntKind.i64.wrap (((ib : Int) - 49) * f) = ((ib : Int) - 49) * f := by rw [IntKind.wrap_i64]; omega
      have w6 : IntKind.i64.wrap ((ia : Int) - 97 + ((ib : Int) - 49) * f) = (ia : Int) - 97 + ((ib : Int) - 49) * f := by rw [IntKind.wrap_i64]; omega
      clear m1 m2 hbd
      have y0 := fun x : Ext V3.heap.size V3 => cell_of (below_blk x.2 hX3.out) 0 _ rfl
      go_wp2_with fail
      refine ext_region (by kernel_rfl) (by kernel_rfl) ?_
      repeat ((refine wpQuiet_step (fun K hK => ?_)); go_simp; (refine ⟨_, fun _ => rfl, hK _ ?_⟩); clear hK K)
      refine wpQuiet_nil ?_
      rintro V4 ⟨x, hx⟩
      go_wp2
      go_ret2
      exact ⟨by simp, hB3.out.trans (x.2.mono hB3.out.size)⟩
  · rw [if_neg h2]
    have hn2 : ((s.size : Int) != 2) = true := by
      have : ¬ ((s.size : Int) = 2) := by omega
      simpa using this
    unfold Pure
    go_enter Tryz.func82, Tryz.ntmps82
    go_wp2_with fail
    refine ((h1 _).out).mono ?_
    rintro e V ⟨rfl, hV⟩
    have hX := box_of hV
    have hB := Lib.hid (below_of_alloc hV)
    clear hV h1
    have y0 := fun x : Ext V.heap.size V => cell_of (below_blk x.2 hX) 0 _ rfl
    have y1 := fun x : Ext V.heap.size V => cell_of (below_blk x.2 hX) 1 _ rfl
    replace hX := Lib.hid hX
    go_wp2_with fail
    refine ext_region (by kernel_rfl) (by kernel_rfl) ?_
    repeat (first | (go_big_quiet_step ((first | (fail)))) | ((refine wpQuiet_step (fun K hK => ?_)); go_simp; (refine ⟨_, fun _ => rfl, hK _ ?_⟩); clear hK K))
    refine wpQuiet_nil ?_
    rintro V3 ⟨x, hx⟩
    go_wp2
    go_ret2
    exact ⟨by simp, hx ▸ hB.out.trans (x.2.mono hB.out.size)⟩
def nameB (f a : Int) : ByteArray := ⟨#[UInt8.ofNat (97 + (a % f).toNat), UInt8.ofNat (49 + (a / f).toNat)]⟩
set_option maxHeartbeats 1000000 in
theorem name_c (w : World) (f r a : Int) (hq : vsq f r a = true) : Pure 74 #[.agg #[.int .i64 f, .int .i64 r], .int .i64 a] w (.tuple #[.string (nameB f a), .int .i64 0]) := by
  have h1 := fun W => Lib.hid (place_c W f r a)
  unfold placeV at h1
  simp only [hq, if_true] at h1
  obtain ⟨hz, a0, a1⟩ := vsq_bd hq
  obtain ⟨z1, z2, z3, z4⟩ := vsize_bd hz
  have x0 := Int.emod_nonneg a (by omega : f ≠ 0)
  have x1 := Int.emod_lt_of_pos a (by omega : 0 < f)
  have y0 : 0 ≤ a / f := Int.ediv_nonneg a0 (by omega)
  have y1 : a / f < r := Int.ediv_lt_of_lt_mul (by omega) (by rw [Int.mul_comm]; exact a1)
  unfold nameB
  obtain ⟨x, hx⟩ : ∃ x, a % f = x := ⟨_, rfl⟩
  obtain ⟨y, hy⟩ : ∃ y, a / f = y := ⟨_, rfl⟩
  rw [hx, hy] at h1 ⊢
  rw [hx] at x0 x1
  rw [hy] at y0 y1
  clear hx hy hq hz a0 a1
  obtain ⟨x, rfl⟩ : ∃ n : Nat, x = n := ⟨x.toNat, by omega⟩
  obtain ⟨y, rfl⟩ : ∃ n : Nat, y = n := ⟨y.toNat, by omega⟩
  simp only [Int.toNat_natCast]
  have e1 : ((UInt8.ofNat (97 + x)).toNat : Int) = 97 + (x : Int) := by rw [UInt8.toNat_ofNat']; omega
  have e2 : ((UInt8.ofNat (49 + y)).toNat : Int) = 49 + (y : Int) := by rw [UInt8.toNat_ofNat']; omega
  obtain ⟨c1, hc1⟩ : ∃ c, UInt8.ofNat (97 + x) = c := ⟨_, rfl⟩
  obtain ⟨c2, hc2⟩ : ∃ c, UInt8.ofNat (49 + y) = c := ⟨_, rfl⟩
  rw [hc1] at e1 ⊢
  rw [hc2] at e2 ⊢
  clear hc1 hc2
  have hcv : ∀ W : World, W.ownsRow 0 5 1 (.slice (some ⟨W.heap.size - 1, 0, none⟩) 2 2) 2 ([c1, c2].map byteV) → Sem.run Tryz.prog (convert 140 9 (.slice (some ⟨W.heap.size - 1, 0, none⟩) 2 2)) W = .ok (.string ⟨#[c1, c2]⟩) W := fun W h => own_string h
  unfold Pure
  go_enter Tryz.func74, Tryz.ntmps74
  go_wp2_with fail
  refine ((h1 _).out).mono ?_
  rintro e V ⟨rfl, hV⟩
  have hB := Lib.hid (below_of_alloc hV)
  clear hV h1
  have hc := hcv (V.alloc (.cells #[.int .u8 (97 + (x : Int)), .int .u8 (49 + (y : Int))] 5)) (by
    have h := World.ownsRow_lit (base := 0) (e := 5) (size := 1) V #[.int .u8 (97 + (x : Int)), .int .u8 (49 + (y : Int))] 2 (by omega) (by decide) rfl
    simpa [byteV, e1, e2] using h)
  simp only [World.size_alloc, Nat.add_sub_cancel] at hc
  have w1 : IntKind.u8.wrap (x : Int) = (x : Int) := by rw [IntKind.wrap_u8]; omega
  have w2 : IntKind.u8.wrap (y : Int) = (y : Int) := by rw [IntKind.wrap_u8]; omega
  go_wp2
  go_ret2
  refine ⟨by rfl, ?_⟩
  exact hB.out.alloc hB.out.size _
set_option maxHeartbeats 1000000 in
theorem words_c (hJ : JoinOK) (w : World) (bk o c : Nat) (xs : List ByteArray) (hcells : ∀ (j : Nat) x, xs[j]? = some x → w.cell? ⟨bk, o + j, none⟩ = some (.string x)) (hbk : bk < w.heap.size) (hN : xs.length ≤ 1000) (hcap : xs.length ≤ c)
    (hlen : (Lib.join (xs.map (·.data.toList)) [32]).length ≤ 1000000) :
    Pure 75 #[.slice (some ⟨bk, o, none⟩) xs.length c] w (.string ⟨(Lib.join (xs.map (·.data.toList)) [32]).toArray⟩) := by
  have h := Lib.hid (hJ bk o c xs ⟨#[32]⟩ w hcells hbk hN hcap hlen)
  obtain ⟨n, hn⟩ : ∃ n, xs.length = n := ⟨_, rfl⟩
  rw [hn] at h ⊢
  clear hcells hlen hN hcap hbk hn
  unfold Pure
  go_enter Tryz.func75, Tryz.ntmps75
  go_wp2_with fail
  refine (h.out).mono ?_
  rintro e V ⟨rfl, hV⟩
  go_wp2
  go_ret
  exact ⟨rfl, hV⟩
end Go.Proofs.YtbhienpbfidgjaaGreatDoor
