/- What a piece reaches: the package ray's on and Reach, and square's All. Conditions: the package's tables lie as they were laid. -/
import Derived.Test.YtbhienpbfidgjaaGreatDoorP4
set_option linter.unusedVariables false
set_option linter.unusedSimpArgs false
namespace Go.Proofs.YtbhienpbfidgjaaGreatDoor
open Go.RowKit
def leapsL : List (Int × Int) := [(1, 2), (2, 1), (2, -1), (1, -2), (-1, -2), (-2, -1), (-2, 1), (-1, 2)]
def diagL : List (Int × Int) := [(1, 1), (-1, 1), (-1, -1), (1, -1)]
def strL : List (Int × Int) := [(1, 0), (0, 1), (-1, 0), (0, -1)]
structure Rays (w : World) : Prop where
  leaps : StepsAt w 6 0 leapsL
  diag : StepsAt w 7 0 diagL
  str : StepsAt w 8 0 strL
theorem Rays.below {w V : World} (h : Rays w) (hb : Below w.heap.size w V) : Rays V := ⟨h.leaps.below hb, h.diag.below hb, h.str.below hb⟩
def allS (f r : Int) : Nat := 2 ^ (f * r).toNat - 1
theorem all_c (w : World) (f r : Int) (hv : vsize f r = true) : Pure 226 #[.agg #[.int .i64 f, .int .i64 r]] w (.int .u64 (allS f r)) := by
  obtain ⟨k1, k2⟩ := vsize_mul hv
  have e1 : (18446744073709551615 : Int) / 2 ^ (64 - f * r).toNat = ((allS f r : Nat) : Int) := by
    unfold allS
    obtain ⟨m, hm⟩ : ∃ m : Nat, f * r = (m : Int) := ⟨(f * r).toNat, by omega⟩
    rw [hm] at k1 k2 ⊢
    have hm1 : m ≤ 64 := by omega
    have hm9 : 9 ≤ m := by omega
    clear hm k1 k2 hv
    have : ∀ m : Nat, m ≤ 64 → (18446744073709551615 : Int) / 2 ^ (64 - (m : Int)).toNat = ((2 ^ ((m : Int)).toNat - 1 : Nat) : Int) := by
      intro m hm
      have h2 : ∀ k : Fin 65, (18446744073709551615 : Int) / 2 ^ (64 - ((k.val : Nat) : Int)).toNat = ((2 ^ (((k.val : Nat) : Int)).toNat - 1 : Nat) : Int) := by decide +kernel
      exact h2 ⟨m, by omega⟩
    exact this m hm1
  replace e1 := Lib.hid e1
  clear hv
  unfold Pure
  go_enter Tryz.func226, Tryz.ntmps226
  go_wp2
  go_ret
  refine ⟨by rw [e1.out]; rfl, ?_⟩
  repeat (first | (with_reducible assumption) | (with_reducible exact Below.refl _ _) | (with_reducible apply below_drewN) | (with_reducible apply Below.drew) | (with_reducible apply Below.alloc) | (with_reducible apply Below.setCell))
  all_goals first | omega | (dsimp only; omega) | (simp; done) | (simp; omega)
def AllV (f r : Int) : Value := if vsize f r then .tuple #[.int .u64 (allS f r), .int .i64 0] else .tuple #[.int .u64 0, .int .i64 2]
theorem All_c (w : World) (f r : Int) : Pure 224 #[.agg #[.int .i64 f, .int .i64 r]] w (AllV f r) := by
  have h1 := fun W => Lib.hid (vsize_c W f r)
  unfold AllV
  cases hv : vsize f r
  · rw [hv] at h1
    replace hv := Lib.hid hv
    unfold Pure
    go_enter Tryz.func224, Tryz.ntmps224
    go_wp2_with fail
    refine ((h1 _).out).mono ?_
    rintro e V ⟨rfl, hV⟩
    go_wp2
    go_ret2
    exact ⟨rfl, below_of_alloc hV⟩
  · rw [hv] at h1
    have h2 := fun W => Lib.hid (all_c W f r hv)
    obtain ⟨S, hS⟩ : ∃ S, allS f r = S := ⟨_, rfl⟩
    rw [hS] at h2 ⊢
    replace hS := Lib.hid hS
    replace hv := Lib.hid hv
    unfold Pure
    go_enter Tryz.func224, Tryz.ntmps224
    go_wp2_with fail
    refine ((h1 _).out).mono ?_
    rintro e V ⟨rfl, hV⟩
    have hX := box_of hV
    have y0 := cell_of hX 0 _ rfl
    have y1 := cell_of hX 1 _ rfl
    have hB := Lib.hid (below_of_alloc hV)
    clear hX hV
    go_wp2_with fail
    refine ((h2 _).out).mono ?_
    rintro e V ⟨rfl, hV⟩
    go_wp2
    go_ret2
    exact ⟨rfl, hB.out.trans (hV.mono hB.out.size)⟩
def onR (f r a : Int) (S : Nat) : Bool := vsq f r a && (S &&& (18446744073709551615 - allS f r) == 0)
theorem onR_c (w : World) (f r a : Int) (S : Nat) (hS : S < 18446744073709551616) : Pure 216 #[.agg #[.int .i64 f, .int .i64 r], .int .i64 a, .int .u64 S] w (.bool (onR f r a S)) := by
  have h1 := fun W => Lib.hid (All_c W f r)
  unfold AllV at h1
  unfold onR
  cases hv : vsize f r
  · simp only [hv, Bool.false_eq_true, if_false] at h1
    have hq : vsq f r a = false := by simp [vsq, hv]
    rw [hq]
    replace hv := Lib.hid hv
    clear hq
    unfold Pure
    go_enter Tryz.func216, Tryz.ntmps216
    go_wp2_with fail
    refine ((h1 _).out).mono ?_
    rintro e V ⟨rfl, hV⟩
    go_wp2
    go_ret
    exact ⟨by simp, below_of_alloc hV⟩
  · simp only [hv, if_true] at h1
    have h2 := fun W => Lib.hid (vsq_c W f r a)
    have hA : allS f r < 18446744073709551616 := by
      obtain ⟨k1, k2⟩ := vsize_mul hv
      have : 2 ^ (f * r).toNat ≤ 2 ^ 64 := Nat.pow_le_pow_right (by omega) (by omega)
      have e : (2 : Nat) ^ 64 = 18446744073709551616 := by decide
      unfold allS
      omega
    have e1 := u64_andNot_nat S (allS f r) hS hA
    obtain ⟨A, hA'⟩ : ∃ A, allS f r = A := ⟨_, rfl⟩
    rw [hA'] at h1 e1 ⊢
    cases hq : vsq f r a
    · rw [hq] at h2
      replace e1 := Lib.hid e1
      replace hv := Lib.hid hv
      replace hq := Lib.hid hq
      replace hA' := Lib.hid hA'
      unfold Pure
      go_enter Tryz.func216, Tryz.ntmps216
      go_wp2_with fail
      refine ((h1 _).out).mono ?_
      rintro e V ⟨rfl, hV⟩
      have hX := box_of hV
      have y0 := cell_of hX 0 _ rfl
      have y1 := cell_of hX 1 _ rfl
      have hB := Lib.hid (below_of_alloc hV)
      clear hX hV
      go_wp2_with fail
      refine ((h2 _).out).mono ?_
      rintro e V ⟨rfl, hV⟩
      go_wp2
      go_ret
      exact ⟨by simp, hB.out.trans (hV.mono hB.out.size)⟩
    · rw [hq] at h2
      replace hv := Lib.hid hv
      replace hq := Lib.hid hq
      replace hA' := Lib.hid hA'
      have e2 : ((bits .andNot .u64 (S : Int) (A : Int)) == 0) = (S &&& (18446744073709551615 - A) == 0) := by
        rw [e1, Bool.eq_iff_iff]
        simp only [beq_iff_eq]
        omega
      replace e1 := Lib.hid e1
      replace e2 := Lib.hid e2
      unfold Pure
      go_enter Tryz.func216, Tryz.ntmps216
      go_wp2_with fail
      refine ((h1 _).out).mono ?_
      rintro e V ⟨rfl, hV⟩
      have hX := box_of hV
      have y0 := cell_of hX 0 _ rfl
      have y1 := cell_of hX 1 _ rfl
      have hB := Lib.hid (below_of_alloc hV)
      clear hX hV
      go_wp2_with fail
      refine ((h2 _).out).mono ?_
      rintro e V ⟨rfl, hV⟩
      go_wp2
      go_ret
      exact ⟨ret_bool (by rw [Bool.true_and, ← e2.out]), hB.out.trans (hV.mono hB.out.size)⟩
set_option maxHeartbeats 400000 in
theorem reach2 (w : World) (f r a : Int) (S : Nat) (hS : S < 18446744073709551616) (hR : Rays w) (ho : onR f r a S = true) : Pure 192 #[.agg #[.int .i64 f, .int .i64 r], .int .i8 2, .int .i64 a, .int .u64 S] w (.tuple #[.int .u64 (leapS f r a leapsL), .int .i64 0]) := by
  have hq : vsq f r a = true := by simp [onR] at ho; exact ho.1
  have h1 := fun W => Lib.hid (onR_c W f r a S hS)
  rw [ho] at h1
  have h2 := fun W hs => Lib.hid (leap_c W f r a 6 0 8 leapsL hq hs (by decide) (by decide))
  replace ho := Lib.hid ho
  replace hq := Lib.hid hq
  replace hR := Lib.hid hR
  obtain ⟨T, hT⟩ : ∃ T, leapS f r a leapsL = T := ⟨_, rfl⟩
  rw [hT] at h2 ⊢
  replace hT := Lib.hid hT
  have e8 : Hid (leapsL.length = 8) := Lib.hid rfl
  rw [e8.out] at h2
  replace hR := hR.out
  unfold Pure
  go_enter Tryz.func192, Tryz.ntmps192
  go_wp2_with fail
  refine ((h1 _).out).mono ?_
  rintro e V ⟨rfl, hV⟩
  have hX := box_of hV
  have hB := Lib.hid (below_of_alloc hV)
  have hBs := hB.out.size
  have hl : w.heap.size < V.heap.size := lt_of_blk hX
  have y0 := fun x : Ext V.heap.size V => cell_of ((x.2.block _ hl).trans hX) 0 _ rfl
  have y1 := fun x : Ext V.heap.size V => cell_of ((x.2.block _ hl).trans hX) 1 _ rfl
  have hRV := Lib.hid (hR.below hB.out)
  clear hX hV
  have h3 := fun x : Ext V.heap.size V => h2 x.1 (hRV.out.below x.2).leaps
  clear h2
  go_wp2_with fail
  refine ext_region (by kernel_rfl) (by kernel_rfl) ?_
  repeat (first | (go_big_quiet_step ((go_at_call 215; exact Pure.ext (Nat.le_refl _) (Hid.out (h3 _))))) | ((refine wpQuiet_step (fun K hK => ?_)); go_simp; (refine ⟨_, fun _ => rfl, hK _ ?_⟩); clear hK K))
  refine wpQuiet_nil ?_
  rintro V2 ⟨x, hx⟩
  have hV2 : Below V.heap.size V V2 := hx ▸ x.2
  go_wp2
  go_ret2
  exact ⟨rfl, hB.out.trans (hV2.mono hBs)⟩
set_option maxHeartbeats 400000 in
theorem reach3 (w : World) (f r a : Int) (S : Nat) (hS : S < 18446744073709551616) (hR : Rays w) (ho : onR f r a S = true) : Pure 192 #[.agg #[.int .i64 f, .int .i64 r], .int .i8 3, .int .i64 a, .int .u64 S] w (.tuple #[.int .u64 (slideS f r a S diagL), .int .i64 0]) := by
  have hq : vsq f r a = true := by simp [onR] at ho; exact ho.1
  have h1 := fun W => Lib.hid (onR_c W f r a S hS)
  rw [ho] at h1
  have h2 := fun W hs => Lib.hid (slide_c W f r a S 7 0 4 diagL hq hS hs (by decide) (by decide))
  replace ho := Lib.hid ho
  replace hq := Lib.hid hq
  obtain ⟨T, hT⟩ : ∃ T, slideS f r a S diagL = T := ⟨_, rfl⟩
  rw [hT] at h2 ⊢
  replace hT := Lib.hid hT
  have e8 : Hid ((diagL).length = 4) := Lib.hid rfl
  rw [e8.out] at h2
  unfold Pure
  go_enter Tryz.func192, Tryz.ntmps192
  go_wp2_with fail
  refine ((h1 _).out).mono ?_
  rintro e V ⟨rfl, hV⟩
  have hX := box_of hV
  have hB := Lib.hid (below_of_alloc hV)
  have hBs := hB.out.size
  have hl : w.heap.size < V.heap.size := lt_of_blk hX
  have y0 := fun x : Ext V.heap.size V => cell_of ((x.2.block _ hl).trans hX) 0 _ rfl
  have y1 := fun x : Ext V.heap.size V => cell_of ((x.2.block _ hl).trans hX) 1 _ rfl
  have hRV := Lib.hid (hR.below hB.out)
  clear hX hV
  have h3 := fun x : Ext V.heap.size V => h2 x.1 (hRV.out.below x.2).diag
  clear h2
  go_wp2_with fail
  refine ext_region (by kernel_rfl) (by kernel_rfl) ?_
  repeat (first | (go_big_quiet_step ((go_at_call 217; exact Pure.ext (Nat.le_refl _) (Hid.out (h3 _))))) | ((refine wpQuiet_step (fun K hK => ?_)); go_simp; (refine ⟨_, fun _ => rfl, hK _ ?_⟩); clear hK K))
  refine wpQuiet_nil ?_
  rintro V2 ⟨x, hx⟩
  have hV2 : Below V.heap.size V V2 := hx ▸ x.2
  go_wp2
  go_ret2
  exact ⟨rfl, hB.out.trans (hV2.mono hBs)⟩
set_option maxHeartbeats 400000 in
theorem reach4 (w : World) (f r a : Int) (S : Nat) (hS : S < 18446744073709551616) (hR : Rays w) (ho : onR f r a S = true) : Pure 192 #[.agg #[.int .i64 f, .int .i64 r], .int .i8 4, .int .i64 a, .int .u64 S] w (.tuple #[.int .u64 (slideS f r a S strL), .int .i64 0]) := by
  have hq : vsq f r a = true := by simp [onR] at ho; exact ho.1
  have h1 := fun W => Lib.hid (onR_c W f r a S hS)
  rw [ho] at h1
  have h2 := fun W hs => Lib.hid (slide_c W f r a S 8 0 4 strL hq hS hs (by decide) (by decide))
  replace ho := Lib.hid ho
  replace hq := Lib.hid hq
  obtain ⟨T, hT⟩ : ∃ T, slideS f r a S strL = T := ⟨_, rfl⟩
  rw [hT] at h2 ⊢
  replace hT := Lib.hid hT
  have e8 : Hid ((strL).length = 4) := Lib.hid rfl
  rw [e8.out] at h2
  unfold Pure
  go_enter Tryz.func192, Tryz.ntmps192
  go_wp2_with fail
  refine ((h1 _).out).mono ?_
  rintro e V ⟨rfl, hV⟩
  have hX := box_of hV
  have hB := Lib.hid (below_of_alloc hV)
  have hBs := hB.out.size
  have hl : w.heap.size < V.heap.size := lt_of_blk hX
  have y0 := fun x : Ext V.heap.size V => cell_of ((x.2.block _ hl).trans hX) 0 _ rfl
  have y1 := fun x : Ext V.heap.size V => cell_of ((x.2.block _ hl).trans hX) 1 _ rfl
  have hRV := Lib.hid (hR.below hB.out)
  clear hX hV
  have h3 := fun x : Ext V.heap.size V => h2 x.1 (hRV.out.below x.2).str
  clear h2
  go_wp2_with fail
  refine ext_region (by kernel_rfl) (by kernel_rfl) ?_
  repeat (first | (go_big_quiet_step ((go_at_call 217; exact Pure.ext (Nat.le_refl _) (Hid.out (h3 _))))) | ((refine wpQuiet_step (fun K hK => ?_)); go_simp; (refine ⟨_, fun _ => rfl, hK _ ?_⟩); clear hK K))
  refine wpQuiet_nil ?_
  rintro V2 ⟨x, hx⟩
  have hV2 : Below V.heap.size V V2 := hx ▸ x.2
  go_wp2
  go_ret2
  exact ⟨rfl, hB.out.trans (hV2.mono hBs)⟩
theorem or_u64 {a b : Nat} (ha : a < 18446744073709551616) (hb : b < 18446744073709551616) : bits .or .u64 (a : Int) (b : Int) = ((a ||| b : Nat) : Int) := u64_or_nat a b ha hb
def queenS (f r a : Int) (S : Nat) : Nat := slideS f r a S diagL ||| slideS f r a S strL
def kingS (f r a : Int) : Nat := leapS f r a diagL ||| leapS f r a strL
set_option maxHeartbeats 400000 in
theorem reach5 (w : World) (f r a : Int) (S : Nat) (hS : S < 18446744073709551616) (hR : Rays w) (ho : onR f r a S = true) : Pure 192 #[.agg #[.int .i64 f, .int .i64 r], .int .i8 5, .int .i64 a, .int .u64 S] w (.tuple #[.int .u64 (queenS f r a S), .int .i64 0]) := by
  have hq : vsq f r a = true := by simp [onR] at ho; exact ho.1
  have h1 := fun W => Lib.hid (onR_c W f r a S hS)
  rw [ho] at h1
  have h2 := fun W hs => Lib.hid (slide_c W f r a S 7 0 4 diagL hq hS hs (by decide) (by decide))
  have h4 := fun W hs => Lib.hid (slide_c W f r a S 8 0 4 strL hq hS hs (by decide) (by decide))
  have ea := Lib.hid (or_u64 (show slideS f r a S diagL < 18446744073709551616 from slide_lt (vsq_bd hq).1 _ 0 (by decide)) (show slideS f r a S strL < 18446744073709551616 from slide_lt (vsq_bd hq).1 _ 0 (by decide)))
  replace ho := Lib.hid ho
  replace hq := Lib.hid hq
  unfold queenS
  obtain ⟨T, hT⟩ : ∃ T, slideS f r a S diagL = T := ⟨_, rfl⟩
  obtain ⟨U, hU⟩ : ∃ U, slideS f r a S strL = U := ⟨_, rfl⟩
  rw [hT] at h2 ea ⊢
  rw [hU] at h4 ea ⊢
  replace hT := Lib.hid hT
  replace hU := Lib.hid hU
  have e8 : Hid (diagL.length = 4) := Lib.hid rfl
  have e9 : Hid (strL.length = 4) := Lib.hid rfl
  rw [e8.out] at h2
  rw [e9.out] at h4
  unfold Pure
  go_enter Tryz.func192, Tryz.ntmps192
  go_wp2_with fail
  refine ((h1 _).out).mono ?_
  rintro e V ⟨rfl, hV⟩
  have hX := box_of hV
  have hB := Lib.hid (below_of_alloc hV)
  have hBs := hB.out.size
  have hl : w.heap.size < V.heap.size := lt_of_blk hX
  have y0 := fun x : Ext V.heap.size V => cell_of ((x.2.block _ hl).trans hX) 0 _ rfl
  have y1 := fun x : Ext V.heap.size V => cell_of ((x.2.block _ hl).trans hX) 1 _ rfl
  have hRV := Lib.hid (hR.below hB.out)
  clear hX hV
  have h3 := fun x : Ext V.heap.size V => h2 x.1 (hRV.out.below x.2).diag
  have h5 := fun x : Ext V.heap.size V => h4 x.1 (hRV.out.below x.2).str
  clear h2 h4
  go_wp2_with fail
  refine ext_region (by kernel_rfl) (by kernel_rfl) ?_
  repeat (first | (go_big_quiet_step ((go_at_call 217; first | (with_reducible exact Pure.ext (Nat.le_refl _) (Hid.out (h3 _))) | (with_reducible exact Pure.ext (Nat.le_refl _) (Hid.out (h5 _)))))) | ((refine wpQuiet_step (fun K hK => ?_)); go_simp; (refine ⟨_, fun _ => rfl, hK _ ?_⟩); clear hK K))
  refine wpQuiet_nil ?_
  rintro V2 ⟨x, hx⟩
  have hV2 : Below V.heap.size V V2 := hx ▸ x.2
  rw [ea.out]
  go_wp2
  go_ret2
  exact ⟨rfl, hB.out.trans (hV2.mono hBs)⟩
set_option maxHeartbeats 400000 in
theorem reach6 (w : World) (f r a : Int) (S : Nat) (hS : S < 18446744073709551616) (hR : Rays w) (ho : onR f r a S = true) : Pure 192 #[.agg #[.int .i64 f, .int .i64 r], .int .i8 6, .int .i64 a, .int .u64 S] w (.tuple #[.int .u64 (kingS f r a), .int .i64 0]) := by
  have hq : vsq f r a = true := by simp [onR] at ho; exact ho.1
  have h1 := fun W => Lib.hid (onR_c W f r a S hS)
  rw [ho] at h1
  have h2 := fun W hs => Lib.hid (leap_c W f r a 7 0 4 diagL hq hs (by decide) (by decide))
  have h4 := fun W hs => Lib.hid (leap_c W f r a 8 0 4 strL hq hs (by decide) (by decide))
  have ea := Lib.hid (or_u64 (leapS_lt (a := a) (vsq_bd hq).1 diagL) (leapS_lt (a := a) (vsq_bd hq).1 strL))
  replace ho := Lib.hid ho
  replace hq := Lib.hid hq
  unfold kingS
  obtain ⟨T, hT⟩ : ∃ T, leapS f r a diagL = T := ⟨_, rfl⟩
  obtain ⟨U, hU⟩ : ∃ U, leapS f r a strL = U := ⟨_, rfl⟩
  rw [hT] at h2 ea ⊢
  rw [hU] at h4 ea ⊢
  replace hT := Lib.hid hT
  replace hU := Lib.hid hU
  have e8 : Hid (diagL.length = 4) := Lib.hid rfl
  have e9 : Hid (strL.length = 4) := Lib.hid rfl
  rw [e8.out] at h2
  rw [e9.out] at h4
  unfold Pure
  go_enter Tryz.func192, Tryz.ntmps192
  go_wp2_with fail
  refine ((h1 _).out).mono ?_
  rintro e V ⟨rfl, hV⟩
  have hX := box_of hV
  have hB := Lib.hid (below_of_alloc hV)
  have hBs := hB.out.size
  have hl : w.heap.size < V.heap.size := lt_of_blk hX
  have y0 := fun x : Ext V.heap.size V => cell_of ((x.2.block _ hl).trans hX) 0 _ rfl
  have y1 := fun x : Ext V.heap.size V => cell_of ((x.2.block _ hl).trans hX) 1 _ rfl
  have hRV := Lib.hid (hR.below hB.out)
  clear hX hV
  have h3 := fun x : Ext V.heap.size V => h2 x.1 (hRV.out.below x.2).diag
  have h5 := fun x : Ext V.heap.size V => h4 x.1 (hRV.out.below x.2).str
  clear h2 h4
  go_wp2_with fail
  refine ext_region (by kernel_rfl) (by kernel_rfl) ?_
  repeat (first | (go_big_quiet_step ((go_at_call 215; first | (with_reducible exact Pure.ext (Nat.le_refl _) (Hid.out (h3 _))) | (with_reducible exact Pure.ext (Nat.le_refl _) (Hid.out (h5 _)))))) | ((refine wpQuiet_step (fun K hK => ?_)); go_simp; (refine ⟨_, fun _ => rfl, hK _ ?_⟩); clear hK K))
  refine wpQuiet_nil ?_
  rintro V2 ⟨x, hx⟩
  have hV2 : Below V.heap.size V V2 := hx ▸ x.2
  rw [ea.out]
  go_wp2
  go_ret2
  exact ⟨rfl, hB.out.trans (hV2.mono hBs)⟩
def reachS (f r a : Int) (S : Nat) (k : Int) : Nat := if k = 2 then leapS f r a leapsL else if k = 3 then slideS f r a S diagL else if k = 4 then slideS f r a S strL else if k = 5 then queenS f r a S else kingS f r a
theorem reach_c (w : World) (f r a k : Int) (S : Nat) (hS : S < 18446744073709551616) (hR : Rays w) (ho : onR f r a S = true) (hk : 2 ≤ k ∧ k ≤ 6) : Pure 192 #[.agg #[.int .i64 f, .int .i64 r], .int .i8 k, .int .i64 a, .int .u64 S] w (.tuple #[.int .u64 (reachS f r a S k), .int .i64 0]) := by
  rcases (by omega : k = 2 ∨ k = 3 ∨ k = 4 ∨ k = 5 ∨ k = 6) with rfl | rfl | rfl | rfl | rfl
  · exact reach2 w f r a S hS hR ho
  · exact reach3 w f r a S hS hR ho
  · exact reach4 w f r a S hS hR ho
  · exact reach5 w f r a S hS hR ho
  · exact reach6 w f r a S hS hR ho
end Go.Proofs.YtbhienpbfidgjaaGreatDoor
