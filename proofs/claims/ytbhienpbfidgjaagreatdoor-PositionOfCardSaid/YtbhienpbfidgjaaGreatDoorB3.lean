/- Attacks: occupied, orthodox, is, of. Conditions: the pieces lie in memory; the tables of rays as laid. -/
import Derived.Test.YtbhienpbfidgjaaGreatDoorB2
set_option linter.unusedVariables false
set_option linter.unusedSimpArgs false
namespace Go.Proofs.YtbhienpbfidgjaaGreatDoor
open Go.RowKit
def occS (ps : List Int) : Nat := whereS whiteB ps ps.length ||| whereS blackB ps ps.length
theorem sides_c (w : World) (f r : Int) (ps : List Int) (b off cap : Nat) (hP : PcAt w b off ps) (hv : bvalid f r ps = true) (hn : ps.length ≤ 64) :
    Pure 190 #[bdV f r (some ⟨b, off, none⟩) ps.length cap] w (.tuple #[.int .u64 (whereS whiteB ps ps.length), .int .u64 (whereS blackB ps ps.length), .int .i64 0]) := by
  have h1 := fun W hs => Lib.hid (bvalid_c W f r ps (some ⟨b, off, none⟩) cap hs (by omega))
  rw [hv] at h1
  have h2 := fun W (hw : Below w.heap.size w W) => Lib.hid (whereW_c W f r ps b off cap (hP.below hw) hn white_c)
  have h3 := fun W (hw : Below w.heap.size w W) => Lib.hid (whereB_c W f r ps b off cap (hP.below hw) hn black_c)
  have h0 := Lib.hid (h1 _ (.inr ⟨b, off, rfl, hP.below ((Below.refl _ _).alloc (Nat.le_refl _) (.cells #[.int .i64 f, .int .i64 r, .slice (some ⟨b, off, none⟩) ps.length cap] 40))⟩))
  unfold bdV at *
  clear h1
  obtain ⟨T, hT⟩ : ∃ T, whereS whiteB ps ps.length = T := ⟨_, rfl⟩
  obtain ⟨U, hU⟩ : ∃ U, whereS blackB ps ps.length = U := ⟨_, rfl⟩
  simp only [hT] at h2
  simp only [hU] at h3
  rw [hT, hU]
  replace hT := Lib.hid hT
  replace hU := Lib.hid hU
  replace hv := Lib.hid hv
  obtain ⟨n, hln⟩ : ∃ n, ps.length = n := ⟨_, rfl⟩
  simp only [hln] at h0 h2 h3 ⊢
  replace hln := Lib.hid hln
  clear hP hn
  unfold Pure
  go_enter Tryz.func190, Tryz.ntmps190
  go_wp2_with fail
  refine (h0.out.out).mono ?_
  rintro e V ⟨rfl, hV⟩
  have hX := box_of hV
  have hB := Lib.hid (below_of_alloc hV)
  have hBs := hB.out.size
  have hl : w.heap.size < V.heap.size := lt_of_blk hX
  have y0 := fun x : Ext V.heap.size V => cell_of ((x.2.block _ hl).trans hX) 0 _ rfl
  have y1 := fun x : Ext V.heap.size V => cell_of ((x.2.block _ hl).trans hX) 1 _ rfl
  have y2 := fun x : Ext V.heap.size V => cell_of ((x.2.block _ hl).trans hX) 2 _ rfl
  clear hX hV
  have h2x := fun x : Ext V.heap.size V => h2 x.1 (hB.out.trans (x.2.mono hBs))
  have h3x := fun x : Ext V.heap.size V => h3 x.1 (hB.out.trans (x.2.mono hBs))
  clear h0 h2 h3
  go_wp2_with fail
  refine ext_region (by kernel_rfl) (by kernel_rfl) ?_
  repeat (first | (go_big_quiet_step ((go_at_call 211; first | (with_reducible exact Pure.ext (Nat.le_refl _) (Hid.out (h2x _))) | (with_reducible exact Pure.ext (Nat.le_refl _) (Hid.out (h3x _)))))) | ((refine wpQuiet_step (fun K hK => ?_)); go_simp; (refine ⟨_, fun _ => rfl, hK _ ?_⟩); clear hK K))
  refine wpQuiet_nil ?_
  rintro V2 ⟨x, hx⟩
  have hV2 : Below V.heap.size V V2 := hx ▸ x.2
  go_wp2
  go_ret3
  exact ⟨rfl, hB.out.trans (hV2.mono hBs)⟩
theorem occupied_c (w : World) (f r : Int) (ps : List Int) (b off cap : Nat) (hP : PcAt w b off ps) (hv : bvalid f r ps = true) (hn : ps.length ≤ 64) :
    Pure 166 #[bdV f r (some ⟨b, off, none⟩) ps.length cap] w (.int .u64 (occS ps)) := by
  have h0 := Lib.hid (sides_c _ f r ps b off cap (hP.below ((Below.refl _ _).alloc (Nat.le_refl _) (.cells #[.int .i64 f, .int .i64 r, .slice (some ⟨b, off, none⟩) ps.length cap] 40))) hv hn)
  have ea := Lib.hid (or_u64 (whereS_lt whiteB ps ps.length hn) (whereS_lt blackB ps ps.length hn))
  unfold bdV at *
  unfold occS
  obtain ⟨T, hT⟩ : ∃ T, whereS whiteB ps ps.length = T := ⟨_, rfl⟩
  obtain ⟨U, hU⟩ : ∃ U, whereS blackB ps ps.length = U := ⟨_, rfl⟩
  rw [hT, hU] at h0 ea ⊢
  replace hT := Lib.hid hT
  replace hU := Lib.hid hU
  replace hv := Lib.hid hv
  obtain ⟨n, hln⟩ : ∃ n, ps.length = n := ⟨_, rfl⟩
  simp only [hln] at h0 ⊢
  replace hln := Lib.hid hln
  clear hP hn
  unfold Pure
  go_enter Tryz.func166, Tryz.ntmps166
  go_wp2_with fail
  refine (h0.out).mono ?_
  rintro e V ⟨rfl, hV⟩
  go_wp2
  go_ret
  exact ⟨by rw [← ea.out]; rfl, below_of_alloc hV⟩
def orthB (f r : Int) (ps : List Int) : Bool := bvalid f r ps && !ps.any unorthB
theorem orth_c (w : World) (f r : Int) (ps : List Int) (po : Option Addr) (cap : Nat) (hS : SlcAt w po ps) (hn : ps.length ≤ 100) : Pure 138 #[bdV f r po ps.length cap] w (.bool (orthB f r ps)) := by
  have h1 := fun W hs => Lib.hid (bvalid_c W f r ps po cap hs hn)
  have h0 := Lib.hid (h1 _ (hS.below ((Below.refl _ _).alloc (Nat.le_refl _) (.cells #[.int .i64 f, .int .i64 r, .slice po ps.length cap] 40))))
  clear h1
  unfold orthB
  unfold bdV at *
  cases hv : bvalid f r ps
  · rw [hv] at h0
    replace hv := Lib.hid hv
    clear hS
    obtain ⟨n, hln⟩ : ∃ n, ps.length = n := ⟨_, rfl⟩
    rw [hln] at h0 hn ⊢
    replace hln := Lib.hid hln
    unfold Pure
    go_enter Tryz.func138, Tryz.ntmps138
    go_wp2_with fail
    refine (h0.out.out).mono ?_
    rintro e V ⟨rfl, hV⟩
    go_wp2
    go_ret
    exact ⟨by simp, below_of_alloc hV⟩
  · rw [hv] at h0
    have hne : ps ≠ [] := by
      intro h
      rw [h] at hv
      simp only [bvalid, Bool.and_eq_true, beq_iff_eq] at hv
      have := vsize_mul hv.1.1
      have := hv.1.2
      simp at this
      omega
    obtain ⟨b, off, rfl, hP⟩ := hS.resolve_left hne
    have h2 := fun W hw => Lib.hid (containsO_c W ps b off cap (hP.below hw) hn unorth_c)
    obtain ⟨A, hA⟩ : ∃ A, ps.any unorthB = A := ⟨_, rfl⟩
    simp only [hA] at h2
    rw [hA]
    clear hne hP
    replace hA := Lib.hid hA
    replace hv := Lib.hid hv
    obtain ⟨n, hln⟩ : ∃ n, ps.length = n := ⟨_, rfl⟩
    simp only [hln] at h2
    rw [hln] at h0 hn ⊢
    replace hln := Lib.hid hln
    unfold Pure
    go_enter Tryz.func138, Tryz.ntmps138
    go_wp2_with fail
    refine (h0.out.out).mono ?_
    rintro e V ⟨rfl, hV⟩
    have hX := box_of hV
    have y0 := cell_of hX 0 _ rfl
    have y1 := cell_of hX 1 _ rfl
    have y2 := cell_of hX 2 _ rfl
    have hB := Lib.hid (below_of_alloc hV)
    clear hX hV
    go_wp2_with fail
    refine (h2 _ hB.out).out.mono ?_
    rintro e V2 ⟨rfl, rfl⟩
    go_wp2
    go_ret
    exact ⟨by simp, hB.out⟩
def isB (p : Int) (black : Bool) : Bool := decide (p < 0) && black || decide (0 < p) && !black
theorem is_c (w : World) (p : Int) (black : Bool) : Same 167 #[.int .i8 p, .bool black] w (.bool (isB p black)) := by
  unfold Same isB
  by_cases h1 : p < 0
  · have h2 : ¬ 0 < p := by omega
    cases black
    all_goals
      go_enter Tryz.func167, Tryz.ntmps167
      go_wp2
      go_ret
      exact ⟨ret_bool (by simp [h1, h2]), rfl⟩
  · by_cases h2 : 0 < p
    · cases black
      all_goals
        go_enter Tryz.func167, Tryz.ntmps167
        go_wp2
        go_ret
        exact ⟨ret_bool (by simp [h1, h2]), rfl⟩
    · cases black
      all_goals
        go_enter Tryz.func167, Tryz.ntmps167
        go_wp2
        go_ret
        exact ⟨ret_bool (by simp [h1, h2]), rfl⟩
def ofS (f r : Int) (p : Int) (a : Int) (occ : Nat) : Nat := if p = 1 then pawnS f r false a else if p = -1 then pawnS f r true a else reachS f r a occ (max p (-p))
theorem whereS_bd (P : Int → Bool) (ps : List Int) (k : Nat) : whereS P ps k < 2 ^ k := by
  induction k with
  | zero => simp [whereS]
  | succ k ih =>
    rw [whereS_snoc]
    have h1 : 2 ^ k < 2 ^ (k + 1) := Nat.pow_lt_pow_right (by omega) (by omega)
    split
    · exact Nat.or_lt_two_pow (by omega) h1
    · omega
theorem bvalid_len {f r : Int} {ps : List Int} (hv : bvalid f r ps = true) : vsize f r = true ∧ (ps.length : Int) = f * r ∧ ps.length ≤ 64 := by
  simp only [bvalid, Bool.and_eq_true, beq_iff_eq] at hv
  have := vsize_mul hv.1.1
  have h2 := hv.1.2
  exact ⟨hv.1.1, h2, by omega⟩
theorem occ_on {f r a : Int} {ps : List Int} (hv : bvalid f r ps = true) (hq : vsq f r a = true) : onR f r a (occS ps) = true ∧ occS ps < 18446744073709551616 := by
  obtain ⟨h1, h2, h3⟩ := bvalid_len hv
  have hb : occS ps < 2 ^ ps.length := Nat.or_lt_two_pow (whereS_bd _ _ _) (whereS_bd _ _ _)
  refine ⟨?_, Nat.lt_of_lt_of_le hb (by have := Nat.pow_le_pow_right (n := 2) (by omega) h3; simpa using this)⟩
  unfold onR
  rw [hq]
  have e : (f * r).toNat = ps.length := by omega
  unfold allS
  rw [e, Bool.true_and, beq_iff_eq]
  apply Nat.eq_of_testBit_eq
  intro i
  rw [Nat.testBit_and, Nat.zero_testBit]
  have e2 : 18446744073709551615 - (2 ^ ps.length - 1) = 2 ^ 64 - 2 ^ ps.length := by
    have : 0 < 2 ^ ps.length := Nat.pow_pos (by omega)
    omega
  rcases Nat.lt_or_ge i ps.length with hi | hi
  · have : (18446744073709551615 - (2 ^ ps.length - 1)).testBit i = false := by
      have e3 : 18446744073709551615 - (2 ^ ps.length - 1) = (2 ^ (64 - ps.length) - 1) * 2 ^ ps.length := by
        rw [e2, Nat.sub_mul, ← Nat.pow_add, Nat.one_mul]
        congr 2
        omega
      rw [e3, Nat.testBit_mul_two_pow]
      have : decide (ps.length ≤ i) = false := by simp; omega
      rw [this, Bool.false_and]
    rw [this, Bool.and_false]
  · rw [Nat.testBit_lt_two_pow (Nat.lt_of_lt_of_le hb (Nat.pow_le_pow_right (by omega) hi)), Bool.false_and]
set_option maxHeartbeats 1000000 in
theorem of_c (w : World) (f r : Int) (ps : List Int) (b off cap a : Nat) (p : Int) (occ : Nat) (hP : PcAt w b off ps) (hp : ps[a]? = some p) (hq : vsq f r a = true) (ho : onR f r a occ = true) (hocc : occ < 18446744073709551616) (hR : Rays w) (hk : p ≠ 0 ∧ -6 ≤ p ∧ p ≤ 6) :
    Pure 168 #[bdV f r (some ⟨b, off, none⟩) ps.length cap, .int .i64 a, .int .u64 occ] w (.int .u64 (ofS f r p a occ)) := by
  have hal : a < ps.length := (List.getElem?_eq_some_iff.1 hp).1
  have hP1 := hP.below ((Below.refl _ _).alloc (Nat.le_refl _) (.cells #[.int .i64 f, .int .i64 r, .slice (some ⟨b, off, none⟩) ps.length cap] 40))
  have y := hP1 a p hp
  unfold ofS bdV
  obtain ⟨n, hln⟩ : ∃ n, ps.length = n := ⟨_, rfl⟩
  rw [hln] at y hal ⊢
  clear hP1
  replace hP := Lib.hid hP
  replace hln := Lib.hid hln
  replace hp := Lib.hid hp
  by_cases e1 : p = 1
  · subst e1
    have h1 := fun W => Lib.hid (pawn_c W f r a false hq)
    replace hq := Lib.hid hq
    replace ho := Lib.hid ho
    unfold Pure
    go_enter Tryz.func168, Tryz.ntmps168
    go_wp2_with fail
    refine ((h1 _).out).mono ?_
    rintro e V ⟨rfl, hV⟩
    go_wp2
    go_ret
    exact ⟨by simp, below_of_alloc hV⟩
  by_cases e2 : p = -1
  · subst e2
    have h1 := fun W => Lib.hid (pawn_c W f r a true hq)
    replace hq := Lib.hid hq
    replace ho := Lib.hid ho
    unfold Pure
    go_enter Tryz.func168, Tryz.ntmps168
    go_wp2_with fail
    refine ((h1 _).out).mono ?_
    rintro e V ⟨rfl, hV⟩
    go_wp2
    go_ret
    exact ⟨by simp, below_of_alloc hV⟩
  rw [if_neg e1, if_neg e2]
  have h1 := Lib.hid (reach_c _ f r a (max p (-p)) occ hocc (hR.below ((Below.refl _ _).alloc (Nat.le_refl _) (.cells #[.int .i64 f, .int .i64 r, .slice (some ⟨b, off, none⟩) n cap] 40))) ho (by omega))
  have e1' : (p == 1) = false := by simpa using e1
  have e2' : (p == -1) = false := by simpa using e2
  obtain ⟨k0, k1, k2⟩ := hk
  replace hq := Lib.hid hq
  replace ho := Lib.hid ho
  clear e1 e2
  obtain ⟨T, hT⟩ : ∃ T, reachS f r a occ (max p (-p)) = T := ⟨_, rfl⟩
  rw [hT] at h1 ⊢
  replace hT := Lib.hid hT
  rcases (by omega : p < 0 ∨ 0 < p) with hs | hs
  · have em : max p (-p) = -p := by omega
    rw [em] at h1
    clear em
    replace k0 := Lib.hid k0
    unfold Pure
    go_enter Tryz.func168, Tryz.ntmps168
    go_wp2_with fail
    refine (h1.out).mono ?_
    rintro e V ⟨rfl, hV⟩
    go_wp2
    go_ret
    exact ⟨rfl, below_of_alloc hV⟩
  · have em : max p (-p) = p := by omega
    rw [em] at h1
    clear em
    replace k0 := Lib.hid k0
    unfold Pure
    go_enter Tryz.func168, Tryz.ntmps168
    go_wp2_with fail
    refine (h1.out).mono ?_
    rintro e V ⟨rfl, hV⟩
    go_wp2
    go_ret
    exact ⟨rfl, below_of_alloc hV⟩
def attS (f r : Int) (ps : List Int) (a : Nat) (black : Bool) (k : Nat) : Nat := (List.range k).foldl (fun S i => if isB (ps.getD i 0) black && (ofS f r (ps.getD i 0) i (occS ps)).testBit a then S ||| 2 ^ i else S) 0
theorem attS_snoc (f r : Int) (ps : List Int) (a : Nat) (black : Bool) (k : Nat) : attS f r ps a black (k + 1) = if isB (ps.getD k 0) black && (ofS f r (ps.getD k 0) k (occS ps)).testBit a then attS f r ps a black k ||| 2 ^ k else attS f r ps a black k := by
  simp [attS, List.range_succ, List.foldl_append]
theorem attS_lt (f r : Int) (ps : List Int) (a : Nat) (black : Bool) (k : Nat) (h : k ≤ 64) : attS f r ps a black k < 18446744073709551616 := by
  induction k with
  | zero => simp [attS]
  | succ k ih =>
    rw [attS_snoc]
    split
    · exact or64 (ih (by omega)) (pow64 (by omega))
    · exact ih (by omega)
theorem orthB_at {f r : Int} {ps : List Int} (h : orthB f r ps = true) {i : Nat} {p : Int} (hp : ps[i]? = some p) : -6 ≤ p ∧ p ≤ 6 := by
  simp only [orthB, Bool.and_eq_true, Bool.not_eq_true'] at h
  have h2 := List.any_eq_false.1 h.2 p (List.mem_of_getElem? hp)
  by_cases h0 : p = 0
  · omega
  · have h3 : (p != 0) = true := by simpa using h0
    unfold unorthB at h2
    rw [h3] at h2
    simp at h2
    omega
end Go.Proofs.YtbhienpbfidgjaaGreatDoor
