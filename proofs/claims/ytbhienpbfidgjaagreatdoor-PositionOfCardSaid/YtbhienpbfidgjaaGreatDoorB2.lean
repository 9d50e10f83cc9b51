/- Boards: Valid, Sides; attack: orthodox, occupied. Conditions: the pieces lie in memory. -/
import Derived.Test.YtbhienpbfidgjaaGreatDoorP5
import Derived.Test.YtbhienpbfidgjaaGreatDoorB1
set_option linter.unusedVariables false
set_option linter.unusedSimpArgs false
namespace Go.Proofs.YtbhienpbfidgjaaGreatDoor
open Go.RowKit
def SlcAt (w : World) (po : Option Addr) (ps : List Int) : Prop := ps = [] ∨ ∃ b off, po = some ⟨b, off, none⟩ ∧ PcAt w b off ps
theorem SlcAt.below {w V : World} {po : Option Addr} {ps : List Int} (h : SlcAt w po ps) (hb : Below w.heap.size w V) : SlcAt V po ps := by
  rcases h with h | ⟨b, off, h1, h2⟩
  · exact .inl h
  · exact .inr ⟨b, off, h1, h2.below hb⟩
def bvalid (f r : Int) (ps : List Int) : Bool := vsize f r && ((ps.length : Int) == f * r) && !ps.any badB
def bdV (f r : Int) (po : Option Addr) (n cap : Nat) : Value := .agg #[.int .i64 f, .int .i64 r, .slice po n cap]
theorem bvalid_c (w : World) (f r : Int) (ps : List Int) (po : Option Addr) (cap : Nat) (hS : SlcAt w po ps) (hn : ps.length ≤ 100) : Pure 53 #[bdV f r po ps.length cap] w (.bool (bvalid f r ps)) := by
  have h1 := fun W => Lib.hid (count_c W f r)
  unfold countV at h1
  unfold bvalid bdV
  cases hv : vsize f r
  · simp only [hv, Bool.false_eq_true, if_false] at h1
    replace hv := Lib.hid hv
    clear hS
    unfold Pure
    go_enter Tryz.func53, Tryz.ntmps53
    go_wp2_with fail
    refine ((h1 _).out).mono ?_
    rintro e V ⟨rfl, hV⟩
    go_wp2
    go_ret
    exact ⟨by simp, below_of_alloc hV⟩
  · simp only [hv, if_true] at h1
    obtain ⟨m1, m2⟩ := vsize_mul hv
    replace hv := Lib.hid hv
    cases hl : ((ps.length : Int) == f * r)
    · clear hS
      unfold Pure
      go_enter Tryz.func53, Tryz.ntmps53
      go_wp2_with fail
      refine ((h1 _).out).mono ?_
      rintro e V ⟨rfl, hV⟩
      have hX := box_of hV
      have y0 := cell_of hX 0 _ rfl
      have y1 := cell_of hX 1 _ rfl
      have y2 := cell_of hX 2 _ rfl
      have hB := Lib.hid (below_of_alloc hV)
      clear hX hV
      go_wp2
      go_ret
      exact ⟨by simp, hB.out⟩
    · have hne : ps ≠ [] := by
        intro h
        rw [h] at hl
        simp at hl
        omega
      obtain ⟨b, off, rfl, hP⟩ := hS.resolve_left hne
      have h2 := fun W hw => Lib.hid (containsV_c W ps b off cap (hP.below hw) hn bad_c)
      obtain ⟨A, hA⟩ : ∃ A, ps.any badB = A := ⟨_, rfl⟩
      simp only [hA] at h2
      rw [hA]
      clear hne hP
      replace hA := Lib.hid hA
      obtain ⟨n, hln⟩ : ∃ n, ps.length = n := ⟨_, rfl⟩
      simp only [hln] at h2
      rw [hln] at hl hn ⊢
      replace hln := Lib.hid hln
      unfold Pure
      go_enter Tryz.func53, Tryz.ntmps53
      go_wp2_with fail
      refine ((h1 _).out).mono ?_
      rintro e V ⟨rfl, hV⟩
      have hX := box_of hV
      have y0 := cell_of hX 0 _ rfl
      have y1 := cell_of hX 1 _ rfl
      have y2 := cell_of hX 2 _ rfl
      have hB := Lib.hid (below_of_alloc hV)
      clear hX hV
      go_wp2_with fail
      refine (h2 _ hB.out).out.mono ?_
      rintro e V2 ⟨rfl, rfl⟩
      go_wp2
      go_ret
      exact ⟨by simp, hB.out⟩
def whereS (P : Int → Bool) (ps : List Int) (k : Nat) : Nat := (List.range k).foldl (fun S i => if P (ps.getD i 0) then S ||| 2 ^ i else S) 0
theorem whereS_snoc (P : Int → Bool) (ps : List Int) (k : Nat) : whereS P ps (k + 1) = if P (ps.getD k 0) then whereS P ps k ||| 2 ^ k else whereS P ps k := by
  simp [whereS, List.range_succ, List.foldl_append]
theorem whereS_lt (P : Int → Bool) (ps : List Int) (k : Nat) (h : k ≤ 64) : whereS P ps k < 18446744073709551616 := by
  induction k with
  | zero => simp [whereS]
  | succ k ih =>
    rw [whereS_snoc]
    split
    · exact or64 (ih (by omega)) (pow64 (by omega))
    · exact ih (by omega)
def whiteB (p : Int) : Bool := decide (0 < p)
def blackB (p : Int) : Bool := decide (p < 0)
set_option maxHeartbeats 400000 in
theorem whereW_c (w : World) (f r : Int) (ps : List Int) (b off cap : Nat) (hP : PcAt w b off ps) (hn : ps.length ≤ 64) (hQ : ∀ (W : World) (p : Int), Same 212 #[.int .i8 p] W (.bool (whiteB p))) :
    Pure 211 #[bdV f r (some ⟨b, off, none⟩) ps.length cap, .func (.func 212) #[] #[]] w (.int .u64 (whereS whiteB ps ps.length)) := by
  have hsn := fun k => Lib.hid (whereS_snoc whiteB ps k)
  have hlt := fun k h => Lib.hid (whereS_lt whiteB ps k h)
  have hzero : Hid (whereS whiteB ps 0 = 0) := Lib.hid rfl
  unfold bdV
  obtain ⟨n, hln⟩ : ∃ n, ps.length = n := ⟨_, rfl⟩
  rw [hln] at hn ⊢
  replace hln := Lib.hid hln
  have hP0 : PcAt (w.alloc (.cells #[.int .i64 f, .int .i64 r, .slice (some ⟨b, off, none⟩) n cap] 40)) b off ps := fun i p hp => cell_past (hP i p hp) _
  replace hP := Lib.hid hP0
  clear hP0
  replace hQ := fun W p => Lib.hid (hQ W p)
  unfold Pure
  go_enter Tryz.func211, Tryz.ntmps211
  go_wp2
  go_loop [5, 11] (fun S i => ∃ k : Nat, k ≤ n ∧ i = .int .i64 k ∧ S = .int .u64 (whereS whiteB ps k)) (fun _ i => n - (intOf i).toNat)
  case atStart => exact ⟨0, by omega, rfl, by rw [hzero.out]; rfl⟩
  case round =>
    obtain ⟨k, hk, rfl, rfl⟩ := hrel
    by_cases hkn : k = n
    · subst hkn
      go_wp2
      go_ret
      refine ⟨rfl, ?_⟩
      repeat (first | (with_reducible assumption) | (with_reducible exact Below.refl _ _) | (with_reducible apply below_drewN) | (with_reducible apply Below.drew) | (with_reducible apply Below.alloc) | (with_reducible apply Below.setCell))
      all_goals first | omega | (dsimp only; omega) | (simp; done) | (simp; omega)
    · have hkl : k < n := by omega
      obtain ⟨p, hp⟩ : ∃ p, ps[k]? = some p := ⟨_, List.getElem?_eq_getElem (by rw [hln.out]; exact hkl)⟩
      have y := hP.out k p hp
      have hgd : ps.getD k 0 = p := by rw [List.getD_eq_getElem?_getD, hp]; rfl
      have hs := hsn k
      rw [hgd] at hs
      have hl := (hlt k (by omega)).out
      replace hp := Lib.hid hp
      have hq1 := fun W => hQ W p
      obtain ⟨S, hS⟩ : ∃ S, whereS whiteB ps k = S := ⟨_, rfl⟩
      rw [hS] at hs hl ⊢
      replace hS := Lib.hid hS
      replace hgd := Lib.hid hgd
      clear hkn hQ hlt hsn
      have e1 := Lib.hid (or_bit hl (show k < 64 by omega))
      cases ht : whiteB p
      · simp only [ht] at hq1
        rw [ht] at hs
        replace ht := Lib.hid ht
        go_wp2_with fail
        refine (hq1 _).out.mono ?_
        rintro e V ⟨rfl, rfl⟩
        go_wp2
        go_round
        case rel => exact ⟨k + 1, by omega, by go_num, by rw [hs.out]; simp⟩
        case measure => simp [intOf]; omega
      · simp only [ht] at hq1
        rw [ht] at hs
        replace ht := Lib.hid ht
        go_wp2_with fail
        refine (hq1 _).out.mono ?_
        rintro e V ⟨rfl, rfl⟩
        go_wp2
        go_round
        case rel => exact ⟨k + 1, by omega, by go_num, by rw [hs.out, e1.out]; simp⟩
        case measure => simp [intOf]; omega
set_option maxHeartbeats 400000 in
theorem whereB_c (w : World) (f r : Int) (ps : List Int) (b off cap : Nat) (hP : PcAt w b off ps) (hn : ps.length ≤ 64) (hQ : ∀ (W : World) (p : Int), Same 213 #[.int .i8 p] W (.bool (blackB p))) :
    Pure 211 #[bdV f r (some ⟨b, off, none⟩) ps.length cap, .func (.func 213) #[] #[]] w (.int .u64 (whereS blackB ps ps.length)) := by
  have hsn := fun k => Lib.hid (whereS_snoc blackB ps k)
  have hlt := fun k h => Lib.hid (whereS_lt blackB ps k h)
  have hzero : Hid (whereS blackB ps 0 = 0) := Lib.hid rfl
  unfold bdV
  obtain ⟨n, hln⟩ : ∃ n, ps.length = n := ⟨_, rfl⟩
  rw [hln] at hn ⊢
  replace hln := Lib.hid hln
  have hP0 : PcAt (w.alloc (.cells #[.int .i64 f, .int .i64 r, .slice (some ⟨b, off, none⟩) n cap] 40)) b off ps := fun i p hp => cell_past (hP i p hp) _
  replace hP := Lib.hid hP0
  clear hP0
  replace hQ := fun W p => Lib.hid (hQ W p)
  unfold Pure
  go_enter Tryz.func211, Tryz.ntmps211
  go_wp2
  go_loop [5, 11] (fun S i => ∃ k : Nat, k ≤ n ∧ i = .int .i64 k ∧ S = .int .u64 (whereS blackB ps k)) (fun _ i => n - (intOf i).toNat)
  case atStart => exact ⟨0, by omega, rfl, by rw [hzero.out]; rfl⟩
  case round =>
    obtain ⟨k, hk, rfl, rfl⟩ := hrel
    by_cases hkn : k = n
    · subst hkn
      go_wp2
      go_ret
      refine ⟨rfl, ?_⟩
      repeat (first | (with_reducible assumption) | (with_reducible exact Below.refl _ _) | (with_reducible apply below_drewN) | (with_reducible apply Below.drew) | (with_reducible apply Below.alloc) | (with_reducible apply Below.setCell))
      all_goals first | omega | (dsimp only; omega) | (simp; done) | (simp; omega)
    · have hkl : k < n := by omega
      obtain ⟨p, hp⟩ : ∃ p, ps[k]? = some p := ⟨_, List.getElem?_eq_getElem (by rw [hln.out]; exact hkl)⟩
      have y := hP.out k p hp
      have hgd : ps.getD k 0 = p := by rw [List.getD_eq_getElem?_getD, hp]; rfl
      have hs := hsn k
      rw [hgd] at hs
      have hl := (hlt k (by omega)).out
      replace hp := Lib.hid hp
      have hq1 := fun W => hQ W p
      obtain ⟨S, hS⟩ : ∃ S, whereS blackB ps k = S := ⟨_, rfl⟩
      rw [hS] at hs hl ⊢
      replace hS := Lib.hid hS
      replace hgd := Lib.hid hgd
      clear hkn hQ hlt hsn
      have e1 := Lib.hid (or_bit hl (show k < 64 by omega))
      cases ht : blackB p
      · simp only [ht] at hq1
        rw [ht] at hs
        replace ht := Lib.hid ht
        go_wp2_with fail
        refine (hq1 _).out.mono ?_
        rintro e V ⟨rfl, rfl⟩
        go_wp2
        go_round
        case rel => exact ⟨k + 1, by omega, by go_num, by rw [hs.out]; simp⟩
        case measure => simp [intOf]; omega
      · simp only [ht] at hq1
        rw [ht] at hs
        replace ht := Lib.hid ht
        go_wp2_with fail
        refine (hq1 _).out.mono ?_
        rintro e V ⟨rfl, rfl⟩
        go_wp2
        go_round
        case rel => exact ⟨k + 1, by omega, by go_num, by rw [hs.out, e1.out]; simp⟩
        case measure => simp [intOf]; omega
theorem white_c (w : World) (p : Int) : Same 212 #[.int .i8 p] w (.bool (whiteB p)) := by
  unfold Same whiteB
  go_enter Tryz.func212, Tryz.ntmps212
  go_wp2
  go_ret
  exact ⟨rfl, rfl⟩
theorem black_c (w : World) (p : Int) : Same 213 #[.int .i8 p] w (.bool (blackB p)) := by
  unfold Same blackB
  go_enter Tryz.func213, Tryz.ntmps213
  go_wp2
  go_ret
  exact ⟨rfl, rfl⟩
end Go.Proofs.YtbhienpbfidgjaaGreatDoor
