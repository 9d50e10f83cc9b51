/- Attacks: King, Checkers. Conditions: the pieces lie in memory; the tables of rays as laid. -/
import Derived.Test.YtbhienpbfidgjaaGreatDoorB4
set_option linter.unusedVariables false
set_option linter.unusedSimpArgs false
namespace Go.Proofs.YtbhienpbfidgjaaGreatDoor
open Go.RowKit
def kingP (black : Bool) : Int := if black then -6 else 6
def kingI (ps : List Int) (black : Bool) : Option Nat :=
  if ps.any (fun x => x == kingP black) then (if (ps.drop (ps.findIdx (fun x => x == kingP black) + 1)).any (fun x => x == kingP black) then none else some (ps.findIdx (fun x => x == kingP black))) else none
def kingV (f r : Int) (ps : List Int) (black : Bool) : Value := if orthB f r ps then (match kingI ps black with | some a => .tuple #[.int .i64 (a : Int), .int .i64 0] | none => .tuple #[.int .i64 0, .int .i64 9]) else .tuple #[.int .i64 0, .int .i64 2]
set_option maxHeartbeats 1000000 in
theorem king_c (w : World) (f r : Int) (ps : List Int) (po : Option Addr) (cap : Nat) (black : Bool) (hS : SlcAt w po ps) (hn : ps.length ≤ 100) (hcap : ps.length ≤ cap) (hc2 : cap ≤ 9223372036854775807) :
    Pure 105 #[bdV f r po ps.length cap, .bool black] w (kingV f r ps black) := by
  have h1 := fun W hs => Lib.hid (orth_c W f r ps po cap hs hn)
  have h0 := Lib.hid (h1 _ (hS.below ((Below.refl _ _).alloc (Nat.le_refl _) (.cells #[.int .i64 f, .int .i64 r, .slice po ps.length cap] 40))))
  clear h1
  unfold kingV
  unfold bdV at *
  cases hv : orthB f r ps
  · rw [hv] at h0
    replace hv := Lib.hid hv
    clear hS
    obtain ⟨n, hln⟩ : ∃ n, ps.length = n := ⟨_, rfl⟩
    rw [hln] at h0 hn hcap ⊢
    replace hln := Lib.hid hln
    unfold Pure
    go_enter Tryz.func105, Tryz.ntmps105
    go_wp2_with fail
    refine (h0.out.out).mono ?_
    rintro e V ⟨rfl, hV⟩
    go_wp2
    go_ret2
    exact ⟨rfl, below_of_alloc hV⟩
  · rw [hv] at h0
    have hne : ps ≠ [] := by
      intro h
      have hb : bvalid f r ps = true := by simp only [orthB, Bool.and_eq_true] at hv; exact hv.1
      obtain ⟨h1, h2, h3⟩ := bvalid_len hb
      have := vsize_mul h1
      rw [h] at h2
      simp at h2
      omega
    obtain ⟨b, off, rfl, hP⟩ := hS.resolve_left hne
    clear hne hS
    have h2 := fun W (hw : Below w.heap.size w W) => Lib.hid (index_c W ps (kingP black) b off cap (hP.below hw) hn)
    have h3 := fun W (hw : Below w.heap.size w W) (k : Nat) (o' : Nat) (c' : Nat) (ho : o' = off + (k + 1) ∨ ps.drop (k + 1) = []) => Lib.hid (contains_c W (ps.drop (k + 1)) (kingP black) b o' c' (fun i p hp => by
      rcases ho with rfl | h
      · have := (hP.below hw) (k + 1 + i) p (by rw [List.getElem?_drop] at hp; exact hp)
        rwa [← Nat.add_assoc] at this
      · rw [h] at hp; cases hp) (by simp; omega))
    have hkp : kingP black = (if black then -6 else 6) := rfl
    unfold firstI at h2
    unfold kingI
    cases ha : ps.any (fun x => x == kingP black)
    · simp only [ha, Bool.false_eq_true, if_false] at h2 ⊢
      replace hv := Lib.hid hv
      replace ha := Lib.hid ha
      replace hP := Lib.hid hP
      clear h3
      obtain ⟨n, hln⟩ : ∃ n, ps.length = n := ⟨_, rfl⟩
      rw [hln] at h0 h2 hn hcap ⊢
      replace hln := Lib.hid hln
      cases black
      all_goals
        simp only [kingP, Bool.false_eq_true, if_false, if_true] at h2
        clear hkp
        unfold Pure
        go_enter Tryz.func105, Tryz.ntmps105
        go_wp2_with fail
        refine (h0.out.out).mono ?_
        rintro e V ⟨rfl, hV⟩
        have hX := box_of hV
        have y0 := cell_of hX 0 _ rfl
        have y1 := cell_of hX 1 _ rfl
        have y2 := cell_of hX 2 _ rfl
        have hB := Lib.hid (below_of_alloc hV)
        clear hX hV
        go_wp2_with fail
        refine (h2 _ hB.out).out.mono ?_
        rintro e V2 ⟨rfl, rfl⟩
        go_wp2
        go_ret2
        exact ⟨rfl, hB.out⟩
    · simp only [ha, if_true] at h2 ⊢
      have hil : ps.findIdx (fun x => x == kingP black) < ps.length := List.findIdx_lt_length.2 (by simpa using ha)
      obtain ⟨k, hk⟩ : ∃ k, ps.findIdx (fun x => x == kingP black) = k := ⟨_, rfl⟩
      rw [hk] at h2 hil ⊢
      replace hk := Lib.hid hk
      replace hv := Lib.hid hv
      replace ha := Lib.hid ha
      replace hP := Lib.hid hP
      have hdl : (ps.drop (k + 1)).length = ps.length - (k + 1) := by simp
      obtain ⟨A, hA⟩ : ∃ A, (ps.drop (k + 1)).any (fun x => x == kingP black) = A := ⟨_, rfl⟩
      have h4 := fun W hw o' c' ho => Lib.hid (h3 W hw k o' c' ho).out
      rw [hA] at h4 ⊢
      rw [hdl] at h4
      replace hA := Lib.hid hA
      clear h3
      by_cases hcc : cap = k + 1
      · have hdn : ps.drop (k + 1) = [] := List.drop_eq_nil_of_le (by omega)
        have h5 := fun W hw o' c' => Lib.hid (h4 W hw o' c' (.inr hdn)).out
        clear hdn h4 hdl
        obtain ⟨n, hln⟩ : ∃ n, ps.length = n := ⟨_, rfl⟩
        rw [hln] at h0 h2 h5 hn hcap hil ⊢
        replace hln := Lib.hid hln
        have hnk : n = k + 1 := by omega
        subst hnk
        subst hcc
        simp only [Nat.sub_self] at h5
        cases black
        all_goals
          simp only [kingP, Bool.false_eq_true, if_false, if_true] at h2 h5
          clear hkp
          cases A
          all_goals
            unfold Pure
            go_enter Tryz.func105, Tryz.ntmps105
            go_wp2_with fail
            refine (h0.out.out).mono ?_
            rintro e V ⟨rfl, hV⟩
            have hX := box_of hV
            have y0 := cell_of hX 0 _ rfl
            have y1 := cell_of hX 1 _ rfl
            have y2 := cell_of hX 2 _ rfl
            have hB := Lib.hid (below_of_alloc hV)
            clear hX hV
            go_wp2_with fail
            refine (h2 _ hB.out).out.mono ?_
            rintro e V2 ⟨rfl, rfl⟩
            go_wp2_with fail
            refine (h5 _ hB.out _ _).out.mono ?_
            rintro e V2 ⟨rfl, rfl⟩
            go_wp2
            go_ret2
            exact ⟨rfl, hB.out⟩
      · have h5 := fun W hw c' => Lib.hid (h4 W hw (off + (k + 1)) c' (.inl rfl)).out
        clear h4 hdl
        obtain ⟨n, hln⟩ : ∃ n, ps.length = n := ⟨_, rfl⟩
        rw [hln] at h0 h2 h5 hn hcap hil ⊢
        replace hln := Lib.hid hln
        cases black
        all_goals
          simp only [kingP, Bool.false_eq_true, if_false, if_true] at h2 h5
          clear hkp
          cases A
          all_goals
            unfold Pure
            go_enter Tryz.func105, Tryz.ntmps105
            go_wp2_with fail
            refine (h0.out.out).mono ?_
            rintro e V ⟨rfl, hV⟩
            have hX := box_of hV
            have y0 := cell_of hX 0 _ rfl
            have y1 := cell_of hX 1 _ rfl
            have y2 := cell_of hX 2 _ rfl
            have hB := Lib.hid (below_of_alloc hV)
            clear hX hV
            go_wp2_with fail
            refine (h2 _ hB.out).out.mono ?_
            rintro e V2 ⟨rfl, rfl⟩
            go_wp2_with fail
            refine (h5 _ hB.out _).out.mono ?_
            rintro e V2 ⟨rfl, rfl⟩
            go_wp2
            go_ret2
            exact ⟨rfl, hB.out⟩
def checkV (f r : Int) (ps : List Int) (black : Bool) : Value := if orthB f r ps then (match kingI ps black with | some a => .tuple #[.int .u64 (attS f r ps a (!black) ps.length), .int .i64 0] | none => .tuple #[.int .u64 0, .int .i64 9]) else .tuple #[.int .u64 0, .int .i64 2]
theorem kingI_lt {ps : List Int} {black : Bool} {a : Nat} (h : kingI ps black = some a) : a < ps.length := by
  unfold kingI at h
  split at h
  · rename_i ha
    split at h
    · cases h
    · cases h
      exact List.findIdx_lt_length.2 (by simpa using ha)
  · cases h
set_option maxHeartbeats 1000000 in
theorem checkers_c (w : World) (f r : Int) (ps : List Int) (po : Option Addr) (cap : Nat) (black : Bool) (hS : SlcAt w po ps) (hn : ps.length ≤ 100) (hcap : ps.length ≤ cap) (hc2 : cap ≤ 9223372036854775807) (hR : Rays w) :
    Pure 106 #[bdV f r po ps.length cap, .bool black] w (checkV f r ps black) := by
  have h1 := fun W hs => Lib.hid (king_c W f r ps po cap black hs hn hcap hc2)
  have h0 := Lib.hid (h1 _ (hS.below ((Below.refl _ _).alloc (Nat.le_refl _) (.cells #[.int .i64 f, .int .i64 r, .slice po ps.length cap] 40)))).out
  clear h1
  unfold checkV
  unfold kingV bdV at *
  cases hv : orthB f r ps
  · simp only [hv, Bool.false_eq_true, if_false] at h0 ⊢
    replace hv := Lib.hid hv
    clear hS
    obtain ⟨n, hln⟩ : ∃ n, ps.length = n := ⟨_, rfl⟩
    rw [hln] at h0 hn hcap
    replace hln := Lib.hid hln
    rw [hln.out]
    unfold Pure
    go_enter Tryz.func106, Tryz.ntmps106
    go_wp2_with fail
    refine (h0.out).mono ?_
    rintro e V ⟨rfl, hV⟩
    go_wp2
    go_ret2
    exact ⟨rfl, below_of_alloc hV⟩
  · simp only [hv, if_true] at h0 ⊢
    cases hk : kingI ps black with
    | none =>
      rw [hk] at h0
      dsimp only at h0 ⊢
      replace hv := Lib.hid hv
      replace hk := Lib.hid hk
      clear hS
      obtain ⟨n, hln⟩ : ∃ n, ps.length = n := ⟨_, rfl⟩
      rw [hln] at h0 hn hcap ⊢
      replace hln := Lib.hid hln
      unfold Pure
      go_enter Tryz.func106, Tryz.ntmps106
      go_wp2_with fail
      refine (h0.out).mono ?_
      rintro e V ⟨rfl, hV⟩
      go_wp2
      go_ret2
      exact ⟨rfl, below_of_alloc hV⟩
    | some a =>
      rw [hk] at h0
      dsimp only at h0 ⊢
      have hne : ps ≠ [] := by rintro rfl; have := kingI_lt hk; simp at this
      obtain ⟨b, off, rfl, hP⟩ := hS.resolve_left hne
      have hb : bvalid f r ps = true := by simp only [orthB, Bool.and_eq_true] at hv; exact hv.1
      have h2 := fun W (hw : Below w.heap.size w W) => Lib.hid (attackers_c W f r ps b off cap a (!black) (hP.below hw) hv (by have := kingI_lt hk; have := (bvalid_len hb).2.2; omega) (hR.below hw))
      unfold bdV at h2
      clear hne hS hb
      obtain ⟨T, hT⟩ : ∃ T, attS f r ps a (!black) ps.length = T := ⟨_, rfl⟩
      rw [hT] at h2 ⊢
      replace hT := Lib.hid hT
      replace hv := Lib.hid hv
      replace hk := Lib.hid hk
      replace hP := Lib.hid hP
      obtain ⟨n, hln⟩ : ∃ n, ps.length = n := ⟨_, rfl⟩
      rw [hln] at h0 h2 hn hcap ⊢
      replace hln := Lib.hid hln
      unfold Pure
      go_enter Tryz.func106, Tryz.ntmps106
      go_wp2_with fail
      refine (h0.out).mono ?_
      rintro e V ⟨rfl, hV⟩
      have hX := box_of hV
      have y0 := cell_of hX 0 _ rfl
      have y1 := cell_of hX 1 _ rfl
      have y2 := cell_of hX 2 _ rfl
      have hB := Lib.hid (below_of_alloc hV)
      clear hX hV
      go_wp2_with fail
      refine ((h2 _ hB.out).out).mono ?_
      rintro e V ⟨rfl, hV⟩
      go_wp2
      go_ret2
      exact ⟨rfl, hB.out.trans (hV.mono hB.out.size)⟩
end Go.Proofs.YtbhienpbfidgjaaGreatDoor
