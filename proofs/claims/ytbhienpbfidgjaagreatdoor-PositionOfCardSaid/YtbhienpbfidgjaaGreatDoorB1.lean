/- Searches in a list of pieces: slices.Index, Contains, IndexFunc, ContainsFunc. Conditions: the pieces lie in memory. -/
import Derived.Test.YtbhienpbfidgjaaGreatDoorA
set_option linter.unusedVariables false
set_option linter.unusedSimpArgs false
namespace Go.Proofs.YtbhienpbfidgjaaGreatDoor
open Go.RowKit
def PcAt (w : World) (b off : Nat) (ps : List Int) : Prop := ∀ i p, ps[i]? = some p → w.cell? ⟨b, off + i, none⟩ = some (.int .i8 p)
theorem PcAt.below {w V : World} {b off : Nat} {ps : List Int} (h : PcAt w b off ps) (hb : Below w.heap.size w V) : PcAt V b off ps := fun i p hp => below_at hb (h i p hp)
def firstI (P : Int → Bool) (ps : List Int) : Int := if ps.any P then (ps.findIdx P : Int) else -1
theorem firstI_hit {P : Int → Bool} {ps : List Int} {k : Nat} {p : Int} (hk : ps[k]? = some p) (hp : P p = true) (h : ∀ i q, i < k → ps[i]? = some q → P q = false) : firstI P ps = k := by
  obtain ⟨hlt, he⟩ := List.getElem?_eq_some_iff.1 hk
  unfold firstI
  rw [if_pos (List.any_eq_true.2 ⟨p, List.mem_of_getElem? hk, hp⟩)]
  congr 1
  rw [List.findIdx_eq hlt]
  exact ⟨by rw [he]; exact hp, fun j hj => h j _ hj (List.getElem?_eq_getElem (by omega))⟩
theorem firstI_none {P : Int → Bool} {ps : List Int} (h : ∀ i q, i < ps.length → ps[i]? = some q → P q = false) : firstI P ps = -1 := by
  unfold firstI
  rw [if_neg]
  intro ha
  obtain ⟨q, hq, hp⟩ := List.any_eq_true.1 ha
  obtain ⟨i, hi, rfl⟩ := List.getElem_of_mem hq
  rw [h i _ hi (List.getElem?_eq_getElem hi)] at hp
  cases hp
theorem firstI_pos (P : Int → Bool) (ps : List Int) : decide (0 ≤ firstI P ps) = ps.any P := by
  unfold firstI
  split
  · rename_i h; rw [h]; simp
  · rename_i h
    have : ps.any P = false := by simpa using h
    rw [this]; simp
theorem firstI_bd (P : Int → Bool) (ps : List Int) : -1 ≤ firstI P ps ∧ firstI P ps ≤ ps.length := by
  unfold firstI
  split
  · have := List.findIdx_le_length (xs := ps) (p := P); omega
  · omega
set_option maxHeartbeats 400000 in
theorem index_c (w : World) (ps : List Int) (q : Int) (b off cap : Nat) (hP : PcAt w b off ps) (hn : ps.length ≤ 100) : Same 139 #[.slice (some ⟨b, off, none⟩) ps.length cap, .int .i8 q] w (.int .i64 (firstI (fun x => x == q) ps)) := by
  have hhit := fun k p h1 h2 h3 => Lib.hid (firstI_hit (P := fun x => x == q) (ps := ps) (k := k) (p := p) h1 h2 h3)
  have hnone := fun h => Lib.hid (firstI_none (P := fun x => x == q) (ps := ps) h)
  obtain ⟨R, hR⟩ : ∃ R, firstI (fun x => x == q) ps = R := ⟨_, rfl⟩
  rw [hR] at hnone ⊢
  simp only [hR] at hhit
  obtain ⟨n, hln⟩ : ∃ n, ps.length = n := ⟨_, rfl⟩
  rw [hln] at hn hnone ⊢
  replace hR := Lib.hid hR
  replace hln := Lib.hid hln
  replace hP := Lib.hid hP
  unfold Same
  go_enter Tryz.func139, Tryz.ntmps139
  go_wp2
  go_loop [8] (fun i => ∃ k : Nat, k ≤ n ∧ i = .int .i64 k ∧ ∀ j x, j < k → ps[j]? = some x → (x == q) = false) (fun i => n - (intOf i).toNat)
  case atStart => exact ⟨0, by omega, rfl, fun j x h => absurd h (by omega)⟩
  case round =>
    obtain ⟨k, hk, rfl, hpre⟩ := hrel
    replace hpre := Lib.hid hpre
    by_cases hkn : k = n
    · have hf := hnone (by rw [← hkn]; exact hpre.out)
      subst hkn
      clear hhit hnone
      go_wp2
      go_ret
      exact ⟨by rw [hf.out]; rfl, rfl⟩
    · have hkl : k < n := by omega
      obtain ⟨p, hp⟩ : ∃ p, ps[k]? = some p := ⟨_, List.getElem?_eq_getElem (by rw [hln.out]; exact hkl)⟩
      have y := hP.out k p hp
      replace hp := Lib.hid hp
      clear hnone hkn
      cases ht : (p == q)
      · have ht2 : (q == p) = false := by simp only [beq_eq_false_iff_ne, ne_eq] at ht ⊢; exact fun h => ht h.symm
        replace ht := Lib.hid ht
        clear hhit
        go_wp2
        go_round
        case rel => exact ⟨k + 1, by omega, by go_num, fun j x hj hx => by
          rcases Nat.lt_or_ge j k with h | h
          · exact hpre.out j x h hx
          · obtain rfl : j = k := by omega
            rw [hp.out] at hx; cases hx; exact ht.out⟩
        case measure => simp [intOf]; omega
      · have ht2 : (q == p) = true := by simp only [beq_iff_eq] at ht ⊢; exact ht.symm
        have hf := hhit k p hp.out ht hpre.out
        replace ht := Lib.hid ht
        clear hhit
        go_wp2
        go_ret
        exact ⟨by rw [hf.out]; rfl, rfl⟩
theorem contains_c (w : World) (ps : List Int) (q : Int) (b off cap : Nat) (hP : PcAt w b off ps) (hn : ps.length ≤ 100) : Same 107 #[.slice (some ⟨b, off, none⟩) ps.length cap, .int .i8 q] w (.bool (ps.any fun x => x == q)) := by
  have h1 := Lib.hid (index_c w ps q b off cap hP hn)
  have h2 := Lib.hid (firstI_pos (fun x => x == q) ps)
  obtain ⟨b1, b2⟩ := firstI_bd (fun x => x == q) ps
  obtain ⟨R, hR⟩ : ∃ R, firstI (fun x => x == q) ps = R := ⟨_, rfl⟩
  rw [hR] at h1 h2 b1 b2
  replace hR := Lib.hid hR
  obtain ⟨n, hln⟩ : ∃ n, ps.length = n := ⟨_, rfl⟩
  rw [hln] at h1 b2 ⊢
  replace hln := Lib.hid hln
  unfold Same at *
  rw [← h2.out]
  go_enter Tryz.func107, Tryz.ntmps107
  go_wp2_with fail
  refine (h1.out).mono ?_
  rintro e V ⟨rfl, rfl⟩
  go_wp2
  go_ret
  exact ⟨rfl, rfl⟩
def badB (p : Int) : Bool := !(decide (-15 ≤ p) && decide (p ≤ 15))
def unorthB (p : Int) : Bool := p != 0 && !(p != 0 && decide (-6 ≤ p) && decide (p ≤ 6))
set_option maxHeartbeats 400000 in
theorem indexV_c (w : World) (ps : List Int) (b off cap : Nat) (hP : PcAt w b off ps) (hn : ps.length ≤ 100) (hQ : ∀ (W : World) (p : Int), Same 103 #[.int .i8 p] W (.bool (badB p))) :
    Same 137 #[.slice (some ⟨b, off, none⟩) ps.length cap, .func (.func 103) #[] #[]] w (.int .i64 (firstI badB ps)) := by
  have hhit := fun k p h1 h2 h3 => Lib.hid (firstI_hit (P := badB) (ps := ps) (k := k) (p := p) h1 h2 h3)
  have hnone := fun h => Lib.hid (firstI_none (P := badB) (ps := ps) h)
  obtain ⟨R, hR⟩ : ∃ R, firstI badB ps = R := ⟨_, rfl⟩
  rw [hR] at hnone ⊢
  simp only [hR] at hhit
  obtain ⟨n, hln⟩ : ∃ n, ps.length = n := ⟨_, rfl⟩
  rw [hln] at hn hnone ⊢
  replace hR := Lib.hid hR
  replace hln := Lib.hid hln
  replace hP := Lib.hid hP
  replace hQ := fun W p => Lib.hid (hQ W p)
  unfold Same
  go_enter Tryz.func137, Tryz.ntmps137
  go_wp2
  go_loop [8] (fun i => ∃ k : Nat, k ≤ n ∧ i = .int .i64 k ∧ ∀ j x, j < k → ps[j]? = some x → badB x = false) (fun i => n - (intOf i).toNat)
  case atStart => exact ⟨0, by omega, rfl, fun j x h => absurd h (by omega)⟩
  case round =>
    obtain ⟨k, hk, rfl, hpre⟩ := hrel
    replace hpre := Lib.hid hpre
    by_cases hkn : k = n
    · have hf := hnone (by rw [← hkn]; exact hpre.out)
      subst hkn
      clear hhit hnone
      go_wp2
      go_ret
      exact ⟨by rw [hf.out]; rfl, rfl⟩
    · have hkl : k < n := by omega
      obtain ⟨p, hp⟩ : ∃ p, ps[k]? = some p := ⟨_, List.getElem?_eq_getElem (by rw [hln.out]; exact hkl)⟩
      have y := hP.out k p hp
      replace hp := Lib.hid hp
      have hq1 := fun W => hQ W p
      clear hnone hkn hQ
      cases ht : badB p
      · simp only [ht] at hq1
        replace ht := Lib.hid ht
        clear hhit
        go_wp2_with fail
        refine (hq1 _).out.mono ?_
        rintro e V ⟨rfl, rfl⟩
        go_wp2
        go_round
        case rel => exact ⟨k + 1, by omega, by go_num, fun j x hj hx => by
          rcases Nat.lt_or_ge j k with h | h
          · exact hpre.out j x h hx
          · obtain rfl : j = k := by omega
            rw [hp.out] at hx; cases hx; exact ht.out⟩
        case measure => simp [intOf]; omega
      · simp only [ht] at hq1
        have hf := hhit k p hp.out ht hpre.out
        replace ht := Lib.hid ht
        clear hhit
        go_wp2_with fail
        refine (hq1 _).out.mono ?_
        rintro e V ⟨rfl, rfl⟩
        go_wp2
        go_ret
        exact ⟨by rw [hf.out]; rfl, rfl⟩
set_option maxHeartbeats 400000 in
theorem indexO_c (w : World) (ps : List Int) (b off cap : Nat) (hP : PcAt w b off ps) (hn : ps.length ≤ 100) (hQ : ∀ (W : World) (p : Int), Same 164 #[.int .i8 p] W (.bool (unorthB p))) :
    Same 137 #[.slice (some ⟨b, off, none⟩) ps.length cap, .func (.func 164) #[] #[]] w (.int .i64 (firstI unorthB ps)) := by
  have hhit := fun k p h1 h2 h3 => Lib.hid (firstI_hit (P := unorthB) (ps := ps) (k := k) (p := p) h1 h2 h3)
  have hnone := fun h => Lib.hid (firstI_none (P := unorthB) (ps := ps) h)
  obtain ⟨R, hR⟩ : ∃ R, firstI unorthB ps = R := ⟨_, rfl⟩
  rw [hR] at hnone ⊢
  simp only [hR] at hhit
  obtain ⟨n, hln⟩ : ∃ n, ps.length = n := ⟨_, rfl⟩
  rw [hln] at hn hnone ⊢
  replace hR := Lib.hid hR
  replace hln := Lib.hid hln
  replace hP := Lib.hid hP
  replace hQ := fun W p => Lib.hid (hQ W p)
  unfold Same
  go_enter Tryz.func137, Tryz.ntmps137
  go_wp2
  go_loop [8] (fun i => ∃ k : Nat, k ≤ n ∧ i = .int .i64 k ∧ ∀ j x, j < k → ps[j]? = some x → unorthB x = false) (fun i => n - (intOf i).toNat)
  case atStart => exact ⟨0, by omega, rfl, fun j x h => absurd h (by omega)⟩
  case round =>
    obtain ⟨k, hk, rfl, hpre⟩ := hrel
    replace hpre := Lib.hid hpre
    by_cases hkn : k = n
    · have hf := hnone (by rw [← hkn]; exact hpre.out)
      subst hkn
      clear hhit hnone
      go_wp2
      go_ret
      exact ⟨by rw [hf.out]; rfl, rfl⟩
    · have hkl : k < n := by omega
      obtain ⟨p, hp⟩ : ∃ p, ps[k]? = some p := ⟨_, List.getElem?_eq_getElem (by rw [hln.out]; exact hkl)⟩
      have y := hP.out k p hp
      replace hp := Lib.hid hp
      have hq1 := fun W => hQ W p
      clear hnone hkn hQ
      cases ht : unorthB p
      · simp only [ht] at hq1
        replace ht := Lib.hid ht
        clear hhit
        go_wp2_with fail
        refine (hq1 _).out.mono ?_
        rintro e V ⟨rfl, rfl⟩
        go_wp2
        go_round
        case rel => exact ⟨k + 1, by omega, by go_num, fun j x hj hx => by
          rcases Nat.lt_or_ge j k with h | h
          · exact hpre.out j x h hx
          · obtain rfl : j = k := by omega
            rw [hp.out] at hx; cases hx; exact ht.out⟩
        case measure => simp [intOf]; omega
      · simp only [ht] at hq1
        have hf := hhit k p hp.out ht hpre.out
        replace ht := Lib.hid ht
        clear hhit
        go_wp2_with fail
        refine (hq1 _).out.mono ?_
        rintro e V ⟨rfl, rfl⟩
        go_wp2
        go_ret
        exact ⟨by rw [hf.out]; rfl, rfl⟩
theorem containsV_c (w : World) (ps : List Int) (b off cap : Nat) (hP : PcAt w b off ps) (hn : ps.length ≤ 100) (hQ : ∀ (W : World) (p : Int), Same 103 #[.int .i8 p] W (.bool (badB p))) :
    Same 102 #[.slice (some ⟨b, off, none⟩) ps.length cap, .func (.func 103) #[] #[]] w (.bool (ps.any badB)) := by
  have h1 := Lib.hid (indexV_c w ps b off cap hP hn hQ)
  have h2 := Lib.hid (firstI_pos badB ps)
  obtain ⟨b1, b2⟩ := firstI_bd badB ps
  obtain ⟨R, hR⟩ : ∃ R, firstI badB ps = R := ⟨_, rfl⟩
  rw [hR] at h1 h2 b1 b2
  replace hR := Lib.hid hR
  obtain ⟨n, hln⟩ : ∃ n, ps.length = n := ⟨_, rfl⟩
  rw [hln] at h1 b2 ⊢
  replace hln := Lib.hid hln
  unfold Same at *
  rw [← h2.out]
  clear hQ
  go_enter Tryz.func102, Tryz.ntmps102
  go_wp2_with fail
  refine (h1.out).mono ?_
  rintro e V ⟨rfl, rfl⟩
  go_wp2
  go_ret
  exact ⟨rfl, rfl⟩
theorem containsO_c (w : World) (ps : List Int) (b off cap : Nat) (hP : PcAt w b off ps) (hn : ps.length ≤ 100) (hQ : ∀ (W : World) (p : Int), Same 164 #[.int .i8 p] W (.bool (unorthB p))) :
    Same 102 #[.slice (some ⟨b, off, none⟩) ps.length cap, .func (.func 164) #[] #[]] w (.bool (ps.any unorthB)) := by
  have h1 := Lib.hid (indexO_c w ps b off cap hP hn hQ)
  have h2 := Lib.hid (firstI_pos unorthB ps)
  obtain ⟨b1, b2⟩ := firstI_bd unorthB ps
  obtain ⟨R, hR⟩ : ∃ R, firstI unorthB ps = R := ⟨_, rfl⟩
  rw [hR] at h1 h2 b1 b2
  replace hR := Lib.hid hR
  obtain ⟨n, hln⟩ : ∃ n, ps.length = n := ⟨_, rfl⟩
  rw [hln] at h1 b2 ⊢
  replace hln := Lib.hid hln
  unfold Same at *
  rw [← h2.out]
  clear hQ
  go_enter Tryz.func102, Tryz.ntmps102
  go_wp2_with fail
  refine (h1.out).mono ?_
  rintro e V ⟨rfl, rfl⟩
  go_wp2
  go_ret
  exact ⟨rfl, rfl⟩
theorem bad_c (w : World) (p : Int) : Same 103 #[.int .i8 p] w (.bool (badB p)) := by
  unfold Same badB
  by_cases h1 : -15 ≤ p
  · by_cases h2 : p ≤ 15
    · go_enter Tryz.func103, Tryz.ntmps103
      go_wp2
      go_ret
      exact ⟨ret_bool (by first | (simp [*]; done) | (simp [*]; omega)), rfl⟩
    · go_enter Tryz.func103, Tryz.ntmps103
      go_wp2
      go_ret
      exact ⟨ret_bool (by first | (simp [*]; done) | (simp [*]; omega)), rfl⟩
  · go_enter Tryz.func103, Tryz.ntmps103
    go_wp2
    go_ret
    exact ⟨ret_bool (by first | (simp [*]; done) | (simp [*]; omega)), rfl⟩
theorem unorth_c (w : World) (p : Int) : Same 164 #[.int .i8 p] w (.bool (unorthB p)) := by
  unfold Same unorthB
  by_cases h0 : p = 0
  · subst h0
    go_enter Tryz.func164, Tryz.ntmps164
    go_wp2
    go_ret
    exact ⟨ret_bool (by simp), rfl⟩
  · have h00 : (p != 0) = true := by simpa using h0
    replace h0 := Lib.hid h0
    by_cases h1 : -6 ≤ p
    · by_cases h2 : p ≤ 6
      · go_enter Tryz.func164, Tryz.ntmps164
        go_wp2
        go_ret
        exact ⟨ret_bool (by first | (simp [*]; done) | (simp [*]; omega)), rfl⟩
      · go_enter Tryz.func164, Tryz.ntmps164
        go_wp2
        go_ret
        exact ⟨ret_bool (by first | (simp [*]; done) | (simp [*]; omega)), rfl⟩
    · go_enter Tryz.func164, Tryz.ntmps164
      go_wp2
      go_ret
      exact ⟨ret_bool (by first | (simp [*]; done) | (simp [*]; omega)), rfl⟩
end Go.Proofs.YtbhienpbfidgjaaGreatDoor
