/- The reference of stipulations: Parse. Conditions: none. -/
import Derived.Test.YtbhienpbfidgjaaGreatDoorT7
set_option linter.unusedVariables false
set_option linter.unusedSimpArgs false
namespace Go.Proofs.YtbhienpbfidgjaaGreatDoor
open Go.RowKit
theorem allL_len : allL.length = 200 := by kernel_rfl
theorem sizeSp : (Tryz.prog.info? 54).map (·.size) = some 4 := by kernel_rfl
theorem rowsV_at (L : List Stip) : ∀ (k : Nat) (s : Stip), L[k]? = some s → ∀ j, j < 4 → (rowsV L)[k * 4 + j]? = (stC s)[j]? := by
  induction L with
  | nil => intro k s h; simp at h
  | cons a L ih =>
    intro k s h j hj
    have e : rowsV (a :: L) = stC a ++ rowsV L := by simp [rowsV]
    rw [e]
    have hl : (stC a).length = 4 := rfl
    cases k with
    | zero =>
      simp at h
      subst h
      rw [Nat.zero_mul, Nat.zero_add, List.getElem?_append_left (by omega)]
    | succ k =>
      rw [List.getElem?_append_right (by omega), hl]
      have := ih k s (by simpa using h) j hj
      rw [← this]
      congr 1
      omega
set_option maxRecDepth 100000 in
set_option maxHeartbeats 4000000 in
theorem rparse_c (w : World) (t : ByteArray) : Pure 42 #[.string t] w (parseV t) := by
  obtain ⟨B, hBe⟩ : ∃ B, w.heap.size = B := ⟨_, rfl⟩
  unfold Pure
  go_enter Tryz.func42, Tryz.ntmps42
  go_wp2_with fail
  refine (rall_c _).mono ?_
  rintro e V ⟨v, rfl, hown, hV⟩
  have hX := Lib.hid (box_of hV)
  have hB := Lib.hid (below_of_alloc hV)
  rw [allL_len] at hown
  obtain ⟨g, cap, rfl, hg1, hg2⟩ := hown.form (by omega)
  simp only [World.size_alloc] at hown hg1
  clear hV
  replace hown := Lib.hid hown
  rw [hBe] at hX hown hg1
  replace hBe := Lib.hid hBe
  go_wp2_with fail
  go_loopw [5] (fun i wr => ∃ k : Nat, k ≤ 200 ∧ i = .int .i64 k ∧ (∀ j < k, ∀ s, allL[j]? = some s → s.text ≠ t) ∧ wr.heap[B]? = some (.cells #[.int .i64 0, .int .i64 0, .int .i64 0, .bool false] 54 (0, 0)) ∧
    wr.ownsRow (B + 1) 54 4 (.slice (some ⟨g, 0, none⟩) 200 cap) 200 (rowsV allL) ∧ Below w.heap.size w wr) (fun i _ => 201 - (intOf i).toNat)
  case atStart => exact ⟨0, by omega, rfl, fun j h => absurd h (by omega), hX.out, hown.out, hB.out⟩
  case round =>
    obtain ⟨k, hk, rfl, hno, hXr, hor, hBr⟩ := hrel
    clear hX hown hB
    have hno0 := Lib.hid hno
    clear hno
    by_cases hk2 : k = 200
    · subst hk2
      have hmiss : Hid (parseV t = .tuple #[.agg #[.int .i64 0, .int .i64 0, .int .i64 0, .bool false], .int .i64 6]) := Lib.hid (by
        unfold parseV
        cases h : parseO t with
        | none => rfl
        | some s =>
          obtain ⟨h1, h2⟩ := parse_some h
          obtain ⟨j, hj⟩ := List.getElem?_of_mem (mem_all h1)
          have hj2 := (List.getElem?_eq_some_iff.1 hj).1
          rw [allL_len] at hj2
          exact absurd h2 (hno0.out j hj2 s hj))
      replace hor := Lib.hid hor
      replace hXr := Lib.hid hXr
      go_wp2_with (refine store_row 54 (.tmp 2) (.tmp 30) rfl rfl #[.int .i64 0, .int .i64 0, .int .i64 0, .bool false] rfl (by rfl) _ hXr.out rfl sizeSp (by simp [Value.oneCell']) ?_)
      refine bodyPost_ret (results_row rfl _ _ _ #[.int .i64 0, .int .i64 0, .int .i64 0, .bool false] _ rfl (setCells_arr hXr.out rfl) Tryz.underlying54 rfl sizeSp) rfl ⟨?_, ?_⟩
      · rw [hmiss.out]; rfl
      · exact setCells_below (Nat.le_of_eq hBe.out) _ _ _ hBr
    · have hkl : k < 200 := by omega
      obtain ⟨s, hs⟩ : ∃ s, allL[k]? = some s := ⟨_, List.getElem?_eq_getElem (by rw [allL_len]; exact hkl)⟩
      have hmem := List.mem_of_getElem? hs
      have hv : s.valid = true := by
        have := List.all_eq_true.1 all_valid s hmem
        exact this
      have hrow := rowsV_at allL k s hs
      have q0 : wr.cell? ⟨g, k * 4, none⟩ = some (.int .i64 s.play) := by have := hor.cellAt (k * 4 + 0) (by omega); rw [hrow 0 (by omega)] at this; exact this
      have q1 : wr.cell? ⟨g, k * 4 + 1, none⟩ = some (.int .i64 s.goal) := by have := hor.cellAt (k * 4 + 1) (by omega); rw [hrow 1 (by omega)] at this; exact this
      have q2 : wr.cell? ⟨g, k * 4 + 2, none⟩ = some (.int .i64 s.moves) := by have := hor.cellAt (k * 4 + 2) (by omega); rw [hrow 2 (by omega)] at this; exact this
      have q3 : wr.cell? ⟨g, k * 4 + 3, none⟩ = some (.bool s.half) := by have := hor.cellAt (k * 4 + 3) (by omega); rw [hrow 3 (by omega)] at this; exact this
      have htx := fun W => Lib.hid (rtext_c W s)
      unfold Stip.textV at htx
      simp only [hv, if_true] at htx
      unfold Stip.v at htx
      have hback := back hmem
      obtain ⟨T, hT⟩ : ∃ T, s.text = T := ⟨_, rfl⟩
      have hT2 : s.textB (digB s.moves) = T := hT
      simp only [hT2] at htx
      rw [hT] at hback
      obtain ⟨p, gl, m, h⟩ := s
      dsimp only at *
      clear hrow hT2 hmem hv
      replace hor := Lib.hid hor
      replace hXr := Lib.hid hXr
      replace hBr := Lib.hid hBr
      replace hs := Lib.hid hs
      cases heq : (T == t)
      · have hs2 : (T.toList == t.toList) = false := by rw [← beq_toListBytes]; exact heq
        have hne : Hid (∀ j < k + 1, ∀ s, allL[j]? = some s → s.text ≠ t) := Lib.hid (fun j hj s' hs' e => by
          by_cases ej : j = k
          · rw [ej, hs.out] at hs'
            cases hs'
            rw [hT] at e
            rw [ba_beq.2 e] at heq
            cases heq
          · exact hno0.out j (by omega) s' hs' e)
        replace heq := Lib.hid heq
        replace hT := Lib.hid hT
        replace hback := Lib.hid hback
        go_wp2_with fail
        refine (htx _).out.mono ?_
        rintro e V2 ⟨rfl, hV2⟩
        have hX2 := Lib.hid (below_blk hV2 hXr.out)
        have ho2 := Lib.hid (own_below hor.out hV2)
        have hB2 := Lib.hid (hBr.out.trans (hV2.mono hBr.out.size))
        clear hV2 q0 q1 q2 q3
        go_wp2_with fail
        go_roundw
        case rel => exact ⟨k + 1, by omega, by simp, hne.out, hX2.out, ho2.out, hB2.out⟩
        case measure => simp [intOf]; omega
      · have hfin : Hid (parseV t = .tuple #[.agg #[.int .i64 p, .int .i64 gl, .int .i64 m, .bool h], .int .i64 0]) := Lib.hid (by
          unfold parseV
          rw [← ba_beq.1 heq, hback]
          rfl)
        simp only [ba_beq.1 heq] at htx
        replace heq := Lib.hid heq
        replace hT := Lib.hid hT
        replace hback := Lib.hid hback
        go_wp2_with fail
        refine (htx _).out.mono ?_
        rintro e V2 ⟨rfl, hV2⟩
        have hX2 := Lib.hid (below_blk hV2 hXr.out)
        have hB2 := Lib.hid (hBr.out.trans (hV2.mono hBr.out.size))
        replace q0 := below_at hV2 q0
        replace q1 := below_at hV2 q1
        replace q2 := below_at hV2 q2
        replace q3 := below_at hV2 q3
        clear hV2
        go_wp2_with (refine store_row 54 (.tmp 2) (.tmp 29) rfl rfl #[.int .i64 p, .int .i64 gl, .int .i64 m, .bool h] rfl (by rfl) _ hX2.out rfl sizeSp (by simp [Value.oneCell']) ?_)
        refine bodyPost_ret (results_row rfl _ _ _ #[.int .i64 p, .int .i64 gl, .int .i64 m, .bool h] _ rfl (setCells_arr hX2.out rfl) Tryz.underlying54 rfl sizeSp) rfl ⟨?_, ?_⟩
        · rw [hfin.out]; rfl
        · exact setCells_below (Nat.le_of_eq hBe.out) _ _ _ hB2.out
end Go.Proofs.YtbhienpbfidgjaaGreatDoor
