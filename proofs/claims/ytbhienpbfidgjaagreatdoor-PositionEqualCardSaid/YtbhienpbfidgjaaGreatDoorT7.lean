/- The reference of stipulations: All, Parse. Conditions: none. -/
import Derived.Test.YtbhienpbfidgjaaGreatDoorT6
import Derived.Test.YtbhienpbfidgjaaGreatDoorF4
set_option linter.unusedVariables false
set_option linter.unusedSimpArgs false
namespace Go.Proofs.YtbhienpbfidgjaaGreatDoor
open Go.RowKit
theorem Tryz.infoSt : (Tryz.prog.info? 54).map (fun i => (i.zero, i.size, i.bytes)) = some (some (.agg #[.int .i64 0, .int .i64 0, .int .i64 0, .bool false]), 4, 32) := by kernel_rfl
def stC (s : Stip) : List Value := [.int .i64 s.play, .int .i64 s.goal, .int .i64 s.moves, .bool s.half]
def rowsV (L : List Stip) : List Value := L.flatMap stC
theorem rowsV_app (L K : List Stip) : rowsV (L ++ K) = rowsV L ++ rowsV K := by simp [rowsV]
theorem rowL_at (P G M : Nat) (h1 : P < 4) (h2 : G < 2) (h3 : M < 20) : rowL (40 * P + 20 * G + M) = if P = 1 then [⟨(P : Int) + 1, (G : Int) + 1, (M : Int) + 1, false⟩, ⟨(P : Int) + 1, (G : Int) + 1, (M : Int) + 1, true⟩] else [⟨(P : Int) + 1, (G : Int) + 1, (M : Int) + 1, false⟩] := by
  unfold rowL
  have e1 : (40 * P + 20 * G + M) / 40 = P := by omega
  have e2 : (40 * P + 20 * G + M) / 20 % 2 = G := by omega
  have e3 : (40 * P + 20 * G + M) % 20 = M := by omega
  dsimp only
  rw [e1, e2, e3]
  by_cases h : P = 1
  · subst h; rfl
  · rw [if_neg h, if_neg (by omega)]
    simp
theorem valid_at (P G M : Nat) (h1 : P < 4) (h2 : G < 2) (h3 : M < 20) : (⟨(P : Int) + 1, (G : Int) + 1, (M : Int) + 1, true⟩ : Stip).valid = decide (P = 1) := by
  have : ∀ P : Nat, P < 4 → ∀ G : Nat, G < 2 → ∀ M : Nat, M < 20 → (⟨(P : Int) + 1, (G : Int) + 1, (M : Int) + 1, true⟩ : Stip).valid = decide (P = 1) := by decide
  exact this P h1 G h2 M h3
theorem upTo_len (n : Nat) : (upTo n).length ≤ 2 * n := by
  induction n with
  | zero => simp [upTo]
  | succ n ih =>
    rw [upTo_succ, List.length_append]
    have : (rowL n).length ≤ 2 := by unfold rowL; dsimp only; split <;> simp
    omega
set_option maxRecDepth 100000 in
set_option maxHeartbeats 4000000 in
theorem rall_c (w : World) : Calls Tryz.prog 97 #[] w fun e w' => ∃ v, e = .returned v ∧ w'.ownsRow w.heap.size 54 4 v allL.length (rowsV allL) ∧ Below w.heap.size w w' := by
  obtain ⟨i0, hi, hz0, hz1, hz2⟩ := info_parts Tryz.infoSt
  have hval := fun W (P G M : Nat) h1 h2 h3 => Lib.hid (show Pure 37 #[.agg #[.int .i64 ((P : Int) + 1), .int .i64 ((G : Int) + 1), .int .i64 ((M : Int) + 1), .bool true]] W (.bool (decide (P = 1))) from valid_at P G M h1 h2 h3 ▸ rvalid_c W (⟨(P : Int) + 1, (G : Int) + 1, (M : Int) + 1, true⟩ : Stip))
  obtain ⟨B, hB⟩ : ∃ B, w.heap.size = B := ⟨_, rfl⟩
  rw [hB]
  go_enter Tryz.func97, Tryz.ntmps97
  go_wp2_with fail
  go_loopw [1, 2] (fun v p wr => ∃ P : Nat, P ≤ 4 ∧ p = .int .i64 ((P : Int) + 1) ∧ wr.ownsRow B 54 4 v (upTo (40 * P)).length (rowsV (upTo (40 * P))) ∧ Below B w wr) (fun _ p _ => 5 - (intOf p).toNat)
  case atStart => exact ⟨0, by omega, rfl, by simpa [upTo, rowsV] using World.ownsRow_nil w B _ 4, Below.refl _ _⟩
  case round =>
    obtain ⟨P, hP, rfl, hown, hBr⟩ := hrel
    by_cases hP4 : P = 4
    · subst hP4
      go_wp2
      go_ret
      exact ⟨_, rfl, hown, hBr⟩
    · have hP3 : P < 4 := by omega
      have dP : decide ((P : Int) + 1 ≤ 4) = true := by simp; omega
      clear hP4
      go_wp2_with fail
      go_loopw [1, 3] (fun v g wr => ∃ G : Nat, G ≤ 2 ∧ g = .int .i64 ((G : Int) + 1) ∧ wr.ownsRow B 54 4 v (upTo (40 * P + 20 * G)).length (rowsV (upTo (40 * P + 20 * G))) ∧ Below B w wr) (fun _ g _ => 3 - (intOf g).toNat)
      case atStart => exact ⟨0, by omega, rfl, hown, hBr⟩
      case round =>
        clear hown hBr
        obtain ⟨G, hG, rfl, hown, hBr⟩ := hrel
        by_cases hG2 : G = 2
        · subst hG2
          go_wp2_with fail
          go_roundw
          case rel => exact ⟨P + 1, by omega, by simp, by rw [show 40 * (P + 1) = 40 * P + 20 * 2 by omega]; exact hown, hBr⟩
          case measure => simp [intOf]; omega
        · have hG1 : G < 2 := by omega
          have dG : decide ((G : Int) + 1 ≤ 2) = true := by simp; omega
          clear hG2
          go_wp2_with fail
          go_loopw [1, 4] (fun v m wr => ∃ (M : Nat) (u : Value), M ≤ 20 ∧ u = v ∧ m = .int .i64 ((M : Int) + 1) ∧ wr.ownsRow B 54 4 u (upTo (40 * P + 20 * G + M)).length (rowsV (upTo (40 * P + 20 * G + M))) ∧ Below B w wr) (fun _ m _ => 21 - (intOf m).toNat)
          case atStart => exact ⟨0, _, by omega, rfl, rfl, hown, hBr⟩
          case round =>
            clear hown hBr
            obtain ⟨M, u, hM, rfl, rfl, hown, hBr⟩ := hrel
            by_cases hM20 : M = 20
            · subst hM20
              go_wp2_with fail
              go_roundw
              case rel => exact ⟨G + 1, by omega, by simp, by rw [show 40 * P + 20 * (G + 1) = 40 * P + 20 * G + 20 by omega]; exact hown, hBr⟩
              case measure => simp [intOf]; omega
            · have hM19 : M < 20 := by omega
              have dM : decide ((M : Int) + 1 ≤ 20) = true := by simp; omega
              clear hM20
              have hl := upTo_len (40 * P + 20 * G + M)
              have hs := upTo_succ (40 * P + 20 * G + M)
              rw [rowL_at P G M hP3 hG1 hM19] at hs
              obtain ⟨L, hL⟩ : ∃ L, upTo (40 * P + 20 * G + M) = L := ⟨_, rfl⟩
              rw [hL] at hl hs hown
              have hBs : B ≤ wr.heap.size := by rw [← hB]; exact hBr.size
              have hnr : some wr.heap.size ≠ u.ownBlock := fun e => by have := (hown.lt _ e.symm).2; omega
              replace hs := Lib.hid hs
              replace hL := Lib.hid hL
              have hBr2 := Lib.hid hBr
              have hown2 := Lib.hid hown
              replace hval := fun W => hval W P G M hP3 hG1 hM19
              go_wp2_with (at_builtin; refine wpList_append_lies _ rfl _ _ 122 rfl B 54 i0 (.agg #[.int .i64 0, .int .i64 0, .int .i64 0, .bool false]) 4 32 Tryz.underlying122 hi hz0 hz1 hz2 rfl (by decide) _ _ _ rfl ((hown2.out.alloc _).alloc _) ⟨wr.heap.size + 1, 0, none⟩ 1 1 (#[.int .i64 ((P : Int) + 1), .int .i64 ((G : Int) + 1), .int .i64 ((M : Int) + 1), .bool false] : Array Value).toList rfl rfl (World.news_of_block (blk_new (by simp) _)) (by intro u hu; simp at hu; rcases hu with rfl | rfl | rfl | rfl <;> rfl) (by omega) (by unfold maxLen; omega) (by omega) (by simp; omega) _ rfl ?_; intro g cap w1 hown' hgrow hat hlt; have hN := (hgrow.block wr.heap.size (by simp; omega) hnr).trans (blk_alloc (blk_new rfl _) _); have n0 := cell_of hN 0 _ rfl; have n1 := cell_of hN 1 _ rfl; have n2 := cell_of hN 2 _ rfl; have n3 := cell_of hN 3 _ rfl; have nf := free_of hN 3; have hB1 := Lib.hid (below_row ((hBr2.out.alloc hBs _).alloc (by simp; omega) _) (by simp; omega) ((hown2.out.alloc _).alloc _) hgrow); replace hN := Lib.hid hN; replace hown' := Lib.hid hown'; clear hgrow)
              have hwg := lt_of_blk hN.out
              have hng : some wr.heap.size ≠ (Value.slice (some ⟨g, 0, none⟩) (L.length + 1) cap).ownBlock := by
                intro e
                have e2 : wr.heap.size = g := by simpa [Value.ownBlock] using e
                rcases hat with h | h
                · exact hnr (e2 ▸ h.symm)
                · simp at h; omega
              have hown3 := hown'.out.kept (w' := w1.setCell ⟨wr.heap.size, 3, none⟩ (.bool true)) (grown_set (grown_refl w1 (some wr.heap.size)) (p := ⟨wr.heap.size, 3, none⟩) (.inl rfl) _) (.inr hng.symm)
              have hN3 : Hid ((w1.setCell ⟨wr.heap.size, 3, none⟩ (.bool true)).heap[wr.heap.size]? = some (.cells #[.int .i64 ((P : Int) + 1), .int .i64 ((G : Int) + 1), .int .i64 ((M : Int) + 1), .bool true] 54 (0, 0))) := Lib.hid (blk_at (blk_set hN.out 3 _) (by simp))
              have hB3 := Lib.hid (hB1.out.setCell (p := ⟨wr.heap.size, 3, none⟩) hBs (.bool true))
              refine (hval _).out.mono ?_
              rintro e V2 ⟨rfl, hV2⟩
              have hown4 := Lib.hid (own_below hown3 hV2)
              have hN4 := below_blk hV2 hN3.out
              have hz3 := hB3.out.size
              have hz4 := hV2.size
              have hB4 := Lib.hid (hB3.out.trans (hV2.mono (by omega)))
              have hBV : B ≤ V2.heap.size := by omega
              clear hV2 hown3 hN3 hB3 n0 n1 n2 n3 nf
              have n0 := cell_of hN4 0 _ rfl
              have n1 := cell_of hN4 1 _ rfl
              have n2 := cell_of hN4 2 _ rfl
              have n3 := cell_of hN4 3 _ rfl
              replace hN4 := Lib.hid hN4
              by_cases hP1 : P = 1
              · have hs2 : Hid (upTo (40 * P + 20 * G + (M + 1)) = (L ++ [⟨(P : Int) + 1, (G : Int) + 1, (M : Int) + 1, false⟩]) ++ [⟨(P : Int) + 1, (G : Int) + 1, (M : Int) + 1, true⟩]) := Lib.hid (by rw [← Nat.add_assoc, hs.out, if_pos hP1, List.append_assoc]; rfl)
                have dP1 : decide (P = 1) = true := by simp; exact hP1
                replace hP1 := Lib.hid hP1
                go_wp2_with (at_builtin; refine wpList_append_lies _ rfl _ _ 122 rfl B 54 i0 (.agg #[.int .i64 0, .int .i64 0, .int .i64 0, .bool false]) 4 32 Tryz.underlying122 hi hz0 hz1 hz2 rfl (by decide) _ _ _ rfl (hown4.out.alloc _) ⟨V2.heap.size, 0, none⟩ 1 1 (#[.int .i64 ((P : Int) + 1), .int .i64 ((G : Int) + 1), .int .i64 ((M : Int) + 1), .bool true] : Array Value).toList rfl rfl (World.news_of_block (blk_new (by simp) _)) (by intro u hu; simp at hu; rcases hu with rfl | rfl | rfl | rfl <;> rfl) (by omega) (by unfold maxLen; omega) (by omega) (by simp; omega) _ rfl ?_; intro g2 cap2 w5 hown5 hgrow2 hat2 hlt2; have hB5 := Lib.hid (below_row (hB4.out.alloc hBV _) (by simp; omega) (hown4.out.alloc _) hgrow2); replace hown5 := Lib.hid hown5; clear hgrow2 hat2)
                go_roundw
                case rel => exact ⟨M + 1, _, by omega, rfl, by simp, by rw [hs2.out, List.length_append, List.length_append, rowsV_app, rowsV_app]; exact hown5.out, hB5.out⟩
                case measure => simp [intOf]; omega
              · have hs2 : Hid (upTo (40 * P + 20 * G + (M + 1)) = L ++ [⟨(P : Int) + 1, (G : Int) + 1, (M : Int) + 1, false⟩]) := Lib.hid (by rw [← Nat.add_assoc, hs.out, if_neg hP1])
                have dP1 : decide (P = 1) = false := by simp; exact hP1
                go_wp2_with fail
                go_roundw
                case rel => exact ⟨M + 1, _, by omega, rfl, by simp, by rw [hs2.out, List.length_append, rowsV_app]; exact hown4.out, hB4.out⟩
                case measure => simp [intOf]; omega
end Go.Proofs.YtbhienpbfidgjaaGreatDoor
