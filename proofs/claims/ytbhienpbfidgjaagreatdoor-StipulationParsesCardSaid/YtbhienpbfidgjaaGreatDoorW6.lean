/- The laws on stipulations, walked: Valids, Nexts, Plies, Parses, Texts. Conditions: the library as said; the tables lie in memory. -/
import Derived.Test.YtbhienpbfidgjaaGreatDoorT10
set_option linter.unusedVariables false
set_option linter.unusedSimpArgs false
namespace Go.Proofs.YtbhienpbfidgjaaGreatDoor
open Go.RowKit
theorem all_small : (allL.all fun s => decide (s.text.size ≤ 1000)) = true := by kernel_rfl
theorem text_small {s : Stip} (h : s.valid = true) : (s.textB (digB s.moves)).size ≤ 1000 := by
  have := List.all_eq_true.1 all_small s (mem_all h)
  exact of_decide_eq_true this
theorem Stip.nextV_ex (s : Stip) : ∃ (x : Stip) (k : Int), s.nextV = .tuple #[x.v, .int .i64 k] := by
  unfold Stip.nextV
  split
  · split
    · exact ⟨⟨0, 0, 0, false⟩, _, rfl⟩
    · exact ⟨_, _, rfl⟩
  · exact ⟨⟨0, 0, 0, false⟩, _, rfl⟩
theorem valids_law (L : Libs) (w : World) (hE : Env w) (s : Stip) : Pure 9 #[s.v] w (.bool true) := by
  have h1 := fun W => Lib.hid (svalid_c W s)
  have h2 := fun W => Lib.hid (rvalid_c W s)
  have hk := Lib.hid (fun W (hW : Below w.heap.size w W) => known_c L W (hE.below hW))
  obtain ⟨b, hb⟩ : ∃ b, s.valid = b := ⟨_, rfl⟩
  rw [hb] at h1 h2
  clear L hE hb
  obtain ⟨p, g, m, h⟩ := s
  unfold Stip.v at *
  unfold Pure
  go_enter Tryz.func9, Tryz.ntmps9
  go_wp2_with fail
  have hN := Lib.hid (blk_new (w := w) rfl (.cells #[.int .i64 p, .int .i64 g, .int .i64 m, .bool h] 54))
  have hB := Lib.hid ((Below.refl w.heap.size w).alloc (Nat.le_refl _) (.cells #[.int .i64 p, .int .i64 g, .int .i64 m, .bool h] 54))
  obtain ⟨G, hG⟩ : ∃ G, w.heap.size = G := ⟨_, rfl⟩
  obtain ⟨V0, hV0⟩ : ∃ V0, w.alloc (.cells #[.int .i64 p, .int .i64 g, .int .i64 m, .bool h] 54) = V0 := ⟨_, rfl⟩
  rw [hG, hV0] at hN
  rw [hV0] at hB ⊢
  rw [hG]
  clear hG hV0
  have y0 := fun x : Ext V0.heap.size V0 => cell_of (below_blk x.2 hN.out) 0 _ rfl
  have y1 := fun x : Ext V0.heap.size V0 => cell_of (below_blk x.2 hN.out) 1 _ rfl
  have y2 := fun x : Ext V0.heap.size V0 => cell_of (below_blk x.2 hN.out) 2 _ rfl
  have y3 := fun x : Ext V0.heap.size V0 => cell_of (below_blk x.2 hN.out) 3 _ rfl
  have hk1 := Lib.hid (fun x : Ext V0.heap.size V0 => hk.out x.1 (hB.out.trans (x.2.mono hB.out.size)))
  refine ext_region (by kernel_rfl) (by kernel_rfl) ?_
  repeat (first | (go_big_quiet_step ((first | (go_at_call 36; exact Pure.ext (Nat.le_refl _) (Hid.out (h1 _))) | (go_at_call 37; exact Pure.ext (Nat.le_refl _) (Hid.out (h2 _))) | (go_at_call 38; exact Pure.ext (Nat.le_refl _) (hk1.out _))))) | ((refine wpQuiet_step (fun K hK => ?_)); go_simp; (refine ⟨_, fun _ => rfl, hK _ ?_⟩); clear hK K))
  refine wpQuiet_nil ?_
  rintro V3 ⟨x, hx⟩
  replace hB := Lib.hid (hx ▸ hB.out.trans (x.2.mono hB.out.size) : Below w.heap.size w V3)
  clear hx x y0 y1 y2 y3 hk1 hk hN
  go_wp2
  go_ret
  exact ⟨by simp, hB.out⟩
theorem nexts_law (L : Libs) (w : World) (hE : Env w) (s : Stip) : Pure 14 #[s.v] w (.bool true) := by
  have c1 := fun W => Lib.hid (snext_c W s)
  have c2 := fun W => Lib.hid (rnext_c W s)
  have hk := Lib.hid (fun W (hW : Below w.heap.size w W) => known_c L W (hE.below hW))
  obtain ⟨x, k, hx⟩ := s.nextV_ex
  rw [hx] at c1 c2
  clear L hE hx
  obtain ⟨p, g, m, h⟩ := s
  obtain ⟨p2, g2, m2, h2⟩ := x
  unfold Stip.v at *
  unfold Pure
  go_enter Tryz.func14, Tryz.ntmps14
  go_wp2_with fail
  have hN := Lib.hid (blk_new (w := w) rfl (.cells #[.int .i64 p, .int .i64 g, .int .i64 m, .bool h] 54))
  have hB := Lib.hid ((Below.refl w.heap.size w).alloc (Nat.le_refl _) (.cells #[.int .i64 p, .int .i64 g, .int .i64 m, .bool h] 54))
  obtain ⟨G, hG⟩ : ∃ G, w.heap.size = G := ⟨_, rfl⟩
  obtain ⟨V0, hV0⟩ : ∃ V0, w.alloc (.cells #[.int .i64 p, .int .i64 g, .int .i64 m, .bool h] 54) = V0 := ⟨_, rfl⟩
  rw [hG, hV0] at hN
  rw [hV0] at hB ⊢
  rw [hG]
  clear hG hV0
  have y0 := cell_of hN.out 0 _ rfl
  have y1 := cell_of hN.out 1 _ rfl
  have y2 := cell_of hN.out 2 _ rfl
  have y3 := cell_of hN.out 3 _ rfl
  go_wp2_with fail
  clear y0 y1 y2 y3
  refine (c1 _).out.mono ?_
  rintro e V ⟨rfl, hV⟩
  replace hN := Lib.hid (below_blk hV hN.out)
  replace hB := Lib.hid (hB.out.trans (hV.mono hB.out.size))
  clear hV
  have y0 := fun o => cell_past (cell_of hN.out 0 _ rfl) o
  have y1 := fun o => cell_past (cell_of hN.out 1 _ rfl) o
  have y2 := fun o => cell_past (cell_of hN.out 2 _ rfl) o
  have y3 := fun o => cell_past (cell_of hN.out 3 _ rfl) o
  go_wp2_with fail
  clear y0 y1 y2 y3
  have hM := Lib.hid (blk_new (w := V) rfl (.cells #[.int .i64 p2, .int .i64 g2, .int .i64 m2, .bool h2] 54))
  replace hN := Lib.hid (blk_alloc hN.out (.cells #[.int .i64 p2, .int .i64 g2, .int .i64 m2, .bool h2] 54))
  replace hB := Lib.hid (hB.out.alloc hB.out.size (.cells #[.int .i64 p2, .int .i64 g2, .int .i64 m2, .bool h2] 54))
  obtain ⟨G2, hG⟩ : ∃ G2, (V).heap.size = G2 := ⟨_, rfl⟩
  obtain ⟨V2, hV2⟩ : ∃ V2, (V).alloc (.cells #[.int .i64 p2, .int .i64 g2, .int .i64 m2, .bool h2] 54) = V2 := ⟨_, rfl⟩
  rw [hG, hV2] at hM
  rw [hV2] at hN hB ⊢
  rw [hG]
  clear hG hV2
  refine (c2 _).out.mono ?_
  rintro e V3 ⟨rfl, hV⟩
  replace hM := Lib.hid (below_blk hV hM.out)
  replace hB := Lib.hid (hB.out.trans (hV.mono hB.out.size))
  clear hV hN c1 c2
  have y0 := fun o => cell_past (cell_of hM.out 0 _ rfl) o
  have y1 := fun o => cell_past (cell_of hM.out 1 _ rfl) o
  have y2 := fun o => cell_past (cell_of hM.out 2 _ rfl) o
  have y3 := fun o => cell_past (cell_of hM.out 3 _ rfl) o
  go_wp2_with fail
  refine (hk.out _ (hB.out.alloc hB.out.size _)).mono ?_
  rintro e V9 ⟨rfl, hV⟩
  replace hB := Lib.hid ((hB.out.alloc hB.out.size _).trans (hV.mono (hB.out.alloc hB.out.size _).size))
  clear hV
  go_wp2
  go_ret
  exact ⟨by simp, hB.out⟩
theorem plies_law (L : Libs) (w : World) (hE : Env w) (s : Stip) (bl : Bool) : Pure 12 #[s.v, .bool bl] w (.bool true) := by
  have c1 := fun W => Lib.hid (spliesOf_c W s)
  have c2 := fun W => Lib.hid (rpliesOf_c W s)
  have c3 := fun W => Lib.hid (sgiver_c W s bl)
  have c4 := fun W => Lib.hid (rgiverOf_c W s bl)
  have hk := Lib.hid (fun W (hW : Below w.heap.size w W) => known_c L W (hE.below hW))
  obtain ⟨x, k, hx⟩ : ∃ x k : Int, s.pliesV = .tuple #[.int .i64 x, .int .i64 k] := by
    unfold Stip.pliesV
    split
    · exact ⟨_, _, rfl⟩
    · exact ⟨_, _, rfl⟩
  obtain ⟨b, k2, hx2⟩ : ∃ (b : Bool) (k2 : Int), s.giverV bl = .tuple #[.bool b, .int .i64 k2] := by
    unfold Stip.giverV
    split
    · exact ⟨_, _, rfl⟩
    · exact ⟨_, _, rfl⟩
  rw [hx] at c1 c2
  rw [hx2] at c3 c4
  clear L hE hx hx2
  obtain ⟨p, g, m, h⟩ := s
  unfold Stip.v at *
  unfold Pure
  go_enter Tryz.func12, Tryz.ntmps12
  go_wp2_with fail
  have hN := Lib.hid (blk_new (w := w) rfl (.cells #[.int .i64 p, .int .i64 g, .int .i64 m, .bool h] 54))
  have hB := Lib.hid ((Below.refl w.heap.size w).alloc (Nat.le_refl _) (.cells #[.int .i64 p, .int .i64 g, .int .i64 m, .bool h] 54))
  obtain ⟨G, hG⟩ : ∃ G, w.heap.size = G := ⟨_, rfl⟩
  obtain ⟨V0, hV0⟩ : ∃ V0, w.alloc (.cells #[.int .i64 p, .int .i64 g, .int .i64 m, .bool h] 54) = V0 := ⟨_, rfl⟩
  rw [hG, hV0] at hN
  rw [hV0] at hB ⊢
  rw [hG]
  clear hG hV0
  have y0 := cell_of hN.out 0 _ rfl
  have y1 := cell_of hN.out 1 _ rfl
  have y2 := cell_of hN.out 2 _ rfl
  have y3 := cell_of hN.out 3 _ rfl
  go_wp2_with fail
  clear y0 y1 y2 y3
  refine (c1 _).out.mono ?_
  rintro e V ⟨rfl, hV⟩
  replace hN := Lib.hid (below_blk hV hN.out)
  replace hB := Lib.hid (hB.out.trans (hV.mono hB.out.size))
  clear hV
  have y0 := cell_of hN.out 0 _ rfl
  have y1 := cell_of hN.out 1 _ rfl
  have y2 := cell_of hN.out 2 _ rfl
  have y3 := cell_of hN.out 3 _ rfl
  go_wp2_with fail
  clear y0 y1 y2 y3
  refine (c2 _).out.mono ?_
  rintro e V ⟨rfl, hV⟩
  replace hN := Lib.hid (below_blk hV hN.out)
  replace hB := Lib.hid (hB.out.trans (hV.mono hB.out.size))
  clear hV
  have y0 := cell_of hN.out 0 _ rfl
  have y1 := cell_of hN.out 1 _ rfl
  have y2 := cell_of hN.out 2 _ rfl
  have y3 := cell_of hN.out 3 _ rfl
  go_wp2_with fail
  clear y0 y1 y2 y3
  refine (c3 _).out.mono ?_
  rintro e V ⟨rfl, hV⟩
  replace hN := Lib.hid (below_blk hV hN.out)
  replace hB := Lib.hid (hB.out.trans (hV.mono hB.out.size))
  clear hV
  have y0 := cell_of hN.out 0 _ rfl
  have y1 := cell_of hN.out 1 _ rfl
  have y2 := cell_of hN.out 2 _ rfl
  have y3 := cell_of hN.out 3 _ rfl
  go_wp2_with fail
  clear y0 y1 y2 y3
  refine (c4 _).out.mono ?_
  rintro e V ⟨rfl, hV⟩
  replace hN := Lib.hid (below_blk hV hN.out)
  replace hB := Lib.hid (hB.out.trans (hV.mono hB.out.size))
  clear hV
  have y0 := cell_of hN.out 0 _ rfl
  have y1 := cell_of hN.out 1 _ rfl
  have y2 := cell_of hN.out 2 _ rfl
  have y3 := cell_of hN.out 3 _ rfl
  go_wp2_with fail
  clear y0 y1 y2 y3
  refine (hk.out _ (hB.out)).mono ?_
  rintro e V9 ⟨rfl, hV⟩
  replace hB := Lib.hid ((hB.out).trans (hV.mono (hB.out).size))
  clear hV
  go_wp2
  go_ret
  exact ⟨by simp, hB.out⟩
theorem parses_law (L : Libs) (w : World) (hE : Env w) (t : ByteArray) : Pure 11 #[.string t] w (.bool true) := by
  have hk := Lib.hid (fun W (hW : Below w.heap.size w W) => known_c L W (hE.below hW))
  have hB := Lib.hid (Below.refl w.heap.size w)
  rcases Nat.lt_or_ge 100 t.size with hl | hl
  · have hl' : (100 < (t.size : Int)) = True := by simp; omega
    unfold Pure
    go_enter Tryz.func11, Tryz.ntmps11
    go_wp2_with fail
    refine (hk.out _ (hB.out)).mono ?_
    rintro e V9 ⟨rfl, hV⟩
    replace hB := Lib.hid ((hB.out).trans (hV.mono (hB.out).size))
    clear hV
    go_wp2
    go_ret
    exact ⟨by simp, hB.out⟩
  · have c1 := fun W (hW : Below w.heap.size w W) => Lib.hid (parse_w L.itoa L.cutp L.cuts W t (by omega) (hE.below hW).atoi)
    have c2 := fun W => Lib.hid (rparse_c W t)
    obtain ⟨x, k, hx⟩ : ∃ (x : Stip) (k : Int), parseV t = .tuple #[x.v, .int .i64 k] := by
      unfold parseV
      split
      · exact ⟨_, _, rfl⟩
      · exact ⟨⟨0, 0, 0, false⟩, _, rfl⟩
    rw [hx] at c1 c2
    clear L hE hx
    obtain ⟨p2, g2, m2, h2⟩ := x
    unfold Stip.v at *
    have hl' : (100 < (t.size : Int)) = False := by simp; omega
    unfold Pure
    go_enter Tryz.func11, Tryz.ntmps11
    go_wp2_with fail
    refine (c1 _ hB.out).out.mono ?_
    rintro e V ⟨rfl, hV⟩
    replace hB := Lib.hid (hB.out.trans (hV.mono hB.out.size))
    clear hV
    go_wp2_with fail
    have hM := Lib.hid (blk_new (w := V) rfl (.cells #[.int .i64 p2, .int .i64 g2, .int .i64 m2, .bool h2] 54))
    replace hB := Lib.hid (hB.out.alloc hB.out.size (.cells #[.int .i64 p2, .int .i64 g2, .int .i64 m2, .bool h2] 54))
    obtain ⟨G2, hG⟩ : ∃ G2, (V).heap.size = G2 := ⟨_, rfl⟩
    obtain ⟨V2, hV2⟩ : ∃ V2, (V).alloc (.cells #[.int .i64 p2, .int .i64 g2, .int .i64 m2, .bool h2] 54) = V2 := ⟨_, rfl⟩
    rw [hG, hV2] at hM
    rw [hV2] at hB ⊢
    rw [hG]
    clear hG hV2
    refine (c2 _).out.mono ?_
    rintro e V3 ⟨rfl, hV⟩
    replace hM := Lib.hid (below_blk hV hM.out)
    replace hB := Lib.hid (hB.out.trans (hV.mono hB.out.size))
    clear hV c1 c2
    have y0 := fun o => cell_past (cell_of hM.out 0 _ rfl) o
    have y1 := fun o => cell_past (cell_of hM.out 1 _ rfl) o
    have y2 := fun o => cell_past (cell_of hM.out 2 _ rfl) o
    have y3 := fun o => cell_past (cell_of hM.out 3 _ rfl) o
    go_wp2_with fail
    refine (hk.out _ (hB.out.alloc hB.out.size _)).mono ?_
    rintro e V9 ⟨rfl, hV⟩
    replace hB := Lib.hid ((hB.out.alloc hB.out.size _).trans (hV.mono (hB.out.alloc hB.out.size _).size))
    clear hV
    go_wp2
    go_ret
    exact ⟨by simp, hB.out⟩
theorem texts_law (L : Libs) (w : World) (hE : Env w) (s : Stip) : Pure 10 #[s.v] w (.bool true) := by
  have c1 := fun W => Lib.hid (text_c L.itoa W s)
  have c2 := fun W => Lib.hid (rtext_c W s)
  have hk := Lib.hid (fun W (hW : Below w.heap.size w W) => known_c L W (hE.below hW))
  unfold Stip.textV at c1 c2
  cases hv : s.valid
  · simp only [hv, Bool.false_eq_true, if_false] at c1 c2
    clear L hE hv
    obtain ⟨p, g, m, h⟩ := s
    unfold Stip.v at *
    unfold Pure
    go_enter Tryz.func10, Tryz.ntmps10
    go_wp2_with fail
    have hN := Lib.hid (blk_new (w := w) rfl (.cells #[.int .i64 p, .int .i64 g, .int .i64 m, .bool h] 54))
    have hB := Lib.hid ((Below.refl w.heap.size w).alloc (Nat.le_refl _) (.cells #[.int .i64 p, .int .i64 g, .int .i64 m, .bool h] 54))
    obtain ⟨G, hG⟩ : ∃ G, w.heap.size = G := ⟨_, rfl⟩
    obtain ⟨V0, hV0⟩ : ∃ V0, w.alloc (.cells #[.int .i64 p, .int .i64 g, .int .i64 m, .bool h] 54) = V0 := ⟨_, rfl⟩
    rw [hG, hV0] at hN
    rw [hV0] at hB ⊢
    rw [hG]
    clear hG hV0
    have y0 := cell_of hN.out 0 _ rfl
    have y1 := cell_of hN.out 1 _ rfl
    have y2 := cell_of hN.out 2 _ rfl
    have y3 := cell_of hN.out 3 _ rfl
    go_wp2_with fail
    clear y0 y1 y2 y3
    refine (c1 _).out.mono ?_
    rintro e V ⟨rfl, hV⟩
    replace hN := Lib.hid (below_blk hV hN.out)
    replace hB := Lib.hid (hB.out.trans (hV.mono hB.out.size))
    clear hV
    have y0 := cell_of hN.out 0 _ rfl
    have y1 := cell_of hN.out 1 _ rfl
    have y2 := cell_of hN.out 2 _ rfl
    have y3 := cell_of hN.out 3 _ rfl
    go_wp2_with fail
    clear y0 y1 y2 y3
    refine (c2 _).out.mono ?_
    rintro e V ⟨rfl, hV⟩
    replace hN := Lib.hid (below_blk hV hN.out)
    replace hB := Lib.hid (hB.out.trans (hV.mono hB.out.size))
    clear hV
    have y0 := cell_of hN.out 0 _ rfl
    have y1 := cell_of hN.out 1 _ rfl
    have y2 := cell_of hN.out 2 _ rfl
    have y3 := cell_of hN.out 3 _ rfl
    go_wp2_with fail
    clear y0 y1 y2 y3
    refine (hk.out _ (hB.out)).mono ?_
    rintro e V9 ⟨rfl, hV⟩
    replace hB := Lib.hid ((hB.out).trans (hV.mono (hB.out).size))
    clear hV
    go_wp2
    go_ret
    exact ⟨by simp, hB.out⟩
  · simp only [hv, if_true] at c1 c2
    have hz : (s.textB (digB s.moves)).size ≤ 1000 := text_small hv
    have c3 := fun W (hW : Below w.heap.size w W) => Lib.hid ((parse_w L.itoa L.cutp L.cuts W (s.textB (digB s.moves)) hz (hE.below hW).atoi).of_eq (show _ = Value.tuple #[s.v, .int .i64 0] by unfold parseV; rw [show parseO (s.textB (digB s.moves)) = some s from parse_text hv]))
    obtain ⟨u, hu⟩ : ∃ u, s.textB (digB s.moves) = u := ⟨_, rfl⟩
    rw [hu] at c1 c2 c3
    clear L hE hv hz hu
    obtain ⟨p, g, m, h⟩ := s
    unfold Stip.v at *
    unfold Pure
    go_enter Tryz.func10, Tryz.ntmps10
    go_wp2_with fail
    have hN := Lib.hid (blk_new (w := w) rfl (.cells #[.int .i64 p, .int .i64 g, .int .i64 m, .bool h] 54))
    have hB := Lib.hid ((Below.refl w.heap.size w).alloc (Nat.le_refl _) (.cells #[.int .i64 p, .int .i64 g, .int .i64 m, .bool h] 54))
    obtain ⟨G, hG⟩ : ∃ G, w.heap.size = G := ⟨_, rfl⟩
    obtain ⟨V0, hV0⟩ : ∃ V0, w.alloc (.cells #[.int .i64 p, .int .i64 g, .int .i64 m, .bool h] 54) = V0 := ⟨_, rfl⟩
    rw [hG, hV0] at hN
    rw [hV0] at hB ⊢
    rw [hG]
    clear hG hV0
    have y0 := cell_of hN.out 0 _ rfl
    have y1 := cell_of hN.out 1 _ rfl
    have y2 := cell_of hN.out 2 _ rfl
    have y3 := cell_of hN.out 3 _ rfl
    go_wp2_with fail
    clear y0 y1 y2 y3
    refine (c1 _).out.mono ?_
    rintro e V ⟨rfl, hV⟩
    replace hN := Lib.hid (below_blk hV hN.out)
    replace hB := Lib.hid (hB.out.trans (hV.mono hB.out.size))
    clear hV
    have y0 := cell_of hN.out 0 _ rfl
    have y1 := cell_of hN.out 1 _ rfl
    have y2 := cell_of hN.out 2 _ rfl
    have y3 := cell_of hN.out 3 _ rfl
    go_wp2_with fail
    clear y0 y1 y2 y3
    refine (c2 _).out.mono ?_
    rintro e V ⟨rfl, hV⟩
    replace hN := Lib.hid (below_blk hV hN.out)
    replace hB := Lib.hid (hB.out.trans (hV.mono hB.out.size))
    clear hV
    have y0 := cell_of hN.out 0 _ rfl
    have y1 := cell_of hN.out 1 _ rfl
    have y2 := cell_of hN.out 2 _ rfl
    have y3 := cell_of hN.out 3 _ rfl
    go_wp2_with fail
    clear y0 y1 y2 y3
    refine (c3 _ hB.out).out.mono ?_
    rintro e V3 ⟨rfl, hV⟩
    replace hN := Lib.hid (below_blk hV hN.out)
    replace hB := Lib.hid (hB.out.trans (hV.mono hB.out.size))
    clear hV c1 c2 c3
    have y0 := fun o => cell_past (cell_of hN.out 0 _ rfl) o
    have y1 := fun o => cell_past (cell_of hN.out 1 _ rfl) o
    have y2 := fun o => cell_past (cell_of hN.out 2 _ rfl) o
    have y3 := fun o => cell_past (cell_of hN.out 3 _ rfl) o
    go_wp2_with fail
    refine (hk.out _ (hB.out.alloc hB.out.size _)).mono ?_
    rintro e V9 ⟨rfl, hV⟩
    replace hB := Lib.hid ((hB.out.alloc hB.out.size _).trans (hV.mono (hB.out.alloc hB.out.size _).size))
    clear hV
    go_wp2
    go_ret
    exact ⟨by simp, hB.out⟩
end Go.Proofs.YtbhienpbfidgjaaGreatDoor
