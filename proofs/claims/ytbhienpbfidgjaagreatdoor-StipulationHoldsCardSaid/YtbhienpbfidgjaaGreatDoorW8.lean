/- The great law on stipulations, walked. Conditions: the library as said; the tables lie in memory. -/
import Derived.Test.YtbhienpbfidgjaaGreatDoorT10
set_option linter.unusedVariables false
set_option linter.unusedSimpArgs false
namespace Go.Proofs.YtbhienpbfidgjaaGreatDoor
open Go.RowKit
theorem plies_bd {s : Stip} (hv : s.valid = true) : 1 ≤ s.plies ∧ s.plies ≤ 41 := by
  obtain ⟨p1, p2, g, m1, m2, hh⟩ := Stip.of_valid hv
  unfold Stip.plies
  split
  · omega
  · split <;> omega
theorem giver_odd {s : Stip} (h : s.plies % 2 = 1) (b : Bool) : s.giver b = b := by
  unfold Stip.giver
  rw [h]
  cases b <;> rfl
theorem giver_even {s : Stip} (h : s.plies % 2 = 0) (b : Bool) : s.giver b = !b := by
  unfold Stip.giver
  rw [h]
  cases b <;> rfl
theorem next_valid {s : Stip} (hv : s.valid = true) (h1 : s.moves ≠ 1) : ({ s with moves := s.moves - 1 } : Stip).valid = true := by
  obtain ⟨p1, p2, g, m1, m2, hh⟩ := Stip.of_valid hv
  unfold Stip.valid at hv ⊢
  simp only [Bool.and_eq_true, decide_eq_true_eq] at hv ⊢
  refine ⟨⟨⟨⟨⟨hv.1.1.1.1.1, hv.1.1.1.1.2⟩, hv.1.1.1.2⟩, ?_⟩, ?_⟩, hv.2⟩ <;> omega
theorem next_plies (s : Stip) : ({ s with moves := s.moves - 1 } : Stip).plies = s.plies - 2 := by
  unfold Stip.plies
  dsimp only
  split
  · omega
  · split <;> omega
theorem play_even {s : Stip} (hv : s.valid = true) (h : s.play = 3 ∨ s.play = 4) : s.plies % 2 = 0 := by
  obtain ⟨p1, p2, g, m1, m2, hh⟩ := Stip.of_valid hv
  unfold Stip.plies
  cases hx : s.half
  · rw [if_neg (by simp), if_neg (by omega)]
    omega
  · rw [hx] at hh
    simp at hh
    omega
set_option maxRecDepth 100000 in
set_option maxHeartbeats 4000000 in
theorem holds_law (L : Libs) (w : World) (hE : Env w) (s : Stip) (b : Bool) (q : Pos) (po : Option Addr) (cap : Nat) (hS : SlcAt w po q.ps) (hl1 : q.ps.length ≤ cap) (hl2 : cap ≤ 9223372036854775807) (hcs : 0 ≤ q.castle ∧ q.castle ≤ 255) :
    Pure 15 #[s.v, .bool b, .agg (q.cells po cap)] w (.bool true) := by
  have hk := Lib.hid (fun W (hW : Below w.heap.size w W) => known_c L W (hE.below hW))
  cases hv : s.valid
  · have c1 := fun W => Lib.hid ((spliesOf_c W s).of_eq (show _ = Value.tuple #[.int .i64 0, .int .i64 2] by unfold Stip.pliesV; rw [hv]; rfl))
    have c2 := fun W => Lib.hid ((svalid_c W s).of_eq (show _ = Value.bool false by rw [hv]))
    clear hE L hS hl2 hcs hv
    obtain ⟨p, g, m, h⟩ := s
    obtain ⟨f, r, ps, bl, ca, pa, ha, fu⟩ := q
    unfold Stip.v Pos.cells at *
    dsimp only at *
    replace hl1 := Lib.hid hl1
    unfold Pure
    go_enter Tryz.func15, Tryz.ntmps15
    go_wp2_with fail
    have hN := Lib.hid (blk_alloc (blk_new (w := w) rfl (.cells #[.int .i64 p, .int .i64 g, .int .i64 m, .bool h] 54)) (.cells #[.int .i64 f, .int .i64 r, .slice po ps.length cap, .bool bl, .int .u8 ca, .int .i64 pa, .int .i64 ha, .int .i64 fu] 26))
    have hM := Lib.hid (blk_new (w := w.alloc (.cells #[.int .i64 p, .int .i64 g, .int .i64 m, .bool h] 54)) rfl (.cells #[.int .i64 f, .int .i64 r, .slice po ps.length cap, .bool bl, .int .u8 ca, .int .i64 pa, .int .i64 ha, .int .i64 fu] 26))
    have hB := Lib.hid (((Below.refl w.heap.size w).alloc (Nat.le_refl _) (.cells #[.int .i64 p, .int .i64 g, .int .i64 m, .bool h] 54)).alloc (by simp) (.cells #[.int .i64 f, .int .i64 r, .slice po ps.length cap, .bool bl, .int .u8 ca, .int .i64 pa, .int .i64 ha, .int .i64 fu] 26))
    rw [show (w.alloc (.cells #[.int .i64 p, .int .i64 g, .int .i64 m, .bool h] 54)).heap.size = w.heap.size + 1 from by simp] at hM
    obtain ⟨G, hG⟩ : ∃ G, w.heap.size = G := ⟨_, rfl⟩
    obtain ⟨G2, hG2⟩ : ∃ G2, G + 1 = G2 := ⟨_, rfl⟩
    obtain ⟨V0, hV0⟩ : ∃ V0, (w.alloc (.cells #[.int .i64 p, .int .i64 g, .int .i64 m, .bool h] 54)).alloc (.cells #[.int .i64 f, .int .i64 r, .slice po ps.length cap, .bool bl, .int .u8 ca, .int .i64 pa, .int .i64 ha, .int .i64 fu] 26) = V0 := ⟨_, rfl⟩
    rw [hG, hV0] at hN
    rw [hV0] at hB ⊢
    rw [hG, hG2, hV0] at hM
    rw [hG, hG2]
    clear hG hG2 hV0
    have y0 := cell_of hN.out 0 _ rfl
    have y1 := cell_of hN.out 1 _ rfl
    have y2 := cell_of hN.out 2 _ rfl
    have y3 := cell_of hN.out 3 _ rfl
    have z0 := cell_of hM.out 0 _ rfl
    have z1 := cell_of hM.out 1 _ rfl
    have z2 := cell_of hM.out 2 _ rfl
    have z3 := cell_of hM.out 3 _ rfl
    have z4 := cell_of hM.out 4 _ rfl
    have z5 := cell_of hM.out 5 _ rfl
    have z6 := cell_of hM.out 6 _ rfl
    have z7 := cell_of hM.out 7 _ rfl
    go_wp2_with fail
    clear y0 y1 y2 y3 z0 z1 z2 z3 z4 z5 z6 z7
    refine (c1 _).out.mono ?_
    rintro e V ⟨rfl, hV⟩
    replace hN := Lib.hid (below_blk hV hN.out)
    replace hM := Lib.hid (below_blk hV hM.out)
    replace hB := Lib.hid (hB.out.trans (hV.mono hB.out.size))
    clear hV
    have y0 := cell_of hN.out 0 _ rfl
    have y1 := cell_of hN.out 1 _ rfl
    have y2 := cell_of hN.out 2 _ rfl
    have y3 := cell_of hN.out 3 _ rfl
    have z0 := cell_of hM.out 0 _ rfl
    have z1 := cell_of hM.out 1 _ rfl
    have z2 := cell_of hM.out 2 _ rfl
    have z3 := cell_of hM.out 3 _ rfl
    have z4 := cell_of hM.out 4 _ rfl
    have z5 := cell_of hM.out 5 _ rfl
    have z6 := cell_of hM.out 6 _ rfl
    have z7 := cell_of hM.out 7 _ rfl
    go_wp2_with fail
    clear y0 y1 y2 y3 z0 z1 z2 z3 z4 z5 z6 z7
    refine (c2 _).out.mono ?_
    rintro e V ⟨rfl, hV⟩
    replace hN := Lib.hid (below_blk hV hN.out)
    replace hM := Lib.hid (below_blk hV hM.out)
    replace hB := Lib.hid (hB.out.trans (hV.mono hB.out.size))
    clear hV
    have y0 := cell_of hN.out 0 _ rfl
    have y1 := cell_of hN.out 1 _ rfl
    have y2 := cell_of hN.out 2 _ rfl
    have y3 := cell_of hN.out 3 _ rfl
    have z0 := cell_of hM.out 0 _ rfl
    have z1 := cell_of hM.out 1 _ rfl
    have z2 := cell_of hM.out 2 _ rfl
    have z3 := cell_of hM.out 3 _ rfl
    have z4 := cell_of hM.out 4 _ rfl
    have z5 := cell_of hM.out 5 _ rfl
    have z6 := cell_of hM.out 6 _ rfl
    have z7 := cell_of hM.out 7 _ rfl
    go_wp2_with fail
    clear y0 y1 y2 y3 z0 z1 z2 z3 z4 z5 z6 z7
    refine (hk.out _ (hB.out)).mono ?_
    rintro e V9 ⟨rfl, hV⟩
    replace hB := Lib.hid ((hB.out).trans (hV.mono (hB.out).size))
    clear hV
    go_wp2
    go_ret
    exact ⟨by simp, hB.out⟩
  rcases Nat.lt_or_ge 70 q.ps.length with hl | hl
  · obtain ⟨n, hn⟩ : ∃ n, s.plies = n := ⟨_, rfl⟩
    have c1 := fun W => Lib.hid ((spliesOf_c W s).of_eq (show _ = Value.tuple #[.int .i64 n, .int .i64 0] by unfold Stip.pliesV; rw [hv, hn]; rfl))
    clear hE L hS hl2 hcs hv hn
    obtain ⟨p, g, m, h⟩ := s
    obtain ⟨f, r, ps, bl, ca, pa, ha, fu⟩ := q
    unfold Stip.v Pos.cells at *
    dsimp only at *
    have hl' : (70 < (ps.length : Int)) = True := by simp; omega
    replace hl := Lib.hid hl
    replace hl1 := Lib.hid hl1
    unfold Pure
    go_enter Tryz.func15, Tryz.ntmps15
    go_wp2_with fail
    have hN := Lib.hid (blk_alloc (blk_new (w := w) rfl (.cells #[.int .i64 p, .int .i64 g, .int .i64 m, .bool h] 54)) (.cells #[.int .i64 f, .int .i64 r, .slice po ps.length cap, .bool bl, .int .u8 ca, .int .i64 pa, .int .i64 ha, .int .i64 fu] 26))
    have hM := Lib.hid (blk_new (w := w.alloc (.cells #[.int .i64 p, .int .i64 g, .int .i64 m, .bool h] 54)) rfl (.cells #[.int .i64 f, .int .i64 r, .slice po ps.length cap, .bool bl, .int .u8 ca, .int .i64 pa, .int .i64 ha, .int .i64 fu] 26))
    have hB := Lib.hid (((Below.refl w.heap.size w).alloc (Nat.le_refl _) (.cells #[.int .i64 p, .int .i64 g, .int .i64 m, .bool h] 54)).alloc (by simp) (.cells #[.int .i64 f, .int .i64 r, .slice po ps.length cap, .bool bl, .int .u8 ca, .int .i64 pa, .int .i64 ha, .int .i64 fu] 26))
    rw [show (w.alloc (.cells #[.int .i64 p, .int .i64 g, .int .i64 m, .bool h] 54)).heap.size = w.heap.size + 1 from by simp] at hM
    obtain ⟨G, hG⟩ : ∃ G, w.heap.size = G := ⟨_, rfl⟩
    obtain ⟨G2, hG2⟩ : ∃ G2, G + 1 = G2 := ⟨_, rfl⟩
    obtain ⟨V0, hV0⟩ : ∃ V0, (w.alloc (.cells #[.int .i64 p, .int .i64 g, .int .i64 m, .bool h] 54)).alloc (.cells #[.int .i64 f, .int .i64 r, .slice po ps.length cap, .bool bl, .int .u8 ca, .int .i64 pa, .int .i64 ha, .int .i64 fu] 26) = V0 := ⟨_, rfl⟩
    rw [hG, hV0] at hN
    rw [hV0] at hB ⊢
    rw [hG, hG2, hV0] at hM
    rw [hG, hG2]
    clear hG hG2 hV0
    have y0 := cell_of hN.out 0 _ rfl
    have y1 := cell_of hN.out 1 _ rfl
    have y2 := cell_of hN.out 2 _ rfl
    have y3 := cell_of hN.out 3 _ rfl
    have z0 := cell_of hM.out 0 _ rfl
    have z1 := cell_of hM.out 1 _ rfl
    have z2 := cell_of hM.out 2 _ rfl
    have z3 := cell_of hM.out 3 _ rfl
    have z4 := cell_of hM.out 4 _ rfl
    have z5 := cell_of hM.out 5 _ rfl
    have z6 := cell_of hM.out 6 _ rfl
    have z7 := cell_of hM.out 7 _ rfl
    go_wp2_with fail
    clear y0 y1 y2 y3 z0 z1 z2 z3 z4 z5 z6 z7
    refine (c1 _).out.mono ?_
    rintro e V ⟨rfl, hV⟩
    replace hN := Lib.hid (below_blk hV hN.out)
    replace hM := Lib.hid (below_blk hV hM.out)
    replace hB := Lib.hid (hB.out.trans (hV.mono hB.out.size))
    clear hV
    have y0 := cell_of hN.out 0 _ rfl
    have y1 := cell_of hN.out 1 _ rfl
    have y2 := cell_of hN.out 2 _ rfl
    have y3 := cell_of hN.out 3 _ rfl
    have z0 := cell_of hM.out 0 _ rfl
    have z1 := cell_of hM.out 1 _ rfl
    have z2 := cell_of hM.out 2 _ rfl
    have z3 := cell_of hM.out 3 _ rfl
    have z4 := cell_of hM.out 4 _ rfl
    have z5 := cell_of hM.out 5 _ rfl
    have z6 := cell_of hM.out 6 _ rfl
    have z7 := cell_of hM.out 7 _ rfl
    go_wp2_with fail
    clear y0 y1 y2 y3 z0 z1 z2 z3 z4 z5 z6 z7
    refine (hk.out _ (hB.out)).mono ?_
    rintro e V9 ⟨rfl, hV⟩
    replace hB := Lib.hid ((hB.out).trans (hV.mono (hB.out).size))
    clear hV
    go_wp2
    go_ret
    exact ⟨by simp, hB.out⟩
  · have hP : PosAt w q po cap := ⟨hS, by omega, hl1, hl2, hcs, hE.rays⟩
    obtain ⟨n, hn⟩ : ∃ n, s.plies = n := ⟨_, rfl⟩
    have hbd := plies_bd hv
    rw [hn] at hbd
    have c1 := fun W => Lib.hid ((spliesOf_c W s).of_eq (show _ = Value.tuple #[.int .i64 n, .int .i64 0] by unfold Stip.pliesV; rw [hv, hn]; rfl))
    have c2 := fun W x => Lib.hid ((sgiver_c W s x).of_eq (show _ = Value.tuple #[.bool (s.giver x), .int .i64 0] by unfold Stip.giverV; rw [hv]; rfl))
    have c3 := fun W => Lib.hid ((svalid_c W s).of_eq (show _ = Value.bool true by rw [hv]))
    have c4 := fun W => Lib.hid (snext_c W s)
    have c5 := fun W (h1 : s.moves ≠ 1) => Lib.hid ((spliesOf_c W { s with moves := s.moves - 1 }).of_eq (show _ = Value.tuple #[.int .i64 (n - 2), .int .i64 0] by unfold Stip.pliesV; rw [next_valid hv h1, next_plies, hn]; rfl))
    have c6 := fun W x (h1 : s.moves ≠ 1) => Lib.hid ((sgiver_c W { s with moves := s.moves - 1 } x).of_eq (show _ = Value.tuple #[.bool (s.giver x), .int .i64 0] by
      unfold Stip.giverV
      rw [next_valid hv h1]
      unfold Stip.giver
      rw [next_plies, show (s.plies - 2) % 2 = s.plies % 2 by omega]
      rfl))
    have c7 := Lib.hid (fun W (hW : Below w.heap.size w W) => (usual_c W s q po cap (hP.below hW) (hE.below hW).full).of_eq (show _ = (if q.valid = true then Value.tuple #[.bool (s.usual q.black), .int .i64 0] else .tuple #[.bool false, .int .i64 2]) by unfold Stip.usualV; rw [hv]; rfl))
    have c8 := Lib.hid (fun W (hW : Below w.heap.size w W) => valid_c W q po cap (hP.below hW) (hE.below hW).full)
    have hus : s.usual q.black = true → s.giver q.black = decide (s.play = 3 ∨ s.play = 4) := by
      unfold Stip.usual
      split
      · rename_i h
        rw [giver_even (play_even hv h)]
        intro hh
        simp [hh, h]
      · rename_i h
        intro hh
        simp [h]
        simpa using hh
    obtain ⟨u, hu⟩ : ∃ u, q.valid = u := ⟨_, rfl⟩
    obtain ⟨us, hus2⟩ : ∃ us, s.usual q.black = us := ⟨_, rfl⟩
    obtain ⟨d, hd⟩ : ∃ d, s.giver q.black = d := ⟨_, rfl⟩
    have c9 := fun W => c2 W q.black
    rw [hd] at c9 hus
    rw [hus2] at hus
    rw [hu, hus2] at c7
    rw [hu] at c8
    unfold Stip.nextV at c4
    rw [hv] at c4
    simp only [if_true] at c4
    have hab : (n % 2 = 1 ∧ s.giver b = b ∧ s.giver (!b) = !b) ∨ (n % 2 = 0 ∧ s.giver b = !b ∧ s.giver (!b) = b) := by
      rw [← hn]
      rcases (by omega : s.plies % 2 = 1 ∨ s.plies % 2 = 0) with h | h
      · exact .inl ⟨h, giver_odd h _, giver_odd h _⟩
      · exact .inr ⟨h, giver_even h _, by rw [giver_even h]; simp⟩
    obtain ⟨a, ha⟩ : ∃ a, s.giver b = a := ⟨_, rfl⟩
    have c2a := fun W => c2 W b
    have c2b := fun W => c2 W (!b)
    have c6a := fun W => c6 W b
    rw [ha] at c2a c6a hab
    obtain ⟨a2, ha2⟩ : ∃ a2, s.giver (!b) = a2 := ⟨_, rfl⟩
    rw [ha2] at c2b hab
    clear c2 c6 hv hu hus2 hd ha ha2 hE L hS hl2 hcs hP hn
    obtain ⟨p, g, m, h⟩ := s
    obtain ⟨f, r, ps, bl, ca, pa, ha, fu⟩ := q
    unfold Stip.v Pos.cells at *
    dsimp only at *
    have hl' : (70 < (ps.length : Int)) = False := by simp; omega
    have hb1 : (n < 1) = False := by simp; omega
    have hb2 : wrap64 (n - 2) = n - 2 := IntWalk.wrap64_in _ (by omega)
    replace hbd := Lib.hid hbd
    replace hl := Lib.hid hl
    replace hl1 := Lib.hid hl1
    replace hus := Lib.hid hus
    unfold Pure
    go_enter Tryz.func15, Tryz.ntmps15
    go_wp2_with fail
    have hN := Lib.hid (blk_alloc (blk_new (w := w) rfl (.cells #[.int .i64 p, .int .i64 g, .int .i64 m, .bool h] 54)) (.cells #[.int .i64 f, .int .i64 r, .slice po ps.length cap, .bool bl, .int .u8 ca, .int .i64 pa, .int .i64 ha, .int .i64 fu] 26))
    have hM := Lib.hid (blk_new (w := w.alloc (.cells #[.int .i64 p, .int .i64 g, .int .i64 m, .bool h] 54)) rfl (.cells #[.int .i64 f, .int .i64 r, .slice po ps.length cap, .bool bl, .int .u8 ca, .int .i64 pa, .int .i64 ha, .int .i64 fu] 26))
    have hB := Lib.hid (((Below.refl w.heap.size w).alloc (Nat.le_refl _) (.cells #[.int .i64 p, .int .i64 g, .int .i64 m, .bool h] 54)).alloc (by simp) (.cells #[.int .i64 f, .int .i64 r, .slice po ps.length cap, .bool bl, .int .u8 ca, .int .i64 pa, .int .i64 ha, .int .i64 fu] 26))
    rw [show (w.alloc (.cells #[.int .i64 p, .int .i64 g, .int .i64 m, .bool h] 54)).heap.size = w.heap.size + 1 from by simp] at hM
    obtain ⟨G, hG⟩ : ∃ G, w.heap.size = G := ⟨_, rfl⟩
    obtain ⟨G2, hG2⟩ : ∃ G2, G + 1 = G2 := ⟨_, rfl⟩
    obtain ⟨V0, hV0⟩ : ∃ V0, (w.alloc (.cells #[.int .i64 p, .int .i64 g, .int .i64 m, .bool h] 54)).alloc (.cells #[.int .i64 f, .int .i64 r, .slice po ps.length cap, .bool bl, .int .u8 ca, .int .i64 pa, .int .i64 ha, .int .i64 fu] 26) = V0 := ⟨_, rfl⟩
    rw [hG, hV0] at hN
    rw [hV0] at hB ⊢
    rw [hG, hG2, hV0] at hM
    rw [hG, hG2]
    clear hG hG2 hV0
    have y0 := cell_of hN.out 0 _ rfl
    have y1 := cell_of hN.out 1 _ rfl
    have y2 := cell_of hN.out 2 _ rfl
    have y3 := cell_of hN.out 3 _ rfl
    have z0 := cell_of hM.out 0 _ rfl
    have z1 := cell_of hM.out 1 _ rfl
    have z2 := cell_of hM.out 2 _ rfl
    have z3 := cell_of hM.out 3 _ rfl
    have z4 := cell_of hM.out 4 _ rfl
    have z5 := cell_of hM.out 5 _ rfl
    have z6 := cell_of hM.out 6 _ rfl
    have z7 := cell_of hM.out 7 _ rfl
    go_wp2_with fail
    clear y0 y1 y2 y3 z0 z1 z2 z3 z4 z5 z6 z7
    refine (c1 _).out.mono ?_
    rintro e V ⟨rfl, hV⟩
    replace hN := Lib.hid (below_blk hV hN.out)
    replace hM := Lib.hid (below_blk hV hM.out)
    replace hB := Lib.hid (hB.out.trans (hV.mono hB.out.size))
    clear hV
    have y0 := cell_of hN.out 0 _ rfl
    have y1 := cell_of hN.out 1 _ rfl
    have y2 := cell_of hN.out 2 _ rfl
    have y3 := cell_of hN.out 3 _ rfl
    have z0 := cell_of hM.out 0 _ rfl
    have z1 := cell_of hM.out 1 _ rfl
    have z2 := cell_of hM.out 2 _ rfl
    have z3 := cell_of hM.out 3 _ rfl
    have z4 := cell_of hM.out 4 _ rfl
    have z5 := cell_of hM.out 5 _ rfl
    have z6 := cell_of hM.out 6 _ rfl
    have z7 := cell_of hM.out 7 _ rfl
    go_wp2_with fail
    clear y0 y1 y2 y3 z0 z1 z2 z3 z4 z5 z6 z7
    refine (c2a _).out.mono ?_
    rintro e V ⟨rfl, hV⟩
    replace hN := Lib.hid (below_blk hV hN.out)
    replace hM := Lib.hid (below_blk hV hM.out)
    replace hB := Lib.hid (hB.out.trans (hV.mono hB.out.size))
    clear hV
    have y0 := cell_of hN.out 0 _ rfl
    have y1 := cell_of hN.out 1 _ rfl
    have y2 := cell_of hN.out 2 _ rfl
    have y3 := cell_of hN.out 3 _ rfl
    have z0 := cell_of hM.out 0 _ rfl
    have z1 := cell_of hM.out 1 _ rfl
    have z2 := cell_of hM.out 2 _ rfl
    have z3 := cell_of hM.out 3 _ rfl
    have z4 := cell_of hM.out 4 _ rfl
    have z5 := cell_of hM.out 5 _ rfl
    have z6 := cell_of hM.out 6 _ rfl
    have z7 := cell_of hM.out 7 _ rfl
    go_wp2_with fail
    clear y0 y1 y2 y3 z0 z1 z2 z3 z4 z5 z6 z7
    have hm : n.tmod 2 = n % 2 := Int.tmod_eq_emod_of_nonneg (by have := hbd.out.1; omega)
    refine (c2b _).out.mono ?_
    rintro e V ⟨rfl, hV⟩
    replace hN := Lib.hid (below_blk hV hN.out)
    replace hM := Lib.hid (below_blk hV hM.out)
    replace hB := Lib.hid (hB.out.trans (hV.mono hB.out.size))
    clear hV c1 c2a c2b
    have y0 := cell_of hN.out 0 _ rfl
    have y1 := cell_of hN.out 1 _ rfl
    have y2 := cell_of hN.out 2 _ rfl
    have y3 := cell_of hN.out 3 _ rfl
    have z0 := cell_of hM.out 0 _ rfl
    have z1 := cell_of hM.out 1 _ rfl
    have z2 := cell_of hM.out 2 _ rfl
    have z3 := cell_of hM.out 3 _ rfl
    have z4 := cell_of hM.out 4 _ rfl
    have z5 := cell_of hM.out 5 _ rfl
    have z6 := cell_of hM.out 6 _ rfl
    have z7 := cell_of hM.out 7 _ rfl
    rcases hab with ⟨ho, rfl, rfl⟩ | ⟨ho, rfl, rfl⟩
    · cases a
      · go_wp2_with fail
        clear y0 y1 y2 y3 z0 z1 z2 z3 z4 z5 z6 z7
        refine (c3 _).out.mono ?_
        rintro e V ⟨rfl, hV⟩
        replace hN := Lib.hid (below_blk hV hN.out)
        replace hM := Lib.hid (below_blk hV hM.out)
        replace hB := Lib.hid (hB.out.trans (hV.mono hB.out.size))
        clear hV
        have y0 := cell_of hN.out 0 _ rfl
        have y1 := cell_of hN.out 1 _ rfl
        have y2 := cell_of hN.out 2 _ rfl
        have y3 := cell_of hN.out 3 _ rfl
        have z0 := cell_of hM.out 0 _ rfl
        have z1 := cell_of hM.out 1 _ rfl
        have z2 := cell_of hM.out 2 _ rfl
        have z3 := cell_of hM.out 3 _ rfl
        have z4 := cell_of hM.out 4 _ rfl
        have z5 := cell_of hM.out 5 _ rfl
        have z6 := cell_of hM.out 6 _ rfl
        have z7 := cell_of hM.out 7 _ rfl
        go_wp2_with fail
        clear y0 y1 y2 y3 z0 z1 z2 z3 z4 z5 z6 z7
        clear c3
        by_cases h1 : m = 1
        · subst h1
          simp only [if_true] at c4
          refine (c4 _).out.mono ?_
          rintro e V ⟨rfl, hV⟩
          replace hN := Lib.hid (below_blk hV hN.out)
          replace hM := Lib.hid (below_blk hV hM.out)
          replace hB := Lib.hid (hB.out.trans (hV.mono hB.out.size))
          clear hV c4
          have y0 := fun o => cell_past (cell_of hN.out 0 _ rfl) o
          have y1 := fun o => cell_past (cell_of hN.out 1 _ rfl) o
          have y2 := fun o => cell_past (cell_of hN.out 2 _ rfl) o
          have y3 := fun o => cell_past (cell_of hN.out 3 _ rfl) o
          have z0 := fun o => cell_past (cell_of hM.out 0 _ rfl) o
          have z1 := fun o => cell_past (cell_of hM.out 1 _ rfl) o
          have z2 := fun o => cell_past (cell_of hM.out 2 _ rfl) o
          have z3 := fun o => cell_past (cell_of hM.out 3 _ rfl) o
          have z4 := fun o => cell_past (cell_of hM.out 4 _ rfl) o
          have z5 := fun o => cell_past (cell_of hM.out 5 _ rfl) o
          have z6 := fun o => cell_past (cell_of hM.out 6 _ rfl) o
          have z7 := fun o => cell_past (cell_of hM.out 7 _ rfl) o
          go_wp2_with fail
          clear y0 y1 y2 y3 z0 z1 z2 z3 z4 z5 z6 z7
          replace hN := Lib.hid (blk_alloc hN.out (.cells #[.int .i64 0, .int .i64 0, .int .i64 0, .bool false] 54))
          replace hM := Lib.hid (blk_alloc hM.out (.cells #[.int .i64 0, .int .i64 0, .int .i64 0, .bool false] 54))
          have hO := Lib.hid (blk_new (w := V) rfl (.cells #[.int .i64 0, .int .i64 0, .int .i64 0, .bool false] 54))
          replace hB := Lib.hid (hB.out.alloc hB.out.size (.cells #[.int .i64 0, .int .i64 0, .int .i64 0, .bool false] 54))
          obtain ⟨G3, hG⟩ : ∃ G3, V.heap.size = G3 := ⟨_, rfl⟩
          obtain ⟨V2, hV2⟩ : ∃ V2, V.alloc (.cells #[.int .i64 0, .int .i64 0, .int .i64 0, .bool false] 54) = V2 := ⟨_, rfl⟩
          rw [hG, hV2] at hO
          rw [hV2] at hN hM hB ⊢
          rw [hG]
          clear hG hV2
          clear c5 c6a hO
          cases u
          · simp only [Bool.false_eq_true, if_false] at c7
            refine (c7.out _ hB.out).mono ?_
            rintro e V ⟨rfl, hV⟩
            replace hN := Lib.hid (below_blk hV hN.out)
            replace hM := Lib.hid (below_blk hV hM.out)
            replace hB := Lib.hid (hB.out.trans (hV.mono hB.out.size))
            clear hV
            have y0 := cell_of hN.out 0 _ rfl
            have y1 := cell_of hN.out 1 _ rfl
            have y2 := cell_of hN.out 2 _ rfl
            have y3 := cell_of hN.out 3 _ rfl
            have z0 := cell_of hM.out 0 _ rfl
            have z1 := cell_of hM.out 1 _ rfl
            have z2 := cell_of hM.out 2 _ rfl
            have z3 := cell_of hM.out 3 _ rfl
            have z4 := cell_of hM.out 4 _ rfl
            have z5 := cell_of hM.out 5 _ rfl
            have z6 := cell_of hM.out 6 _ rfl
            have z7 := cell_of hM.out 7 _ rfl
            go_wp2_with fail
            clear y0 y1 y2 y3 z0 z1 z2 z3 z4 z5 z6 z7
            refine (c8.out _ hB.out).mono ?_
            rintro e V ⟨rfl, hV⟩
            replace hN := Lib.hid (below_blk hV hN.out)
            replace hM := Lib.hid (below_blk hV hM.out)
            replace hB := Lib.hid (hB.out.trans (hV.mono hB.out.size))
            clear hV
            have y0 := cell_of hN.out 0 _ rfl
            have y1 := cell_of hN.out 1 _ rfl
            have y2 := cell_of hN.out 2 _ rfl
            have y3 := cell_of hN.out 3 _ rfl
            have z0 := cell_of hM.out 0 _ rfl
            have z1 := cell_of hM.out 1 _ rfl
            have z2 := cell_of hM.out 2 _ rfl
            have z3 := cell_of hM.out 3 _ rfl
            have z4 := cell_of hM.out 4 _ rfl
            have z5 := cell_of hM.out 5 _ rfl
            have z6 := cell_of hM.out 6 _ rfl
            have z7 := cell_of hM.out 7 _ rfl
            go_wp2_with fail
            clear y0 y1 y2 y3 z0 z1 z2 z3 z4 z5 z6 z7
            refine (hk.out _ (hB.out)).mono ?_
            rintro e V9 ⟨rfl, hV⟩
            replace hB := Lib.hid ((hB.out).trans (hV.mono (hB.out).size))
            clear hV
            go_wp2
            go_ret
            exact ⟨by simp, hB.out⟩
          · simp only [if_true] at c7
            cases us
            · clear hus
              refine (c7.out _ hB.out).mono ?_
              rintro e V ⟨rfl, hV⟩
              replace hN := Lib.hid (below_blk hV hN.out)
              replace hM := Lib.hid (below_blk hV hM.out)
              replace hB := Lib.hid (hB.out.trans (hV.mono hB.out.size))
              clear hV
              have y0 := cell_of hN.out 0 _ rfl
              have y1 := cell_of hN.out 1 _ rfl
              have y2 := cell_of hN.out 2 _ rfl
              have y3 := cell_of hN.out 3 _ rfl
              have z0 := cell_of hM.out 0 _ rfl
              have z1 := cell_of hM.out 1 _ rfl
              have z2 := cell_of hM.out 2 _ rfl
              have z3 := cell_of hM.out 3 _ rfl
              have z4 := cell_of hM.out 4 _ rfl
              have z5 := cell_of hM.out 5 _ rfl
              have z6 := cell_of hM.out 6 _ rfl
              have z7 := cell_of hM.out 7 _ rfl
              go_wp2_with fail
              clear y0 y1 y2 y3 z0 z1 z2 z3 z4 z5 z6 z7
              refine (c9 _).out.mono ?_
              rintro e V ⟨rfl, hV⟩
              replace hN := Lib.hid (below_blk hV hN.out)
              replace hM := Lib.hid (below_blk hV hM.out)
              replace hB := Lib.hid (hB.out.trans (hV.mono hB.out.size))
              clear hV
              have y0 := cell_of hN.out 0 _ rfl
              have y1 := cell_of hN.out 1 _ rfl
              have y2 := cell_of hN.out 2 _ rfl
              have y3 := cell_of hN.out 3 _ rfl
              have z0 := cell_of hM.out 0 _ rfl
              have z1 := cell_of hM.out 1 _ rfl
              have z2 := cell_of hM.out 2 _ rfl
              have z3 := cell_of hM.out 3 _ rfl
              have z4 := cell_of hM.out 4 _ rfl
              have z5 := cell_of hM.out 5 _ rfl
              have z6 := cell_of hM.out 6 _ rfl
              have z7 := cell_of hM.out 7 _ rfl
              go_wp2_with fail
              clear y0 y1 y2 y3 z0 z1 z2 z3 z4 z5 z6 z7
              refine (hk.out _ (hB.out)).mono ?_
              rintro e V9 ⟨rfl, hV⟩
              replace hB := Lib.hid ((hB.out).trans (hV.mono (hB.out).size))
              clear hV
              go_wp2
              go_ret
              exact ⟨by simp, hB.out⟩
            · replace hus := hus.out rfl
              rcases (by omega : p = 3 ∨ p = 4 ∨ (p ≠ 3 ∧ p ≠ 4)) with rfl | rfl | ⟨e3, e4⟩
              · obtain rfl : d = true := by simpa using hus
                clear hus
                refine (c7.out _ hB.out).mono ?_
                rintro e V ⟨rfl, hV⟩
                replace hN := Lib.hid (below_blk hV hN.out)
                replace hM := Lib.hid (below_blk hV hM.out)
                replace hB := Lib.hid (hB.out.trans (hV.mono hB.out.size))
                clear hV
                have y0 := cell_of hN.out 0 _ rfl
                have y1 := cell_of hN.out 1 _ rfl
                have y2 := cell_of hN.out 2 _ rfl
                have y3 := cell_of hN.out 3 _ rfl
                have z0 := cell_of hM.out 0 _ rfl
                have z1 := cell_of hM.out 1 _ rfl
                have z2 := cell_of hM.out 2 _ rfl
                have z3 := cell_of hM.out 3 _ rfl
                have z4 := cell_of hM.out 4 _ rfl
                have z5 := cell_of hM.out 5 _ rfl
                have z6 := cell_of hM.out 6 _ rfl
                have z7 := cell_of hM.out 7 _ rfl
                go_wp2_with fail
                clear y0 y1 y2 y3 z0 z1 z2 z3 z4 z5 z6 z7
                refine (c9 _).out.mono ?_
                rintro e V ⟨rfl, hV⟩
                replace hN := Lib.hid (below_blk hV hN.out)
                replace hM := Lib.hid (below_blk hV hM.out)
                replace hB := Lib.hid (hB.out.trans (hV.mono hB.out.size))
                clear hV
                have y0 := cell_of hN.out 0 _ rfl
                have y1 := cell_of hN.out 1 _ rfl
                have y2 := cell_of hN.out 2 _ rfl
                have y3 := cell_of hN.out 3 _ rfl
                have z0 := cell_of hM.out 0 _ rfl
                have z1 := cell_of hM.out 1 _ rfl
                have z2 := cell_of hM.out 2 _ rfl
                have z3 := cell_of hM.out 3 _ rfl
                have z4 := cell_of hM.out 4 _ rfl
                have z5 := cell_of hM.out 5 _ rfl
                have z6 := cell_of hM.out 6 _ rfl
                have z7 := cell_of hM.out 7 _ rfl
                go_wp2_with fail
                clear y0 y1 y2 y3 z0 z1 z2 z3 z4 z5 z6 z7
                refine (hk.out _ (hB.out)).mono ?_
                rintro e V9 ⟨rfl, hV⟩
                replace hB := Lib.hid ((hB.out).trans (hV.mono (hB.out).size))
                clear hV
                go_wp2
                go_ret
                exact ⟨by simp, hB.out⟩
              · obtain rfl : d = true := by simpa using hus
                clear hus
                refine (c7.out _ hB.out).mono ?_
                rintro e V ⟨rfl, hV⟩
                replace hN := Lib.hid (below_blk hV hN.out)
                replace hM := Lib.hid (below_blk hV hM.out)
                replace hB := Lib.hid (hB.out.trans (hV.mono hB.out.size))
                clear hV
                have y0 := cell_of hN.out 0 _ rfl
                have y1 := cell_of hN.out 1 _ rfl
                have y2 := cell_of hN.out 2 _ rfl
                have y3 := cell_of hN.out 3 _ rfl
                have z0 := cell_of hM.out 0 _ rfl
                have z1 := cell_of hM.out 1 _ rfl
                have z2 := cell_of hM.out 2 _ rfl
                have z3 := cell_of hM.out 3 _ rfl
                have z4 := cell_of hM.out 4 _ rfl
                have z5 := cell_of hM.out 5 _ rfl
                have z6 := cell_of hM.out 6 _ rfl
                have z7 := cell_of hM.out 7 _ rfl
                go_wp2_with fail
                clear y0 y1 y2 y3 z0 z1 z2 z3 z4 z5 z6 z7
                refine (c9 _).out.mono ?_
                rintro e V ⟨rfl, hV⟩
                replace hN := Lib.hid (below_blk hV hN.out)
                replace hM := Lib.hid (below_blk hV hM.out)
                replace hB := Lib.hid (hB.out.trans (hV.mono hB.out.size))
                clear hV
                have y0 := cell_of hN.out 0 _ rfl
                have y1 := cell_of hN.out 1 _ rfl
                have y2 := cell_of hN.out 2 _ rfl
                have y3 := cell_of hN.out 3 _ rfl
                have z0 := cell_of hM.out 0 _ rfl
                have z1 := cell_of hM.out 1 _ rfl
                have z2 := cell_of hM.out 2 _ rfl
                have z3 := cell_of hM.out 3 _ rfl
                have z4 := cell_of hM.out 4 _ rfl
                have z5 := cell_of hM.out 5 _ rfl
                have z6 := cell_of hM.out 6 _ rfl
                have z7 := cell_of hM.out 7 _ rfl
                go_wp2_with fail
                clear y0 y1 y2 y3 z0 z1 z2 z3 z4 z5 z6 z7
                refine (hk.out _ (hB.out)).mono ?_
                rintro e V9 ⟨rfl, hV⟩
                replace hB := Lib.hid ((hB.out).trans (hV.mono (hB.out).size))
                clear hV
                go_wp2
                go_ret
                exact ⟨by simp, hB.out⟩
              · obtain rfl : d = false := by simpa [e3, e4] using hus
                clear hus
                have f3 : (p == 3) = false := by simp [e3]
                have f4 : (p == 4) = false := by simp [e4]
                refine (c7.out _ hB.out).mono ?_
                rintro e V ⟨rfl, hV⟩
                replace hN := Lib.hid (below_blk hV hN.out)
                replace hM := Lib.hid (below_blk hV hM.out)
                replace hB := Lib.hid (hB.out.trans (hV.mono hB.out.size))
                clear hV
                have y0 := cell_of hN.out 0 _ rfl
                have y1 := cell_of hN.out 1 _ rfl
                have y2 := cell_of hN.out 2 _ rfl
                have y3 := cell_of hN.out 3 _ rfl
                have z0 := cell_of hM.out 0 _ rfl
                have z1 := cell_of hM.out 1 _ rfl
                have z2 := cell_of hM.out 2 _ rfl
                have z3 := cell_of hM.out 3 _ rfl
                have z4 := cell_of hM.out 4 _ rfl
                have z5 := cell_of hM.out 5 _ rfl
                have z6 := cell_of hM.out 6 _ rfl
                have z7 := cell_of hM.out 7 _ rfl
                go_wp2_with fail
                clear y0 y1 y2 y3 z0 z1 z2 z3 z4 z5 z6 z7
                refine (c9 _).out.mono ?_
                rintro e V ⟨rfl, hV⟩
                replace hN := Lib.hid (below_blk hV hN.out)
                replace hM := Lib.hid (below_blk hV hM.out)
                replace hB := Lib.hid (hB.out.trans (hV.mono hB.out.size))
                clear hV
                have y0 := cell_of hN.out 0 _ rfl
                have y1 := cell_of hN.out 1 _ rfl
                have y2 := cell_of hN.out 2 _ rfl
                have y3 := cell_of hN.out 3 _ rfl
                have z0 := cell_of hM.out 0 _ rfl
                have z1 := cell_of hM.out 1 _ rfl
                have z2 := cell_of hM.out 2 _ rfl
                have z3 := cell_of hM.out 3 _ rfl
                have z4 := cell_of hM.out 4 _ rfl
                have z5 := cell_of hM.out 5 _ rfl
                have z6 := cell_of hM.out 6 _ rfl
                have z7 := cell_of hM.out 7 _ rfl
                go_wp2_with fail
                clear y0 y1 y2 y3 z0 z1 z2 z3 z4 z5 z6 z7
                refine (hk.out _ (hB.out)).mono ?_
                rintro e V9 ⟨rfl, hV⟩
                replace hB := Lib.hid ((hB.out).trans (hV.mono (hB.out).size))
                clear hV
                go_wp2
                go_ret
                exact ⟨by simp, hB.out⟩
        · simp only [h1, if_false] at c4
          replace c5 := fun W => c5 W h1
          replace c6a := fun W => c6a W h1
          refine (c4 _).out.mono ?_
          rintro e V ⟨rfl, hV⟩
          replace hN := Lib.hid (below_blk hV hN.out)
          replace hM := Lib.hid (below_blk hV hM.out)
          replace hB := Lib.hid (hB.out.trans (hV.mono hB.out.size))
          clear hV c4
          have y0 := fun o => cell_past (cell_of hN.out 0 _ rfl) o
          have y1 := fun o => cell_past (cell_of hN.out 1 _ rfl) o
          have y2 := fun o => cell_past (cell_of hN.out 2 _ rfl) o
          have y3 := fun o => cell_past (cell_of hN.out 3 _ rfl) o
          have z0 := fun o => cell_past (cell_of hM.out 0 _ rfl) o
          have z1 := fun o => cell_past (cell_of hM.out 1 _ rfl) o
          have z2 := fun o => cell_past (cell_of hM.out 2 _ rfl) o
          have z3 := fun o => cell_past (cell_of hM.out 3 _ rfl) o
          have z4 := fun o => cell_past (cell_of hM.out 4 _ rfl) o
          have z5 := fun o => cell_past (cell_of hM.out 5 _ rfl) o
          have z6 := fun o => cell_past (cell_of hM.out 6 _ rfl) o
          have z7 := fun o => cell_past (cell_of hM.out 7 _ rfl) o
          go_wp2_with fail
          clear y0 y1 y2 y3 z0 z1 z2 z3 z4 z5 z6 z7
          replace hN := Lib.hid (blk_alloc hN.out (.cells #[.int .i64 p, .int .i64 g, .int .i64 (m - 1), .bool h] 54))
          replace hM := Lib.hid (blk_alloc hM.out (.cells #[.int .i64 p, .int .i64 g, .int .i64 (m - 1), .bool h] 54))
          have hO := Lib.hid (blk_new (w := V) rfl (.cells #[.int .i64 p, .int .i64 g, .int .i64 (m - 1), .bool h] 54))
          replace hB := Lib.hid (hB.out.alloc hB.out.size (.cells #[.int .i64 p, .int .i64 g, .int .i64 (m - 1), .bool h] 54))
          obtain ⟨G3, hG⟩ : ∃ G3, V.heap.size = G3 := ⟨_, rfl⟩
          obtain ⟨V2, hV2⟩ : ∃ V2, V.alloc (.cells #[.int .i64 p, .int .i64 g, .int .i64 (m - 1), .bool h] 54) = V2 := ⟨_, rfl⟩
          rw [hG, hV2] at hO
          rw [hV2] at hN hM hB ⊢
          rw [hG]
          clear hG hV2
          refine (c5 _).out.mono ?_
          rintro e V ⟨rfl, hV⟩
          replace hN := Lib.hid (below_blk hV hN.out)
          replace hM := Lib.hid (below_blk hV hM.out)
          replace hO := Lib.hid (below_blk hV hO.out)
          replace hB := Lib.hid (hB.out.trans (hV.mono hB.out.size))
          clear hV
          have y0 := cell_of hN.out 0 _ rfl
          have y1 := cell_of hN.out 1 _ rfl
          have y2 := cell_of hN.out 2 _ rfl
          have y3 := cell_of hN.out 3 _ rfl
          have z0 := cell_of hM.out 0 _ rfl
          have z1 := cell_of hM.out 1 _ rfl
          have z2 := cell_of hM.out 2 _ rfl
          have z3 := cell_of hM.out 3 _ rfl
          have z4 := cell_of hM.out 4 _ rfl
          have z5 := cell_of hM.out 5 _ rfl
          have z6 := cell_of hM.out 6 _ rfl
          have z7 := cell_of hM.out 7 _ rfl
          have x0 := cell_of hO.out 0 _ rfl
          have x1 := cell_of hO.out 1 _ rfl
          have x2 := cell_of hO.out 2 _ rfl
          have x3 := cell_of hO.out 3 _ rfl
          go_wp2_with fail
          clear y0 y1 y2 y3 z0 z1 z2 z3 z4 z5 z6 z7 x0 x1 x2 x3
          refine (c6a _).out.mono ?_
          rintro e V ⟨rfl, hV⟩
          replace hN := Lib.hid (below_blk hV hN.out)
          replace hM := Lib.hid (below_blk hV hM.out)
          replace hO := Lib.hid (below_blk hV hO.out)
          replace hB := Lib.hid (hB.out.trans (hV.mono hB.out.size))
          clear hV
          have y0 := cell_of hN.out 0 _ rfl
          have y1 := cell_of hN.out 1 _ rfl
          have y2 := cell_of hN.out 2 _ rfl
          have y3 := cell_of hN.out 3 _ rfl
          have z0 := cell_of hM.out 0 _ rfl
          have z1 := cell_of hM.out 1 _ rfl
          have z2 := cell_of hM.out 2 _ rfl
          have z3 := cell_of hM.out 3 _ rfl
          have z4 := cell_of hM.out 4 _ rfl
          have z5 := cell_of hM.out 5 _ rfl
          have z6 := cell_of hM.out 6 _ rfl
          have z7 := cell_of hM.out 7 _ rfl
          have x0 := cell_of hO.out 0 _ rfl
          have x1 := cell_of hO.out 1 _ rfl
          have x2 := cell_of hO.out 2 _ rfl
          have x3 := cell_of hO.out 3 _ rfl
          go_wp2_with fail
          clear y0 y1 y2 y3 z0 z1 z2 z3 z4 z5 z6 z7 x0 x1 x2 x3
          clear c5 c6a hO
          cases u
          · simp only [Bool.false_eq_true, if_false] at c7
            refine (c7.out _ hB.out).mono ?_
            rintro e V ⟨rfl, hV⟩
            replace hN := Lib.hid (below_blk hV hN.out)
            replace hM := Lib.hid (below_blk hV hM.out)
            replace hB := Lib.hid (hB.out.trans (hV.mono hB.out.size))
            clear hV
            have y0 := cell_of hN.out 0 _ rfl
            have y1 := cell_of hN.out 1 _ rfl
            have y2 := cell_of hN.out 2 _ rfl
            have y3 := cell_of hN.out 3 _ rfl
            have z0 := cell_of hM.out 0 _ rfl
            have z1 := cell_of hM.out 1 _ rfl
            have z2 := cell_of hM.out 2 _ rfl
            have z3 := cell_of hM.out 3 _ rfl
            have z4 := cell_of hM.out 4 _ rfl
            have z5 := cell_of hM.out 5 _ rfl
            have z6 := cell_of hM.out 6 _ rfl
            have z7 := cell_of hM.out 7 _ rfl
            go_wp2_with fail
            clear y0 y1 y2 y3 z0 z1 z2 z3 z4 z5 z6 z7
            refine (c8.out _ hB.out).mono ?_
            rintro e V ⟨rfl, hV⟩
            replace hN := Lib.hid (below_blk hV hN.out)
            replace hM := Lib.hid (below_blk hV hM.out)
            replace hB := Lib.hid (hB.out.trans (hV.mono hB.out.size))
            clear hV
            have y0 := cell_of hN.out 0 _ rfl
            have y1 := cell_of hN.out 1 _ rfl
            have y2 := cell_of hN.out 2 _ rfl
            have y3 := cell_of hN.out 3 _ rfl
            have z0 := cell_of hM.out 0 _ rfl
            have z1 := cell_of hM.out 1 _ rfl
            have z2 := cell_of hM.out 2 _ rfl
            have z3 := cell_of hM.out 3 _ rfl
            have z4 := cell_of hM.out 4 _ rfl
            have z5 := cell_of hM.out 5 _ rfl
            have z6 := cell_of hM.out 6 _ rfl
            have z7 := cell_of hM.out 7 _ rfl
            go_wp2_with fail
            clear y0 y1 y2 y3 z0 z1 z2 z3 z4 z5 z6 z7
            refine (hk.out _ (hB.out)).mono ?_
            rintro e V9 ⟨rfl, hV⟩
            replace hB := Lib.hid ((hB.out).trans (hV.mono (hB.out).size))
            clear hV
            go_wp2
            go_ret
            exact ⟨by simp, hB.out⟩
          · simp only [if_true] at c7
            cases us
            · clear hus
              refine (c7.out _ hB.out).mono ?_
              rintro e V ⟨rfl, hV⟩
              replace hN := Lib.hid (below_blk hV hN.out)
              replace hM := Lib.hid (below_blk hV hM.out)
              replace hB := Lib.hid (hB.out.trans (hV.mono hB.out.size))
              clear hV
              have y0 := cell_of hN.out 0 _ rfl
              have y1 := cell_of hN.out 1 _ rfl
              have y2 := cell_of hN.out 2 _ rfl
              have y3 := cell_of hN.out 3 _ rfl
              have z0 := cell_of hM.out 0 _ rfl
              have z1 := cell_of hM.out 1 _ rfl
              have z2 := cell_of hM.out 2 _ rfl
              have z3 := cell_of hM.out 3 _ rfl
              have z4 := cell_of hM.out 4 _ rfl
              have z5 := cell_of hM.out 5 _ rfl
              have z6 := cell_of hM.out 6 _ rfl
              have z7 := cell_of hM.out 7 _ rfl
              go_wp2_with fail
              clear y0 y1 y2 y3 z0 z1 z2 z3 z4 z5 z6 z7
              refine (c9 _).out.mono ?_
              rintro e V ⟨rfl, hV⟩
              replace hN := Lib.hid (below_blk hV hN.out)
              replace hM := Lib.hid (below_blk hV hM.out)
              replace hB := Lib.hid (hB.out.trans (hV.mono hB.out.size))
              clear hV
              have y0 := cell_of hN.out 0 _ rfl
              have y1 := cell_of hN.out 1 _ rfl
              have y2 := cell_of hN.out 2 _ rfl
              have y3 := cell_of hN.out 3 _ rfl
              have z0 := cell_of hM.out 0 _ rfl
              have z1 := cell_of hM.out 1 _ rfl
              have z2 := cell_of hM.out 2 _ rfl
              have z3 := cell_of hM.out 3 _ rfl
              have z4 := cell_of hM.out 4 _ rfl
              have z5 := cell_of hM.out 5 _ rfl
              have z6 := cell_of hM.out 6 _ rfl
              have z7 := cell_of hM.out 7 _ rfl
              go_wp2_with fail
              clear y0 y1 y2 y3 z0 z1 z2 z3 z4 z5 z6 z7
              refine (hk.out _ (hB.out)).mono ?_
              rintro e V9 ⟨rfl, hV⟩
              replace hB := Lib.hid ((hB.out).trans (hV.mono (hB.out).size))
              clear hV
              go_wp2
              go_ret
              exact ⟨by simp, hB.out⟩
            · replace hus := hus.out rfl
              rcases (by omega : p = 3 ∨ p = 4 ∨ (p ≠ 3 ∧ p ≠ 4)) with rfl | rfl | ⟨e3, e4⟩
              · obtain rfl : d = true := by simpa using hus
                clear hus
                refine (c7.out _ hB.out).mono ?_
                rintro e V ⟨rfl, hV⟩
                replace hN := Lib.hid (below_blk hV hN.out)
                replace hM := Lib.hid (below_blk hV hM.out)
                replace hB := Lib.hid (hB.out.trans (hV.mono hB.out.size))
                clear hV
                have y0 := cell_of hN.out 0 _ rfl
                have y1 := cell_of hN.out 1 _ rfl
                have y2 := cell_of hN.out 2 _ rfl
                have y3 := cell_of hN.out 3 _ rfl
                have z0 := cell_of hM.out 0 _ rfl
                have z1 := cell_of hM.out 1 _ rfl
                have z2 := cell_of hM.out 2 _ rfl
                have z3 := cell_of hM.out 3 _ rfl
                have z4 := cell_of hM.out 4 _ rfl
                have z5 := cell_of hM.out 5 _ rfl
                have z6 := cell_of hM.out 6 _ rfl
                have z7 := cell_of hM.out 7 _ rfl
                go_wp2_with fail
                clear y0 y1 y2 y3 z0 z1 z2 z3 z4 z5 z6 z7
                refine (c9 _).out.mono ?_
                rintro e V ⟨rfl, hV⟩
                replace hN := Lib.hid (below_blk hV hN.out)
                replace hM := Lib.hid (below_blk hV hM.out)
                replace hB := Lib.hid (hB.out.trans (hV.mono hB.out.size))
                clear hV
                have y0 := cell_of hN.out 0 _ rfl
                have y1 := cell_of hN.out 1 _ rfl
                have y2 := cell_of hN.out 2 _ rfl
                have y3 := cell_of hN.out 3 _ rfl
                have z0 := cell_of hM.out 0 _ rfl
                have z1 := cell_of hM.out 1 _ rfl
                have z2 := cell_of hM.out 2 _ rfl
                have z3 := cell_of hM.out 3 _ rfl
                have z4 := cell_of hM.out 4 _ rfl
                have z5 := cell_of hM.out 5 _ rfl
                have z6 := cell_of hM.out 6 _ rfl
                have z7 := cell_of hM.out 7 _ rfl
                go_wp2_with fail
                clear y0 y1 y2 y3 z0 z1 z2 z3 z4 z5 z6 z7
                refine (hk.out _ (hB.out)).mono ?_
                rintro e V9 ⟨rfl, hV⟩
                replace hB := Lib.hid ((hB.out).trans (hV.mono (hB.out).size))
                clear hV
                go_wp2
                go_ret
                exact ⟨by simp, hB.out⟩
              · obtain rfl : d = true := by simpa using hus
                clear hus
                refine (c7.out _ hB.out).mono ?_
                rintro e V ⟨rfl, hV⟩
                replace hN := Lib.hid (below_blk hV hN.out)
                replace hM := Lib.hid (below_blk hV hM.out)
                replace hB := Lib.hid (hB.out.trans (hV.mono hB.out.size))
                clear hV
                have y0 := cell_of hN.out 0 _ rfl
                have y1 := cell_of hN.out 1 _ rfl
                have y2 := cell_of hN.out 2 _ rfl
                have y3 := cell_of hN.out 3 _ rfl
                have z0 := cell_of hM.out 0 _ rfl
                have z1 := cell_of hM.out 1 _ rfl
                have z2 := cell_of hM.out 2 _ rfl
                have z3 := cell_of hM.out 3 _ rfl
                have z4 := cell_of hM.out 4 _ rfl
                have z5 := cell_of hM.out 5 _ rfl
                have z6 := cell_of hM.out 6 _ rfl
                have z7 := cell_of hM.out 7 _ rfl
                go_wp2_with fail
                clear y0 y1 y2 y3 z0 z1 z2 z3 z4 z5 z6 z7
                refine (c9 _).out.mono ?_
                rintro e V ⟨rfl, hV⟩
                replace hN := Lib.hid (below_blk hV hN.out)
                replace hM := Lib.hid (below_blk hV hM.out)
                replace hB := Lib.hid (hB.out.trans (hV.mono hB.out.size))
                clear hV
                have y0 := cell_of hN.out 0 _ rfl
                have y1 := cell_of hN.out 1 _ rfl
                have y2 := cell_of hN.out 2 _ rfl
                have y3 := cell_of hN.out 3 _ rfl
                have z0 := cell_of hM.out 0 _ rfl
                have z1 := cell_of hM.out 1 _ rfl
                have z2 := cell_of hM.out 2 _ rfl
                have z3 := cell_of hM.out 3 _ rfl
                have z4 := cell_of hM.out 4 _ rfl
                have z5 := cell_of hM.out 5 _ rfl
                have z6 := cell_of hM.out 6 _ rfl
                have z7 := cell_of hM.out 7 _ rfl
                go_wp2_with fail
                clear y0 y1 y2 y3 z0 z1 z2 z3 z4 z5 z6 z7
                refine (hk.out _ (hB.out)).mono ?_
                rintro e V9 ⟨rfl, hV⟩
                replace hB := Lib.hid ((hB.out).trans (hV.mono (hB.out).size))
                clear hV
                go_wp2
                go_ret
                exact ⟨by simp, hB.out⟩
              · obtain rfl : d = false := by simpa [e3, e4] using hus
                clear hus
                have f3 : (p == 3) = false := by simp [e3]
                have f4 : (p == 4) = false := by simp [e4]
                refine (c7.out _ hB.out).mono ?_
                rintro e V ⟨rfl, hV⟩
                replace hN := Lib.hid (below_blk hV hN.out)
                replace hM := Lib.hid (below_blk hV hM.out)
                replace hB := Lib.hid (hB.out.trans (hV.mono hB.out.size))
                clear hV
                have y0 := cell_of hN.out 0 _ rfl
                have y1 := cell_of hN.out 1 _ rfl
                have y2 := cell_of hN.out 2 _ rfl
                have y3 := cell_of hN.out 3 _ rfl
                have z0 := cell_of hM.out 0 _ rfl
                have z1 := cell_of hM.out 1 _ rfl
                have z2 := cell_of hM.out 2 _ rfl
                have z3 := cell_of hM.out 3 _ rfl
                have z4 := cell_of hM.out 4 _ rfl
                have z5 := cell_of hM.out 5 _ rfl
                have z6 := cell_of hM.out 6 _ rfl
                have z7 := cell_of hM.out 7 _ rfl
                go_wp2_with fail
                clear y0 y1 y2 y3 z0 z1 z2 z3 z4 z5 z6 z7
                refine (c9 _).out.mono ?_
                rintro e V ⟨rfl, hV⟩
                replace hN := Lib.hid (below_blk hV hN.out)
                replace hM := Lib.hid (below_blk hV hM.out)
                replace hB := Lib.hid (hB.out.trans (hV.mono hB.out.size))
                clear hV
                have y0 := cell_of hN.out 0 _ rfl
                have y1 := cell_of hN.out 1 _ rfl
                have y2 := cell_of hN.out 2 _ rfl
                have y3 := cell_of hN.out 3 _ rfl
                have z0 := cell_of hM.out 0 _ rfl
                have z1 := cell_of hM.out 1 _ rfl
                have z2 := cell_of hM.out 2 _ rfl
                have z3 := cell_of hM.out 3 _ rfl
                have z4 := cell_of hM.out 4 _ rfl
                have z5 := cell_of hM.out 5 _ rfl
                have z6 := cell_of hM.out 6 _ rfl
                have z7 := cell_of hM.out 7 _ rfl
                go_wp2_with fail
                clear y0 y1 y2 y3 z0 z1 z2 z3 z4 z5 z6 z7
                refine (hk.out _ (hB.out)).mono ?_
                rintro e V9 ⟨rfl, hV⟩
                replace hB := Lib.hid ((hB.out).trans (hV.mono (hB.out).size))
                clear hV
                go_wp2
                go_ret
                exact ⟨by simp, hB.out⟩
      · go_wp2_with fail
        clear y0 y1 y2 y3 z0 z1 z2 z3 z4 z5 z6 z7
        refine (c3 _).out.mono ?_
        rintro e V ⟨rfl, hV⟩
        replace hN := Lib.hid (below_blk hV hN.out)
        replace hM := Lib.hid (below_blk hV hM.out)
        replace hB := Lib.hid (hB.out.trans (hV.mono hB.out.size))
        clear hV
        have y0 := cell_of hN.out 0 _ rfl
        have y1 := cell_of hN.out 1 _ rfl
        have y2 := cell_of hN.out 2 _ rfl
        have y3 := cell_of hN.out 3 _ rfl
        have z0 := cell_of hM.out 0 _ rfl
        have z1 := cell_of hM.out 1 _ rfl
        have z2 := cell_of hM.out 2 _ rfl
        have z3 := cell_of hM.out 3 _ rfl
        have z4 := cell_of hM.out 4 _ rfl
        have z5 := cell_of hM.out 5 _ rfl
        have z6 := cell_of hM.out 6 _ rfl
        have z7 := cell_of hM.out 7 _ rfl
        go_wp2_with fail
        clear y0 y1 y2 y3 z0 z1 z2 z3 z4 z5 z6 z7
        clear c3
        by_cases h1 : m = 1
        · subst h1
          simp only [if_true] at c4
          refine (c4 _).out.mono ?_
          rintro e V ⟨rfl, hV⟩
          replace hN := Lib.hid (below_blk hV hN.out)
          replace hM := Lib.hid (below_blk hV hM.out)
          replace hB := Lib.hid (hB.out.trans (hV.mono hB.out.size))
          clear hV c4
          have y0 := fun o => cell_past (cell_of hN.out 0 _ rfl) o
          have y1 := fun o => cell_past (cell_of hN.out 1 _ rfl) o
          have y2 := fun o => cell_past (cell_of hN.out 2 _ rfl) o
          have y3 := fun o => cell_past (cell_of hN.out 3 _ rfl) o
          have z0 := fun o => cell_past (cell_of hM.out 0 _ rfl) o
          have z1 := fun o => cell_past (cell_of hM.out 1 _ rfl) o
          have z2 := fun o => cell_past (cell_of hM.out 2 _ rfl) o
          have z3 := fun o => cell_past (cell_of hM.out 3 _ rfl) o
          have z4 := fun o => cell_past (cell_of hM.out 4 _ rfl) o
          have z5 := fun o => cell_past (cell_of hM.out 5 _ rfl) o
          have z6 := fun o => cell_past (cell_of hM.out 6 _ rfl) o
          have z7 := fun o => cell_past (cell_of hM.out 7 _ rfl) o
          go_wp2_with fail
          clear y0 y1 y2 y3 z0 z1 z2 z3 z4 z5 z6 z7
          replace hN := Lib.hid (blk_alloc hN.out (.cells #[.int .i64 0, .int .i64 0, .int .i64 0, .bool false] 54))
          replace hM := Lib.hid (blk_alloc hM.out (.cells #[.int .i64 0, .int .i64 0, .int .i64 0, .bool false] 54))
          have hO := Lib.hid (blk_new (w := V) rfl (.cells #[.int .i64 0, .int .i64 0, .int .i64 0, .bool false] 54))
          replace hB := Lib.hid (hB.out.alloc hB.out.size (.cells #[.int .i64 0, .int .i64 0, .int .i64 0, .bool false] 54))
          obtain ⟨G3, hG⟩ : ∃ G3, V.heap.size = G3 := ⟨_, rfl⟩
          obtain ⟨V2, hV2⟩ : ∃ V2, V.alloc (.cells #[.int .i64 0, .int .i64 0, .int .i64 0, .bool false] 54) = V2 := ⟨_, rfl⟩
          rw [hG, hV2] at hO
          rw [hV2] at hN hM hB ⊢
          rw [hG]
          clear hG hV2
          clear c5 c6a hO
          cases u
          · simp only [Bool.false_eq_true, if_false] at c7
            refine (c7.out _ hB.out).mono ?_
            rintro e V ⟨rfl, hV⟩
            replace hN := Lib.hid (below_blk hV hN.out)
            replace hM := Lib.hid (below_blk hV hM.out)
            replace hB := Lib.hid (hB.out.trans (hV.mono hB.out.size))
            clear hV
            have y0 := cell_of hN.out 0 _ rfl
            have y1 := cell_of hN.out 1 _ rfl
            have y2 := cell_of hN.out 2 _ rfl
            have y3 := cell_of hN.out 3 _ rfl
            have z0 := cell_of hM.out 0 _ rfl
            have z1 := cell_of hM.out 1 _ rfl
            have z2 := cell_of hM.out 2 _ rfl
            have z3 := cell_of hM.out 3 _ rfl
            have z4 := cell_of hM.out 4 _ rfl
            have z5 := cell_of hM.out 5 _ rfl
            have z6 := cell_of hM.out 6 _ rfl
            have z7 := cell_of hM.out 7 _ rfl
            go_wp2_with fail
            clear y0 y1 y2 y3 z0 z1 z2 z3 z4 z5 z6 z7
            refine (c8.out _ hB.out).mono ?_
            rintro e V ⟨rfl, hV⟩
            replace hN := Lib.hid (below_blk hV hN.out)
            replace hM := Lib.hid (below_blk hV hM.out)
            replace hB := Lib.hid (hB.out.trans (hV.mono hB.out.size))
            clear hV
            have y0 := cell_of hN.out 0 _ rfl
            have y1 := cell_of hN.out 1 _ rfl
            have y2 := cell_of hN.out 2 _ rfl
            have y3 := cell_of hN.out 3 _ rfl
            have z0 := cell_of hM.out 0 _ rfl
            have z1 := cell_of hM.out 1 _ rfl
            have z2 := cell_of hM.out 2 _ rfl
            have z3 := cell_of hM.out 3 _ rfl
            have z4 := cell_of hM.out 4 _ rfl
            have z5 := cell_of hM.out 5 _ rfl
            have z6 := cell_of hM.out 6 _ rfl
            have z7 := cell_of hM.out 7 _ rfl
            go_wp2_with fail
            clear y0 y1 y2 y3 z0 z1 z2 z3 z4 z5 z6 z7
            refine (hk.out _ (hB.out)).mono ?_
            rintro e V9 ⟨rfl, hV⟩
            replace hB := Lib.hid ((hB.out).trans (hV.mono (hB.out).size))
            clear hV
            go_wp2
            go_ret
            exact ⟨by simp, hB.out⟩
          · simp only [if_true] at c7
            cases us
            · clear hus
              refine (c7.out _ hB.out).mono ?_
              rintro e V ⟨rfl, hV⟩
              replace hN := Lib.hid (below_blk hV hN.out)
              replace hM := Lib.hid (below_blk hV hM.out)
              replace hB := Lib.hid (hB.out.trans (hV.mono hB.out.size))
              clear hV
              have y0 := cell_of hN.out 0 _ rfl
              have y1 := cell_of hN.out 1 _ rfl
              have y2 := cell_of hN.out 2 _ rfl
              have y3 := cell_of hN.out 3 _ rfl
              have z0 := cell_of hM.out 0 _ rfl
              have z1 := cell_of hM.out 1 _ rfl
              have z2 := cell_of hM.out 2 _ rfl
              have z3 := cell_of hM.out 3 _ rfl
              have z4 := cell_of hM.out 4 _ rfl
              have z5 := cell_of hM.out 5 _ rfl
              have z6 := cell_of hM.out 6 _ rfl
              have z7 := cell_of hM.out 7 _ rfl
              go_wp2_with fail
              clear y0 y1 y2 y3 z0 z1 z2 z3 z4 z5 z6 z7
              refine (c9 _).out.mono ?_
              rintro e V ⟨rfl, hV⟩
              replace hN := Lib.hid (below_blk hV hN.out)
              replace hM := Lib.hid (below_blk hV hM.out)
              replace hB := Lib.hid (hB.out.trans (hV.mono hB.out.size))
              clear hV
              have y0 := cell_of hN.out 0 _ rfl
              have y1 := cell_of hN.out 1 _ rfl
              have y2 := cell_of hN.out 2 _ rfl
              have y3 := cell_of hN.out 3 _ rfl
              have z0 := cell_of hM.out 0 _ rfl
              have z1 := cell_of hM.out 1 _ rfl
              have z2 := cell_of hM.out 2 _ rfl
              have z3 := cell_of hM.out 3 _ rfl
              have z4 := cell_of hM.out 4 _ rfl
              have z5 := cell_of hM.out 5 _ rfl
              have z6 := cell_of hM.out 6 _ rfl
              have z7 := cell_of hM.out 7 _ rfl
              go_wp2_with fail
              clear y0 y1 y2 y3 z0 z1 z2 z3 z4 z5 z6 z7
              refine (hk.out _ (hB.out)).mono ?_
              rintro e V9 ⟨rfl, hV⟩
              replace hB := Lib.hid ((hB.out).trans (hV.mono (hB.out).size))
              clear hV
              go_wp2
              go_ret
              exact ⟨by simp, hB.out⟩
            · replace hus := hus.out rfl
              rcases (by omega : p = 3 ∨ p = 4 ∨ (p ≠ 3 ∧ p ≠ 4)) with rfl | rfl | ⟨e3, e4⟩
              · obtain rfl : d = true := by simpa using hus
                clear hus
                refine (c7.out _ hB.out).mono ?_
                rintro e V ⟨rfl, hV⟩
                replace hN := Lib.hid (below_blk hV hN.out)
                replace hM := Lib.hid (below_blk hV hM.out)
                replace hB := Lib.hid (hB.out.trans (hV.mono hB.out.size))
                clear hV
                have y0 := cell_of hN.out 0 _ rfl
                have y1 := cell_of hN.out 1 _ rfl
                have y2 := cell_of hN.out 2 _ rfl
                have y3 := cell_of hN.out 3 _ rfl
                have z0 := cell_of hM.out 0 _ rfl
                have z1 := cell_of hM.out 1 _ rfl
                have z2 := cell_of hM.out 2 _ rfl
                have z3 := cell_of hM.out 3 _ rfl
                have z4 := cell_of hM.out 4 _ rfl
                have z5 := cell_of hM.out 5 _ rfl
                have z6 := cell_of hM.out 6 _ rfl
                have z7 := cell_of hM.out 7 _ rfl
                go_wp2_with fail
                clear y0 y1 y2 y3 z0 z1 z2 z3 z4 z5 z6 z7
                refine (c9 _).out.mono ?_
                rintro e V ⟨rfl, hV⟩
                replace hN := Lib.hid (below_blk hV hN.out)
                replace hM := Lib.hid (below_blk hV hM.out)
                replace hB := Lib.hid (hB.out.trans (hV.mono hB.out.size))
                clear hV
                have y0 := cell_of hN.out 0 _ rfl
                have y1 := cell_of hN.out 1 _ rfl
                have y2 := cell_of hN.out 2 _ rfl
                have y3 := cell_of hN.out 3 _ rfl
                have z0 := cell_of hM.out 0 _ rfl
                have z1 := cell_of hM.out 1 _ rfl
                have z2 := cell_of hM.out 2 _ rfl
                have z3 := cell_of hM.out 3 _ rfl
                have z4 := cell_of hM.out 4 _ rfl
                have z5 := cell_of hM.out 5 _ rfl
                have z6 := cell_of hM.out 6 _ rfl
                have z7 := cell_of hM.out 7 _ rfl
                go_wp2_with fail
                clear y0 y1 y2 y3 z0 z1 z2 z3 z4 z5 z6 z7
                refine (hk.out _ (hB.out)).mono ?_
                rintro e V9 ⟨rfl, hV⟩
                replace hB := Lib.hid ((hB.out).trans (hV.mono (hB.out).size))
                clear hV
                go_wp2
                go_ret
                exact ⟨by simp, hB.out⟩
              · obtain rfl : d = true := by simpa using hus
                clear hus
                refine (c7.out _ hB.out).mono ?_
                rintro e V ⟨rfl, hV⟩
                replace hN := Lib.hid (below_blk hV hN.out)
                replace hM := Lib.hid (below_blk hV hM.out)
                replace hB := Lib.hid (hB.out.trans (hV.mono hB.out.size))
                clear hV
                have y0 := cell_of hN.out 0 _ rfl
                have y1 := cell_of hN.out 1 _ rfl
                have y2 := cell_of hN.out 2 _ rfl
                have y3 := cell_of hN.out 3 _ rfl
                have z0 := cell_of hM.out 0 _ rfl
                have z1 := cell_of hM.out 1 _ rfl
                have z2 := cell_of hM.out 2 _ rfl
                have z3 := cell_of hM.out 3 _ rfl
                have z4 := cell_of hM.out 4 _ rfl
                have z5 := cell_of hM.out 5 _ rfl
                have z6 := cell_of hM.out 6 _ rfl
                have z7 := cell_of hM.out 7 _ rfl
                go_wp2_with fail
                clear y0 y1 y2 y3 z0 z1 z2 z3 z4 z5 z6 z7
                refine (c9 _).out.mono ?_
                rintro e V ⟨rfl, hV⟩
                replace hN := Lib.hid (below_blk hV hN.out)
                replace hM := Lib.hid (below_blk hV hM.out)
                replace hB := Lib.hid (hB.out.trans (hV.mono hB.out.size))
                clear hV
                have y0 := cell_of hN.out 0 _ rfl
                have y1 := cell_of hN.out 1 _ rfl
                have y2 := cell_of hN.out 2 _ rfl
                have y3 := cell_of hN.out 3 _ rfl
                have z0 := cell_of hM.out 0 _ rfl
                have z1 := cell_of hM.out 1 _ rfl
                have z2 := cell_of hM.out 2 _ rfl
                have z3 := cell_of hM.out 3 _ rfl
                have z4 := cell_of hM.out 4 _ rfl
                have z5 := cell_of hM.out 5 _ rfl
                have z6 := cell_of hM.out 6 _ rfl
                have z7 := cell_of hM.out 7 _ rfl
                go_wp2_with fail
                clear y0 y1 y2 y3 z0 z1 z2 z3 z4 z5 z6 z7
                refine (hk.out _ (hB.out)).mono ?_
                rintro e V9 ⟨rfl, hV⟩
                replace hB := Lib.hid ((hB.out).trans (hV.mono (hB.out).size))
                clear hV
                go_wp2
                go_ret
                exact ⟨by simp, hB.out⟩
              · obtain rfl : d = false := by simpa [e3, e4] using hus
                clear hus
                have f3 : (p == 3) = false := by simp [e3]
                have f4 : (p == 4) = false := by simp [e4]
                refine (c7.out _ hB.out).mono ?_
                rintro e V ⟨rfl, hV⟩
                replace hN := Lib.hid (below_blk hV hN.out)
                replace hM := Lib.hid (below_blk hV hM.out)
                replace hB := Lib.hid (hB.out.trans (hV.mono hB.out.size))
                clear hV
                have y0 := cell_of hN.out 0 _ rfl
                have y1 := cell_of hN.out 1 _ rfl
                have y2 := cell_of hN.out 2 _ rfl
                have y3 := cell_of hN.out 3 _ rfl
                have z0 := cell_of hM.out 0 _ rfl
                have z1 := cell_of hM.out 1 _ rfl
                have z2 := cell_of hM.out 2 _ rfl
                have z3 := cell_of hM.out 3 _ rfl
                have z4 := cell_of hM.out 4 _ rfl
                have z5 := cell_of hM.out 5 _ rfl
                have z6 := cell_of hM.out 6 _ rfl
                have z7 := cell_of hM.out 7 _ rfl
                go_wp2_with fail
                clear y0 y1 y2 y3 z0 z1 z2 z3 z4 z5 z6 z7
                refine (c9 _).out.mono ?_
                rintro e V ⟨rfl, hV⟩
                replace hN := Lib.hid (below_blk hV hN.out)
                replace hM := Lib.hid (below_blk hV hM.out)
                replace hB := Lib.hid (hB.out.trans (hV.mono hB.out.size))
                clear hV
                have y0 := cell_of hN.out 0 _ rfl
                have y1 := cell_of hN.out 1 _ rfl
                have y2 := cell_of hN.out 2 _ rfl
                have y3 := cell_of hN.out 3 _ rfl
                have z0 := cell_of hM.out 0 _ rfl
                have z1 := cell_of hM.out 1 _ rfl
                have z2 := cell_of hM.out 2 _ rfl
                have z3 := cell_of hM.out 3 _ rfl
                have z4 := cell_of hM.out 4 _ rfl
                have z5 := cell_of hM.out 5 _ rfl
                have z6 := cell_of hM.out 6 _ rfl
                have z7 := cell_of hM.out 7 _ rfl
                go_wp2_with fail
                clear y0 y1 y2 y3 z0 z1 z2 z3 z4 z5 z6 z7
                refine (hk.out _ (hB.out)).mono ?_
                rintro e V9 ⟨rfl, hV⟩
                replace hB := Lib.hid ((hB.out).trans (hV.mono (hB.out).size))
                clear hV
                go_wp2
                go_ret
                exact ⟨by simp, hB.out⟩
        · simp only [h1, if_false] at c4
          replace c5 := fun W => c5 W h1
          replace c6a := fun W => c6a W h1
          refine (c4 _).out.mono ?_
          rintro e V ⟨rfl, hV⟩
          replace hN := Lib.hid (below_blk hV hN.out)
          replace hM := Lib.hid (below_blk hV hM.out)
          replace hB := Lib.hid (hB.out.trans (hV.mono hB.out.size))
          clear hV c4
          have y0 := fun o => cell_past (cell_of hN.out 0 _ rfl) o
          have y1 := fun o => cell_past (cell_of hN.out 1 _ rfl) o
          have y2 := fun o => cell_past (cell_of hN.out 2 _ rfl) o
          have y3 := fun o => cell_past (cell_of hN.out 3 _ rfl) o
          have z0 := fun o => cell_past (cell_of hM.out 0 _ rfl) o
          have z1 := fun o => cell_past (cell_of hM.out 1 _ rfl) o
          have z2 := fun o => cell_past (cell_of hM.out 2 _ rfl) o
          have z3 := fun o => cell_past (cell_of hM.out 3 _ rfl) o
          have z4 := fun o => cell_past (cell_of hM.out 4 _ rfl) o
          have z5 := fun o => cell_past (cell_of hM.out 5 _ rfl) o
          have z6 := fun o => cell_past (cell_of hM.out 6 _ rfl) o
          have z7 := fun o => cell_past (cell_of hM.out 7 _ rfl) o
          go_wp2_with fail
          clear y0 y1 y2 y3 z0 z1 z2 z3 z4 z5 z6 z7
          replace hN := Lib.hid (blk_alloc hN.out (.cells #[.int .i64 p, .int .i64 g, .int .i64 (m - 1), .bool h] 54))
          replace hM := Lib.hid (blk_alloc hM.out (.cells #[.int .i64 p, .int .i64 g, .int .i64 (m - 1), .bool h] 54))
          have hO := Lib.hid (blk_new (w := V) rfl (.cells #[.int .i64 p, .int .i64 g, .int .i64 (m - 1), .bool h] 54))
          replace hB := Lib.hid (hB.out.alloc hB.out.size (.cells #[.int .i64 p, .int .i64 g, .int .i64 (m - 1), .bool h] 54))
          obtain ⟨G3, hG⟩ : ∃ G3, V.heap.size = G3 := ⟨_, rfl⟩
          obtain ⟨V2, hV2⟩ : ∃ V2, V.alloc (.cells #[.int .i64 p, .int .i64 g, .int .i64 (m - 1), .bool h] 54) = V2 := ⟨_, rfl⟩
          rw [hG, hV2] at hO
          rw [hV2] at hN hM hB ⊢
          rw [hG]
          clear hG hV2
          refine (c5 _).out.mono ?_
          rintro e V ⟨rfl, hV⟩
          replace hN := Lib.hid (below_blk hV hN.out)
          replace hM := Lib.hid (below_blk hV hM.out)
          replace hO := Lib.hid (below_blk hV hO.out)
          replace hB := Lib.hid (hB.out.trans (hV.mono hB.out.size))
          clear hV
          have y0 := cell_of hN.out 0 _ rfl
          have y1 := cell_of hN.out 1 _ rfl
          have y2 := cell_of hN.out 2 _ rfl
          have y3 := cell_of hN.out 3 _ rfl
          have z0 := cell_of hM.out 0 _ rfl
          have z1 := cell_of hM.out 1 _ rfl
          have z2 := cell_of hM.out 2 _ rfl
          have z3 := cell_of hM.out 3 _ rfl
          have z4 := cell_of hM.out 4 _ rfl
          have z5 := cell_of hM.out 5 _ rfl
          have z6 := cell_of hM.out 6 _ rfl
          have z7 := cell_of hM.out 7 _ rfl
          have x0 := cell_of hO.out 0 _ rfl
          have x1 := cell_of hO.out 1 _ rfl
          have x2 := cell_of hO.out 2 _ rfl
          have x3 := cell_of hO.out 3 _ rfl
          go_wp2_with fail
          clear y0 y1 y2 y3 z0 z1 z2 z3 z4 z5 z6 z7 x0 x1 x2 x3
          refine (c6a _).out.mono ?_
          rintro e V ⟨rfl, hV⟩
          replace hN := Lib.hid (below_blk hV hN.out)
          replace hM := Lib.hid (below_blk hV hM.out)
          replace hO := Lib.hid (below_blk hV hO.out)
          replace hB := Lib.hid (hB.out.trans (hV.mono hB.out.size))
          clear hV
          have y0 := cell_of hN.out 0 _ rfl
          have y1 := cell_of hN.out 1 _ rfl
          have y2 := cell_of hN.out 2 _ rfl
          have y3 := cell_of hN.out 3 _ rfl
          have z0 := cell_of hM.out 0 _ rfl
          have z1 := cell_of hM.out 1 _ rfl
          have z2 := cell_of hM.out 2 _ rfl
          have z3 := cell_of hM.out 3 _ rfl
          have z4 := cell_of hM.out 4 _ rfl
          have z5 := cell_of hM.out 5 _ rfl
          have z6 := cell_of hM.out 6 _ rfl
          have z7 := cell_of hM.out 7 _ rfl
          have x0 := cell_of hO.out 0 _ rfl
          have x1 := cell_of hO.out 1 _ rfl
          have x2 := cell_of hO.out 2 _ rfl
          have x3 := cell_of hO.out 3 _ rfl
          go_wp2_with fail
          clear y0 y1 y2 y3 z0 z1 z2 z3 z4 z5 z6 z7 x0 x1 x2 x3
          clear c5 c6a hO
          cases u
          · simp only [Bool.false_eq_true, if_false] at c7
            refine (c7.out _ hB.out).mono ?_
            rintro e V ⟨rfl, hV⟩
            replace hN := Lib.hid (below_blk hV hN.out)
            replace hM := Lib.hid (below_blk hV hM.out)
            replace hB := Lib.hid (hB.out.trans (hV.mono hB.out.size))
            clear hV
            have y0 := cell_of hN.out 0 _ rfl
            have y1 := cell_of hN.out 1 _ rfl
            have y2 := cell_of hN.out 2 _ rfl
            have y3 := cell_of hN.out 3 _ rfl
            have z0 := cell_of hM.out 0 _ rfl
            have z1 := cell_of hM.out 1 _ rfl
            have z2 := cell_of hM.out 2 _ rfl
            have z3 := cell_of hM.out 3 _ rfl
            have z4 := cell_of hM.out 4 _ rfl
            have z5 := cell_of hM.out 5 _ rfl
            have z6 := cell_of hM.out 6 _ rfl
            have z7 := cell_of hM.out 7 _ rfl
            go_wp2_with fail
            clear y0 y1 y2 y3 z0 z1 z2 z3 z4 z5 z6 z7
            refine (c8.out _ hB.out).mono ?_
            rintro e V ⟨rfl, hV⟩
            replace hN := Lib.hid (below_blk hV hN.out)
            replace hM := Lib.hid (below_blk hV hM.out)
            replace hB := Lib.hid (hB.out.trans (hV.mono hB.out.size))
            clear hV
            have y0 := cell_of hN.out 0 _ rfl
            have y1 := cell_of hN.out 1 _ rfl
            have y2 := cell_of hN.out 2 _ rfl
            have y3 := cell_of hN.out 3 _ rfl
            have z0 := cell_of hM.out 0 _ rfl
            have z1 := cell_of hM.out 1 _ rfl
            have z2 := cell_of hM.out 2 _ rfl
            have z3 := cell_of hM.out 3 _ rfl
            have z4 := cell_of hM.out 4 _ rfl
            have z5 := cell_of hM.out 5 _ rfl
            have z6 := cell_of hM.out 6 _ rfl
            have z7 := cell_of hM.out 7 _ rfl
            go_wp2_with fail
            clear y0 y1 y2 y3 z0 z1 z2 z3 z4 z5 z6 z7
            refine (hk.out _ (hB.out)).mono ?_
            rintro e V9 ⟨rfl, hV⟩
            replace hB := Lib.hid ((hB.out).trans (hV.mono (hB.out).size))
            clear hV
            go_wp2
            go_ret
            exact ⟨by simp, hB.out⟩
          · simp only [if_true] at c7
            cases us
            · clear hus
              refine (c7.out _ hB.out).mono ?_
              rintro e V ⟨rfl, hV⟩
              replace hN := Lib.hid (below_blk hV hN.out)
              replace hM := Lib.hid (below_blk hV hM.out)
              replace hB := Lib.hid (hB.out.trans (hV.mono hB.out.size))
              clear hV
              have y0 := cell_of hN.out 0 _ rfl
              have y1 := cell_of hN.out 1 _ rfl
              have y2 := cell_of hN.out 2 _ rfl
              have y3 := cell_of hN.out 3 _ rfl
              have z0 := cell_of hM.out 0 _ rfl
              have z1 := cell_of hM.out 1 _ rfl
              have z2 := cell_of hM.out 2 _ rfl
              have z3 := cell_of hM.out 3 _ rfl
              have z4 := cell_of hM.out 4 _ rfl
              have z5 := cell_of hM.out 5 _ rfl
              have z6 := cell_of hM.out 6 _ rfl
              have z7 := cell_of hM.out 7 _ rfl
              go_wp2_with fail
              clear y0 y1 y2 y3 z0 z1 z2 z3 z4 z5 z6 z7
              refine (c9 _).out.mono ?_
              rintro e V ⟨rfl, hV⟩
              replace hN := Lib.hid (below_blk hV hN.out)
              replace hM := Lib.hid (below_blk hV hM.out)
              replace hB := Lib.hid (hB.out.trans (hV.mono hB.out.size))
              clear hV
              have y0 := cell_of hN.out 0 _ rfl
              have y1 := cell_of hN.out 1 _ rfl
              have y2 := cell_of hN.out 2 _ rfl
              have y3 := cell_of hN.out 3 _ rfl
              have z0 := cell_of hM.out 0 _ rfl
              have z1 := cell_of hM.out 1 _ rfl
              have z2 := cell_of hM.out 2 _ rfl
              have z3 := cell_of hM.out 3 _ rfl
              have z4 := cell_of hM.out 4 _ rfl
              have z5 := cell_of hM.out 5 _ rfl
              have z6 := cell_of hM.out 6 _ rfl
              have z7 := cell_of hM.out 7 _ rfl
              go_wp2_with fail
              clear y0 y1 y2 y3 z0 z1 z2 z3 z4 z5 z6 z7
              refine (hk.out _ (hB.out)).mono ?_
              rintro e V9 ⟨rfl, hV⟩
              replace hB := Lib.hid ((hB.out).trans (hV.mono (hB.out).size))
              clear hV
              go_wp2
              go_ret
              exact ⟨by simp, hB.out⟩
            · replace hus := hus.out rfl
              rcases (by omega : p = 3 ∨ p = 4 ∨ (p ≠ 3 ∧ p ≠ 4)) with rfl | rfl | ⟨e3, e4⟩
              · obtain rfl : d = true := by simpa using hus
                clear hus
                refine (c7.out _ hB.out).mono ?_
                rintro e V ⟨rfl, hV⟩
                replace hN := Lib.hid (below_blk hV hN.out)
                replace hM := Lib.hid (below_blk hV hM.out)
                replace hB := Lib.hid (hB.out.trans (hV.mono hB.out.size))
                clear hV
                have y0 := cell_of hN.out 0 _ rfl
                have y1 := cell_of hN.out 1 _ rfl
                have y2 := cell_of hN.out 2 _ rfl
                have y3 := cell_of hN.out 3 _ rfl
                have z0 := cell_of hM.out 0 _ rfl
                have z1 := cell_of hM.out 1 _ rfl
                have z2 := cell_of hM.out 2 _ rfl
                have z3 := cell_of hM.out 3 _ rfl
                have z4 := cell_of hM.out 4 _ rfl
                have z5 := cell_of hM.out 5 _ rfl
                have z6 := cell_of hM.out 6 _ rfl
                have z7 := cell_of hM.out 7 _ rfl
                go_wp2_with fail
                clear y0 y1 y2 y3 z0 z1 z2 z3 z4 z5 z6 z7
                refine (c9 _).out.mono ?_
                rintro e V ⟨rfl, hV⟩
                replace hN := Lib.hid (below_blk hV hN.out)
                replace hM := Lib.hid (below_blk hV hM.out)
                replace hB := Lib.hid (hB.out.trans (hV.mono hB.out.size))
                clear hV
                have y0 := cell_of hN.out 0 _ rfl
                have y1 := cell_of hN.out 1 _ rfl
                have y2 := cell_of hN.out 2 _ rfl
                have y3 := cell_of hN.out 3 _ rfl
                have z0 := cell_of hM.out 0 _ rfl
                have z1 := cell_of hM.out 1 _ rfl
                have z2 := cell_of hM.out 2 _ rfl
                have z3 := cell_of hM.out 3 _ rfl
                have z4 := cell_of hM.out 4 _ rfl
                have z5 := cell_of hM.out 5 _ rfl
                have z6 := cell_of hM.out 6 _ rfl
                have z7 := cell_of hM.out 7 _ rfl
                go_wp2_with fail
                clear y0 y1 y2 y3 z0 z1 z2 z3 z4 z5 z6 z7
                refine (hk.out _ (hB.out)).mono ?_
                rintro e V9 ⟨rfl, hV⟩
                replace hB := Lib.hid ((hB.out).trans (hV.mono (hB.out).size))
                clear hV
                go_wp2
                go_ret
                exact ⟨by simp, hB.out⟩
              · obtain rfl : d = true := by simpa using hus
                clear hus
                refine (c7.out _ hB.out).mono ?_
                rintro e V ⟨rfl, hV⟩
                replace hN := Lib.hid (below_blk hV hN.out)
                replace hM := Lib.hid (below_blk hV hM.out)
                replace hB := Lib.hid (hB.out.trans (hV.mono hB.out.size))
                clear hV
                have y0 := cell_of hN.out 0 _ rfl
                have y1 := cell_of hN.out 1 _ rfl
                have y2 := cell_of hN.out 2 _ rfl
                have y3 := cell_of hN.out 3 _ rfl
                have z0 := cell_of hM.out 0 _ rfl
                have z1 := cell_of hM.out 1 _ rfl
                have z2 := cell_of hM.out 2 _ rfl
                have z3 := cell_of hM.out 3 _ rfl
                have z4 := cell_of hM.out 4 _ rfl
                have z5 := cell_of hM.out 5 _ rfl
                have z6 := cell_of hM.out 6 _ rfl
                have z7 := cell_of hM.out 7 _ rfl
                go_wp2_with fail
                clear y0 y1 y2 y3 z0 z1 z2 z3 z4 z5 z6 z7
                refine (c9 _).out.mono ?_
                rintro e V ⟨rfl, hV⟩
                replace hN := Lib.hid (below_blk hV hN.out)
                replace hM := Lib.hid (below_blk hV hM.out)
                replace hB := Lib.hid (hB.out.trans (hV.mono hB.out.size))
                clear hV
                have y0 := cell_of hN.out 0 _ rfl
                have y1 := cell_of hN.out 1 _ rfl
                have y2 := cell_of hN.out 2 _ rfl
                have y3 := cell_of hN.out 3 _ rfl
                have z0 := cell_of hM.out 0 _ rfl
                have z1 := cell_of hM.out 1 _ rfl
                have z2 := cell_of hM.out 2 _ rfl
                have z3 := cell_of hM.out 3 _ rfl
                have z4 := cell_of hM.out 4 _ rfl
                have z5 := cell_of hM.out 5 _ rfl
                have z6 := cell_of hM.out 6 _ rfl
                have z7 := cell_of hM.out 7 _ rfl
                go_wp2_with fail
                clear y0 y1 y2 y3 z0 z1 z2 z3 z4 z5 z6 z7
                refine (hk.out _ (hB.out)).mono ?_
                rintro e V9 ⟨rfl, hV⟩
                replace hB := Lib.hid ((hB.out).trans (hV.mono (hB.out).size))
                clear hV
                go_wp2
                go_ret
                exact ⟨by simp, hB.out⟩
              · obtain rfl : d = false := by simpa [e3, e4] using hus
                clear hus
                have f3 : (p == 3) = false := by simp [e3]
                have f4 : (p == 4) = false := by simp [e4]
                refine (c7.out _ hB.out).mono ?_
                rintro e V ⟨rfl, hV⟩
                replace hN := Lib.hid (below_blk hV hN.out)
                replace hM := Lib.hid (below_blk hV hM.out)
                replace hB := Lib.hid (hB.out.trans (hV.mono hB.out.size))
                clear hV
                have y0 := cell_of hN.out 0 _ rfl
                have y1 := cell_of hN.out 1 _ rfl
                have y2 := cell_of hN.out 2 _ rfl
                have y3 := cell_of hN.out 3 _ rfl
                have z0 := cell_of hM.out 0 _ rfl
                have z1 := cell_of hM.out 1 _ rfl
                have z2 := cell_of hM.out 2 _ rfl
                have z3 := cell_of hM.out 3 _ rfl
                have z4 := cell_of hM.out 4 _ rfl
                have z5 := cell_of hM.out 5 _ rfl
                have z6 := cell_of hM.out 6 _ rfl
                have z7 := cell_of hM.out 7 _ rfl
                go_wp2_with fail
                clear y0 y1 y2 y3 z0 z1 z2 z3 z4 z5 z6 z7
                refine (c9 _).out.mono ?_
                rintro e V ⟨rfl, hV⟩
                replace hN := Lib.hid (below_blk hV hN.out)
                replace hM := Lib.hid (below_blk hV hM.out)
                replace hB := Lib.hid (hB.out.trans (hV.mono hB.out.size))
                clear hV
                have y0 := cell_of hN.out 0 _ rfl
                have y1 := cell_of hN.out 1 _ rfl
                have y2 := cell_of hN.out 2 _ rfl
                have y3 := cell_of hN.out 3 _ rfl
                have z0 := cell_of hM.out 0 _ rfl
                have z1 := cell_of hM.out 1 _ rfl
                have z2 := cell_of hM.out 2 _ rfl
                have z3 := cell_of hM.out 3 _ rfl
                have z4 := cell_of hM.out 4 _ rfl
                have z5 := cell_of hM.out 5 _ rfl
                have z6 := cell_of hM.out 6 _ rfl
                have z7 := cell_of hM.out 7 _ rfl
                go_wp2_with fail
                clear y0 y1 y2 y3 z0 z1 z2 z3 z4 z5 z6 z7
                refine (hk.out _ (hB.out)).mono ?_
                rintro e V9 ⟨rfl, hV⟩
                replace hB := Lib.hid ((hB.out).trans (hV.mono (hB.out).size))
                clear hV
                go_wp2
                go_ret
                exact ⟨by simp, hB.out⟩
    · cases a2
      · go_wp2_with fail
        clear y0 y1 y2 y3 z0 z1 z2 z3 z4 z5 z6 z7
        refine (c3 _).out.mono ?_
        rintro e V ⟨rfl, hV⟩
        replace hN := Lib.hid (below_blk hV hN.out)
        replace hM := Lib.hid (below_blk hV hM.out)
        replace hB := Lib.hid (hB.out.trans (hV.mono hB.out.size))
        clear hV
        have y0 := cell_of hN.out 0 _ rfl
        have y1 := cell_of hN.out 1 _ rfl
        have y2 := cell_of hN.out 2 _ rfl
        have y3 := cell_of hN.out 3 _ rfl
        have z0 := cell_of hM.out 0 _ rfl
        have z1 := cell_of hM.out 1 _ rfl
        have z2 := cell_of hM.out 2 _ rfl
        have z3 := cell_of hM.out 3 _ rfl
        have z4 := cell_of hM.out 4 _ rfl
        have z5 := cell_of hM.out 5 _ rfl
        have z6 := cell_of hM.out 6 _ rfl
        have z7 := cell_of hM.out 7 _ rfl
        go_wp2_with fail
        clear y0 y1 y2 y3 z0 z1 z2 z3 z4 z5 z6 z7
        clear c3
        by_cases h1 : m = 1
        · subst h1
          simp only [if_true] at c4
          refine (c4 _).out.mono ?_
          rintro e V ⟨rfl, hV⟩
          replace hN := Lib.hid (below_blk hV hN.out)
          replace hM := Lib.hid (below_blk hV hM.out)
          replace hB := Lib.hid (hB.out.trans (hV.mono hB.out.size))
          clear hV c4
          have y0 := fun o => cell_past (cell_of hN.out 0 _ rfl) o
          have y1 := fun o => cell_past (cell_of hN.out 1 _ rfl) o
          have y2 := fun o => cell_past (cell_of hN.out 2 _ rfl) o
          have y3 := fun o => cell_past (cell_of hN.out 3 _ rfl) o
          have z0 := fun o => cell_past (cell_of hM.out 0 _ rfl) o
          have z1 := fun o => cell_past (cell_of hM.out 1 _ rfl) o
          have z2 := fun o => cell_past (cell_of hM.out 2 _ rfl) o
          have z3 := fun o => cell_past (cell_of hM.out 3 _ rfl) o
          have z4 := fun o => cell_past (cell_of hM.out 4 _ rfl) o
          have z5 := fun o => cell_past (cell_of hM.out 5 _ rfl) o
          have z6 := fun o => cell_past (cell_of hM.out 6 _ rfl) o
          have z7 := fun o => cell_past (cell_of hM.out 7 _ rfl) o
          go_wp2_with fail
          clear y0 y1 y2 y3 z0 z1 z2 z3 z4 z5 z6 z7
          replace hN := Lib.hid (blk_alloc hN.out (.cells #[.int .i64 0, .int .i64 0, .int .i64 0, .bool false] 54))
          replace hM := Lib.hid (blk_alloc hM.out (.cells #[.int .i64 0, .int .i64 0, .int .i64 0, .bool false] 54))
          have hO := Lib.hid (blk_new (w := V) rfl (.cells #[.int .i64 0, .int .i64 0, .int .i64 0, .bool false] 54))
          replace hB := Lib.hid (hB.out.alloc hB.out.size (.cells #[.int .i64 0, .int .i64 0, .int .i64 0, .bool false] 54))
          obtain ⟨G3, hG⟩ : ∃ G3, V.heap.size = G3 := ⟨_, rfl⟩
          obtain ⟨V2, hV2⟩ : ∃ V2, V.alloc (.cells #[.int .i64 0, .int .i64 0, .int .i64 0, .bool false] 54) = V2 := ⟨_, rfl⟩
          rw [hG, hV2] at hO
          rw [hV2] at hN hM hB ⊢
          rw [hG]
          clear hG hV2
          clear c5 c6a hO
          cases u
          · simp only [Bool.false_eq_true, if_false] at c7
            refine (c7.out _ hB.out).mono ?_
            rintro e V ⟨rfl, hV⟩
            replace hN := Lib.hid (below_blk hV hN.out)
            replace hM := Lib.hid (below_blk hV hM.out)
            replace hB := Lib.hid (hB.out.trans (hV.mono hB.out.size))
            clear hV
            have y0 := cell_of hN.out 0 _ rfl
            have y1 := cell_of hN.out 1 _ rfl
            have y2 := cell_of hN.out 2 _ rfl
            have y3 := cell_of hN.out 3 _ rfl
            have z0 := cell_of hM.out 0 _ rfl
            have z1 := cell_of hM.out 1 _ rfl
            have z2 := cell_of hM.out 2 _ rfl
            have z3 := cell_of hM.out 3 _ rfl
            have z4 := cell_of hM.out 4 _ rfl
            have z5 := cell_of hM.out 5 _ rfl
            have z6 := cell_of hM.out 6 _ rfl
            have z7 := cell_of hM.out 7 _ rfl
            go_wp2_with fail
            clear y0 y1 y2 y3 z0 z1 z2 z3 z4 z5 z6 z7
            refine (c8.out _ hB.out).mono ?_
            rintro e V ⟨rfl, hV⟩
            replace hN := Lib.hid (below_blk hV hN.out)
            replace hM := Lib.hid (below_blk hV hM.out)
            replace hB := Lib.hid (hB.out.trans (hV.mono hB.out.size))
            clear hV
            have y0 := cell_of hN.out 0 _ rfl
            have y1 := cell_of hN.out 1 _ rfl
            have y2 := cell_of hN.out 2 _ rfl
            have y3 := cell_of hN.out 3 _ rfl
            have z0 := cell_of hM.out 0 _ rfl
            have z1 := cell_of hM.out 1 _ rfl
            have z2 := cell_of hM.out 2 _ rfl
            have z3 := cell_of hM.out 3 _ rfl
            have z4 := cell_of hM.out 4 _ rfl
            have z5 := cell_of hM.out 5 _ rfl
            have z6 := cell_of hM.out 6 _ rfl
            have z7 := cell_of hM.out 7 _ rfl
            go_wp2_with fail
            clear y0 y1 y2 y3 z0 z1 z2 z3 z4 z5 z6 z7
            refine (hk.out _ (hB.out)).mono ?_
            rintro e V9 ⟨rfl, hV⟩
            replace hB := Lib.hid ((hB.out).trans (hV.mono (hB.out).size))
            clear hV
            go_wp2
            go_ret
            exact ⟨by simp, hB.out⟩
          · simp only [if_true] at c7
            cases us
            · clear hus
              refine (c7.out _ hB.out).mono ?_
              rintro e V ⟨rfl, hV⟩
              replace hN := Lib.hid (below_blk hV hN.out)
              replace hM := Lib.hid (below_blk hV hM.out)
              replace hB := Lib.hid (hB.out.trans (hV.mono hB.out.size))
              clear hV
              have y0 := cell_of hN.out 0 _ rfl
              have y1 := cell_of hN.out 1 _ rfl
              have y2 := cell_of hN.out 2 _ rfl
              have y3 := cell_of hN.out 3 _ rfl
              have z0 := cell_of hM.out 0 _ rfl
              have z1 := cell_of hM.out 1 _ rfl
              have z2 := cell_of hM.out 2 _ rfl
              have z3 := cell_of hM.out 3 _ rfl
              have z4 := cell_of hM.out 4 _ rfl
              have z5 := cell_of hM.out 5 _ rfl
              have z6 := cell_of hM.out 6 _ rfl
              have z7 := cell_of hM.out 7 _ rfl
              go_wp2_with fail
              clear y0 y1 y2 y3 z0 z1 z2 z3 z4 z5 z6 z7
              refine (c9 _).out.mono ?_
              rintro e V ⟨rfl, hV⟩
              replace hN := Lib.hid (below_blk hV hN.out)
              replace hM := Lib.hid (below_blk hV hM.out)
              replace hB := Lib.hid (hB.out.trans (hV.mono hB.out.size))
              clear hV
              have y0 := cell_of hN.out 0 _ rfl
              have y1 := cell_of hN.out 1 _ rfl
              have y2 := cell_of hN.out 2 _ rfl
              have y3 := cell_of hN.out 3 _ rfl
              have z0 := cell_of hM.out 0 _ rfl
              have z1 := cell_of hM.out 1 _ rfl
              have z2 := cell_of hM.out 2 _ rfl
              have z3 := cell_of hM.out 3 _ rfl
              have z4 := cell_of hM.out 4 _ rfl
              have z5 := cell_of hM.out 5 _ rfl
              have z6 := cell_of hM.out 6 _ rfl
              have z7 := cell_of hM.out 7 _ rfl
              go_wp2_with fail
              clear y0 y1 y2 y3 z0 z1 z2 z3 z4 z5 z6 z7
              refine (hk.out _ (hB.out)).mono ?_
              rintro e V9 ⟨rfl, hV⟩
              replace hB := Lib.hid ((hB.out).trans (hV.mono (hB.out).size))
              clear hV
              go_wp2
              go_ret
              exact ⟨by simp, hB.out⟩
            · replace hus := hus.out rfl
              rcases (by omega : p = 3 ∨ p = 4 ∨ (p ≠ 3 ∧ p ≠ 4)) with rfl | rfl | ⟨e3, e4⟩
              · obtain rfl : d = true := by simpa using hus
                clear hus
                refine (c7.out _ hB.out).mono ?_
                rintro e V ⟨rfl, hV⟩
                replace hN := Lib.hid (below_blk hV hN.out)
                replace hM := Lib.hid (below_blk hV hM.out)
                replace hB := Lib.hid (hB.out.trans (hV.mono hB.out.size))
                clear hV
                have y0 := cell_of hN.out 0 _ rfl
                have y1 := cell_of hN.out 1 _ rfl
                have y2 := cell_of hN.out 2 _ rfl
                have y3 := cell_of hN.out 3 _ rfl
                have z0 := cell_of hM.out 0 _ rfl
                have z1 := cell_of hM.out 1 _ rfl
                have z2 := cell_of hM.out 2 _ rfl
                have z3 := cell_of hM.out 3 _ rfl
                have z4 := cell_of hM.out 4 _ rfl
                have z5 := cell_of hM.out 5 _ rfl
                have z6 := cell_of hM.out 6 _ rfl
                have z7 := cell_of hM.out 7 _ rfl
                go_wp2_with fail
                clear y0 y1 y2 y3 z0 z1 z2 z3 z4 z5 z6 z7
                refine (c9 _).out.mono ?_
                rintro e V ⟨rfl, hV⟩
                replace hN := Lib.hid (below_blk hV hN.out)
                replace hM := Lib.hid (below_blk hV hM.out)
                replace hB := Lib.hid (hB.out.trans (hV.mono hB.out.size))
                clear hV
                have y0 := cell_of hN.out 0 _ rfl
                have y1 := cell_of hN.out 1 _ rfl
                have y2 := cell_of hN.out 2 _ rfl
                have y3 := cell_of hN.out 3 _ rfl
                have z0 := cell_of hM.out 0 _ rfl
                have z1 := cell_of hM.out 1 _ rfl
                have z2 := cell_of hM.out 2 _ rfl
                have z3 := cell_of hM.out 3 _ rfl
                have z4 := cell_of hM.out 4 _ rfl
                have z5 := cell_of hM.out 5 _ rfl
                have z6 := cell_of hM.out 6 _ rfl
                have z7 := cell_of hM.out 7 _ rfl
                go_wp2_with fail
                clear y0 y1 y2 y3 z0 z1 z2 z3 z4 z5 z6 z7
                refine (hk.out _ (hB.out)).mono ?_
                rintro e V9 ⟨rfl, hV⟩
                replace hB := Lib.hid ((hB.out).trans (hV.mono (hB.out).size))
                clear hV
                go_wp2
                go_ret
                exact ⟨by simp, hB.out⟩
              · obtain rfl : d = true := by simpa using hus
                clear hus
                refine (c7.out _ hB.out).mono ?_
                rintro e V ⟨rfl, hV⟩
                replace hN := Lib.hid (below_blk hV hN.out)
                replace hM := Lib.hid (below_blk hV hM.out)
                replace hB := Lib.hid (hB.out.trans (hV.mono hB.out.size))
                clear hV
                have y0 := cell_of hN.out 0 _ rfl
                have y1 := cell_of hN.out 1 _ rfl
                have y2 := cell_of hN.out 2 _ rfl
                have y3 := cell_of hN.out 3 _ rfl
                have z0 := cell_of hM.out 0 _ rfl
                have z1 := cell_of hM.out 1 _ rfl
                have z2 := cell_of hM.out 2 _ rfl
                have z3 := cell_of hM.out 3 _ rfl
                have z4 := cell_of hM.out 4 _ rfl
                have z5 := cell_of hM.out 5 _ rfl
                have z6 := cell_of hM.out 6 _ rfl
                have z7 := cell_of hM.out 7 _ rfl
                go_wp2_with fail
                clear y0 y1 y2 y3 z0 z1 z2 z3 z4 z5 z6 z7
                refine (c9 _).out.mono ?_
                rintro e V ⟨rfl, hV⟩
                replace hN := Lib.hid (below_blk hV hN.out)
                replace hM := Lib.hid (below_blk hV hM.out)
                replace hB := Lib.hid (hB.out.trans (hV.mono hB.out.size))
                clear hV
                have y0 := cell_of hN.out 0 _ rfl
                have y1 := cell_of hN.out 1 _ rfl
                have y2 := cell_of hN.out 2 _ rfl
                have y3 := cell_of hN.out 3 _ rfl
                have z0 := cell_of hM.out 0 _ rfl
                have z1 := cell_of hM.out 1 _ rfl
                have z2 := cell_of hM.out 2 _ rfl
                have z3 := cell_of hM.out 3 _ rfl
                have z4 := cell_of hM.out 4 _ rfl
                have z5 := cell_of hM.out 5 _ rfl
                have z6 := cell_of hM.out 6 _ rfl
                have z7 := cell_of hM.out 7 _ rfl
                go_wp2_with fail
                clear y0 y1 y2 y3 z0 z1 z2 z3 z4 z5 z6 z7
                refine (hk.out _ (hB.out)).mono ?_
                rintro e V9 ⟨rfl, hV⟩
                replace hB := Lib.hid ((hB.out).trans (hV.mono (hB.out).size))
                clear hV
                go_wp2
                go_ret
                exact ⟨by simp, hB.out⟩
              · obtain rfl : d = false := by simpa [e3, e4] using hus
                clear hus
                have f3 : (p == 3) = false := by simp [e3]
                have f4 : (p == 4) = false := by simp [e4]
                refine (c7.out _ hB.out).mono ?_
                rintro e V ⟨rfl, hV⟩
                replace hN := Lib.hid (below_blk hV hN.out)
                replace hM := Lib.hid (below_blk hV hM.out)
                replace hB := Lib.hid (hB.out.trans (hV.mono hB.out.size))
                clear hV
                have y0 := cell_of hN.out 0 _ rfl
                have y1 := cell_of hN.out 1 _ rfl
                have y2 := cell_of hN.out 2 _ rfl
                have y3 := cell_of hN.out 3 _ rfl
                have z0 := cell_of hM.out 0 _ rfl
                have z1 := cell_of hM.out 1 _ rfl
                have z2 := cell_of hM.out 2 _ rfl
                have z3 := cell_of hM.out 3 _ rfl
                have z4 := cell_of hM.out 4 _ rfl
                have z5 := cell_of hM.out 5 _ rfl
                have z6 := cell_of hM.out 6 _ rfl
                have z7 := cell_of hM.out 7 _ rfl
                go_wp2_with fail
                clear y0 y1 y2 y3 z0 z1 z2 z3 z4 z5 z6 z7
                refine (c9 _).out.mono ?_
                rintro e V ⟨rfl, hV⟩
                replace hN := Lib.hid (below_blk hV hN.out)
                replace hM := Lib.hid (below_blk hV hM.out)
                replace hB := Lib.hid (hB.out.trans (hV.mono hB.out.size))
                clear hV
                have y0 := cell_of hN.out 0 _ rfl
                have y1 := cell_of hN.out 1 _ rfl
                have y2 := cell_of hN.out 2 _ rfl
                have y3 := cell_of hN.out 3 _ rfl
                have z0 := cell_of hM.out 0 _ rfl
                have z1 := cell_of hM.out 1 _ rfl
                have z2 := cell_of hM.out 2 _ rfl
                have z3 := cell_of hM.out 3 _ rfl
                have z4 := cell_of hM.out 4 _ rfl
                have z5 := cell_of hM.out 5 _ rfl
                have z6 := cell_of hM.out 6 _ rfl
                have z7 := cell_of hM.out 7 _ rfl
                go_wp2_with fail
                clear y0 y1 y2 y3 z0 z1 z2 z3 z4 z5 z6 z7
                refine (hk.out _ (hB.out)).mono ?_
                rintro e V9 ⟨rfl, hV⟩
                replace hB := Lib.hid ((hB.out).trans (hV.mono (hB.out).size))
                clear hV
                go_wp2
                go_ret
                exact ⟨by simp, hB.out⟩
        · simp only [h1, if_false] at c4
          replace c5 := fun W => c5 W h1
          replace c6a := fun W => c6a W h1
          refine (c4 _).out.mono ?_
          rintro e V ⟨rfl, hV⟩
          replace hN := Lib.hid (below_blk hV hN.out)
          replace hM := Lib.hid (below_blk hV hM.out)
          replace hB := Lib.hid (hB.out.trans (hV.mono hB.out.size))
          clear hV c4
          have y0 := fun o => cell_past (cell_of hN.out 0 _ rfl) o
          have y1 := fun o => cell_past (cell_of hN.out 1 _ rfl) o
          have y2 := fun o => cell_past (cell_of hN.out 2 _ rfl) o
          have y3 := fun o => cell_past (cell_of hN.out 3 _ rfl) o
          have z0 := fun o => cell_past (cell_of hM.out 0 _ rfl) o
          have z1 := fun o => cell_past (cell_of hM.out 1 _ rfl) o
          have z2 := fun o => cell_past (cell_of hM.out 2 _ rfl) o
          have z3 := fun o => cell_past (cell_of hM.out 3 _ rfl) o
          have z4 := fun o => cell_past (cell_of hM.out 4 _ rfl) o
          have z5 := fun o => cell_past (cell_of hM.out 5 _ rfl) o
          have z6 := fun o => cell_past (cell_of hM.out 6 _ rfl) o
          have z7 := fun o => cell_past (cell_of hM.out 7 _ rfl) o
          go_wp2_with fail
          clear y0 y1 y2 y3 z0 z1 z2 z3 z4 z5 z6 z7
          replace hN := Lib.hid (blk_alloc hN.out (.cells #[.int .i64 p, .int .i64 g, .int .i64 (m - 1), .bool h] 54))
          replace hM := Lib.hid (blk_alloc hM.out (.cells #[.int .i64 p, .int .i64 g, .int .i64 (m - 1), .bool h] 54))
          have hO := Lib.hid (blk_new (w := V) rfl (.cells #[.int .i64 p, .int .i64 g, .int .i64 (m - 1), .bool h] 54))
          replace hB := Lib.hid (hB.out.alloc hB.out.size (.cells #[.int .i64 p, .int .i64 g, .int .i64 (m - 1), .bool h] 54))
          obtain ⟨G3, hG⟩ : ∃ G3, V.heap.size = G3 := ⟨_, rfl⟩
          obtain ⟨V2, hV2⟩ : ∃ V2, V.alloc (.cells #[.int .i64 p, .int .i64 g, .int .i64 (m - 1), .bool h] 54) = V2 := ⟨_, rfl⟩
          rw [hG, hV2] at hO
          rw [hV2] at hN hM hB ⊢
          rw [hG]
          clear hG hV2
          refine (c5 _).out.mono ?_
          rintro e V ⟨rfl, hV⟩
          replace hN := Lib.hid (below_blk hV hN.out)
          replace hM := Lib.hid (below_blk hV hM.out)
          replace hO := Lib.hid (below_blk hV hO.out)
          replace hB := Lib.hid (hB.out.trans (hV.mono hB.out.size))
          clear hV
          have y0 := cell_of hN.out 0 _ rfl
          have y1 := cell_of hN.out 1 _ rfl
          have y2 := cell_of hN.out 2 _ rfl
          have y3 := cell_of hN.out 3 _ rfl
          have z0 := cell_of hM.out 0 _ rfl
          have z1 := cell_of hM.out 1 _ rfl
          have z2 := cell_of hM.out 2 _ rfl
          have z3 := cell_of hM.out 3 _ rfl
          have z4 := cell_of hM.out 4 _ rfl
          have z5 := cell_of hM.out 5 _ rfl
          have z6 := cell_of hM.out 6 _ rfl
          have z7 := cell_of hM.out 7 _ rfl
          have x0 := cell_of hO.out 0 _ rfl
          have x1 := cell_of hO.out 1 _ rfl
          have x2 := cell_of hO.out 2 _ rfl
          have x3 := cell_of hO.out 3 _ rfl
          go_wp2_with fail
          clear y0 y1 y2 y3 z0 z1 z2 z3 z4 z5 z6 z7 x0 x1 x2 x3
          refine (c6a _).out.mono ?_
          rintro e V ⟨rfl, hV⟩
          replace hN := Lib.hid (below_blk hV hN.out)
          replace hM := Lib.hid (below_blk hV hM.out)
          replace hO := Lib.hid (below_blk hV hO.out)
          replace hB := Lib.hid (hB.out.trans (hV.mono hB.out.size))
          clear hV
          have y0 := cell_of hN.out 0 _ rfl
          have y1 := cell_of hN.out 1 _ rfl
          have y2 := cell_of hN.out 2 _ rfl
          have y3 := cell_of hN.out 3 _ rfl
          have z0 := cell_of hM.out 0 _ rfl
          have z1 := cell_of hM.out 1 _ rfl
          have z2 := cell_of hM.out 2 _ rfl
          have z3 := cell_of hM.out 3 _ rfl
          have z4 := cell_of hM.out 4 _ rfl
          have z5 := cell_of hM.out 5 _ rfl
          have z6 := cell_of hM.out 6 _ rfl
          have z7 := cell_of hM.out 7 _ rfl
          have x0 := cell_of hO.out 0 _ rfl
          have x1 := cell_of hO.out 1 _ rfl
          have x2 := cell_of hO.out 2 _ rfl
          have x3 := cell_of hO.out 3 _ rfl
          go_wp2_with fail
          clear y0 y1 y2 y3 z0 z1 z2 z3 z4 z5 z6 z7 x0 x1 x2 x3
          clear c5 c6a hO
          cases u
          · simp only [Bool.false_eq_true, if_false] at c7
            refine (c7.out _ hB.out).mono ?_
            rintro e V ⟨rfl, hV⟩
            replace hN := Lib.hid (below_blk hV hN.out)
            replace hM := Lib.hid (below_blk hV hM.out)
            replace hB := Lib.hid (hB.out.trans (hV.mono hB.out.size))
            clear hV
            have y0 := cell_of hN.out 0 _ rfl
            have y1 := cell_of hN.out 1 _ rfl
            have y2 := cell_of hN.out 2 _ rfl
            have y3 := cell_of hN.out 3 _ rfl
            have z0 := cell_of hM.out 0 _ rfl
            have z1 := cell_of hM.out 1 _ rfl
            have z2 := cell_of hM.out 2 _ rfl
            have z3 := cell_of hM.out 3 _ rfl
            have z4 := cell_of hM.out 4 _ rfl
            have z5 := cell_of hM.out 5 _ rfl
            have z6 := cell_of hM.out 6 _ rfl
            have z7 := cell_of hM.out 7 _ rfl
            go_wp2_with fail
            clear y0 y1 y2 y3 z0 z1 z2 z3 z4 z5 z6 z7
            refine (c8.out _ hB.out).mono ?_
            rintro e V ⟨rfl, hV⟩
            replace hN := Lib.hid (below_blk hV hN.out)
            replace hM := Lib.hid (below_blk hV hM.out)
            replace hB := Lib.hid (hB.out.trans (hV.mono hB.out.size))
            clear hV
            have y0 := cell_of hN.out 0 _ rfl
            have y1 := cell_of hN.out 1 _ rfl
            have y2 := cell_of hN.out 2 _ rfl
            have y3 := cell_of hN.out 3 _ rfl
            have z0 := cell_of hM.out 0 _ rfl
            have z1 := cell_of hM.out 1 _ rfl
            have z2 := cell_of hM.out 2 _ rfl
            have z3 := cell_of hM.out 3 _ rfl
            have z4 := cell_of hM.out 4 _ rfl
            have z5 := cell_of hM.out 5 _ rfl
            have z6 := cell_of hM.out 6 _ rfl
            have z7 := cell_of hM.out 7 _ rfl
            go_wp2_with fail
            clear y0 y1 y2 y3 z0 z1 z2 z3 z4 z5 z6 z7
            refine (hk.out _ (hB.out)).mono ?_
            rintro e V9 ⟨rfl, hV⟩
            replace hB := Lib.hid ((hB.out).trans (hV.mono (hB.out).size))
            clear hV
            go_wp2
            go_ret
            exact ⟨by simp, hB.out⟩
          · simp only [if_true] at c7
            cases us
            · clear hus
              refine (c7.out _ hB.out).mono ?_
              rintro e V ⟨rfl, hV⟩
              replace hN := Lib.hid (below_blk hV hN.out)
              replace hM := Lib.hid (below_blk hV hM.out)
              replace hB := Lib.hid (hB.out.trans (hV.mono hB.out.size))
              clear hV
              have y0 := cell_of hN.out 0 _ rfl
              have y1 := cell_of hN.out 1 _ rfl
              have y2 := cell_of hN.out 2 _ rfl
              have y3 := cell_of hN.out 3 _ rfl
              have z0 := cell_of hM.out 0 _ rfl
              have z1 := cell_of hM.out 1 _ rfl
              have z2 := cell_of hM.out 2 _ rfl
              have z3 := cell_of hM.out 3 _ rfl
              have z4 := cell_of hM.out 4 _ rfl
              have z5 := cell_of hM.out 5 _ rfl
              have z6 := cell_of hM.out 6 _ rfl
              have z7 := cell_of hM.out 7 _ rfl
              go_wp2_with fail
              clear y0 y1 y2 y3 z0 z1 z2 z3 z4 z5 z6 z7
              refine (c9 _).out.mono ?_
              rintro e V ⟨rfl, hV⟩
              replace hN := Lib.hid (below_blk hV hN.out)
              replace hM := Lib.hid (below_blk hV hM.out)
              replace hB := Lib.hid (hB.out.trans (hV.mono hB.out.size))
              clear hV
              have y0 := cell_of hN.out 0 _ rfl
              have y1 := cell_of hN.out 1 _ rfl
              have y2 := cell_of hN.out 2 _ rfl
              have y3 := cell_of hN.out 3 _ rfl
              have z0 := cell_of hM.out 0 _ rfl
              have z1 := cell_of hM.out 1 _ rfl
              have z2 := cell_of hM.out 2 _ rfl
              have z3 := cell_of hM.out 3 _ rfl
              have z4 := cell_of hM.out 4 _ rfl
              have z5 := cell_of hM.out 5 _ rfl
              have z6 := cell_of hM.out 6 _ rfl
              have z7 := cell_of hM.out 7 _ rfl
              go_wp2_with fail
              clear y0 y1 y2 y3 z0 z1 z2 z3 z4 z5 z6 z7
              refine (hk.out _ (hB.out)).mono ?_
              rintro e V9 ⟨rfl, hV⟩
              replace hB := Lib.hid ((hB.out).trans (hV.mono (hB.out).size))
              clear hV
              go_wp2
              go_ret
              exact ⟨by simp, hB.out⟩
            · replace hus := hus.out rfl
              rcases (by omega : p = 3 ∨ p = 4 ∨ (p ≠ 3 ∧ p ≠ 4)) with rfl | rfl | ⟨e3, e4⟩
              · obtain rfl : d = true := by simpa using hus
                clear hus
                refine (c7.out _ hB.out).mono ?_
                rintro e V ⟨rfl, hV⟩
                replace hN := Lib.hid (below_blk hV hN.out)
                replace hM := Lib.hid (below_blk hV hM.out)
                replace hB := Lib.hid (hB.out.trans (hV.mono hB.out.size))
                clear hV
                have y0 := cell_of hN.out 0 _ rfl
                have y1 := cell_of hN.out 1 _ rfl
                have y2 := cell_of hN.out 2 _ rfl
                have y3 := cell_of hN.out 3 _ rfl
                have z0 := cell_of hM.out 0 _ rfl
                have z1 := cell_of hM.out 1 _ rfl
                have z2 := cell_of hM.out 2 _ rfl
                have z3 := cell_of hM.out 3 _ rfl
                have z4 := cell_of hM.out 4 _ rfl
                have z5 := cell_of hM.out 5 _ rfl
                have z6 := cell_of hM.out 6 _ rfl
                have z7 := cell_of hM.out 7 _ rfl
                go_wp2_with fail
                clear y0 y1 y2 y3 z0 z1 z2 z3 z4 z5 z6 z7
                refine (c9 _).out.mono ?_
                rintro e V ⟨rfl, hV⟩
                replace hN := Lib.hid (below_blk hV hN.out)
                replace hM := Lib.hid (below_blk hV hM.out)
                replace hB := Lib.hid (hB.out.trans (hV.mono hB.out.size))
                clear hV
                have y0 := cell_of hN.out 0 _ rfl
                have y1 := cell_of hN.out 1 _ rfl
                have y2 := cell_of hN.out 2 _ rfl
                have y3 := cell_of hN.out 3 _ rfl
                have z0 := cell_of hM.out 0 _ rfl
                have z1 := cell_of hM.out 1 _ rfl
                have z2 := cell_of hM.out 2 _ rfl
                have z3 := cell_of hM.out 3 _ rfl
                have z4 := cell_of hM.out 4 _ rfl
                have z5 := cell_of hM.out 5 _ rfl
                have z6 := cell_of hM.out 6 _ rfl
                have z7 := cell_of hM.out 7 _ rfl
                go_wp2_with fail
                clear y0 y1 y2 y3 z0 z1 z2 z3 z4 z5 z6 z7
                refine (hk.out _ (hB.out)).mono ?_
                rintro e V9 ⟨rfl, hV⟩
                replace hB := Lib.hid ((hB.out).trans (hV.mono (hB.out).size))
                clear hV
                go_wp2
                go_ret
                exact ⟨by simp, hB.out⟩
              · obtain rfl : d = true := by simpa using hus
                clear hus
                refine (c7.out _ hB.out).mono ?_
                rintro e V ⟨rfl, hV⟩
                replace hN := Lib.hid (below_blk hV hN.out)
                replace hM := Lib.hid (below_blk hV hM.out)
                replace hB := Lib.hid (hB.out.trans (hV.mono hB.out.size))
                clear hV
                have y0 := cell_of hN.out 0 _ rfl
                have y1 := cell_of hN.out 1 _ rfl
                have y2 := cell_of hN.out 2 _ rfl
                have y3 := cell_of hN.out 3 _ rfl
                have z0 := cell_of hM.out 0 _ rfl
                have z1 := cell_of hM.out 1 _ rfl
                have z2 := cell_of hM.out 2 _ rfl
                have z3 := cell_of hM.out 3 _ rfl
                have z4 := cell_of hM.out 4 _ rfl
                have z5 := cell_of hM.out 5 _ rfl
                have z6 := cell_of hM.out 6 _ rfl
                have z7 := cell_of hM.out 7 _ rfl
                go_wp2_with fail
                clear y0 y1 y2 y3 z0 z1 z2 z3 z4 z5 z6 z7
                refine (c9 _).out.mono ?_
                rintro e V ⟨rfl, hV⟩
                replace hN := Lib.hid (below_blk hV hN.out)
                replace hM := Lib.hid (below_blk hV hM.out)
                replace hB := Lib.hid (hB.out.trans (hV.mono hB.out.size))
                clear hV
                have y0 := cell_of hN.out 0 _ rfl
                have y1 := cell_of hN.out 1 _ rfl
                have y2 := cell_of hN.out 2 _ rfl
                have y3 := cell_of hN.out 3 _ rfl
                have z0 := cell_of hM.out 0 _ rfl
                have z1 := cell_of hM.out 1 _ rfl
                have z2 := cell_of hM.out 2 _ rfl
                have z3 := cell_of hM.out 3 _ rfl
                have z4 := cell_of hM.out 4 _ rfl
                have z5 := cell_of hM.out 5 _ rfl
                have z6 := cell_of hM.out 6 _ rfl
                have z7 := cell_of hM.out 7 _ rfl
                go_wp2_with fail
                clear y0 y1 y2 y3 z0 z1 z2 z3 z4 z5 z6 z7
                refine (hk.out _ (hB.out)).mono ?_
                rintro e V9 ⟨rfl, hV⟩
                replace hB := Lib.hid ((hB.out).trans (hV.mono (hB.out).size))
                clear hV
                go_wp2
                go_ret
                exact ⟨by simp, hB.out⟩
              · obtain rfl : d = false := by simpa [e3, e4] using hus
                clear hus
                have f3 : (p == 3) = false := by simp [e3]
                have f4 : (p == 4) = false := by simp [e4]
                refine (c7.out _ hB.out).mono ?_
                rintro e V ⟨rfl, hV⟩
                replace hN := Lib.hid (below_blk hV hN.out)
                replace hM := Lib.hid (below_blk hV hM.out)
                replace hB := Lib.hid (hB.out.trans (hV.mono hB.out.size))
                clear hV
                have y0 := cell_of hN.out 0 _ rfl
                have y1 := cell_of hN.out 1 _ rfl
                have y2 := cell_of hN.out 2 _ rfl
                have y3 := cell_of hN.out 3 _ rfl
                have z0 := cell_of hM.out 0 _ rfl
                have z1 := cell_of hM.out 1 _ rfl
                have z2 := cell_of hM.out 2 _ rfl
                have z3 := cell_of hM.out 3 _ rfl
                have z4 := cell_of hM.out 4 _ rfl
                have z5 := cell_of hM.out 5 _ rfl
                have z6 := cell_of hM.out 6 _ rfl
                have z7 := cell_of hM.out 7 _ rfl
                go_wp2_with fail
                clear y0 y1 y2 y3 z0 z1 z2 z3 z4 z5 z6 z7
                refine (c9 _).out.mono ?_
                rintro e V ⟨rfl, hV⟩
                replace hN := Lib.hid (below_blk hV hN.out)
                replace hM := Lib.hid (below_blk hV hM.out)
                replace hB := Lib.hid (hB.out.trans (hV.mono hB.out.size))
                clear hV
                have y0 := cell_of hN.out 0 _ rfl
                have y1 := cell_of hN.out 1 _ rfl
                have y2 := cell_of hN.out 2 _ rfl
                have y3 := cell_of hN.out 3 _ rfl
                have z0 := cell_of hM.out 0 _ rfl
                have z1 := cell_of hM.out 1 _ rfl
                have z2 := cell_of hM.out 2 _ rfl
                have z3 := cell_of hM.out 3 _ rfl
                have z4 := cell_of hM.out 4 _ rfl
                have z5 := cell_of hM.out 5 _ rfl
                have z6 := cell_of hM.out 6 _ rfl
                have z7 := cell_of hM.out 7 _ rfl
                go_wp2_with fail
                clear y0 y1 y2 y3 z0 z1 z2 z3 z4 z5 z6 z7
                refine (hk.out _ (hB.out)).mono ?_
                rintro e V9 ⟨rfl, hV⟩
                replace hB := Lib.hid ((hB.out).trans (hV.mono (hB.out).size))
                clear hV
                go_wp2
                go_ret
                exact ⟨by simp, hB.out⟩
      · go_wp2_with fail
        clear y0 y1 y2 y3 z0 z1 z2 z3 z4 z5 z6 z7
        refine (c3 _).out.mono ?_
        rintro e V ⟨rfl, hV⟩
        replace hN := Lib.hid (below_blk hV hN.out)
        replace hM := Lib.hid (below_blk hV hM.out)
        replace hB := Lib.hid (hB.out.trans (hV.mono hB.out.size))
        clear hV
        have y0 := cell_of hN.out 0 _ rfl
        have y1 := cell_of hN.out 1 _ rfl
        have y2 := cell_of hN.out 2 _ rfl
        have y3 := cell_of hN.out 3 _ rfl
        have z0 := cell_of hM.out 0 _ rfl
        have z1 := cell_of hM.out 1 _ rfl
        have z2 := cell_of hM.out 2 _ rfl
        have z3 := cell_of hM.out 3 _ rfl
        have z4 := cell_of hM.out 4 _ rfl
        have z5 := cell_of hM.out 5 _ rfl
        have z6 := cell_of hM.out 6 _ rfl
        have z7 := cell_of hM.out 7 _ rfl
        go_wp2_with fail
        clear y0 y1 y2 y3 z0 z1 z2 z3 z4 z5 z6 z7
        clear c3
        by_cases h1 : m = 1
        · subst h1
          simp only [if_true] at c4
          refine (c4 _).out.mono ?_
          rintro e V ⟨rfl, hV⟩
          replace hN := Lib.hid (below_blk hV hN.out)
          replace hM := Lib.hid (below_blk hV hM.out)
          replace hB := Lib.hid (hB.out.trans (hV.mono hB.out.size))
          clear hV c4
          have y0 := fun o => cell_past (cell_of hN.out 0 _ rfl) o
          have y1 := fun o => cell_past (cell_of hN.out 1 _ rfl) o
          have y2 := fun o => cell_past (cell_of hN.out 2 _ rfl) o
          have y3 := fun o => cell_past (cell_of hN.out 3 _ rfl) o
          have z0 := fun o => cell_past (cell_of hM.out 0 _ rfl) o
          have z1 := fun o => cell_past (cell_of hM.out 1 _ rfl) o
          have z2 := fun o => cell_past (cell_of hM.out 2 _ rfl) o
          have z3 := fun o => cell_past (cell_of hM.out 3 _ rfl) o
          have z4 := fun o => cell_past (cell_of hM.out 4 _ rfl) o
          have z5 := fun o => cell_past (cell_of hM.out 5 _ rfl) o
          have z6 := fun o => cell_past (cell_of hM.out 6 _ rfl) o
          have z7 := fun o => cell_past (cell_of hM.out 7 _ rfl) o
          go_wp2_with fail
          clear y0 y1 y2 y3 z0 z1 z2 z3 z4 z5 z6 z7
          replace hN := Lib.hid (blk_alloc hN.out (.cells #[.int .i64 0, .int .i64 0, .int .i64 0, .bool false] 54))
          replace hM := Lib.hid (blk_alloc hM.out (.cells #[.int .i64 0, .int .i64 0, .int .i64 0, .bool false] 54))
          have hO := Lib.hid (blk_new (w := V) rfl (.cells #[.int .i64 0, .int .i64 0, .int .i64 0, .bool false] 54))
          replace hB := Lib.hid (hB.out.alloc hB.out.size (.cells #[.int .i64 0, .int .i64 0, .int .i64 0, .bool false] 54))
          obtain ⟨G3, hG⟩ : ∃ G3, V.heap.size = G3 := ⟨_, rfl⟩
          obtain ⟨V2, hV2⟩ : ∃ V2, V.alloc (.cells #[.int .i64 0, .int .i64 0, .int .i64 0, .bool false] 54) = V2 := ⟨_, rfl⟩
          rw [hG, hV2] at hO
          rw [hV2] at hN hM hB ⊢
          rw [hG]
          clear hG hV2
          clear c5 c6a hO
          cases u
          · simp only [Bool.false_eq_true, if_false] at c7
            refine (c7.out _ hB.out).mono ?_
            rintro e V ⟨rfl, hV⟩
            replace hN := Lib.hid (below_blk hV hN.out)
            replace hM := Lib.hid (below_blk hV hM.out)
            replace hB := Lib.hid (hB.out.trans (hV.mono hB.out.size))
            clear hV
            have y0 := cell_of hN.out 0 _ rfl
            have y1 := cell_of hN.out 1 _ rfl
            have y2 := cell_of hN.out 2 _ rfl
            have y3 := cell_of hN.out 3 _ rfl
            have z0 := cell_of hM.out 0 _ rfl
            have z1 := cell_of hM.out 1 _ rfl
            have z2 := cell_of hM.out 2 _ rfl
            have z3 := cell_of hM.out 3 _ rfl
            have z4 := cell_of hM.out 4 _ rfl
            have z5 := cell_of hM.out 5 _ rfl
            have z6 := cell_of hM.out 6 _ rfl
            have z7 := cell_of hM.out 7 _ rfl
            go_wp2_with fail
            clear y0 y1 y2 y3 z0 z1 z2 z3 z4 z5 z6 z7
            refine (c8.out _ hB.out).mono ?_
            rintro e V ⟨rfl, hV⟩
            replace hN := Lib.hid (below_blk hV hN.out)
            replace hM := Lib.hid (below_blk hV hM.out)
            replace hB := Lib.hid (hB.out.trans (hV.mono hB.out.size))
            clear hV
            have y0 := cell_of hN.out 0 _ rfl
            have y1 := cell_of hN.out 1 _ rfl
            have y2 := cell_of hN.out 2 _ rfl
            have y3 := cell_of hN.out 3 _ rfl
            have z0 := cell_of hM.out 0 _ rfl
            have z1 := cell_of hM.out 1 _ rfl
            have z2 := cell_of hM.out 2 _ rfl
            have z3 := cell_of hM.out 3 _ rfl
            have z4 := cell_of hM.out 4 _ rfl
            have z5 := cell_of hM.out 5 _ rfl
            have z6 := cell_of hM.out 6 _ rfl
            have z7 := cell_of hM.out 7 _ rfl
            go_wp2_with fail
            clear y0 y1 y2 y3 z0 z1 z2 z3 z4 z5 z6 z7
            refine (hk.out _ (hB.out)).mono ?_
            rintro e V9 ⟨rfl, hV⟩
            replace hB := Lib.hid ((hB.out).trans (hV.mono (hB.out).size))
            clear hV
            go_wp2
            go_ret
            exact ⟨by simp, hB.out⟩
          · simp only [if_true] at c7
            cases us
            · clear hus
              refine (c7.out _ hB.out).mono ?_
              rintro e V ⟨rfl, hV⟩
              replace hN := Lib.hid (below_blk hV hN.out)
              replace hM := Lib.hid (below_blk hV hM.out)
              replace hB := Lib.hid (hB.out.trans (hV.mono hB.out.size))
              clear hV
              have y0 := cell_of hN.out 0 _ rfl
              have y1 := cell_of hN.out 1 _ rfl
              have y2 := cell_of hN.out 2 _ rfl
              have y3 := cell_of hN.out 3 _ rfl
              have z0 := cell_of hM.out 0 _ rfl
              have z1 := cell_of hM.out 1 _ rfl
              have z2 := cell_of hM.out 2 _ rfl
              have z3 := cell_of hM.out 3 _ rfl
              have z4 := cell_of hM.out 4 _ rfl
              have z5 := cell_of hM.out 5 _ rfl
              have z6 := cell_of hM.out 6 _ rfl
              have z7 := cell_of hM.out 7 _ rfl
              go_wp2_with fail
              clear y0 y1 y2 y3 z0 z1 z2 z3 z4 z5 z6 z7
              refine (c9 _).out.mono ?_
              rintro e V ⟨rfl, hV⟩
              replace hN := Lib.hid (below_blk hV hN.out)
              replace hM := Lib.hid (below_blk hV hM.out)
              replace hB := Lib.hid (hB.out.trans (hV.mono hB.out.size))
              clear hV
              have y0 := cell_of hN.out 0 _ rfl
              have y1 := cell_of hN.out 1 _ rfl
              have y2 := cell_of hN.out 2 _ rfl
              have y3 := cell_of hN.out 3 _ rfl
              have z0 := cell_of hM.out 0 _ rfl
              have z1 := cell_of hM.out 1 _ rfl
              have z2 := cell_of hM.out 2 _ rfl
              have z3 := cell_of hM.out 3 _ rfl
              have z4 := cell_of hM.out 4 _ rfl
              have z5 := cell_of hM.out 5 _ rfl
              have z6 := cell_of hM.out 6 _ rfl
              have z7 := cell_of hM.out 7 _ rfl
              go_wp2_with fail
              clear y0 y1 y2 y3 z0 z1 z2 z3 z4 z5 z6 z7
              refine (hk.out _ (hB.out)).mono ?_
              rintro e V9 ⟨rfl, hV⟩
              replace hB := Lib.hid ((hB.out).trans (hV.mono (hB.out).size))
              clear hV
              go_wp2
              go_ret
              exact ⟨by simp, hB.out⟩
            · replace hus := hus.out rfl
              rcases (by omega : p = 3 ∨ p = 4 ∨ (p ≠ 3 ∧ p ≠ 4)) with rfl | rfl | ⟨e3, e4⟩
              · obtain rfl : d = true := by simpa using hus
                clear hus
                refine (c7.out _ hB.out).mono ?_
                rintro e V ⟨rfl, hV⟩
                replace hN := Lib.hid (below_blk hV hN.out)
                replace hM := Lib.hid (below_blk hV hM.out)
                replace hB := Lib.hid (hB.out.trans (hV.mono hB.out.size))
                clear hV
                have y0 := cell_of hN.out 0 _ rfl
                have y1 := cell_of hN.out 1 _ rfl
                have y2 := cell_of hN.out 2 _ rfl
                have y3 := cell_of hN.out 3 _ rfl
                have z0 := cell_of hM.out 0 _ rfl
                have z1 := cell_of hM.out 1 _ rfl
                have z2 := cell_of hM.out 2 _ rfl
                have z3 := cell_of hM.out 3 _ rfl
                have z4 := cell_of hM.out 4 _ rfl
                have z5 := cell_of hM.out 5 _ rfl
                have z6 := cell_of hM.out 6 _ rfl
                have z7 := cell_of hM.out 7 _ rfl
                go_wp2_with fail
                clear y0 y1 y2 y3 z0 z1 z2 z3 z4 z5 z6 z7
                refine (c9 _).out.mono ?_
                rintro e V ⟨rfl, hV⟩
                replace hN := Lib.hid (below_blk hV hN.out)
                replace hM := Lib.hid (below_blk hV hM.out)
                replace hB := Lib.hid (hB.out.trans (hV.mono hB.out.size))
                clear hV
                have y0 := cell_of hN.out 0 _ rfl
                have y1 := cell_of hN.out 1 _ rfl
                have y2 := cell_of hN.out 2 _ rfl
                have y3 := cell_of hN.out 3 _ rfl
                have z0 := cell_of hM.out 0 _ rfl
                have z1 := cell_of hM.out 1 _ rfl
                have z2 := cell_of hM.out 2 _ rfl
                have z3 := cell_of hM.out 3 _ rfl
                have z4 := cell_of hM.out 4 _ rfl
                have z5 := cell_of hM.out 5 _ rfl
                have z6 := cell_of hM.out 6 _ rfl
                have z7 := cell_of hM.out 7 _ rfl
                go_wp2_with fail
                clear y0 y1 y2 y3 z0 z1 z2 z3 z4 z5 z6 z7
                refine (hk.out _ (hB.out)).mono ?_
                rintro e V9 ⟨rfl, hV⟩
                replace hB := Lib.hid ((hB.out).trans (hV.mono (hB.out).size))
                clear hV
                go_wp2
                go_ret
                exact ⟨by simp, hB.out⟩
              · obtain rfl : d = true := by simpa using hus
                clear hus
                refine (c7.out _ hB.out).mono ?_
                rintro e V ⟨rfl, hV⟩
                replace hN := Lib.hid (below_blk hV hN.out)
                replace hM := Lib.hid (below_blk hV hM.out)
                replace hB := Lib.hid (hB.out.trans (hV.mono hB.out.size))
                clear hV
                have y0 := cell_of hN.out 0 _ rfl
                have y1 := cell_of hN.out 1 _ rfl
                have y2 := cell_of hN.out 2 _ rfl
                have y3 := cell_of hN.out 3 _ rfl
                have z0 := cell_of hM.out 0 _ rfl
                have z1 := cell_of hM.out 1 _ rfl
                have z2 := cell_of hM.out 2 _ rfl
                have z3 := cell_of hM.out 3 _ rfl
                have z4 := cell_of hM.out 4 _ rfl
                have z5 := cell_of hM.out 5 _ rfl
                have z6 := cell_of hM.out 6 _ rfl
                have z7 := cell_of hM.out 7 _ rfl
                go_wp2_with fail
                clear y0 y1 y2 y3 z0 z1 z2 z3 z4 z5 z6 z7
                refine (c9 _).out.mono ?_
                rintro e V ⟨rfl, hV⟩
                replace hN := Lib.hid (below_blk hV hN.out)
                replace hM := Lib.hid (below_blk hV hM.out)
                replace hB := Lib.hid (hB.out.trans (hV.mono hB.out.size))
                clear hV
                have y0 := cell_of hN.out 0 _ rfl
                have y1 := cell_of hN.out 1 _ rfl
                have y2 := cell_of hN.out 2 _ rfl
                have y3 := cell_of hN.out 3 _ rfl
                have z0 := cell_of hM.out 0 _ rfl
                have z1 := cell_of hM.out 1 _ rfl
                have z2 := cell_of hM.out 2 _ rfl
                have z3 := cell_of hM.out 3 _ rfl
                have z4 := cell_of hM.out 4 _ rfl
                have z5 := cell_of hM.out 5 _ rfl
                have z6 := cell_of hM.out 6 _ rfl
                have z7 := cell_of hM.out 7 _ rfl
                go_wp2_with fail
                clear y0 y1 y2 y3 z0 z1 z2 z3 z4 z5 z6 z7
                refine (hk.out _ (hB.out)).mono ?_
                rintro e V9 ⟨rfl, hV⟩
                replace hB := Lib.hid ((hB.out).trans (hV.mono (hB.out).size))
                clear hV
                go_wp2
                go_ret
                exact ⟨by simp, hB.out⟩
              · obtain rfl : d = false := by simpa [e3, e4] using hus
                clear hus
                have f3 : (p == 3) = false := by simp [e3]
                have f4 : (p == 4) = false := by simp [e4]
                refine (c7.out _ hB.out).mono ?_
                rintro e V ⟨rfl, hV⟩
                replace hN := Lib.hid (below_blk hV hN.out)
                replace hM := Lib.hid (below_blk hV hM.out)
                replace hB := Lib.hid (hB.out.trans (hV.mono hB.out.size))
                clear hV
                have y0 := cell_of hN.out 0 _ rfl
                have y1 := cell_of hN.out 1 _ rfl
                have y2 := cell_of hN.out 2 _ rfl
                have y3 := cell_of hN.out 3 _ rfl
                have z0 := cell_of hM.out 0 _ rfl
                have z1 := cell_of hM.out 1 _ rfl
                have z2 := cell_of hM.out 2 _ rfl
                have z3 := cell_of hM.out 3 _ rfl
                have z4 := cell_of hM.out 4 _ rfl
                have z5 := cell_of hM.out 5 _ rfl
                have z6 := cell_of hM.out 6 _ rfl
                have z7 := cell_of hM.out 7 _ rfl
                go_wp2_with fail
                clear y0 y1 y2 y3 z0 z1 z2 z3 z4 z5 z6 z7
                refine (c9 _).out.mono ?_
                rintro e V ⟨rfl, hV⟩
                replace hN := Lib.hid (below_blk hV hN.out)
                replace hM := Lib.hid (below_blk hV hM.out)
                replace hB := Lib.hid (hB.out.trans (hV.mono hB.out.size))
                clear hV
                have y0 := cell_of hN.out 0 _ rfl
                have y1 := cell_of hN.out 1 _ rfl
                have y2 := cell_of hN.out 2 _ rfl
                have y3 := cell_of hN.out 3 _ rfl
                have z0 := cell_of hM.out 0 _ rfl
                have z1 := cell_of hM.out 1 _ rfl
                have z2 := cell_of hM.out 2 _ rfl
                have z3 := cell_of hM.out 3 _ rfl
                have z4 := cell_of hM.out 4 _ rfl
                have z5 := cell_of hM.out 5 _ rfl
                have z6 := cell_of hM.out 6 _ rfl
                have z7 := cell_of hM.out 7 _ rfl
                go_wp2_with fail
                clear y0 y1 y2 y3 z0 z1 z2 z3 z4 z5 z6 z7
                refine (hk.out _ (hB.out)).mono ?_
                rintro e V9 ⟨rfl, hV⟩
                replace hB := Lib.hid ((hB.out).trans (hV.mono (hB.out).size))
                clear hV
                go_wp2
                go_ret
                exact ⟨by simp, hB.out⟩
        · simp only [h1, if_false] at c4
          replace c5 := fun W => c5 W h1
          replace c6a := fun W => c6a W h1
          refine (c4 _).out.mono ?_
          rintro e V ⟨rfl, hV⟩
          replace hN := Lib.hid (below_blk hV hN.out)
          replace hM := Lib.hid (below_blk hV hM.out)
          replace hB := Lib.hid (hB.out.trans (hV.mono hB.out.size))
          clear hV c4
          have y0 := fun o => cell_past (cell_of hN.out 0 _ rfl) o
          have y1 := fun o => cell_past (cell_of hN.out 1 _ rfl) o
          have y2 := fun o => cell_past (cell_of hN.out 2 _ rfl) o
          have y3 := fun o => cell_past (cell_of hN.out 3 _ rfl) o
          have z0 := fun o => cell_past (cell_of hM.out 0 _ rfl) o
          have z1 := fun o => cell_past (cell_of hM.out 1 _ rfl) o
          have z2 := fun o => cell_past (cell_of hM.out 2 _ rfl) o
          have z3 := fun o => cell_past (cell_of hM.out 3 _ rfl) o
          have z4 := fun o => cell_past (cell_of hM.out 4 _ rfl) o
          have z5 := fun o => cell_past (cell_of hM.out 5 _ rfl) o
          have z6 := fun o => cell_past (cell_of hM.out 6 _ rfl) o
          have z7 := fun o => cell_past (cell_of hM.out 7 _ rfl) o
          go_wp2_with fail
          clear y0 y1 y2 y3 z0 z1 z2 z3 z4 z5 z6 z7
          replace hN := Lib.hid (blk_alloc hN.out (.cells #[.int .i64 p, .int .i64 g, .int .i64 (m - 1), .bool h] 54))
          replace hM := Lib.hid (blk_alloc hM.out (.cells #[.int .i64 p, .int .i64 g, .int .i64 (m - 1), .bool h] 54))
          have hO := Lib.hid (blk_new (w := V) rfl (.cells #[.int .i64 p, .int .i64 g, .int .i64 (m - 1), .bool h] 54))
          replace hB := Lib.hid (hB.out.alloc hB.out.size (.cells #[.int .i64 p, .int .i64 g, .int .i64 (m - 1), .bool h] 54))
          obtain ⟨G3, hG⟩ : ∃ G3, V.heap.size = G3 := ⟨_, rfl⟩
          obtain ⟨V2, hV2⟩ : ∃ V2, V.alloc (.cells #[.int .i64 p, .int .i64 g, .int .i64 (m - 1), .bool h] 54) = V2 := ⟨_, rfl⟩
          rw [hG, hV2] at hO
          rw [hV2] at hN hM hB ⊢
          rw [hG]
          clear hG hV2
          refine (c5 _).out.mono ?_
          rintro e V ⟨rfl, hV⟩
          replace hN := Lib.hid (below_blk hV hN.out)
          replace hM := Lib.hid (below_blk hV hM.out)
          replace hO := Lib.hid (below_blk hV hO.out)
          replace hB := Lib.hid (hB.out.trans (hV.mono hB.out.size))
          clear hV
          have y0 := cell_of hN.out 0 _ rfl
          have y1 := cell_of hN.out 1 _ rfl
          have y2 := cell_of hN.out 2 _ rfl
          have y3 := cell_of hN.out 3 _ rfl
          have z0 := cell_of hM.out 0 _ rfl
          have z1 := cell_of hM.out 1 _ rfl
          have z2 := cell_of hM.out 2 _ rfl
          have z3 := cell_of hM.out 3 _ rfl
          have z4 := cell_of hM.out 4 _ rfl
          have z5 := cell_of hM.out 5 _ rfl
          have z6 := cell_of hM.out 6 _ rfl
          have z7 := cell_of hM.out 7 _ rfl
          have x0 := cell_of hO.out 0 _ rfl
          have x1 := cell_of hO.out 1 _ rfl
          have x2 := cell_of hO.out 2 _ rfl
          have x3 := cell_of hO.out 3 _ rfl
          go_wp2_with fail
          clear y0 y1 y2 y3 z0 z1 z2 z3 z4 z5 z6 z7 x0 x1 x2 x3
          refine (c6a _).out.mono ?_
          rintro e V ⟨rfl, hV⟩
          replace hN := Lib.hid (below_blk hV hN.out)
          replace hM := Lib.hid (below_blk hV hM.out)
          replace hO := Lib.hid (below_blk hV hO.out)
          replace hB := Lib.hid (hB.out.trans (hV.mono hB.out.size))
          clear hV
          have y0 := cell_of hN.out 0 _ rfl
          have y1 := cell_of hN.out 1 _ rfl
          have y2 := cell_of hN.out 2 _ rfl
          have y3 := cell_of hN.out 3 _ rfl
          have z0 := cell_of hM.out 0 _ rfl
          have z1 := cell_of hM.out 1 _ rfl
          have z2 := cell_of hM.out 2 _ rfl
          have z3 := cell_of hM.out 3 _ rfl
          have z4 := cell_of hM.out 4 _ rfl
          have z5 := cell_of hM.out 5 _ rfl
          have z6 := cell_of hM.out 6 _ rfl
          have z7 := cell_of hM.out 7 _ rfl
          have x0 := cell_of hO.out 0 _ rfl
          have x1 := cell_of hO.out 1 _ rfl
          have x2 := cell_of hO.out 2 _ rfl
          have x3 := cell_of hO.out 3 _ rfl
          go_wp2_with fail
          clear y0 y1 y2 y3 z0 z1 z2 z3 z4 z5 z6 z7 x0 x1 x2 x3
          clear c5 c6a hO
          cases u
          · simp only [Bool.false_eq_true, if_false] at c7
            refine (c7.out _ hB.out).mono ?_
            rintro e V ⟨rfl, hV⟩
            replace hN := Lib.hid (below_blk hV hN.out)
            replace hM := Lib.hid (below_blk hV hM.out)
            replace hB := Lib.hid (hB.out.trans (hV.mono hB.out.size))
            clear hV
            have y0 := cell_of hN.out 0 _ rfl
            have y1 := cell_of hN.out 1 _ rfl
            have y2 := cell_of hN.out 2 _ rfl
            have y3 := cell_of hN.out 3 _ rfl
            have z0 := cell_of hM.out 0 _ rfl
            have z1 := cell_of hM.out 1 _ rfl
            have z2 := cell_of hM.out 2 _ rfl
            have z3 := cell_of hM.out 3 _ rfl
            have z4 := cell_of hM.out 4 _ rfl
            have z5 := cell_of hM.out 5 _ rfl
            have z6 := cell_of hM.out 6 _ rfl
            have z7 := cell_of hM.out 7 _ rfl
            go_wp2_with fail
            clear y0 y1 y2 y3 z0 z1 z2 z3 z4 z5 z6 z7
            refine (c8.out _ hB.out).mono ?_
            rintro e V ⟨rfl, hV⟩
            replace hN := Lib.hid (below_blk hV hN.out)
            replace hM := Lib.hid (below_blk hV hM.out)
            replace hB := Lib.hid (hB.out.trans (hV.mono hB.out.size))
            clear hV
            have y0 := cell_of hN.out 0 _ rfl
            have y1 := cell_of hN.out 1 _ rfl
            have y2 := cell_of hN.out 2 _ rfl
            have y3 := cell_of hN.out 3 _ rfl
            have z0 := cell_of hM.out 0 _ rfl
            have z1 := cell_of hM.out 1 _ rfl
            have z2 := cell_of hM.out 2 _ rfl
            have z3 := cell_of hM.out 3 _ rfl
            have z4 := cell_of hM.out 4 _ rfl
            have z5 := cell_of hM.out 5 _ rfl
            have z6 := cell_of hM.out 6 _ rfl
            have z7 := cell_of hM.out 7 _ rfl
            go_wp2_with fail
            clear y0 y1 y2 y3 z0 z1 z2 z3 z4 z5 z6 z7
            refine (hk.out _ (hB.out)).mono ?_
            rintro e V9 ⟨rfl, hV⟩
            replace hB := Lib.hid ((hB.out).trans (hV.mono (hB.out).size))
            clear hV
            go_wp2
            go_ret
            exact ⟨by simp, hB.out⟩
          · simp only [if_true] at c7
            cases us
            · clear hus
              refine (c7.out _ hB.out).mono ?_
              rintro e V ⟨rfl, hV⟩
              replace hN := Lib.hid (below_blk hV hN.out)
              replace hM := Lib.hid (below_blk hV hM.out)
              replace hB := Lib.hid (hB.out.trans (hV.mono hB.out.size))
              clear hV
              have y0 := cell_of hN.out 0 _ rfl
              have y1 := cell_of hN.out 1 _ rfl
              have y2 := cell_of hN.out 2 _ rfl
              have y3 := cell_of hN.out 3 _ rfl
              have z0 := cell_of hM.out 0 _ rfl
              have z1 := cell_of hM.out 1 _ rfl
              have z2 := cell_of hM.out 2 _ rfl
              have z3 := cell_of hM.out 3 _ rfl
              have z4 := cell_of hM.out 4 _ rfl
              have z5 := cell_of hM.out 5 _ rfl
              have z6 := cell_of hM.out 6 _ rfl
              have z7 := cell_of hM.out 7 _ rfl
              go_wp2_with fail
              clear y0 y1 y2 y3 z0 z1 z2 z3 z4 z5 z6 z7
              refine (c9 _).out.mono ?_
              rintro e V ⟨rfl, hV⟩
              replace hN := Lib.hid (below_blk hV hN.out)
              replace hM := Lib.hid (below_blk hV hM.out)
              replace hB := Lib.hid (hB.out.trans (hV.mono hB.out.size))
              clear hV
              have y0 := cell_of hN.out 0 _ rfl
              have y1 := cell_of hN.out 1 _ rfl
              have y2 := cell_of hN.out 2 _ rfl
              have y3 := cell_of hN.out 3 _ rfl
              have z0 := cell_of hM.out 0 _ rfl
              have z1 := cell_of hM.out 1 _ rfl
              have z2 := cell_of hM.out 2 _ rfl
              have z3 := cell_of hM.out 3 _ rfl
              have z4 := cell_of hM.out 4 _ rfl
              have z5 := cell_of hM.out 5 _ rfl
              have z6 := cell_of hM.out 6 _ rfl
              have z7 := cell_of hM.out 7 _ rfl
              go_wp2_with fail
              clear y0 y1 y2 y3 z0 z1 z2 z3 z4 z5 z6 z7
              refine (hk.out _ (hB.out)).mono ?_
              rintro e V9 ⟨rfl, hV⟩
              replace hB := Lib.hid ((hB.out).trans (hV.mono (hB.out).size))
              clear hV
              go_wp2
              go_ret
              exact ⟨by simp, hB.out⟩
            · replace hus := hus.out rfl
              rcases (by omega : p = 3 ∨ p = 4 ∨ (p ≠ 3 ∧ p ≠ 4)) with rfl | rfl | ⟨e3, e4⟩
              · obtain rfl : d = true := by simpa using hus
                clear hus
                refine (c7.out _ hB.out).mono ?_
                rintro e V ⟨rfl, hV⟩
                replace hN := Lib.hid (below_blk hV hN.out)
                replace hM := Lib.hid (below_blk hV hM.out)
                replace hB := Lib.hid (hB.out.trans (hV.mono hB.out.size))
                clear hV
                have y0 := cell_of hN.out 0 _ rfl
                have y1 := cell_of hN.out 1 _ rfl
                have y2 := cell_of hN.out 2 _ rfl
                have y3 := cell_of hN.out 3 _ rfl
                have z0 := cell_of hM.out 0 _ rfl
                have z1 := cell_of hM.out 1 _ rfl
                have z2 := cell_of hM.out 2 _ rfl
                have z3 := cell_of hM.out 3 _ rfl
                have z4 := cell_of hM.out 4 _ rfl
                have z5 := cell_of hM.out 5 _ rfl
                have z6 := cell_of hM.out 6 _ rfl
                have z7 := cell_of hM.out 7 _ rfl
                go_wp2_with fail
                clear y0 y1 y2 y3 z0 z1 z2 z3 z4 z5 z6 z7
                refine (c9 _).out.mono ?_
                rintro e V ⟨rfl, hV⟩
                replace hN := Lib.hid (below_blk hV hN.out)
                replace hM := Lib.hid (below_blk hV hM.out)
                replace hB := Lib.hid (hB.out.trans (hV.mono hB.out.size))
                clear hV
                have y0 := cell_of hN.out 0 _ rfl
                have y1 := cell_of hN.out 1 _ rfl
                have y2 := cell_of hN.out 2 _ rfl
                have y3 := cell_of hN.out 3 _ rfl
                have z0 := cell_of hM.out 0 _ rfl
                have z1 := cell_of hM.out 1 _ rfl
                have z2 := cell_of hM.out 2 _ rfl
                have z3 := cell_of hM.out 3 _ rfl
                have z4 := cell_of hM.out 4 _ rfl
                have z5 := cell_of hM.out 5 _ rfl
                have z6 := cell_of hM.out 6 _ rfl
                have z7 := cell_of hM.out 7 _ rfl
                go_wp2_with fail
                clear y0 y1 y2 y3 z0 z1 z2 z3 z4 z5 z6 z7
                refine (hk.out _ (hB.out)).mono ?_
                rintro e V9 ⟨rfl, hV⟩
                replace hB := Lib.hid ((hB.out).trans (hV.mono (hB.out).size))
                clear hV
                go_wp2
                go_ret
                exact ⟨by simp, hB.out⟩
              · obtain rfl : d = true := by simpa using hus
                clear hus
                refine (c7.out _ hB.out).mono ?_
                rintro e V ⟨rfl, hV⟩
                replace hN := Lib.hid (below_blk hV hN.out)
                replace hM := Lib.hid (below_blk hV hM.out)
                replace hB := Lib.hid (hB.out.trans (hV.mono hB.out.size))
                clear hV
                have y0 := cell_of hN.out 0 _ rfl
                have y1 := cell_of hN.out 1 _ rfl
                have y2 := cell_of hN.out 2 _ rfl
                have y3 := cell_of hN.out 3 _ rfl
                have z0 := cell_of hM.out 0 _ rfl
                have z1 := cell_of hM.out 1 _ rfl
                have z2 := cell_of hM.out 2 _ rfl
                have z3 := cell_of hM.out 3 _ rfl
                have z4 := cell_of hM.out 4 _ rfl
                have z5 := cell_of hM.out 5 _ rfl
                have z6 := cell_of hM.out 6 _ rfl
                have z7 := cell_of hM.out 7 _ rfl
                go_wp2_with fail
                clear y0 y1 y2 y3 z0 z1 z2 z3 z4 z5 z6 z7
                refine (c9 _).out.mono ?_
                rintro e V ⟨rfl, hV⟩
                replace hN := Lib.hid (below_blk hV hN.out)
                replace hM := Lib.hid (below_blk hV hM.out)
                replace hB := Lib.hid (hB.out.trans (hV.mono hB.out.size))
                clear hV
                have y0 := cell_of hN.out 0 _ rfl
                have y1 := cell_of hN.out 1 _ rfl
                have y2 := cell_of hN.out 2 _ rfl
                have y3 := cell_of hN.out 3 _ rfl
                have z0 := cell_of hM.out 0 _ rfl
                have z1 := cell_of hM.out 1 _ rfl
                have z2 := cell_of hM.out 2 _ rfl
                have z3 := cell_of hM.out 3 _ rfl
                have z4 := cell_of hM.out 4 _ rfl
                have z5 := cell_of hM.out 5 _ rfl
                have z6 := cell_of hM.out 6 _ rfl
                have z7 := cell_of hM.out 7 _ rfl
                go_wp2_with fail
                clear y0 y1 y2 y3 z0 z1 z2 z3 z4 z5 z6 z7
                refine (hk.out _ (hB.out)).mono ?_
                rintro e V9 ⟨rfl, hV⟩
                replace hB := Lib.hid ((hB.out).trans (hV.mono (hB.out).size))
                clear hV
                go_wp2
                go_ret
                exact ⟨by simp, hB.out⟩
              · obtain rfl : d = false := by simpa [e3, e4] using hus
                clear hus
                have f3 : (p == 3) = false := by simp [e3]
                have f4 : (p == 4) = false := by simp [e4]
                refine (c7.out _ hB.out).mono ?_
                rintro e V ⟨rfl, hV⟩
                replace hN := Lib.hid (below_blk hV hN.out)
                replace hM := Lib.hid (below_blk hV hM.out)
                replace hB := Lib.hid (hB.out.trans (hV.mono hB.out.size))
                clear hV
                have y0 := cell_of hN.out 0 _ rfl
                have y1 := cell_of hN.out 1 _ rfl
                have y2 := cell_of hN.out 2 _ rfl
                have y3 := cell_of hN.out 3 _ rfl
                have z0 := cell_of hM.out 0 _ rfl
                have z1 := cell_of hM.out 1 _ rfl
                have z2 := cell_of hM.out 2 _ rfl
                have z3 := cell_of hM.out 3 _ rfl
                have z4 := cell_of hM.out 4 _ rfl
                have z5 := cell_of hM.out 5 _ rfl
                have z6 := cell_of hM.out 6 _ rfl
                have z7 := cell_of hM.out 7 _ rfl
                go_wp2_with fail
                clear y0 y1 y2 y3 z0 z1 z2 z3 z4 z5 z6 z7
                refine (c9 _).out.mono ?_
                rintro e V ⟨rfl, hV⟩
                replace hN := Lib.hid (below_blk hV hN.out)
                replace hM := Lib.hid (below_blk hV hM.out)
                replace hB := Lib.hid (hB.out.trans (hV.mono hB.out.size))
                clear hV
                have y0 := cell_of hN.out 0 _ rfl
                have y1 := cell_of hN.out 1 _ rfl
                have y2 := cell_of hN.out 2 _ rfl
                have y3 := cell_of hN.out 3 _ rfl
                have z0 := cell_of hM.out 0 _ rfl
                have z1 := cell_of hM.out 1 _ rfl
                have z2 := cell_of hM.out 2 _ rfl
                have z3 := cell_of hM.out 3 _ rfl
                have z4 := cell_of hM.out 4 _ rfl
                have z5 := cell_of hM.out 5 _ rfl
                have z6 := cell_of hM.out 6 _ rfl
                have z7 := cell_of hM.out 7 _ rfl
                go_wp2_with fail
                clear y0 y1 y2 y3 z0 z1 z2 z3 z4 z5 z6 z7
                refine (hk.out _ (hB.out)).mono ?_
                rintro e V9 ⟨rfl, hV⟩
                replace hB := Lib.hid ((hB.out).trans (hV.mono (hB.out).size))
                clear hV
                go_wp2
                go_ret
                exact ⟨by simp, hB.out⟩
end Go.Proofs.YtbhienpbfidgjaaGreatDoor
