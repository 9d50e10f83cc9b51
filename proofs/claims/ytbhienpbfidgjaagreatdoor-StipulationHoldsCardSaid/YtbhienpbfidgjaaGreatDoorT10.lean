/- The examples of the chapter on stipulations hold. Conditions: the library as said; the tables lie in memory. -/
import Derived.Test.YtbhienpbfidgjaaGreatDoorT9
set_option linter.unusedVariables false
set_option linter.unusedSimpArgs false
namespace Go.Proofs.YtbhienpbfidgjaaGreatDoor
open Go.RowKit
theorem po_0 : parseO ⟨#[35, 50]⟩ = some ⟨1, 1, 2, false⟩ := by kernel_rfl
theorem po_1 : parseO ⟨#[104, 35, 50]⟩ = some ⟨2, 1, 2, false⟩ := by kernel_rfl
theorem po_2 : parseO ⟨#[104, 35, 50, 46, 53]⟩ = some ⟨2, 1, 2, true⟩ := by kernel_rfl
theorem po_3 : parseO ⟨#[115, 35, 50]⟩ = some ⟨3, 1, 2, false⟩ := by kernel_rfl
theorem po_4 : parseO ⟨#[114, 35, 49]⟩ = some ⟨4, 1, 1, false⟩ := by kernel_rfl
theorem po_5 : parseO ⟨#[35, 49]⟩ = some ⟨1, 1, 1, false⟩ := by kernel_rfl
theorem po_6 : parseO ⟨#[104, 35, 49, 46, 53]⟩ = some ⟨2, 1, 1, true⟩ := by kernel_rfl
theorem bad_0 : parseO ⟨#[35, 48, 50]⟩ = none := by kernel_rfl
theorem bad_1 : parseO ⟨#[115, 35, 50, 46, 53]⟩ = none := by kernel_rfl
theorem bad_2 : parseO ⟨#[104, 35, 50, 46, 48]⟩ = none := by kernel_rfl
theorem bad_3 : parseO ⟨#[35, 50, 49]⟩ = none := by kernel_rfl
theorem bad_4 : parseO ⟨#[104, 32, 35, 50]⟩ = none := by kernel_rfl
theorem usualV_start (s : Stip) (b : Bool) (hv : s.valid = true) (hb : s.usual false = b) : s.usualV startP = .tuple #[.bool b, .int .i64 0] := by
  unfold Stip.usualV
  rw [hv, start_v, ← hb]
  rfl
set_option maxRecDepth 100000 in
set_option maxHeartbeats 4000000 in
theorem known_c (L : Libs) (w : World) (hE : Env w) : Pure 38 #[] w (.bool true) := by
  have t1 := fun W => Lib.hid ((text_c L.itoa W ⟨1, 1, 2, false⟩).of_eq (show _ = Value.tuple #[.string ⟨#[35, 50]⟩, .int .i64 0] by kernel_rfl))
  have t2 := fun W => Lib.hid ((text_c L.itoa W ⟨2, 1, 2, true⟩).of_eq (show _ = Value.tuple #[.string ⟨#[104, 35, 50, 46, 53]⟩, .int .i64 0] by kernel_rfl))
  have t3 := fun W => Lib.hid ((text_c L.itoa W ⟨4, 2, 10, false⟩).of_eq (show _ = Value.tuple #[.string ⟨#[114, 61, 49, 48]⟩, .int .i64 0] by kernel_rfl))
  have p1 := fun W => Lib.hid (plies_t W ⟨#[35, 50]⟩ 3 ⟨1, 1, 2, false⟩ po_0 (by decide) (by decide))
  have p2 := fun W => Lib.hid (plies_t W ⟨#[104, 35, 50]⟩ 4 ⟨2, 1, 2, false⟩ po_1 (by decide) (by decide))
  have p3 := fun W => Lib.hid (plies_t W ⟨#[104, 35, 50, 46, 53]⟩ 5 ⟨2, 1, 2, true⟩ po_2 (by decide) (by decide))
  have p4 := fun W => Lib.hid (plies_t W ⟨#[115, 35, 50]⟩ 4 ⟨3, 1, 2, false⟩ po_3 (by decide) (by decide))
  have p5 := fun W => Lib.hid (plies_t W ⟨#[114, 35, 49]⟩ 2 ⟨4, 1, 1, false⟩ po_4 (by decide) (by decide))
  have g1 := fun W => Lib.hid (giver_t W ⟨#[35, 50]⟩ false false ⟨1, 1, 2, false⟩ po_0 (by decide) (by decide))
  have g2 := fun W => Lib.hid (giver_t W ⟨#[104, 35, 50]⟩ true false ⟨2, 1, 2, false⟩ po_1 (by decide) (by decide))
  have g3 := fun W => Lib.hid (giver_t W ⟨#[104, 35, 50, 46, 53]⟩ false false ⟨2, 1, 2, true⟩ po_2 (by decide) (by decide))
  have g4 := fun W => Lib.hid (giver_t W ⟨#[115, 35, 50]⟩ false true ⟨3, 1, 2, false⟩ po_3 (by decide) (by decide))
  have o1 := fun W => Lib.hid (of_s W ⟨#[104, 35, 50, 46, 53]⟩ ⟨2, 1, 2, true⟩ po_2)
  have o2 := fun W => Lib.hid (of_s W ⟨#[35, 49]⟩ ⟨1, 1, 1, false⟩ po_5)
  have o3 := fun W => Lib.hid (of_s W ⟨#[104, 35, 49, 46, 53]⟩ ⟨2, 1, 1, true⟩ po_6)
  have o4 := fun W => Lib.hid (of_s W ⟨#[35, 50]⟩ ⟨1, 1, 2, false⟩ po_0)
  have o5 := fun W => Lib.hid (of_s W ⟨#[104, 35, 50]⟩ ⟨2, 1, 2, false⟩ po_1)
  have o6 := fun W => Lib.hid (of_s W ⟨#[115, 35, 50]⟩ ⟨3, 1, 2, false⟩ po_3)
  have n1 := fun W => Lib.hid ((snext_c W ⟨2, 1, 2, true⟩).of_eq (show _ = Value.tuple #[.agg #[.int .i64 2, .int .i64 1, .int .i64 1, .bool true], .int .i64 0] by kernel_rfl))
  have n2 := fun W => Lib.hid ((snext_c W ⟨1, 1, 1, false⟩).of_eq (show _ = Value.tuple #[.agg #[.int .i64 0, .int .i64 0, .int .i64 0, .bool false], .int .i64 9] by kernel_rfl))
  unfold Stip.v at *
  have hL := Lib.hid L
  replace hE := Lib.hid hE
  clear L
  have hB : Hid (Below w.heap.size w w) := Lib.hid (Below.refl _ _)
  unfold Pure
  go_enter Tryz.func38, Tryz.ntmps38
  go_wp2_with fail
  refine (t1 _).out.mono ?_
  rintro e V ⟨rfl, hV⟩
  replace hB := Lib.hid (hB.out.trans (hV.mono hB.out.size))
  clear hV
  go_wp2_with fail
  refine (t2 _).out.mono ?_
  rintro e V ⟨rfl, hV⟩
  replace hB := Lib.hid (hB.out.trans (hV.mono hB.out.size))
  clear hV
  go_wp2_with fail
  refine (t3 _).out.mono ?_
  rintro e V ⟨rfl, hV⟩
  replace hB := Lib.hid (hB.out.trans (hV.mono hB.out.size))
  clear hV
  go_wp2_with fail
  clear t1 t2 t3
  refine (p1 _).out.mono ?_
  rintro e V ⟨rfl, hV⟩
  replace hB := Lib.hid (hB.out.trans (hV.mono hB.out.size))
  clear hV
  go_wp2_with fail
  refine (p2 _).out.mono ?_
  rintro e V ⟨rfl, hV⟩
  replace hB := Lib.hid (hB.out.trans (hV.mono hB.out.size))
  clear hV
  go_wp2_with fail
  refine (p3 _).out.mono ?_
  rintro e V ⟨rfl, hV⟩
  replace hB := Lib.hid (hB.out.trans (hV.mono hB.out.size))
  clear hV
  go_wp2_with fail
  refine (p4 _).out.mono ?_
  rintro e V ⟨rfl, hV⟩
  replace hB := Lib.hid (hB.out.trans (hV.mono hB.out.size))
  clear hV
  go_wp2_with fail
  refine (p5 _).out.mono ?_
  rintro e V ⟨rfl, hV⟩
  replace hB := Lib.hid (hB.out.trans (hV.mono hB.out.size))
  clear hV
  go_wp2_with fail
  refine (g1 _).out.mono ?_
  rintro e V ⟨rfl, hV⟩
  replace hB := Lib.hid (hB.out.trans (hV.mono hB.out.size))
  clear hV
  go_wp2_with fail
  refine (g2 _).out.mono ?_
  rintro e V ⟨rfl, hV⟩
  replace hB := Lib.hid (hB.out.trans (hV.mono hB.out.size))
  clear hV
  go_wp2_with fail
  refine (g3 _).out.mono ?_
  rintro e V ⟨rfl, hV⟩
  replace hB := Lib.hid (hB.out.trans (hV.mono hB.out.size))
  clear hV
  go_wp2_with fail
  refine (g4 _).out.mono ?_
  rintro e V ⟨rfl, hV⟩
  replace hB := Lib.hid (hB.out.trans (hV.mono hB.out.size))
  clear hV
  go_wp2_with fail
  clear p1 p2 p3 p4 p5 g1 g2 g3 g4
  refine (o1 _).out.mono ?_
  rintro e V ⟨rfl, hV⟩
  replace hB := Lib.hid (hB.out.trans (hV.mono hB.out.size))
  clear hV
  go_wp2_with fail
  clear o1
  refine (n1 _).out.mono ?_
  rintro e V ⟨rfl, hV⟩
  replace hB := Lib.hid (hB.out.trans (hV.mono hB.out.size))
  clear hV n1
  go_wp2_with fail
  have hN := Lib.hid (blk_new (w := V) rfl (.cells #[.int .i64 2, .int .i64 1, .int .i64 1, .bool true] 54))
  replace hB := Lib.hid (hB.out.alloc hB.out.size (.cells #[.int .i64 2, .int .i64 1, .int .i64 1, .bool true] 54))
  obtain ⟨G, hG⟩ : ∃ G, V.heap.size = G := ⟨_, rfl⟩
  obtain ⟨V2, hV2⟩ : ∃ V2, V.alloc (.cells #[.int .i64 2, .int .i64 1, .int .i64 1, .bool true] 54) = V2 := ⟨_, rfl⟩
  rw [hG, hV2] at hN
  rw [hV2] at hB ⊢
  rw [hG]
  clear hG hV2
  refine (o2 _).out.mono ?_
  rintro e V ⟨rfl, hV⟩
  replace hN := Lib.hid (below_blk hV hN.out)
  replace hB := Lib.hid (hB.out.trans (hV.mono hB.out.size))
  clear hV
  go_wp2_with fail
  refine (n2 _).out.mono ?_
  rintro e V ⟨rfl, hV⟩
  replace hN := Lib.hid (below_blk hV hN.out)
  replace hB := Lib.hid (hB.out.trans (hV.mono hB.out.size))
  clear hV
  go_wp2_with fail
  clear o2 n2
  have c0 := fun x : Ext V.heap.size V => cell_of (below_blk x.2 hN.out) 0 _ rfl
  have c1 := fun x : Ext V.heap.size V => cell_of (below_blk x.2 hN.out) 1 _ rfl
  have c2 := fun x : Ext V.heap.size V => cell_of (below_blk x.2 hN.out) 2 _ rfl
  have c3 := fun x : Ext V.heap.size V => cell_of (below_blk x.2 hN.out) 3 _ rfl
  refine ext_region (by kernel_rfl) (by kernel_rfl) ?_
  repeat (first | (go_big_quiet_step ((go_at_call 93; exact Pure.ext (Nat.le_refl _) (Hid.out (o3 _))))) | ((refine wpQuiet_step (fun K hK => ?_)); go_simp; (refine ⟨_, fun _ => rfl, hK _ ?_⟩); clear hK K))
  refine wpQuiet_nil ?_
  rintro V3 ⟨x, hx⟩
  replace hB := Lib.hid (hx ▸ hB.out.trans (x.2.mono hB.out.size) : Below w.heap.size w V3)
  clear hx x c0 c1 c2 c3 hN o3
  go_wp2_with fail
  have hN := Lib.hid (blk_new (w := V3) rfl (.cells #[.string ⟨#[35, 48, 50]⟩, .string ⟨#[115, 35, 50, 46, 53]⟩, .string ⟨#[104, 35, 50, 46, 48]⟩, .string ⟨#[35, 50, 49]⟩, .string ⟨#[104, 32, 35, 50]⟩] 9))
  replace hB := Lib.hid (hB.out.alloc hB.out.size (.cells #[.string ⟨#[35, 48, 50]⟩, .string ⟨#[115, 35, 50, 46, 53]⟩, .string ⟨#[104, 35, 50, 46, 48]⟩, .string ⟨#[35, 50, 49]⟩, .string ⟨#[104, 32, 35, 50]⟩] 9))
  obtain ⟨G, hG⟩ : ∃ G, V3.heap.size = G := ⟨_, rfl⟩
  obtain ⟨V4, hV4⟩ : ∃ V4, V3.alloc (.cells #[.string ⟨#[35, 48, 50]⟩, .string ⟨#[115, 35, 50, 46, 53]⟩, .string ⟨#[104, 35, 50, 46, 48]⟩, .string ⟨#[35, 50, 49]⟩, .string ⟨#[104, 32, 35, 50]⟩] 9) = V4 := ⟨_, rfl⟩
  rw [hG, hV4] at hN
  rw [hV4] at hB ⊢
  rw [hG]
  clear hG hV4
  have b0 := fun W (hW : Below w.heap.size w W) => Lib.hid ((parse_w hL.out.itoa hL.out.cutp hL.out.cuts W ⟨#[35, 48, 50]⟩ (by decide) (hE.out.below hW).atoi).of_eq (show _ = Value.tuple #[.agg #[.int .i64 0, .int .i64 0, .int .i64 0, .bool false], .int .i64 6] by unfold parseV; rw [bad_0]))
  have b1 := fun W (hW : Below w.heap.size w W) => Lib.hid ((parse_w hL.out.itoa hL.out.cutp hL.out.cuts W ⟨#[115, 35, 50, 46, 53]⟩ (by decide) (hE.out.below hW).atoi).of_eq (show _ = Value.tuple #[.agg #[.int .i64 0, .int .i64 0, .int .i64 0, .bool false], .int .i64 6] by unfold parseV; rw [bad_1]))
  have b2 := fun W (hW : Below w.heap.size w W) => Lib.hid ((parse_w hL.out.itoa hL.out.cutp hL.out.cuts W ⟨#[104, 35, 50, 46, 48]⟩ (by decide) (hE.out.below hW).atoi).of_eq (show _ = Value.tuple #[.agg #[.int .i64 0, .int .i64 0, .int .i64 0, .bool false], .int .i64 6] by unfold parseV; rw [bad_2]))
  have b3 := fun W (hW : Below w.heap.size w W) => Lib.hid ((parse_w hL.out.itoa hL.out.cutp hL.out.cuts W ⟨#[35, 50, 49]⟩ (by decide) (hE.out.below hW).atoi).of_eq (show _ = Value.tuple #[.agg #[.int .i64 0, .int .i64 0, .int .i64 0, .bool false], .int .i64 6] by unfold parseV; rw [bad_3]))
  have b4 := fun W (hW : Below w.heap.size w W) => Lib.hid ((parse_w hL.out.itoa hL.out.cutp hL.out.cuts W ⟨#[104, 32, 35, 50]⟩ (by decide) (hE.out.below hW).atoi).of_eq (show _ = Value.tuple #[.agg #[.int .i64 0, .int .i64 0, .int .i64 0, .bool false], .int .i64 6] by unfold parseV; rw [bad_4]))
  go_loopw [9] (fun i wr => ∃ k : Nat, k ≤ 5 ∧ i = .int .i64 k ∧ wr.heap[G]? = some (.cells #[.string ⟨#[35, 48, 50]⟩, .string ⟨#[115, 35, 50, 46, 53]⟩, .string ⟨#[104, 35, 50, 46, 48]⟩, .string ⟨#[35, 50, 49]⟩, .string ⟨#[104, 32, 35, 50]⟩] 9 (0, 0)) ∧ Below w.heap.size w wr) (fun i _ => 6 - (intOf i).toNat)
  case atStart => exact ⟨0, by omega, rfl, hN.out, hB.out⟩
  case round =>
    obtain ⟨k, hk, rfl, hNr, hBr⟩ := hrel
    clear hN hB
    rcases (by omega : k = 0 ∨ k = 1 ∨ k = 2 ∨ k = 3 ∨ k = 4 ∨ k = 5) with rfl | rfl | rfl | rfl | rfl | rfl
    · have x0 := cell_of hNr 0 _ rfl
      have hN := Lib.hid hNr
      have hB := Lib.hid hBr
      clear hNr hBr
      go_wp2_with fail
      refine (b0 _ hB.out).out.mono ?_
      rintro e V5 ⟨rfl, hV5⟩
      replace hN := Lib.hid (below_blk hV5 hN.out)
      replace hB := Lib.hid (hB.out.trans (hV5.mono hB.out.size))
      clear hV5 x0
      go_wp2_with fail
      go_roundw
      case rel => exact ⟨0 + 1, by omega, by simp, blk_alloc hN.out _, hB.out.alloc hB.out.size _⟩
      case measure => simp [intOf]
    · have x0 := cell_of hNr 1 _ rfl
      have hN := Lib.hid hNr
      have hB := Lib.hid hBr
      clear hNr hBr
      go_wp2_with fail
      refine (b1 _ hB.out).out.mono ?_
      rintro e V5 ⟨rfl, hV5⟩
      replace hN := Lib.hid (below_blk hV5 hN.out)
      replace hB := Lib.hid (hB.out.trans (hV5.mono hB.out.size))
      clear hV5 x0
      go_wp2_with fail
      go_roundw
      case rel => exact ⟨1 + 1, by omega, by simp, blk_alloc hN.out _, hB.out.alloc hB.out.size _⟩
      case measure => simp [intOf]
    · have x0 := cell_of hNr 2 _ rfl
      have hN := Lib.hid hNr
      have hB := Lib.hid hBr
      clear hNr hBr
      go_wp2_with fail
      refine (b2 _ hB.out).out.mono ?_
      rintro e V5 ⟨rfl, hV5⟩
      replace hN := Lib.hid (below_blk hV5 hN.out)
      replace hB := Lib.hid (hB.out.trans (hV5.mono hB.out.size))
      clear hV5 x0
      go_wp2_with fail
      go_roundw
      case rel => exact ⟨2 + 1, by omega, by simp, blk_alloc hN.out _, hB.out.alloc hB.out.size _⟩
      case measure => simp [intOf]
    · have x0 := cell_of hNr 3 _ rfl
      have hN := Lib.hid hNr
      have hB := Lib.hid hBr
      clear hNr hBr
      go_wp2_with fail
      refine (b3 _ hB.out).out.mono ?_
      rintro e V5 ⟨rfl, hV5⟩
      replace hN := Lib.hid (below_blk hV5 hN.out)
      replace hB := Lib.hid (hB.out.trans (hV5.mono hB.out.size))
      clear hV5 x0
      go_wp2_with fail
      go_roundw
      case rel => exact ⟨3 + 1, by omega, by simp, blk_alloc hN.out _, hB.out.alloc hB.out.size _⟩
      case measure => simp [intOf]
    · have x0 := cell_of hNr 4 _ rfl
      have hN := Lib.hid hNr
      have hB := Lib.hid hBr
      clear hNr hBr
      go_wp2_with fail
      refine (b4 _ hB.out).out.mono ?_
      rintro e V5 ⟨rfl, hV5⟩
      replace hN := Lib.hid (below_blk hV5 hN.out)
      replace hB := Lib.hid (hB.out.trans (hV5.mono hB.out.size))
      clear hV5 x0
      go_wp2_with fail
      go_roundw
      case rel => exact ⟨4 + 1, by omega, by simp, blk_alloc hN.out _, hB.out.alloc hB.out.size _⟩
      case measure => simp [intOf]
    · clear b0 b1 b2 b3 b4
      have hst := Lib.hid (fun W (hW : Below w.heap.size w W) => start_c hL.out.split hL.out.rev hL.out.join hL.out.cont W (hE.out.below hW).max (hE.out.below hW).kinds (hE.out.below hW).itoa (hE.out.below hW).atois (hE.out.below hW).rays (hE.out.below hW).full)
      have hB := Lib.hid hBr
      clear hBr hNr
      go_wp2_with fail
      refine (hst.out _ hB.out).mono ?_
      rintro e V5 ⟨⟨po, cap, rfl, hPA⟩, hV5⟩
      replace hB := Lib.hid (hB.out.trans (hV5.mono hB.out.size))
      replace hPA := Lib.hid hPA
      rw [show startP.cells po cap = #[.int .i64 8, .int .i64 8, .slice po 64 cap, .bool false, .int .u8 15, .int .i64 (-1), .int .i64 0, .int .i64 1] from rfl]
      clear hV5 hst
      go_wp2_with fail
      have hN := Lib.hid (blk_new (w := V5) rfl (.cells #[.int .i64 8, .int .i64 8, .slice po 64 cap, .bool false, .int .u8 15, .int .i64 (-1), .int .i64 0, .int .i64 1] 26))
      replace hB := Lib.hid (hB.out.alloc hB.out.size (.cells #[.int .i64 8, .int .i64 8, .slice po 64 cap, .bool false, .int .u8 15, .int .i64 (-1), .int .i64 0, .int .i64 1] 26))
      replace hPA := Lib.hid (hPA.out.below ((Below.refl _ _).alloc (Nat.le_refl _) (.cells #[.int .i64 8, .int .i64 8, .slice po 64 cap, .bool false, .int .u8 15, .int .i64 (-1), .int .i64 0, .int .i64 1] 26)))
      obtain ⟨G, hG⟩ : ∃ G, V5.heap.size = G := ⟨_, rfl⟩
      obtain ⟨V6, hV6⟩ : ∃ V6, V5.alloc (.cells #[.int .i64 8, .int .i64 8, .slice po 64 cap, .bool false, .int .u8 15, .int .i64 (-1), .int .i64 0, .int .i64 1] 26) = V6 := ⟨_, rfl⟩
      rw [hG, hV6] at hN
      rw [hV6] at hB hPA ⊢
      rw [hG]
      clear hG hV6
      have y0 := fun x : Ext (V6).heap.size V6 => cell_of (below_blk x.2 hN.out) 0 _ rfl
      have y1 := fun x : Ext (V6).heap.size V6 => cell_of (below_blk x.2 hN.out) 1 _ rfl
      have y2 := fun x : Ext (V6).heap.size V6 => cell_of (below_blk x.2 hN.out) 2 _ rfl
      have y3 := fun x : Ext (V6).heap.size V6 => cell_of (below_blk x.2 hN.out) 3 _ rfl
      have y4 := fun x : Ext (V6).heap.size V6 => cell_of (below_blk x.2 hN.out) 4 _ rfl
      have y5 := fun x : Ext (V6).heap.size V6 => cell_of (below_blk x.2 hN.out) 5 _ rfl
      have y6 := fun x : Ext (V6).heap.size V6 => cell_of (below_blk x.2 hN.out) 6 _ rfl
      have y7 := fun x : Ext (V6).heap.size V6 => cell_of (below_blk x.2 hN.out) 7 _ rfl
      have us := fun x : Ext (V6).heap.size V6 => Lib.hid (show Pure 47 #[.agg #[.int .i64 1, .int .i64 1, .int .i64 2, .bool false], .agg #[.int .i64 8, .int .i64 8, .slice po 64 cap, .bool false, .int .u8 15, .int .i64 (-1), .int .i64 0, .int .i64 1]] x.1 (.tuple #[.bool true, .int .i64 0]) from (usual_c x.1 ⟨1, 1, 2, false⟩ startP po cap (hPA.out.below x.2) (hE.out.below (hB.out.trans (x.2.mono hB.out.size))).full).of_eq (usualV_start _ _ (by decide) (by decide)))
      refine ext_region (by kernel_rfl) (by kernel_rfl) ?_
      repeat (first | (go_big_quiet_step ((first | (go_at_call 93; exact Pure.ext (Nat.le_refl _) (Hid.out (o4 _))) | (go_at_call 47; exact Pure.ext (Nat.le_refl _) (Hid.out (us _)))))) | ((refine wpQuiet_step (fun K hK => ?_)); go_simp; (refine ⟨_, fun _ => rfl, hK _ ?_⟩); clear hK K))
      refine wpQuiet_nil ?_
      rintro V7 ⟨x, hx⟩
      replace hN := Lib.hid (hx ▸ below_blk x.2 hN.out)
      replace hPA := Lib.hid (hx ▸ hPA.out.below x.2)
      replace hB := Lib.hid (hx ▸ hB.out.trans (x.2.mono hB.out.size) : Below w.heap.size w V7)
      clear hx x y0 y1 y2 y3 y4 y5 y6 y7 us o4
      go_wp2_with fail
      have y0 := fun x : Ext (V7).heap.size V7 => cell_of (below_blk x.2 hN.out) 0 _ rfl
      have y1 := fun x : Ext (V7).heap.size V7 => cell_of (below_blk x.2 hN.out) 1 _ rfl
      have y2 := fun x : Ext (V7).heap.size V7 => cell_of (below_blk x.2 hN.out) 2 _ rfl
      have y3 := fun x : Ext (V7).heap.size V7 => cell_of (below_blk x.2 hN.out) 3 _ rfl
      have y4 := fun x : Ext (V7).heap.size V7 => cell_of (below_blk x.2 hN.out) 4 _ rfl
      have y5 := fun x : Ext (V7).heap.size V7 => cell_of (below_blk x.2 hN.out) 5 _ rfl
      have y6 := fun x : Ext (V7).heap.size V7 => cell_of (below_blk x.2 hN.out) 6 _ rfl
      have y7 := fun x : Ext (V7).heap.size V7 => cell_of (below_blk x.2 hN.out) 7 _ rfl
      have us := fun x : Ext (V7).heap.size V7 => Lib.hid (show Pure 47 #[.agg #[.int .i64 2, .int .i64 1, .int .i64 2, .bool false], .agg #[.int .i64 8, .int .i64 8, .slice po 64 cap, .bool false, .int .u8 15, .int .i64 (-1), .int .i64 0, .int .i64 1]] x.1 (.tuple #[.bool false, .int .i64 0]) from (usual_c x.1 ⟨2, 1, 2, false⟩ startP po cap (hPA.out.below x.2) (hE.out.below (hB.out.trans (x.2.mono hB.out.size))).full).of_eq (usualV_start _ _ (by decide) (by decide)))
      refine ext_region (by kernel_rfl) (by kernel_rfl) ?_
      repeat (first | (go_big_quiet_step ((first | (go_at_call 93; exact Pure.ext (Nat.le_refl _) (Hid.out (o5 _))) | (go_at_call 47; exact Pure.ext (Nat.le_refl _) (Hid.out (us _)))))) | ((refine wpQuiet_step (fun K hK => ?_)); go_simp; (refine ⟨_, fun _ => rfl, hK _ ?_⟩); clear hK K))
      refine wpQuiet_nil ?_
      rintro V8 ⟨x, hx⟩
      replace hN := Lib.hid (hx ▸ below_blk x.2 hN.out)
      replace hPA := Lib.hid (hx ▸ hPA.out.below x.2)
      replace hB := Lib.hid (hx ▸ hB.out.trans (x.2.mono hB.out.size) : Below w.heap.size w V8)
      clear hx x y0 y1 y2 y3 y4 y5 y6 y7 us o5
      go_wp2_with fail
      have y0 := fun x : Ext (V8).heap.size V8 => cell_of (below_blk x.2 hN.out) 0 _ rfl
      have y1 := fun x : Ext (V8).heap.size V8 => cell_of (below_blk x.2 hN.out) 1 _ rfl
      have y2 := fun x : Ext (V8).heap.size V8 => cell_of (below_blk x.2 hN.out) 2 _ rfl
      have y3 := fun x : Ext (V8).heap.size V8 => cell_of (below_blk x.2 hN.out) 3 _ rfl
      have y4 := fun x : Ext (V8).heap.size V8 => cell_of (below_blk x.2 hN.out) 4 _ rfl
      have y5 := fun x : Ext (V8).heap.size V8 => cell_of (below_blk x.2 hN.out) 5 _ rfl
      have y6 := fun x : Ext (V8).heap.size V8 => cell_of (below_blk x.2 hN.out) 6 _ rfl
      have y7 := fun x : Ext (V8).heap.size V8 => cell_of (below_blk x.2 hN.out) 7 _ rfl
      have us := fun x : Ext (V8).heap.size V8 => Lib.hid (show Pure 47 #[.agg #[.int .i64 3, .int .i64 1, .int .i64 2, .bool false], .agg #[.int .i64 8, .int .i64 8, .slice po 64 cap, .bool false, .int .u8 15, .int .i64 (-1), .int .i64 0, .int .i64 1]] x.1 (.tuple #[.bool true, .int .i64 0]) from (usual_c x.1 ⟨3, 1, 2, false⟩ startP po cap (hPA.out.below x.2) (hE.out.below (hB.out.trans (x.2.mono hB.out.size))).full).of_eq (usualV_start _ _ (by decide) (by decide)))
      refine ext_region (by kernel_rfl) (by kernel_rfl) ?_
      repeat (first | (go_big_quiet_step ((first | (go_at_call 93; exact Pure.ext (Nat.le_refl _) (Hid.out (o6 _))) | (go_at_call 47; exact Pure.ext (Nat.le_refl _) (Hid.out (us _)))))) | ((refine wpQuiet_step (fun K hK => ?_)); go_simp; (refine ⟨_, fun _ => rfl, hK _ ?_⟩); clear hK K))
      refine wpQuiet_nil ?_
      rintro V9 ⟨x, hx⟩
      replace hN := Lib.hid (hx ▸ below_blk x.2 hN.out)
      replace hPA := Lib.hid (hx ▸ hPA.out.below x.2)
      replace hB := Lib.hid (hx ▸ hB.out.trans (x.2.mono hB.out.size) : Below w.heap.size w V9)
      clear hx x y0 y1 y2 y3 y4 y5 y6 y7 us o6
      go_wp2_with fail
      go_wp2
      go_ret
      exact ⟨by simp, hB.out⟩
end Go.Proofs.YtbhienpbfidgjaaGreatDoor
