/- Positions: Start. Conditions: as for Parse. -/
import Derived.Test.YtbhienpbfidgjaaGreatDoorF11
set_option linter.unusedVariables false
set_option linter.unusedSimpArgs false
namespace Go.Proofs.YtbhienpbfidgjaaGreatDoor
open Go.RowKit
def startT : ByteArray := ⟨#[56, 120, 56, 32, 114, 110, 98, 113, 107, 98, 110, 114, 47, 112, 112, 112, 112, 112, 112, 112, 112, 47, 56, 47, 56, 47, 56, 47, 56, 47, 80, 80, 80, 80, 80, 80, 80, 80, 47, 82, 78, 66, 81, 75, 66, 78, 82, 32, 119, 32, 75, 81, 107, 113, 32, 45, 32, 48, 32, 49]⟩
def startP : Pos := ⟨8, 8, [4, 2, 3, 5, 6, 3, 2, 4, 1, 1, 1, 1, 1, 1, 1, 1, 0, 0, 0, 0, 0, 0, 0, 0, 0, 0, 0, 0, 0, 0, 0, 0, 0, 0, 0, 0, 0, 0, 0, 0, 0, 0, 0, 0, 0, 0, 0, 0, (-1), (-1), (-1), (-1), (-1), (-1), (-1), (-1), (-4), (-2), (-3), (-5), (-6), (-3), (-2), (-4)], false, 15, -1, 0, 1⟩
set_option maxRecDepth 1000000 in
theorem start_o : posO startT = some startP := by kernel_rfl
set_option maxRecDepth 1000000 in
theorem start_v : startP.valid = true := by kernel_rfl
theorem PosIs.some {t : ByteArray} {e : Ending} {W : World} {P : Pos} (h : PosIs t e W) (hp : posO t = .some P) : ∃ po cap, e = .returned (.tuple #[.agg (P.cells po cap), .int .i64 0]) ∧ PosAt W P po cap := by
  unfold PosIs at h
  rw [hp] at h
  exact h
theorem calls_some {w W : World} {t : ByteArray} {P : Pos} (h : Calls Tryz.prog 22 #[.string t] W fun e w' => PosIs t e w' ∧ Below W.heap.size W w') (hp : posO t = .some P) :
    Calls Tryz.prog 22 #[.string t] W fun e w' => (∃ po cap, e = .returned (.tuple #[.agg (P.cells po cap), .int .i64 0]) ∧ PosAt w' P po cap) ∧ Below W.heap.size W w' := h.mono fun e V ⟨a, b⟩ => ⟨a.some hp, b⟩
set_option maxRecDepth 1000000 in
set_option maxHeartbeats 4000000 in
theorem start_c (hSp : SplitOK) (hR : RevOK) (hJ : JoinOK) (hCo : ContOK) (w : World) (hM : MaxAt w) (hK : KindsAt w) (hI : ItoaAt w) (hA : AtoiIs w) (hRy : Rays w)
    (hfull : w.cell? ⟨0, 0, none⟩ = some (.int .i64 8) ∧ w.cell? ⟨0, 1, none⟩ = some (.int .i64 8)) :
    Calls Tryz.prog 51 #[] w fun e w' => (∃ po cap, e = .returned (.agg (startP.cells po cap)) ∧ PosAt w' startP po cap) ∧ Below w.heap.size w w' := by
  have h := Lib.hid (fun W (hW : Below w.heap.size w W) => calls_some (w := w) (posparse_c hSp hR hJ hCo W (hM.below hW) (hK.below hW) (hI.below hW) (fun V s hV => hA V s (hW.trans (hV.mono hW.size))) (hRy.below hW) ⟨below_at hW hfull.1, below_at hW hfull.2⟩ startT (by decide)) start_o)
  replace hRy := Lib.hid hRy
  clear hSp hR hJ hCo hM hK hI hA hfull
  obtain ⟨P, hP⟩ : ∃ P, startP = P := ⟨_, rfl⟩
  rw [hP] at h ⊢
  clear hP
  obtain ⟨T, hT⟩ : ∃ T, startT = T := ⟨_, rfl⟩
  rw [hT] at h
  unfold startT at hT
  subst hT
  go_enter Tryz.func51, Tryz.ntmps51
  go_wp2_with fail
  refine (h.out _ ((Below.refl _ _).alloc (Nat.le_refl _) _)).mono ?_
  rintro e V ⟨hpi, hV⟩
  obtain ⟨po, cap, rfl, hPA⟩ := hpi
  have hX := box_of hV
  have hB := below_of_alloc hV
  clear hV h
  obtain ⟨f, r, ps, black, castle, passant, half, full⟩ := P
  have hPV : Hid (∀ W, Below V.heap.size V W → PosAt W ⟨f, r, ps, black, castle, passant, half, full⟩ po cap) := Lib.hid (fun W hW => hPA.below hW)
  dsimp only [Pos.cells]
  clear hPA
  obtain ⟨m, hm⟩ : ∃ m, ps.length = m := ⟨_, rfl⟩
  rw [hm]
  replace hm := Lib.hid hm
  have hX2 := fun o => Lib.hid (blk_alloc hX o)
  have hlt := lt_of_blk hX
  replace hX := Lib.hid hX
  replace hB := Lib.hid hB
  go_wp2_with (refine store_row 26 (.tmp 0) (.tmp 7) rfl rfl #[.int .i64 f, .int .i64 r, .slice po m cap, .bool black, .int .u8 castle, .int .i64 passant, .int .i64 half, .int .i64 full] rfl (by rfl) _ ((hX2 _).out) rfl sizePo (onePo _ _ _ _ _ _ _ _ _ _) ?_)
  have hlo : w.heap.size ≤ V.heap.size := hB.out.size
  refine bodyPost_ret (results_cell_row rfl _ _ _ 26 #[.int .i64 f, .int .i64 r, .slice po m cap, .bool black, .int .u8 castle, .int .i64 passant, .int .i64 half, .int .i64 full] (0, 0) _ rfl (setCells_arr (hX2 _).out rfl) Tryz.underlying26 rfl sizePo) rfl ⟨⟨po, cap, ?_, ?_⟩, ?_⟩
  · dsimp only [Pos.cells]
    rw [hm.out]
  · have hA1 := hPV.out _ ((Below.refl _ V).alloc (Nat.le_refl _) (.cells #[.int .i64 f, .int .i64 r, .slice po m cap, .bool black, .int .u8 castle, .int .i64 passant, .int .i64 half, .int .i64 full] 26))
    obtain ⟨g1, g2, g3, g4, g5, g6⟩ := hA1
    have hrest : ∀ (W : World), (∀ k, k ≠ w.heap.size → W.heap[k]? = (V.alloc (.cells #[.int .i64 f, .int .i64 r, .slice po m cap, .bool black, .int .u8 castle, .int .i64 passant, .int .i64 half, .int .i64 full] 26)).heap[k]?) → SlcAt W po ps := fun W hW => by
      rcases g1 with h | ⟨b, off, rfl, hp⟩
      · exact .inl h
      · by_cases he : ps = []
        · exact .inl he
        · refine .inr ⟨b, off, rfl, fun i p hip => (World.cell?_of_block (hW b fun e => ?_)).trans (hp i p hip)⟩
          cases ps with
          | nil => exact he rfl
          | cons q l => exact notB (hX2 _).out (e ▸ hp 0 q rfl)
    exact ⟨hrest _ (fun k hk => setCells_other hk _ _ _), g2, g3, g4, g5, hRy.out.below (setCells_below (Nat.le_refl _) _ _ _ (hB.out.alloc hlo _))⟩
  · exact setCells_below (Nat.le_refl _) _ _ _ (hB.out.alloc hlo _)
end Go.Proofs.YtbhienpbfidgjaaGreatDoor
