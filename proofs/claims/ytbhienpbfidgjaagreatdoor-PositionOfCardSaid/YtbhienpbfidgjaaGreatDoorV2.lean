/- Positions: castling rights. Conditions: the pieces lie in memory; the tables as laid. -/
import Derived.Test.YtbhienpbfidgjaaGreatDoorV1
import Derived.Test.YtbhienpbfidgjaaGreatDoorR
set_option linter.unusedVariables false
set_option linter.unusedSimpArgs false
namespace Go.Proofs.YtbhienpbfidgjaaGreatDoor
open Go.RowKit
def rightsC : Array Value := #[.int .u8 1, .string { data := #[75] }, .bool false, .int .i64 4, .int .i64 7, .int .u8 2, .string { data := #[81] }, .bool false, .int .i64 4, .int .i64 0,
  .int .u8 4, .string { data := #[107] }, .bool true, .int .i64 60, .int .i64 63, .int .u8 8, .string { data := #[113] }, .bool true, .int .i64 60, .int .i64 56]
def rightsV : Value := .agg rightsC
theorem size92 : (Tryz.prog.info? 92).map (·.size) = some 20 := by kernel_rfl
theorem oneR : rightsC.all (·.oneCell') = true := by simp [rightsC, Value.oneCell']
theorem rights_c (w : World) : Pure 73 #[] w rightsV := by
  have HZ := fun o => Lib.hid (blk_new (w := w) rfl o)
  unfold Pure
  go_enter Tryz.func73, Tryz.ntmps73
  go_wp2_with (refine store_row 92 (.tmp 0) (.tmp 5) rfl rfl rightsC rfl (by rfl) _ (Hid.out (HZ _)) rfl size92 oneR ?_)
  refine bodyPost_ret (results_cell_row rfl _ _ _ 92 rightsC (0, 0) _ rfl (setCells_arr (Hid.out (HZ _)) rfl) Tryz.underlying92 rfl size92) rfl ⟨rfl, ?_⟩
  exact setCells_below (Nat.le_refl _) _ _ _ ((Below.refl _ _).alloc (Nat.le_refl _) _)
def pofI (k : Int) (black : Bool) : Int := if black then -k else k
def Pos.has (p : Pos) (bit : Nat) : Bool := p.castle.toNat &&& bit != 0
def Pos.home (p : Pos) (king rook : Nat) (black : Bool) : Bool := p.f == 8 && p.r == 8 && p.ps.getD king 0 == pofI 6 black && p.ps.getD rook 0 == pofI 4 black
def Pos.right (p : Pos) (bit king rook : Nat) (black : Bool) : Bool := !p.has bit || p.home king rook black
def Pos.castles (p : Pos) : Bool := p.right 1 4 7 false && p.right 2 4 0 false && p.right 4 60 63 true && p.right 8 60 56 true && decide (p.castle < 16)
theorem has_run {p : Pos} (h : 0 ≤ p.castle ∧ p.castle ≤ 255) (bit : Nat) (hb : bit < 256) : (bits .and .u8 p.castle (bit : Int) != 0) = p.has bit := by
  have := u8_and p.castle bit h.1 (by omega) (by omega) (by omega)
  rw [this]
  unfold Pos.has
  rw [Int.toNat_natCast, Bool.eq_iff_iff]
  simp only [bne_iff_ne, ne_eq]
  omega
def Pos.upto (p : Pos) (k : Nat) : Prop := (0 < k → p.right 1 4 7 false = true) ∧ (1 < k → p.right 2 4 0 false = true) ∧ (2 < k → p.right 4 60 63 true = true) ∧ (3 < k → p.right 8 60 56 true = true)
theorem idx0 (w : World) : (Instr.index 92 (.agg rightsC) (.int .i64 0)).run Tryz.prog w = .ok (.agg #[.int .u8 1, .string { data := #[75] }, .bool false, .int .i64 4, .int .i64 7]) w := by kernel_rfl
theorem idx1 (w : World) : (Instr.index 92 (.agg rightsC) (.int .i64 1)).run Tryz.prog w = .ok (.agg #[.int .u8 2, .string { data := #[81] }, .bool false, .int .i64 4, .int .i64 0]) w := by kernel_rfl
theorem idx2 (w : World) : (Instr.index 92 (.agg rightsC) (.int .i64 2)).run Tryz.prog w = .ok (.agg #[.int .u8 4, .string { data := #[107] }, .bool true, .int .i64 60, .int .i64 63]) w := by kernel_rfl
theorem idx3 (w : World) : (Instr.index 92 (.agg rightsC) (.int .i64 3)).run Tryz.prog w = .ok (.agg #[.int .u8 8, .string { data := #[113] }, .bool true, .int .i64 60, .int .i64 56]) w := by kernel_rfl
theorem Pos.castles_f {p : Pos} {bit king rook : Nat} {bl : Bool} (h : (bit = 1 ∧ king = 4 ∧ rook = 7 ∧ bl = false) ∨ (bit = 2 ∧ king = 4 ∧ rook = 0 ∧ bl = false) ∨ (bit = 4 ∧ king = 60 ∧ rook = 63 ∧ bl = true) ∨ (bit = 8 ∧ king = 60 ∧ rook = 56 ∧ bl = true)) (hb : p.has bit = true) (hh : p.home king rook bl = false) : p.castles = false := by
  unfold Pos.castles
  rcases h with ⟨rfl, rfl, rfl, rfl⟩ | ⟨rfl, rfl, rfl, rfl⟩ | ⟨rfl, rfl, rfl, rfl⟩ | ⟨rfl, rfl, rfl, rfl⟩ <;> simp [Pos.right, hb, hh]
theorem Pos.upto_snoc {p : Pos} {k : Nat} (h : p.upto k) (h0 : k = 0 → p.right 1 4 7 false = true) (h1 : k = 1 → p.right 2 4 0 false = true) (h2 : k = 2 → p.right 4 60 63 true = true) (h3 : k = 3 → p.right 8 60 56 true = true) : p.upto (k + 1) := by
  obtain ⟨u1, u2, u3, u4⟩ := h
  refine ⟨fun h => ?_, fun h => ?_, fun h => ?_, fun h => ?_⟩
  · by_cases e : k = 0
    · exact h0 e
    · exact u1 (by omega)
  · by_cases e : k = 1
    · exact h1 e
    · exact u2 (by omega)
  · by_cases e : k = 2
    · exact h2 e
    · exact u3 (by omega)
  · by_cases e : k = 3
    · exact h3 e
    · exact u4 (by omega)
end Go.Proofs.YtbhienpbfidgjaaGreatDoor
