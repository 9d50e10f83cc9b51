/- Pieces: Letter, Parse. Conditions: the table of kinds lies in memory. -/
import Derived.Test.YtbhienpbfidgjaaGreatDoorB1
set_option linter.unusedVariables false
set_option linter.unusedSimpArgs false
namespace Go.Proofs.YtbhienpbfidgjaaGreatDoor
open Go.RowKit
def letL : List Int := [80, 78, 66, 82, 81, 75, 65, 67, 68, 69, 70, 71, 72, 73, 74]
def letN (k : Nat) : Int := letL.getD k 0
def KindsAt (w : World) : Prop := ∀ k < 15, w.cell? ⟨1, k * 3, none⟩ = some (.int .u8 (letN k))
theorem KindsAt.below {w V : World} (h : KindsAt w) (hb : Below w.heap.size w V) : KindsAt V := fun k hk => below_at hb (h k hk)
def letP (p : Int) : Int := if p < 0 then letN (-p - 1).toNat + 32 else letN (p - 1).toNat
def pieceO (c : Int) : Option Int := (List.range 15).findSome? fun k => if c = letN k then some ((k : Int) + 1) else if c = letN k + 32 then some (-(k : Int) - 1) else none
theorem letN_bd {k : Nat} (h : k < 15) : 65 ≤ letN k ∧ letN k ≤ 90 := by
  have : ∀ k < 15, 65 ≤ letN k ∧ letN k ≤ 90 := by decide
  exact this k h
theorem letter_c (w : World) (hK : KindsAt w) (p : Int) (h1 : -15 ≤ p) (h2 : p ≤ 15) (h0 : p ≠ 0) : Pure 149 #[.int .i8 p] w (.tuple #[.int .u8 (letP p), .int .i64 0]) := by
  unfold letP
  by_cases hn : p < 0
  · obtain ⟨k, rfl⟩ : ∃ k : Nat, p = -((k : Int) + 1) := ⟨(-p - 1).toNat, by omega⟩
    have hk : k < 15 := by omega
    have y := hK k hk
    obtain ⟨l1, l2⟩ := letN_bd hk
    rw [if_pos hn, show (-(-((k : Int) + 1)) - 1).toNat = k by omega]
    obtain ⟨L, hL⟩ : ∃ L, letN k = L := ⟨_, rfl⟩
    rw [hL] at y l1 l2 ⊢
    clear hL hK h0
    unfold Pure
    go_enter Tryz.func149, Tryz.ntmps149
    go_wp2
    go_ret2
    exact ⟨by rfl, Below.refl _ _⟩
  · obtain ⟨k, rfl⟩ : ∃ k : Nat, p = (k : Int) + 1 := ⟨(p - 1).toNat, by omega⟩
    have hk : k < 15 := by omega
    have y := hK k hk
    rw [if_neg hn, show ((k : Int) + 1 - 1).toNat = k by omega]
    obtain ⟨L, hL⟩ : ∃ L, letN k = L := ⟨_, rfl⟩
    rw [hL] at y ⊢
    clear hL hK h0
    unfold Pure
    go_enter Tryz.func149, Tryz.ntmps149
    go_wp2
    go_ret2
    exact ⟨by rfl, Below.refl _ _⟩
theorem pieceO_hit {c : Int} {k : Nat} {v : Int} (hk : k < 15) (h : ∀ j < k, c ≠ letN j ∧ c ≠ letN j + 32) (hv : (if c = letN k then some ((k : Int) + 1) else if c = letN k + 32 then some (-(k : Int) - 1) else none) = some v) : pieceO c = some v := by
  unfold pieceO
  rw [show 15 = k + (15 - k) by omega, List.range_add, List.findSome?_append]
  have e1 : (List.range k).findSome? (fun k => if c = letN k then some ((k : Int) + 1) else if c = letN k + 32 then some (-(k : Int) - 1) else none) = none := by
    rw [List.findSome?_eq_none_iff]
    intro j hj
    obtain ⟨a, b⟩ := h j (by simpa using hj)
    rw [if_neg a, if_neg b]
  rw [e1]
  obtain ⟨m, hm⟩ : ∃ m, 15 - k = m + 1 := ⟨14 - k, by omega⟩
  rw [hm, List.range_succ_eq_map]
  simp only [List.map_cons, List.findSome?_cons, Option.none_or, Nat.add_zero]
  rw [hv]
theorem pieceO_none {c : Int} (h : ∀ j < 15, c ≠ letN j ∧ c ≠ letN j + 32) : pieceO c = none := by
  unfold pieceO
  rw [List.findSome?_eq_none_iff]
  intro j hj
  obtain ⟨a, b⟩ := h j (by simpa using hj)
  rw [if_neg a, if_neg b]
def pieceV (c : Int) : Value := match pieceO c with
  | some p => .tuple #[.int .i8 p, .int .i64 0]
  | none => .tuple #[.int .i8 0, .int .i64 6]
set_option maxHeartbeats 1000000 in
theorem pparse_c (w : World) (hK : KindsAt w) (c : Int) (h1 : 0 ≤ c) (h2 : c ≤ 255) : Pure 128 #[.int .u8 c] w (pieceV c) := by
  have hhit := fun k v h1 h2 h3 => Lib.hid (pieceO_hit (c := c) (k := k) (v := v) h1 h2 h3)
  have hnone := fun h => Lib.hid (pieceO_none (c := c) h)
  unfold pieceV
  obtain ⟨R, hR⟩ : ∃ R, pieceO c = R := ⟨_, rfl⟩
  simp only [hR] at hhit hnone ⊢
  clear hR
  replace hK := Lib.hid hK
  unfold Pure
  go_enter Tryz.func128, Tryz.ntmps128
  go_wp2
  go_loop [5] (fun i => ∃ k : Nat, k ≤ 15 ∧ i = .int .i8 k ∧ ∀ j < k, c ≠ letN j ∧ c ≠ letN j + 32) (fun i => 15 - (intOf i).toNat)
  case atStart => exact ⟨0, by omega, rfl, fun j h => absurd h (by omega)⟩
  case round =>
    obtain ⟨k, hk, rfl, hpre⟩ := hrel
    replace hpre := Lib.hid hpre
    by_cases hk15 : k = 15
    · subst hk15
      have hf := hnone hpre.out
      obtain rfl := hf.out
      clear hhit hnone hf
      go_wp2
      go_ret2
      exact ⟨rfl, Below.refl _ _⟩
    · have hlt : k < 15 := by omega
      have y := hK.out k hlt
      obtain ⟨l1, l2⟩ := letN_bd hlt
      have hh := fun v => hhit k v hlt hpre.out
      clear hhit hnone hk15
      obtain ⟨L, hL⟩ : ∃ L, letN k = L := ⟨_, rfl⟩
      rw [hL] at y l1 l2
      simp only [hL] at hh
      replace hL := Lib.hid hL
      by_cases e1 : c = L
      · have hf := hh _ (if_pos e1)
        obtain rfl := hf.out
        have e1' : (c == L) = true := by simpa using e1
        clear hh hf
        replace e1 := Lib.hid e1
        go_wp2
        go_ret2
        exact ⟨rfl, Below.refl _ _⟩
      · have e1' : (c == L) = false := by simpa using e1
        by_cases e2 : c = L + 32
        · have hf := hh _ ((if_neg e1).trans (if_pos e2))
          obtain rfl := hf.out
          have e2' : (c == L + 32) = true := by simpa using e2
          clear hh hf
          replace e1 := Lib.hid e1
          replace e2 := Lib.hid e2
          go_wp2
          go_ret2
          exact ⟨by simp, Below.refl _ _⟩
        · have e2' : (c == L + 32) = false := by simpa using e2
          have hn : Hid (c ≠ letN k ∧ c ≠ letN k + 32) := Lib.hid (by rw [hL.out]; exact ⟨e1, e2⟩)
          clear hh
          replace e1 := Lib.hid e1
          replace e2 := Lib.hid e2
          go_wp2
          go_round
          case rel => exact ⟨k + 1, by omega, by go_num, fun j hj => by
            by_cases e : j = k
            · rw [e]; exact hn.out
            · exact hpre.out j (by omega)⟩
          case measure => simp [intOf]; omega
end Go.Proofs.YtbhienpbfidgjaaGreatDoor
