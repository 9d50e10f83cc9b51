/- Positions: kings, pawns, and the counters. Conditions: the pieces lie in memory; the tables of rays as laid. -/
import Derived.Test.YtbhienpbfidgjaaGreatDoorB5
set_option linter.unusedVariables false
set_option linter.unusedSimpArgs false
namespace Go.Proofs.YtbhienpbfidgjaaGreatDoor
open Go.RowKit
structure Pos where
  f : Int
  r : Int
  ps : List Int
  black : Bool
  castle : Int
  passant : Int
  half : Int
  full : Int
def Pos.cells (p : Pos) (po : Option Addr) (cap : Nat) : Array Value := #[.int .i64 p.f, .int .i64 p.r, .slice po p.ps.length cap, .bool p.black, .int .u8 p.castle, .int .i64 p.passant, .int .i64 p.half, .int .i64 p.full]
structure PosAt (w : World) (p : Pos) (po : Option Addr) (cap : Nat) : Prop where
  slc : SlcAt w po p.ps
  len : p.ps.length ≤ 100
  cap1 : p.ps.length ≤ cap
  cap2 : cap ≤ 9223372036854775807
  cas : 0 ≤ p.castle ∧ p.castle ≤ 255
  rays : Rays w
theorem PosAt.below {w V : World} {p : Pos} {po : Option Addr} {cap : Nat} (h : PosAt w p po cap) (hb : Below w.heap.size w V) : PosAt V p po cap := ⟨h.slc.below hb, h.len, h.cap1, h.cap2, h.cas, h.rays.below hb⟩
def PosBox (w : World) (b : Nat) (p : Pos) (po : Option Addr) (cap : Nat) : Prop := w.heap[b]? = some (.cells (p.cells po cap) 26 (0, 0))
theorem PosBox.all {w : World} {b : Nat} {p : Pos} {po : Option Addr} {cap : Nat} (h : PosBox w b p po cap) :
    w.cell? ⟨b, 0, none⟩ = some (.int .i64 p.f) ∧ w.cell? ⟨b, 1, none⟩ = some (.int .i64 p.r) ∧ w.cell? ⟨b, 2, none⟩ = some (.slice po p.ps.length cap) ∧ w.cell? ⟨b, 3, none⟩ = some (.bool p.black) ∧
    w.cell? ⟨b, 4, none⟩ = some (.int .u8 p.castle) ∧ w.cell? ⟨b, 5, none⟩ = some (.int .i64 p.passant) ∧ w.cell? ⟨b, 6, none⟩ = some (.int .i64 p.half) ∧ w.cell? ⟨b, 7, none⟩ = some (.int .i64 p.full) := by
  refine ⟨?_, ?_, ?_, ?_, ?_, ?_, ?_, ?_⟩ <;> exact cell_of h _ _ rfl
def Pos.kings (p : Pos) : Bool := orthB p.f p.r p.ps && (kingI p.ps p.black).isSome && (match kingI p.ps (!p.black) with | some a => attS p.f p.r p.ps a p.black p.ps.length == 0 | none => false)
set_option maxHeartbeats 1000000 in
theorem kings_g (w : World) (p : Pos) (po : Option Addr) (cap : Nat) (A E1 S E2 : Int)
    (h1 : ∀ W, Below w.heap.size w W → Pure 105 #[bdV p.f p.r po p.ps.length cap, .bool p.black] W (.tuple #[.int .i64 A, .int .i64 E1]))
    (h2 : ∀ W, Below w.heap.size w W → Pure 106 #[bdV p.f p.r po p.ps.length cap, .bool (!p.black)] W (.tuple #[.int .u64 S, .int .i64 E2])) :
    Pure 55 #[.agg (p.cells po cap)] w (.bool (E1 == 0 && E2 == 0 && S == 0)) := by
  replace h1 := fun W hw => Lib.hid (h1 W hw)
  replace h2 := fun W hw => Lib.hid (h2 W hw)
  unfold bdV at h1 h2
  obtain ⟨f, r, ps, black, castle, passant, half, full⟩ := p
  dsimp only [Pos.cells] at *
  obtain ⟨n, hln⟩ : ∃ n, ps.length = n := ⟨_, rfl⟩
  simp only [hln] at h1 h2 ⊢
  clear hln ps
  unfold Pure
  go_enter Tryz.func55, Tryz.ntmps55
  go_wp2_with fail
  refine ((h1 _ (((Below.refl _ _).alloc (Nat.le_refl _) _).alloc (by simp) _)).out).mono ?_
  rintro e V ⟨rfl, hV⟩
  obtain ⟨hX, hX2⟩ := box_of2 hV
  have y0 := cell_of hX 0 _ rfl
  have y1 := cell_of hX 1 _ rfl
  have y2 := cell_of hX 2 _ rfl
  have y3 := cell_of hX 3 _ rfl
  have z0 := cell_of hX2 0 _ rfl
  have z1 := cell_of hX2 1 _ rfl
  have z2 := cell_of hX2 2 _ rfl
  have hB := Lib.hid (below_of_alloc2 hV)
  clear hX hX2 hV
  go_wp2_with fail
  refine ((h2 _ hB.out).out).mono ?_
  rintro e V ⟨rfl, hV⟩
  cases e1 : (E1 == 0)
  · go_wp2
    go_ret
    exact ⟨by rw [e1]; rfl, hB.out.trans (hV.mono hB.out.size)⟩
  · cases e2 : (E2 == 0)
    · go_wp2
      go_ret
      exact ⟨by rw [e1, e2]; rfl, hB.out.trans (hV.mono hB.out.size)⟩
    · go_wp2
      go_ret
      exact ⟨by rw [e1, e2]; rfl, hB.out.trans (hV.mono hB.out.size)⟩
theorem kings_c (w : World) (p : Pos) (po : Option Addr) (cap : Nat) (hP : PosAt w p po cap) : Pure 55 #[.agg (p.cells po cap)] w (.bool p.kings) := by
  have h1 := fun W hw => king_c W p.f p.r p.ps po cap p.black (hP.slc.below hw) hP.len hP.cap1 hP.cap2
  have h2 := fun W hw => checkers_c W p.f p.r p.ps po cap (!p.black) (hP.slc.below hw) hP.len hP.cap1 hP.cap2 (hP.rays.below hw)
  unfold kingV at h1
  unfold checkV at h2
  rw [Bool.not_not] at h2
  unfold Pos.kings
  cases hv : orthB p.f p.r p.ps
  · simp only [hv, Bool.false_eq_true, if_false] at h1 h2
    exact (kings_g w p po cap 0 2 0 2 h1 h2).of_eq (by simp)
  · simp only [hv, if_true] at h1 h2
    cases hk : kingI p.ps p.black with
    | none =>
      simp only [hk] at h1
      cases hk2 : kingI p.ps (!p.black) with
      | none => simp only [hk2] at h2; exact (kings_g w p po cap _ _ _ _ h1 h2).of_eq (by simp)
      | some a => simp only [hk2] at h2; exact (kings_g w p po cap _ _ _ _ h1 h2).of_eq (by simp)
    | some a =>
      simp only [hk] at h1
      cases hk2 : kingI p.ps (!p.black) with
      | none => simp only [hk2] at h2; exact (kings_g w p po cap _ _ _ _ h1 h2).of_eq (by simp)
      | some c =>
        simp only [hk2] at h2
        refine (kings_g w p po cap _ _ _ _ h1 h2).of_eq ?_
        simp only [Option.isSome_some, Bool.true_and, beq_self_eq_true]
        congr 1
        rw [Bool.eq_iff_iff]
        simp only [beq_iff_eq]
        omega
def Pos.pawns (p : Pos) : Bool := !((p.ps.drop (p.ps.length - p.f.toNat)).any (fun x => x == 1)) && !((p.ps.take p.f.toNat).any (fun x => x == -1))
set_option maxHeartbeats 1000000 in
theorem pawns_c (w : World) (p : Pos) (po : Option Addr) (cap : Nat) (hP : PosAt w p po cap) (hv : bvalid p.f p.r p.ps = true) : Pure 57 #[.agg (p.cells po cap)] w (.bool p.pawns) := by
  obtain ⟨hz, hl1, hn1⟩ := bvalid_len hv
  obtain ⟨b1, b2, b3, b4⟩ := vsize_bd hz
  have hne : p.ps ≠ [] := by
    intro h
    have := vsize_mul hz
    rw [h] at hl1
    simp at hl1
    omega
  obtain ⟨b, off, rfl, hPc⟩ := hP.slc.resolve_left hne
  obtain ⟨F, hF⟩ : ∃ F : Nat, p.f = (F : Int) := ⟨p.f.toNat, by omega⟩
  have hFl : F < p.ps.length := by
    have h1 : p.f * 3 ≤ p.f * p.r := Int.mul_le_mul_of_nonneg_left b3 (by omega)
    omega
  have h1 := fun W (hw : Below w.heap.size w W) (cp : Nat) => Lib.hid (contains_c W (p.ps.drop (p.ps.length - F)) 1 b (off + (p.ps.length - F)) cp (fun i q hq => by
    have := (hPc.below hw) (p.ps.length - F + i) q (by rw [List.getElem?_drop] at hq; exact hq)
    rwa [← Nat.add_assoc] at this) (by simp; omega))
  have h2 := fun W (hw : Below w.heap.size w W) (cp : Nat) => Lib.hid (contains_c W (p.ps.take F) (-1) b off cp (fun i q hq => by
    rw [List.getElem?_take] at hq
    split at hq
    · exact (hPc.below hw) i q hq
    · cases hq) (by simp; omega))
  have hd : (p.ps.drop (p.ps.length - F)).length = p.ps.length - (p.ps.length - F) := by simp
  have ht : (p.ps.take F).length = F := by simp; omega
  rw [hd] at h1
  rw [ht] at h2
  have hFn : p.f.toNat = F := by omega
  have hcap := hP.cap1
  have hcap2 := hP.cap2
  unfold Pos.pawns
  rw [hFn]
  obtain ⟨A, hA⟩ : ∃ A, (p.ps.drop (p.ps.length - F)).any (fun x => x == 1) = A := ⟨_, rfl⟩
  obtain ⟨C, hC⟩ : ∃ C, (p.ps.take F).any (fun x => x == -1) = C := ⟨_, rfl⟩
  rw [hA] at h1 ⊢
  rw [hC] at h2 ⊢
  clear hP hv hz hne hPc hd ht hA hC hFn
  obtain ⟨f, r, ps, black, castle, passant, half, full⟩ := p
  dsimp only [Pos.cells] at *
  obtain ⟨n, hln⟩ : ∃ n, ps.length = n := ⟨_, rfl⟩
  rw [hln] at h1 hl1 hn1 hFl hcap ⊢
  subst hF
  clear hln ps
  replace hl1 := Lib.hid hl1
  cases A
  · unfold Pure
    go_enter Tryz.func57, Tryz.ntmps57
    go_wp2_with fail
    go_quiet (fail)
    go_wp2_with fail
    refine (h1 _ (below_drewN ((Below.refl _ _).alloc (Nat.le_refl _) _) _) _).out.mono ?_
    rintro e V ⟨rfl, rfl⟩
    go_wp2_with fail
    refine (h2 _ (below_drewN ((Below.refl _ _).alloc (Nat.le_refl _) _) _) _).out.mono ?_
    rintro e V ⟨rfl, rfl⟩
    go_wp2
    go_ret
    refine ⟨by simp, ?_⟩
    repeat (first | (with_reducible assumption) | (with_reducible exact Below.refl _ _) | (with_reducible apply below_drewN) | (with_reducible apply Below.drew) | (with_reducible apply Below.alloc) | (with_reducible apply Below.setCell))
    all_goals first | omega | (dsimp only; omega) | (simp; done) | (simp; omega)
  · unfold Pure
    go_enter Tryz.func57, Tryz.ntmps57
    go_wp2_with fail
    go_quiet (fail)
    go_wp2_with fail
    refine (h1 _ (below_drewN ((Below.refl _ _).alloc (Nat.le_refl _) _) _) _).out.mono ?_
    rintro e V ⟨rfl, rfl⟩
    go_wp2
    go_ret
    refine ⟨by simp, ?_⟩
    repeat (first | (with_reducible assumption) | (with_reducible exact Below.refl _ _) | (with_reducible apply below_drewN) | (with_reducible apply Below.drew) | (with_reducible apply Below.alloc) | (with_reducible apply Below.setCell))
    all_goals first | omega | (dsimp only; omega) | (simp; done) | (simp; omega)
def Pos.counts (p : Pos) : Bool := decide (0 ≤ p.half) && decide (p.half ≤ 10000) && decide (1 ≤ p.full) && decide (p.full ≤ 10000)
set_option maxHeartbeats 400000 in
theorem counts_c (w : World) (b : Nat) (p : Pos) (po : Option Addr) (cap : Nat) (hX : PosBox w b p po cap) : Pure 62 #[.pointer (some ⟨b, 0, none⟩)] w (.bool p.counts) := by
  obtain ⟨y0, y1, y2, y3, y4, y5, y6, y7⟩ := hX.all
  unfold Pos.counts
  clear hX y0 y1 y2 y3 y4 y5
  obtain ⟨f, r, ps, black, castle, passant, half, full⟩ := p
  dsimp only at *
  by_cases h1 : 0 ≤ half
  · by_cases h2 : half ≤ 10000
    · by_cases h3 : 1 ≤ full
      · by_cases h4 : full ≤ 10000
        · unfold Pure
          go_enter Tryz.func62, Tryz.ntmps62
          go_wp2
          go_ret
          refine ⟨ret_bool (by first | (simp [*]; done) | (simp [*]; omega)), ?_⟩
          repeat (first | (with_reducible assumption) | (with_reducible exact Below.refl _ _) | (with_reducible apply below_drewN) | (with_reducible apply Below.drew) | (with_reducible apply Below.alloc) | (with_reducible apply Below.setCell))
          all_goals first | omega | (dsimp only; omega) | (simp; done) | (simp; omega)
        · unfold Pure
          go_enter Tryz.func62, Tryz.ntmps62
          go_wp2
          go_ret
          refine ⟨ret_bool (by first | (simp [*]; done) | (simp [*]; omega)), ?_⟩
          repeat (first | (with_reducible assumption) | (with_reducible exact Below.refl _ _) | (with_reducible apply below_drewN) | (with_reducible apply Below.drew) | (with_reducible apply Below.alloc) | (with_reducible apply Below.setCell))
          all_goals first | omega | (dsimp only; omega) | (simp; done) | (simp; omega)
      · unfold Pure
        go_enter Tryz.func62, Tryz.ntmps62
        go_wp2
        go_ret
        refine ⟨ret_bool (by first | (simp [*]; done) | (simp [*]; omega)), ?_⟩
        repeat (first | (with_reducible assumption) | (with_reducible exact Below.refl _ _) | (with_reducible apply below_drewN) | (with_reducible apply Below.drew) | (with_reducible apply Below.alloc) | (with_reducible apply Below.setCell))
        all_goals first | omega | (dsimp only; omega) | (simp; done) | (simp; omega)
    · unfold Pure
      go_enter Tryz.func62, Tryz.ntmps62
      go_wp2
      go_ret
      refine ⟨ret_bool (by first | (simp [*]; done) | (simp [*]; omega)), ?_⟩
      repeat (first | (with_reducible assumption) | (with_reducible exact Below.refl _ _) | (with_reducible apply below_drewN) | (with_reducible apply Below.drew) | (with_reducible apply Below.alloc) | (with_reducible apply Below.setCell))
      all_goals first | omega | (dsimp only; omega) | (simp; done) | (simp; omega)
  · unfold Pure
    go_enter Tryz.func62, Tryz.ntmps62
    go_wp2
    go_ret
    refine ⟨ret_bool (by first | (simp [*]; done) | (simp [*]; omega)), ?_⟩
    repeat (first | (with_reducible assumption) | (with_reducible exact Below.refl _ _) | (with_reducible apply below_drewN) | (with_reducible apply Below.drew) | (with_reducible apply Below.alloc) | (with_reducible apply Below.setCell))
    all_goals first | omega | (dsimp only; omega) | (simp; done) | (simp; omega)
end Go.Proofs.YtbhienpbfidgjaaGreatDoor
