/- The reference: which positions are valid. Conditions: as in each theorem. Boards and positions of the reference compared. Conditions: at most 1000 pieces, which lie in memory. Positions compared, by the reference and by the package. Conditions: at most 1000 pieces, which lie in memory. Pieces copied: appended to an empty list. Conditions: at most 1000 pieces, which lie in memory. Positions and boards copied. Conditions: at most 1000 pieces, which lie in memory. Positions copied by the reference. Conditions: at most 1000 pieces, which lie in memory. The reference: which positions are valid, where the kings are in place. Conditions: as in each theorem. The plain law: the package's attacks are those of the reference. Conditions: squares of a board of a valid size. The plain law: the package's sliding pieces are those of the reference. Conditions: squares of a board of a valid size. The plain law: kings, check and pawns of the reference. Conditions: as in each theorem. The reference: which positions are valid; the plain law: those are the positions the package calls valid. Conditions: as in each theorem. The examples of the chapter on positions hold. Conditions: the library as said; the tables lie in memory. The law on valid positions, walked. Conditions: the library as said; the tables lie in memory. The law on equal positions, walked. Conditions: the library as said; the tables lie in memory. -/
import Derived.Test.YtbhienpbfidgjaaGreatDoorJ53
import Derived.Test.YtbhienpbfidgjaaGreatDoorF6
import Derived.Test.YtbhienpbfidgjaaGreatDoorF11
import Derived.Test.YtbhienpbfidgjaaGreatDoorV4
import Derived.Test.YtbhienpbfidgjaaGreatDoorT9
section
set_option linter.unusedVariables false
set_option linter.unusedSimpArgs false
namespace Go.Proofs.YtbhienpbfidgjaaGreatDoor
open Go.RowKit
theorem getD_at' {ps : List Int} {i : Nat} (h : i < ps.length) : ps[i]? = some (ps.getD i 0) := by
  rw [List.getD_eq_getElem?_getD, List.getElem?_eq_getElem h]
  rfl
theorem sizeBd3 : (Tryz.prog.info? 40).map (·.size) = some 3 := by kernel_rfl
theorem rofb_c (w : World) (p : Pos) (po : Option Addr) (cap : Nat) : Pure 30 #[.agg (p.cells po cap)] w (bdV p.f p.r po p.ps.length cap) := by
  unfold Pos.cells bdV
  generalize p.ps.length = n
  unfold Pure
  go_enter Tryz.func30, Tryz.ntmps30
  go_wp2_with fail
  refine bodyPost_ret (results_cell_row rfl _ _ _ 40 #[.int .i64 p.f, .int .i64 p.r, .slice po n cap] (0, 0) _ rfl (blk_new (by simp) _) Tryz.underlying40 rfl sizeBd3) rfl ⟨rfl, ?_⟩
  repeat (first | (with_reducible assumption) | (with_reducible exact Below.refl _ _) | (with_reducible apply below_drewN) | (with_reducible apply Below.drew) | (with_reducible apply Below.alloc) | (with_reducible apply Below.setCell))
  all_goals first | omega | (dsimp only; omega) | (simp; done) | (simp; omega)
def passR (p : Pos) : Bool := if p.passant = -1 then true else if p.r < 6 ∨ p.half ≠ 0 ∨ vsq p.f p.r p.passant = false then false else passLate p
theorem rpass_c (w : World) (p : Pos) (b off cap : Nat) (hP : PcAt w b off p.ps) (hlen : (p.ps.length : Int) = p.f * p.r) : Pure 70 #[.agg (p.cells (some ⟨b, off, none⟩) cap)] w (.bool (passR p)) := by
  unfold passR
  by_cases h1 : p.passant = -1
  · rw [if_pos h1]
    exact rpass_none w p _ cap h1
  · rw [if_neg h1]
    by_cases h2 : p.r < 6 ∨ p.half ≠ 0 ∨ vsq p.f p.r p.passant = false
    · rw [if_pos h2]
      exact rpass_early w p _ cap h1 h2
    · rw [if_neg h2]
      have h3 : p.half = 0 := by
        rcases Decidable.em (p.half = 0) with h | h
        · exact h
        · exact absurd (.inr (.inl h)) h2
      refine rpass_late w p b off cap hP hlen (by omega) h3 ?_
      cases hv : vsq p.f p.r p.passant with
      | true => rfl
      | false => exact absurd (.inr (.inr hv)) h2
def pawnBad (p : Pos) (i : Nat) : Bool := kindI (p.ps.getD i 0) == 1 && (i : Int) / p.f == (if decide (p.ps.getD i 0 < 0) then 0 else p.r - 1)
def pawnsR (p : Pos) : Bool := (List.range p.ps.length).all fun i => !pawnBad p i
def rvB (p : Pos) : Bool := orthB p.f p.r p.ps && decide (0 ≤ kingR p.ps false) && decide (0 ≤ kingR p.ps true) && (attL p.f p.r p.ps (kingR p.ps (!p.black)) (!!p.black)).isEmpty && pawnsR p && p.castles && passR p && p.counts
theorem pawns_miss {p : Pos} {i : Nat} (hi : i < p.ps.length) (h : pawnBad p i = true) : pawnsR p = false := by
  unfold pawnsR
  rw [← Bool.not_eq_true, List.all_eq_true]
  intro ha
  have := ha i (List.mem_range.2 hi)
  rw [h] at this
  cases this
theorem pawns_hit {p : Pos} {n : Nat} (hn : p.ps.length = n) (h : ∀ i, i < n → pawnBad p i = false) : pawnsR p = true := by
  unfold pawnsR
  rw [List.all_eq_true]
  intro i hi
  rw [h i (by rw [← hn]; exact List.mem_range.1 hi)]
  rfl
theorem boxed_c {f : FuncId} {args : Array Value} {Q : Ending → World → Prop} {V : World} {x : Ext V.heap.size V} {o : Obj}
    (h : ∀ (G : Nat) (W : World), x.1.heap.size = G → Below V.heap.size V W → W.heap[G]? = some o → ∀ y : Ext W.heap.size W, Calls Tryz.prog f args y.1 Q) : Calls Tryz.prog f args (x.1.alloc o) Q :=
  h x.1.heap.size _ rfl (x.2.alloc x.2.size _) (blk_new rfl _) ⟨_, Below.refl _ _⟩
set_option maxRecDepth 100000 in
set_option maxHeartbeats 1000000 in
theorem rvalid6_no (w : World) (p : Pos) (po : Option Addr) (cap : Nat) (hS : SlcAt w po p.ps) (hn : p.ps.length ≤ 1000) (ho : orthB p.f p.r p.ps = false) : Pure 19 #[.agg (p.cells po cap)] w (.bool false) := by
  obtain ⟨B, hBe⟩ : ∃ B, w.heap.size = B := ⟨_, rfl⟩
  have cof := fun W => Lib.hid (rofb_c W p po cap)
  have co := Lib.hid (fun W (hW : Below w.heap.size w W) => rorth_c W p.f p.r p.ps po cap (hS.below hW) hn)
  rw [ho] at co
  unfold bdV at cof co
  unfold Pos.cells at *
  unfold Pure
  rw [hBe]
  generalize p.ps.length = n at *
  generalize p.f = f at *
  generalize p.r = r at *
  clear ho hS
  go_enter Tryz.func19, Tryz.ntmps19
  go_wp2_with fail
  refine start1Bc hBe ?_
  intro V hN hX x
  have y0 := fun z : Ext V.heap.size V => cell_of (below_blk z.2 (hN).out) 0 _ rfl
  have y1 := fun z : Ext V.heap.size V => cell_of (below_blk z.2 (hN).out) 1 _ rfl
  have y2 := fun z : Ext V.heap.size V => cell_of (below_blk z.2 (hN).out) 2 _ rfl
  have y3 := fun z : Ext V.heap.size V => cell_of (below_blk z.2 (hN).out) 3 _ rfl
  have y4 := fun z : Ext V.heap.size V => cell_of (below_blk z.2 (hN).out) 4 _ rfl
  have y5 := fun z : Ext V.heap.size V => cell_of (below_blk z.2 (hN).out) 5 _ rfl
  have y6 := fun z : Ext V.heap.size V => cell_of (below_blk z.2 (hN).out) 6 _ rfl
  have y7 := fun z : Ext V.heap.size V => cell_of (below_blk z.2 (hN).out) 7 _ rfl
  refine (Pure.st (cof _).out).mono ?_
  rintro e _ ⟨rfl, x, rfl⟩
  go_wp2_with fail
  refine boxed_c ?_
  intro G V2 hG hV2 hP
  rw [hG]
  replace hX := Lib.hid (fun z : Ext V2.heap.size V2 => (show Below B w z.1 ∧ B < z.1.heap.size ∧ Below w.heap.size w z.1 from hX.out ⟨z.1, hV2.trans (z.2.mono hV2.size)⟩))
  replace hN := Lib.hid (below_blk hV2 hN.out)
  replace hP := Lib.hid hP
  clear y0 y1 y2 y3 y4 y5 y6 y7 hV2 hG x cof
  obtain ⟨V, hVe⟩ : ∃ V, V = V2 := ⟨_, rfl⟩
  subst hVe
  intro x
  have y0 := fun z : Ext V.heap.size V => cell_of (below_blk z.2 (hN).out) 0 _ rfl
  have y1 := fun z : Ext V.heap.size V => cell_of (below_blk z.2 (hN).out) 1 _ rfl
  have y2 := fun z : Ext V.heap.size V => cell_of (below_blk z.2 (hN).out) 2 _ rfl
  have y3 := fun z : Ext V.heap.size V => cell_of (below_blk z.2 (hN).out) 3 _ rfl
  have y4 := fun z : Ext V.heap.size V => cell_of (below_blk z.2 (hN).out) 4 _ rfl
  have y5 := fun z : Ext V.heap.size V => cell_of (below_blk z.2 (hN).out) 5 _ rfl
  have y6 := fun z : Ext V.heap.size V => cell_of (below_blk z.2 (hN).out) 6 _ rfl
  have y7 := fun z : Ext V.heap.size V => cell_of (below_blk z.2 (hN).out) 7 _ rfl
  have u0 := fun z : Ext V.heap.size V => cell_of (below_blk z.2 (hP).out) 0 _ rfl
  have u1 := fun z : Ext V.heap.size V => cell_of (below_blk z.2 (hP).out) 1 _ rfl
  have u2 := fun z : Ext V.heap.size V => cell_of (below_blk z.2 (hP).out) 2 _ rfl
  refine (Pure.st (co.out _ (hX.out x).2.2)).mono ?_
  rintro e _ ⟨rfl, x, rfl⟩
  go_wp2_with fail
  go_ret
  exact ⟨rfl, (hX.out _).1⟩
set_option maxRecDepth 100000 in
set_option maxHeartbeats 2000000 in
theorem rvalid6_k (w : World) (p : Pos) (b off cap : Nat) (hP0 : PcAt w b off p.ps) (ho : orthB p.f p.r p.ps = true)
    (hbad : kingR p.ps false < 0 ∨ kingR p.ps true < 0 ∨ (attL p.f p.r p.ps (kingR p.ps (!p.black)) (!!p.black)).isEmpty = false) : Pure 19 #[.agg (p.cells (some ⟨b, off, none⟩) cap)] w (.bool false) := by
  obtain ⟨B, hBe⟩ : ∃ B, w.heap.size = B := ⟨_, rfl⟩
  have hbv : bvalid p.f p.r p.ps = true := by unfold orthB at ho; rw [Bool.and_eq_true] at ho; exact ho.1
  obtain ⟨_, _, h64⟩ := bvalid_len hbv
  have hS0 : SlcAt w (some ⟨b, off, none⟩) p.ps := .inr ⟨b, off, rfl, hP0⟩
  have cof := fun W => Lib.hid (rofb_c W p (some ⟨b, off, none⟩) cap)
  have co := Lib.hid (fun W (hW : Below w.heap.size w W) => (rorth_c W p.f p.r p.ps _ cap (hS0.below hW) (by omega)).of_eq (show _ = Value.bool true by rw [ho]))
  have ck1 := Lib.hid (fun W (hW : Below w.heap.size w W) => rking_c W p.f p.r p.ps _ cap false (hS0.below hW) (by omega))
  have ck2 := Lib.hid (fun W (hW : Below w.heap.size w W) => rking_c W p.f p.r p.ps _ cap true (hS0.below hW) (by omega))
  have cch := Lib.hid (fun (hk : 0 ≤ kingR p.ps (!p.black)) W (hW : Below w.heap.size w W) => rcheck_c W p.f p.r p.ps b off cap (!p.black) (hP0.below hW) ho hk)
  have hkk : 0 ≤ kingR p.ps false → 0 ≤ kingR p.ps true → 0 ≤ kingR p.ps (!p.black) := fun h1 h2 => by cases p.black <;> assumption
  generalize attL p.f p.r p.ps (kingR p.ps (!p.black)) (!!p.black) = A at *
  generalize kingR p.ps false = k1 at *
  generalize kingR p.ps true = k2 at *
  generalize kingR p.ps (!p.black) = k3 at *
  unfold bdV at *
  unfold Pos.cells at *
  unfold Pure
  rw [hBe]
  generalize p.ps.length = n at *
  generalize p.f = f at *
  generalize p.r = r at *
  clear ho hS0 hbv h64 hP0
  by_cases h1 : k1 < 0
  · have d1 : decide (k1 < 0) = true := by simpa using h1
    clear hbad hkk cch ck2
    go_enter Tryz.func19, Tryz.ntmps19
    go_wp2_with fail
    refine start1Bc hBe ?_
    intro V hN hX x
    have y0 := fun z : Ext V.heap.size V => cell_of (below_blk z.2 (hN).out) 0 _ rfl
    have y1 := fun z : Ext V.heap.size V => cell_of (below_blk z.2 (hN).out) 1 _ rfl
    have y2 := fun z : Ext V.heap.size V => cell_of (below_blk z.2 (hN).out) 2 _ rfl
    have y3 := fun z : Ext V.heap.size V => cell_of (below_blk z.2 (hN).out) 3 _ rfl
    have y4 := fun z : Ext V.heap.size V => cell_of (below_blk z.2 (hN).out) 4 _ rfl
    have y5 := fun z : Ext V.heap.size V => cell_of (below_blk z.2 (hN).out) 5 _ rfl
    have y6 := fun z : Ext V.heap.size V => cell_of (below_blk z.2 (hN).out) 6 _ rfl
    have y7 := fun z : Ext V.heap.size V => cell_of (below_blk z.2 (hN).out) 7 _ rfl
    refine (Pure.st (cof _).out).mono ?_
    rintro e _ ⟨rfl, x, rfl⟩
    go_wp2_with fail
    refine boxed_c ?_
    intro G V2 hG hV2 hP
    rw [hG]
    replace hX := Lib.hid (fun z : Ext V2.heap.size V2 => (show Below B w z.1 ∧ B < z.1.heap.size ∧ Below w.heap.size w z.1 from hX.out ⟨z.1, hV2.trans (z.2.mono hV2.size)⟩))
    replace hN := Lib.hid (below_blk hV2 hN.out)
    replace hP := Lib.hid hP
    clear y0 y1 y2 y3 y4 y5 y6 y7 hV2 hG x cof
    obtain ⟨V, hVe⟩ : ∃ V, V = V2 := ⟨_, rfl⟩
    subst hVe
    intro x
    have y0 := fun z : Ext V.heap.size V => cell_of (below_blk z.2 (hN).out) 0 _ rfl
    have y1 := fun z : Ext V.heap.size V => cell_of (below_blk z.2 (hN).out) 1 _ rfl
    have y2 := fun z : Ext V.heap.size V => cell_of (below_blk z.2 (hN).out) 2 _ rfl
    have y3 := fun z : Ext V.heap.size V => cell_of (below_blk z.2 (hN).out) 3 _ rfl
    have y4 := fun z : Ext V.heap.size V => cell_of (below_blk z.2 (hN).out) 4 _ rfl
    have y5 := fun z : Ext V.heap.size V => cell_of (below_blk z.2 (hN).out) 5 _ rfl
    have y6 := fun z : Ext V.heap.size V => cell_of (below_blk z.2 (hN).out) 6 _ rfl
    have y7 := fun z : Ext V.heap.size V => cell_of (below_blk z.2 (hN).out) 7 _ rfl
    have u0 := fun z : Ext V.heap.size V => cell_of (below_blk z.2 (hP).out) 0 _ rfl
    have u1 := fun z : Ext V.heap.size V => cell_of (below_blk z.2 (hP).out) 1 _ rfl
    have u2 := fun z : Ext V.heap.size V => cell_of (below_blk z.2 (hP).out) 2 _ rfl
    refine (Pure.st (co.out _ (hX.out x).2.2)).mono ?_
    rintro e _ ⟨rfl, x, rfl⟩
    go_wp2_with fail
    refine (Pure.st (ck1.out _ (hX.out x).2.2)).mono ?_
    rintro e _ ⟨rfl, x, rfl⟩
    go_wp2_with fail
    go_ret
    exact ⟨rfl, (hX.out _).1⟩
  · have d1 : decide (k1 < 0) = false := by simpa using h1
    by_cases h2 : k2 < 0
    · have d2 : decide (k2 < 0) = true := by simpa using h2
      clear hbad hkk cch
      go_enter Tryz.func19, Tryz.ntmps19
      go_wp2_with fail
      refine start1Bc hBe ?_
      intro V hN hX x
      have y0 := fun z : Ext V.heap.size V => cell_of (below_blk z.2 (hN).out) 0 _ rfl
      have y1 := fun z : Ext V.heap.size V => cell_of (below_blk z.2 (hN).out) 1 _ rfl
      have y2 := fun z : Ext V.heap.size V => cell_of (below_blk z.2 (hN).out) 2 _ rfl
      have y3 := fun z : Ext V.heap.size V => cell_of (below_blk z.2 (hN).out) 3 _ rfl
      have y4 := fun z : Ext V.heap.size V => cell_of (below_blk z.2 (hN).out) 4 _ rfl
      have y5 := fun z : Ext V.heap.size V => cell_of (below_blk z.2 (hN).out) 5 _ rfl
      have y6 := fun z : Ext V.heap.size V => cell_of (below_blk z.2 (hN).out) 6 _ rfl
      have y7 := fun z : Ext V.heap.size V => cell_of (below_blk z.2 (hN).out) 7 _ rfl
      refine (Pure.st (cof _).out).mono ?_
      rintro e _ ⟨rfl, x, rfl⟩
      go_wp2_with fail
      refine boxed_c ?_
      intro G V2 hG hV2 hP
      rw [hG]
      replace hX := Lib.hid (fun z : Ext V2.heap.size V2 => (show Below B w z.1 ∧ B < z.1.heap.size ∧ Below w.heap.size w z.1 from hX.out ⟨z.1, hV2.trans (z.2.mono hV2.size)⟩))
      replace hN := Lib.hid (below_blk hV2 hN.out)
      replace hP := Lib.hid hP
      clear y0 y1 y2 y3 y4 y5 y6 y7 hV2 hG x cof
      obtain ⟨V, hVe⟩ : ∃ V, V = V2 := ⟨_, rfl⟩
      subst hVe
      intro x
      have y0 := fun z : Ext V.heap.size V => cell_of (below_blk z.2 (hN).out) 0 _ rfl
      have y1 := fun z : Ext V.heap.size V => cell_of (below_blk z.2 (hN).out) 1 _ rfl
      have y2 := fun z : Ext V.heap.size V => cell_of (below_blk z.2 (hN).out) 2 _ rfl
      have y3 := fun z : Ext V.heap.size V => cell_of (below_blk z.2 (hN).out) 3 _ rfl
      have y4 := fun z : Ext V.heap.size V => cell_of (below_blk z.2 (hN).out) 4 _ rfl
      have y5 := fun z : Ext V.heap.size V => cell_of (below_blk z.2 (hN).out) 5 _ rfl
      have y6 := fun z : Ext V.heap.size V => cell_of (below_blk z.2 (hN).out) 6 _ rfl
      have y7 := fun z : Ext V.heap.size V => cell_of (below_blk z.2 (hN).out) 7 _ rfl
      have u0 := fun z : Ext V.heap.size V => cell_of (below_blk z.2 (hP).out) 0 _ rfl
      have u1 := fun z : Ext V.heap.size V => cell_of (below_blk z.2 (hP).out) 1 _ rfl
      have u2 := fun z : Ext V.heap.size V => cell_of (below_blk z.2 (hP).out) 2 _ rfl
      refine (Pure.st (co.out _ (hX.out x).2.2)).mono ?_
      rintro e _ ⟨rfl, x, rfl⟩
      go_wp2_with fail
      refine (Pure.st (ck1.out _ (hX.out x).2.2)).mono ?_
      rintro e _ ⟨rfl, x, rfl⟩
      go_wp2_with fail
      refine (Pure.st (ck2.out _ (hX.out x).2.2)).mono ?_
      rintro e _ ⟨rfl, x, rfl⟩
      go_wp2_with fail
      go_ret
      exact ⟨rfl, (hX.out _).1⟩
    · have d2 : decide (k2 < 0) = false := by simpa using h2
      have hA : A.isEmpty = false := by
        rcases hbad with h | h | h
        · exact absurd h h1
        · exact absurd h h2
        · exact h
      replace cch := Lib.hid (cch.out (hkk (by omega) (by omega)))
      rw [hA] at cch
      clear hbad hkk hA
      go_enter Tryz.func19, Tryz.ntmps19
      go_wp2_with fail
      refine start1Bc hBe ?_
      intro V hN hX x
      have y0 := fun z : Ext V.heap.size V => cell_of (below_blk z.2 (hN).out) 0 _ rfl
      have y1 := fun z : Ext V.heap.size V => cell_of (below_blk z.2 (hN).out) 1 _ rfl
      have y2 := fun z : Ext V.heap.size V => cell_of (below_blk z.2 (hN).out) 2 _ rfl
      have y3 := fun z : Ext V.heap.size V => cell_of (below_blk z.2 (hN).out) 3 _ rfl
      have y4 := fun z : Ext V.heap.size V => cell_of (below_blk z.2 (hN).out) 4 _ rfl
      have y5 := fun z : Ext V.heap.size V => cell_of (below_blk z.2 (hN).out) 5 _ rfl
      have y6 := fun z : Ext V.heap.size V => cell_of (below_blk z.2 (hN).out) 6 _ rfl
      have y7 := fun z : Ext V.heap.size V => cell_of (below_blk z.2 (hN).out) 7 _ rfl
      refine (Pure.st (cof _).out).mono ?_
      rintro e _ ⟨rfl, x, rfl⟩
      go_wp2_with fail
      refine boxed_c ?_
      intro G V2 hG hV2 hP
      rw [hG]
      replace hX := Lib.hid (fun z : Ext V2.heap.size V2 => (show Below B w z.1 ∧ B < z.1.heap.size ∧ Below w.heap.size w z.1 from hX.out ⟨z.1, hV2.trans (z.2.mono hV2.size)⟩))
      replace hN := Lib.hid (below_blk hV2 hN.out)
      replace hP := Lib.hid hP
      clear y0 y1 y2 y3 y4 y5 y6 y7 hV2 hG x cof
      obtain ⟨V, hVe⟩ : ∃ V, V = V2 := ⟨_, rfl⟩
      subst hVe
      intro x
      have y0 := fun z : Ext V.heap.size V => cell_of (below_blk z.2 (hN).out) 0 _ rfl
      have y1 := fun z : Ext V.heap.size V => cell_of (below_blk z.2 (hN).out) 1 _ rfl
      have y2 := fun z : Ext V.heap.size V => cell_of (below_blk z.2 (hN).out) 2 _ rfl
      have y3 := fun z : Ext V.heap.size V => cell_of (below_blk z.2 (hN).out) 3 _ rfl
      have y4 := fun z : Ext V.heap.size V => cell_of (below_blk z.2 (hN).out) 4 _ rfl
      have y5 := fun z : Ext V.heap.size V => cell_of (below_blk z.2 (hN).out) 5 _ rfl
      have y6 := fun z : Ext V.heap.size V => cell_of (below_blk z.2 (hN).out) 6 _ rfl
      have y7 := fun z : Ext V.heap.size V => cell_of (below_blk z.2 (hN).out) 7 _ rfl
      have u0 := fun z : Ext V.heap.size V => cell_of (below_blk z.2 (hP).out) 0 _ rfl
      have u1 := fun z : Ext V.heap.size V => cell_of (below_blk z.2 (hP).out) 1 _ rfl
      have u2 := fun z : Ext V.heap.size V => cell_of (below_blk z.2 (hP).out) 2 _ rfl
      refine (Pure.st (co.out _ (hX.out x).2.2)).mono ?_
      rintro e _ ⟨rfl, x, rfl⟩
      go_wp2_with fail
      refine (Pure.st (ck1.out _ (hX.out x).2.2)).mono ?_
      rintro e _ ⟨rfl, x, rfl⟩
      go_wp2_with fail
      refine (Pure.st (ck2.out _ (hX.out x).2.2)).mono ?_
      rintro e _ ⟨rfl, x, rfl⟩
      go_wp2_with fail
      refine (Pure.st (cch.out _ (hX.out x).2.2)).mono ?_
      rintro e _ ⟨rfl, x, rfl⟩
      go_wp2_with fail
      go_ret
      exact ⟨rfl, (hX.out _).1⟩
end Go.Proofs.YtbhienpbfidgjaaGreatDoor
end
section
set_option linter.unusedVariables false
set_option linter.unusedSimpArgs false
namespace Go.Proofs.YtbhienpbfidgjaaGreatDoor
open Go.RowKit
set_option maxHeartbeats 1000000 in
theorem rsame3_c (w : World) (f1 r1 f2 r2 : Int) (ps qs : List Int) (po qo : Option Addr) (c1 c2 : Nat) (h1 : SlcAt w po ps) (h2 : SlcAt w qo qs) (n1 : ps.length ≤ 1000) (n2 : qs.length ≤ 1000) :
    Pure 29 #[bdV f1 r1 po ps.length c1, bdV f2 r2 qo qs.length c2] w (.bool (f1 == f2 && r1 == r2 && (ps == qs))) := by
  obtain ⟨B, hBe⟩ : ∃ B, w.heap.size = B := ⟨_, rfl⟩
  unfold bdV
  by_cases hsz : f1 = f2 ∧ r1 = r2
  · obtain ⟨rfl, rfl⟩ := hsz
    rw [show (f1 == f1 && r1 == r1 && (ps == qs)) = (ps == qs) by simp]
    by_cases hln : ps.length = qs.length
    · have hext := Lib.hid (@list_ext ps qs ps.length rfl hln.symm)
      have hnex := Lib.hid (fun k => @list_nex ps qs k)
      have a1 := Lib.hid (fun k hk => @slc_at w po ps h1 k hk)
      have a2 := Lib.hid (fun k hk => @slc_at w qo qs h2 k hk)
      rw [← hln] at a2 n2 ⊢
      obtain ⟨R, hR⟩ : ∃ R, (ps == qs) = R := ⟨_, rfl⟩
      rw [hR] at hext hnex ⊢
      obtain ⟨n, hn⟩ : ∃ n, ps.length = n := ⟨_, rfl⟩
      rw [hn] at hext a1 a2 n1 ⊢
      clear hR hn hln h1 h2 n2
      unfold Pure
      rw [hBe]
      go_enter Tryz.func29, Tryz.ntmps29
      go_wp2_with fail
      refine start2B hBe ?_
      intro V hN hM hX x
      have y0 := fun z : Ext V.heap.size V => cell_of (below_blk z.2 (hN).out) 0 _ rfl
      have y1 := fun z : Ext V.heap.size V => cell_of (below_blk z.2 (hN).out) 1 _ rfl
      have y2 := fun z : Ext V.heap.size V => cell_of (below_blk z.2 (hN).out) 2 _ rfl
      have u0 := fun z : Ext V.heap.size V => cell_of (below_blk z.2 (hM).out) 0 _ rfl
      have u1 := fun z : Ext V.heap.size V => cell_of (below_blk z.2 (hM).out) 1 _ rfl
      have u2 := fun z : Ext V.heap.size V => cell_of (below_blk z.2 (hM).out) 2 _ rfl
      go_loopw [5] (fun i wr => ∃ (k : Nat) (x : Ext V.heap.size V), wr = x.1 ∧ k ≤ n ∧ i = .int .i64 k ∧ ∀ j, j < k → ps.getD j 0 = qs.getD j 0) (fun i _ => n - (intOf i).toNat)
      case atStart => exact ⟨0, x, rfl, by omega, rfl, fun j h => absurd h (by omega)⟩
      case round =>
        clear x
        obtain ⟨k, x, rfl, hk, rfl, hpre⟩ := hrel
        by_cases hkn : k = n
        · have hRt := hext.out (by rw [← hkn]; exact hpre)
          subst hkn
          go_wp2
          go_ret
          exact ⟨by rw [hRt]; rfl, (hX.out x).1⟩
        · have hkl : k < n := by omega
          obtain ⟨b1, o1, rfl, hc1⟩ := a1.out k hkl
          obtain ⟨b2, o2, rfl, hc2⟩ := a2.out k hkl
          have z1 := fun z : Ext V.heap.size V => below_at (hX.out z).2.2 hc1
          have z2 := fun z : Ext V.heap.size V => below_at (hX.out z).2.2 hc2
          have hnex2 := hnex.out k
          replace hpre := Lib.hid hpre
          obtain ⟨q1, hq1⟩ : ∃ q, ps.getD k 0 = q := ⟨_, rfl⟩
          obtain ⟨q2, hq2⟩ : ∃ q, qs.getD k 0 = q := ⟨_, rfl⟩
          rw [hq1] at z1 hnex2
          rw [hq2] at z2 hnex2
          have hki : ((k : Int) < n) = True := by simp; omega
          replace hq1 := Lib.hid hq1
          replace hq2 := Lib.hid hq2
          replace hnex2 := Lib.hid hnex2
          clear hc1 hc2 hext hnex a1 a2 hkn
          go_wp2_with fail
          by_cases hqq : q1 = q2
          · have d1 : (q1 == q2) = true := by simpa using hqq
            have d2 : (q1 != q2) = false := by simpa using hqq
            refine ext_region' (by kernel_rfl) (by kernel_rfl) ?_
            repeat (first | (go_big_quiet_step (fail)) | ((refine wpQuiet_step (fun K hK => ?_)); go_simp; (first | (refine ⟨_, fun _ => rfl, hK _ ?_⟩) | (refine ⟨_, fun _ => ⟨rfl, rfl⟩, hK _ ?_⟩)); clear hK K))
            refine wpQuiet_nil ?_
            intro x
            go_wp2_with fail
            go_roundw
            case rel => exact ⟨k + 1, x, rfl, by omega, by go_num, fun j hj => by
              rcases Nat.lt_or_ge j k with h | h
              · exact hpre.out j h
              · obtain rfl : j = k := by omega
                rw [hq1.out, hq2.out, hqq]⟩
            case measure => simp [intOf]; omega
          · have d1 : (q1 == q2) = false := by simpa using hqq
            have d2 : (q1 != q2) = true := by simpa using hqq
            have hRf := hnex2.out hqq
            subst hRf
            refine ext_region' (by kernel_rfl) (by kernel_rfl) ?_
            repeat (first | (go_big_quiet_step (fail)) | ((refine wpQuiet_step (fun K hK => ?_)); go_simp; (first | (refine ⟨_, fun _ => rfl, hK _ ?_⟩) | (refine ⟨_, fun _ => ⟨rfl, rfl⟩, hK _ ?_⟩)); clear hK K))
            refine wpQuiet_nil ?_
            intro x
            go_wp2
            go_ret
            exact ⟨rfl, (hX.out x).1⟩
    · rw [list_nel hln]
      have hne : ((ps.length : Int) = qs.length) = False := by simp; omega
      have hne2 : ((ps.length : Int) == qs.length) = false := by simp; omega
      generalize ps.length = m at *
      generalize qs.length = n at *
      clear h1 h2
      unfold Pure
      go_enter Tryz.func29, Tryz.ntmps29
      go_wp2
      all_goals (go_ret; refine ⟨by first | rfl | (simp_all; done), ?_⟩)
      all_goals
        repeat (first | (with_reducible assumption) | (with_reducible exact Below.refl _ _) | (with_reducible apply below_drewN) | (with_reducible apply Below.drew) | (with_reducible apply Below.alloc) | (with_reducible apply Below.setCell))
        all_goals first | omega | (dsimp only; omega) | (simp; done) | (simp; omega)
  · rw [show (f1 == f2 && r1 == r2) = false by simpa using hsz, Bool.false_and]
    generalize ps.length = m at *
    generalize qs.length = n at *
    clear h1 h2
    unfold Pure
    go_enter Tryz.func29, Tryz.ntmps29
    go_wp2
    all_goals first | (exfalso; simp_all; done) | skip
    all_goals (go_ret; refine ⟨by first | rfl | (simp_all; done), ?_⟩)
    all_goals
      repeat (first | (with_reducible assumption) | (with_reducible exact Below.refl _ _) | (with_reducible apply below_drewN) | (with_reducible apply Below.drew) | (with_reducible apply Below.alloc) | (with_reducible apply Below.setCell))
      all_goals first | omega | (dsimp only; omega) | (simp; done) | (simp; omega)
end Go.Proofs.YtbhienpbfidgjaaGreatDoor
end
section
set_option linter.unusedVariables false
set_option linter.unusedSimpArgs false
namespace Go.Proofs.YtbhienpbfidgjaaGreatDoor
open Go.RowKit
def sameB (p q : Pos) : Bool := (p.f == q.f && p.r == q.r && (p.ps == q.ps)) && p.black == q.black && p.castle == q.castle && p.passant == q.passant
def eqB (p q : Pos) : Bool := sameB p q && p.half == q.half && p.full == q.full
set_option maxRecDepth 100000 in
set_option maxHeartbeats 2000000 in
theorem rsame6_c (w : World) (p q : Pos) (po qo : Option Addr) (c1 c2 : Nat) (h1 : SlcAt w po p.ps) (h2 : SlcAt w qo q.ps) (n1 : p.ps.length ≤ 1000) (n2 : q.ps.length ≤ 1000) :
    Pure 35 #[.agg (p.cells po c1), .agg (q.cells qo c2)] w (.bool (sameB p q)) := by
  obtain ⟨B, hBe⟩ : ∃ B, w.heap.size = B := ⟨_, rfl⟩
  have co1 := fun W => Lib.hid (rofb_c W p po c1)
  have co2 := fun W => Lib.hid (rofb_c W q qo c2)
  have cs := Lib.hid (fun W (hW : Below w.heap.size w W) => rsame3_c W p.f p.r q.f q.r p.ps q.ps po qo c1 c2 (h1.below hW) (h2.below hW) n1 n2)
  unfold sameB
  generalize (p.f == q.f && p.r == q.r && (p.ps == q.ps)) = S at *
  unfold Pos.cells bdV at *
  unfold Pure
  rw [hBe]
  generalize p.ps.length = m at *
  generalize q.ps.length = n at *
  clear h1 h2
  obtain ⟨f1, r1, ps, bl1, ca1, pa1, ha1, fu1⟩ := p
  obtain ⟨f2, r2, qs, bl2, ca2, pa2, ha2, fu2⟩ := q
  dsimp only at *
  go_enter Tryz.func35, Tryz.ntmps35
  go_wp2_with fail
  refine start2B hBe ?_
  intro V hN hM hX x
  have y0 := fun z : Ext V.heap.size V => cell_of (below_blk z.2 (hN).out) 0 _ rfl
  have y1 := fun z : Ext V.heap.size V => cell_of (below_blk z.2 (hN).out) 1 _ rfl
  have y2 := fun z : Ext V.heap.size V => cell_of (below_blk z.2 (hN).out) 2 _ rfl
  have y3 := fun z : Ext V.heap.size V => cell_of (below_blk z.2 (hN).out) 3 _ rfl
  have y4 := fun z : Ext V.heap.size V => cell_of (below_blk z.2 (hN).out) 4 _ rfl
  have y5 := fun z : Ext V.heap.size V => cell_of (below_blk z.2 (hN).out) 5 _ rfl
  have y6 := fun z : Ext V.heap.size V => cell_of (below_blk z.2 (hN).out) 6 _ rfl
  have y7 := fun z : Ext V.heap.size V => cell_of (below_blk z.2 (hN).out) 7 _ rfl
  have u0 := fun z : Ext V.heap.size V => cell_of (below_blk z.2 (hM).out) 0 _ rfl
  have u1 := fun z : Ext V.heap.size V => cell_of (below_blk z.2 (hM).out) 1 _ rfl
  have u2 := fun z : Ext V.heap.size V => cell_of (below_blk z.2 (hM).out) 2 _ rfl
  have u3 := fun z : Ext V.heap.size V => cell_of (below_blk z.2 (hM).out) 3 _ rfl
  have u4 := fun z : Ext V.heap.size V => cell_of (below_blk z.2 (hM).out) 4 _ rfl
  have u5 := fun z : Ext V.heap.size V => cell_of (below_blk z.2 (hM).out) 5 _ rfl
  have u6 := fun z : Ext V.heap.size V => cell_of (below_blk z.2 (hM).out) 6 _ rfl
  have u7 := fun z : Ext V.heap.size V => cell_of (below_blk z.2 (hM).out) 7 _ rfl
  cases S
  · refine ext_region' (by kernel_rfl) (by kernel_rfl) ?_
    repeat (first | (go_big_quiet_step ((first | (go_at_call 30; first | with_reducible exact Pure.st (co1 _).out | with_reducible exact Pure.st (co2 _).out) | (go_at_call 29; exact Pure.st (cs.out _ (hX.out _).2.2))))) | ((refine wpQuiet_step (fun K hK => ?_)); go_simp; (first | (refine ⟨_, fun _ => rfl, hK _ ?_⟩) | (refine ⟨_, fun _ => ⟨rfl, rfl⟩, hK _ ?_⟩)); clear hK K))
    refine wpQuiet_nil ?_
    intro x
    go_wp2
    go_ret
    exact ⟨by first | rfl | (simp_all; done), (hX.out x).1⟩
  · cases hb : (bl1 == bl2)
    · refine ext_region' (by kernel_rfl) (by kernel_rfl) ?_
      repeat (first | (go_big_quiet_step ((first | (go_at_call 30; first | with_reducible exact Pure.st (co1 _).out | with_reducible exact Pure.st (co2 _).out) | (go_at_call 29; exact Pure.st (cs.out _ (hX.out _).2.2))))) | ((refine wpQuiet_step (fun K hK => ?_)); go_simp; (first | (refine ⟨_, fun _ => rfl, hK _ ?_⟩) | (refine ⟨_, fun _ => ⟨rfl, rfl⟩, hK _ ?_⟩)); clear hK K))
      refine wpQuiet_nil ?_
      intro x
      go_wp2
      go_ret
      exact ⟨by first | rfl | (simp_all; done), (hX.out x).1⟩
    · cases hc : (ca1 == ca2)
      · refine ext_region' (by kernel_rfl) (by kernel_rfl) ?_
        repeat (first | (go_big_quiet_step ((first | (go_at_call 30; first | with_reducible exact Pure.st (co1 _).out | with_reducible exact Pure.st (co2 _).out) | (go_at_call 29; exact Pure.st (cs.out _ (hX.out _).2.2))))) | ((refine wpQuiet_step (fun K hK => ?_)); go_simp; (first | (refine ⟨_, fun _ => rfl, hK _ ?_⟩) | (refine ⟨_, fun _ => ⟨rfl, rfl⟩, hK _ ?_⟩)); clear hK K))
        refine wpQuiet_nil ?_
        intro x
        go_wp2
        go_ret
        exact ⟨by first | rfl | (simp_all; done), (hX.out x).1⟩
      · cases hp : (pa1 == pa2)
        · refine ext_region' (by kernel_rfl) (by kernel_rfl) ?_
          repeat (first | (go_big_quiet_step ((first | (go_at_call 30; first | with_reducible exact Pure.st (co1 _).out | with_reducible exact Pure.st (co2 _).out) | (go_at_call 29; exact Pure.st (cs.out _ (hX.out _).2.2))))) | ((refine wpQuiet_step (fun K hK => ?_)); go_simp; (first | (refine ⟨_, fun _ => rfl, hK _ ?_⟩) | (refine ⟨_, fun _ => ⟨rfl, rfl⟩, hK _ ?_⟩)); clear hK K))
          refine wpQuiet_nil ?_
          intro x
          go_wp2
          go_ret
          exact ⟨by first | rfl | (simp_all; done), (hX.out x).1⟩
        · refine ext_region' (by kernel_rfl) (by kernel_rfl) ?_
          repeat (first | (go_big_quiet_step ((first | (go_at_call 30; first | with_reducible exact Pure.st (co1 _).out | with_reducible exact Pure.st (co2 _).out) | (go_at_call 29; exact Pure.st (cs.out _ (hX.out _).2.2))))) | ((refine wpQuiet_step (fun K hK => ?_)); go_simp; (first | (refine ⟨_, fun _ => rfl, hK _ ?_⟩) | (refine ⟨_, fun _ => ⟨rfl, rfl⟩, hK _ ?_⟩)); clear hK K))
          refine wpQuiet_nil ?_
          intro x
          go_wp2
          go_ret
          exact ⟨by first | rfl | (simp_all; done), (hX.out x).1⟩
end Go.Proofs.YtbhienpbfidgjaaGreatDoor
end
section
set_option linter.unusedVariables false
set_option linter.unusedSimpArgs false
namespace Go.Proofs.YtbhienpbfidgjaaGreatDoor
open Go.RowKit
theorem start2Bc {f : FuncId} {args : Array Value} {Q : Ending → World → Prop} {w : World} {o o2 : Obj} {B : Nat} (hB : w.heap.size = B)
    (h : ∀ V : World, Hid (V.heap[B]? = some o) → Hid (V.heap[B + 1]? = some o2) → Hid (∀ x : Ext V.heap.size V, Below B w x.1 ∧ B < x.1.heap.size ∧ Below w.heap.size w x.1) → ∀ x : Ext V.heap.size V, Calls Tryz.prog f args x.1 Q) : Calls Tryz.prog f args ((w.alloc o).alloc o2) Q := by
  subst hB
  refine h _ (Lib.hid (blk_alloc (blk_new rfl o) o2)) (Lib.hid (blk_new (by simp) o2)) (Lib.hid fun x => ?_) ⟨_, Below.refl _ _⟩
  have h1 : Below w.heap.size w x.1 := (((Below.refl w.heap.size w).alloc (Nat.le_refl _) o).alloc (by simp) o2).trans (x.2.mono (by simp; omega))
  exact ⟨h1, Nat.lt_of_lt_of_le (by simp; omega) x.2.size, h1⟩
set_option maxHeartbeats 2000000 in
theorem requal6_c (w : World) (p q : Pos) (po qo : Option Addr) (c1 c2 : Nat) (h1 : SlcAt w po p.ps) (h2 : SlcAt w qo q.ps) (n1 : p.ps.length ≤ 1000) (n2 : q.ps.length ≤ 1000) :
    Pure 24 #[.agg (p.cells po c1), .agg (q.cells qo c2)] w (.bool (eqB p q)) := by
  obtain ⟨B, hBe⟩ : ∃ B, w.heap.size = B := ⟨_, rfl⟩
  have cs := Lib.hid (fun W (hW : Below w.heap.size w W) => rsame6_c W p q po qo c1 c2 (h1.below hW) (h2.below hW) n1 n2)
  unfold eqB
  generalize sameB p q = S at *
  unfold Pos.cells at *
  unfold Pure
  rw [hBe]
  clear h1 h2
  generalize p.ps.length = m at *
  generalize q.ps.length = n at *
  obtain ⟨f1, r1, ps, bl1, ca1, pa1, ha1, fu1⟩ := p
  obtain ⟨f2, r2, qs, bl2, ca2, pa2, ha2, fu2⟩ := q
  dsimp only at *
  go_enter Tryz.func24, Tryz.ntmps24
  go_wp2_with fail
  refine start2Bc hBe ?_
  intro V hN hM hX x
  have y0 := fun z : Ext V.heap.size V => cell_of (below_blk z.2 (hN).out) 0 _ rfl
  have y1 := fun z : Ext V.heap.size V => cell_of (below_blk z.2 (hN).out) 1 _ rfl
  have y2 := fun z : Ext V.heap.size V => cell_of (below_blk z.2 (hN).out) 2 _ rfl
  have y3 := fun z : Ext V.heap.size V => cell_of (below_blk z.2 (hN).out) 3 _ rfl
  have y4 := fun z : Ext V.heap.size V => cell_of (below_blk z.2 (hN).out) 4 _ rfl
  have y5 := fun z : Ext V.heap.size V => cell_of (below_blk z.2 (hN).out) 5 _ rfl
  have y6 := fun z : Ext V.heap.size V => cell_of (below_blk z.2 (hN).out) 6 _ rfl
  have y7 := fun z : Ext V.heap.size V => cell_of (below_blk z.2 (hN).out) 7 _ rfl
  have u0 := fun z : Ext V.heap.size V => cell_of (below_blk z.2 (hM).out) 0 _ rfl
  have u1 := fun z : Ext V.heap.size V => cell_of (below_blk z.2 (hM).out) 1 _ rfl
  have u2 := fun z : Ext V.heap.size V => cell_of (below_blk z.2 (hM).out) 2 _ rfl
  have u3 := fun z : Ext V.heap.size V => cell_of (below_blk z.2 (hM).out) 3 _ rfl
  have u4 := fun z : Ext V.heap.size V => cell_of (below_blk z.2 (hM).out) 4 _ rfl
  have u5 := fun z : Ext V.heap.size V => cell_of (below_blk z.2 (hM).out) 5 _ rfl
  have u6 := fun z : Ext V.heap.size V => cell_of (below_blk z.2 (hM).out) 6 _ rfl
  have u7 := fun z : Ext V.heap.size V => cell_of (below_blk z.2 (hM).out) 7 _ rfl
  refine (Pure.st (cs.out _ (hX.out x).2.2)).mono ?_
  rintro e _ ⟨rfl, x, rfl⟩
  go_wp2
  all_goals (go_ret; exact ⟨by first | rfl | (simp_all; done), (hX.out x).1⟩)
set_option maxHeartbeats 2000000 in
theorem psame_c (w : World) (p q : Pos) (po qo : Option Addr) (c1 c2 : Nat) (h1 : SlcAt w po p.ps) (h2 : SlcAt w qo q.ps) (n1 : p.ps.length ≤ 1000) (n2 : q.ps.length ≤ 1000) :
    Pure 34 #[.agg (p.cells po c1), .agg (q.cells qo c2)] w (.bool (sameB p q)) := by
  obtain ⟨B, hBe⟩ : ∃ B, w.heap.size = B := ⟨_, rfl⟩
  have cs := Lib.hid (fun W (hW : Below w.heap.size w W) => sleq_c W p.ps q.ps po qo c1 c2 (h1.below hW) (h2.below hW) n1 n2)
  unfold sameB
  generalize (p.ps == q.ps) = S at *
  unfold Pos.cells at *
  unfold Pure
  rw [hBe]
  clear h1 h2
  generalize p.ps.length = m at *
  generalize q.ps.length = n at *
  obtain ⟨f1, r1, ps, bl1, ca1, pa1, ha1, fu1⟩ := p
  obtain ⟨f2, r2, qs, bl2, ca2, pa2, ha2, fu2⟩ := q
  dsimp only at *
  by_cases hsz : f1 = f2 ∧ r1 = r2
  · obtain ⟨rfl, rfl⟩ := hsz
    go_enter Tryz.func34, Tryz.ntmps34
    go_wp2_with fail
    refine start2Bc hBe ?_
    intro V hN hM hX x
    have y0 := fun z : Ext V.heap.size V => cell_of (below_blk z.2 (hN).out) 0 _ rfl
    have y1 := fun z : Ext V.heap.size V => cell_of (below_blk z.2 (hN).out) 1 _ rfl
    have y2 := fun z : Ext V.heap.size V => cell_of (below_blk z.2 (hN).out) 2 _ rfl
    have y3 := fun z : Ext V.heap.size V => cell_of (below_blk z.2 (hN).out) 3 _ rfl
    have y4 := fun z : Ext V.heap.size V => cell_of (below_blk z.2 (hN).out) 4 _ rfl
    have y5 := fun z : Ext V.heap.size V => cell_of (below_blk z.2 (hN).out) 5 _ rfl
    have y6 := fun z : Ext V.heap.size V => cell_of (below_blk z.2 (hN).out) 6 _ rfl
    have y7 := fun z : Ext V.heap.size V => cell_of (below_blk z.2 (hN).out) 7 _ rfl
    have u0 := fun z : Ext V.heap.size V => cell_of (below_blk z.2 (hM).out) 0 _ rfl
    have u1 := fun z : Ext V.heap.size V => cell_of (below_blk z.2 (hM).out) 1 _ rfl
    have u2 := fun z : Ext V.heap.size V => cell_of (below_blk z.2 (hM).out) 2 _ rfl
    have u3 := fun z : Ext V.heap.size V => cell_of (below_blk z.2 (hM).out) 3 _ rfl
    have u4 := fun z : Ext V.heap.size V => cell_of (below_blk z.2 (hM).out) 4 _ rfl
    have u5 := fun z : Ext V.heap.size V => cell_of (below_blk z.2 (hM).out) 5 _ rfl
    have u6 := fun z : Ext V.heap.size V => cell_of (below_blk z.2 (hM).out) 6 _ rfl
    have u7 := fun z : Ext V.heap.size V => cell_of (below_blk z.2 (hM).out) 7 _ rfl
    refine (Pure.st (cs.out _ (hX.out x).2.2)).mono ?_
    rintro e _ ⟨rfl, x, rfl⟩
    go_wp2
    all_goals (go_ret; exact ⟨by first | rfl | (simp_all; done), (hX.out x).1⟩)
  · have hsz2 : (f1 == f2 && r1 == r2) = false := by simpa using hsz
    rw [hsz2]
    simp only [Bool.false_and]
    go_enter Tryz.func34, Tryz.ntmps34
    go_wp2
    all_goals first | (exfalso; simp_all; done) | skip
    all_goals (go_ret; refine ⟨by first | rfl | (simp_all; done), ?_⟩)
    all_goals
      repeat (first | (with_reducible assumption) | (with_reducible exact Below.refl _ _) | (with_reducible apply below_drewN) | (with_reducible apply Below.drew) | (with_reducible apply Below.alloc) | (with_reducible apply Below.setCell))
      all_goals first | omega | (dsimp only; omega) | (simp; done) | (simp; omega)
set_option maxHeartbeats 2000000 in
theorem pequal_c (w : World) (p q : Pos) (po qo : Option Addr) (c1 c2 : Nat) (h1 : SlcAt w po p.ps) (h2 : SlcAt w qo q.ps) (n1 : p.ps.length ≤ 1000) (n2 : q.ps.length ≤ 1000) :
    Pure 33 #[.agg (p.cells po c1), .agg (q.cells qo c2)] w (.bool (eqB p q)) := by
  obtain ⟨B, hBe⟩ : ∃ B, w.heap.size = B := ⟨_, rfl⟩
  have cs := Lib.hid (fun W (hW : Below w.heap.size w W) => psame_c W p q po qo c1 c2 (h1.below hW) (h2.below hW) n1 n2)
  unfold eqB
  generalize sameB p q = S at *
  unfold Pos.cells at *
  unfold Pure
  rw [hBe]
  clear h1 h2
  generalize p.ps.length = m at *
  generalize q.ps.length = n at *
  obtain ⟨f1, r1, ps, bl1, ca1, pa1, ha1, fu1⟩ := p
  obtain ⟨f2, r2, qs, bl2, ca2, pa2, ha2, fu2⟩ := q
  dsimp only at *
  go_enter Tryz.func33, Tryz.ntmps33
  go_wp2_with fail
  refine start2Bc hBe ?_
  intro V hN hM hX x
  have y0 := fun z : Ext V.heap.size V => cell_of (below_blk z.2 (hN).out) 0 _ rfl
  have y1 := fun z : Ext V.heap.size V => cell_of (below_blk z.2 (hN).out) 1 _ rfl
  have y2 := fun z : Ext V.heap.size V => cell_of (below_blk z.2 (hN).out) 2 _ rfl
  have y3 := fun z : Ext V.heap.size V => cell_of (below_blk z.2 (hN).out) 3 _ rfl
  have y4 := fun z : Ext V.heap.size V => cell_of (below_blk z.2 (hN).out) 4 _ rfl
  have y5 := fun z : Ext V.heap.size V => cell_of (below_blk z.2 (hN).out) 5 _ rfl
  have y6 := fun z : Ext V.heap.size V => cell_of (below_blk z.2 (hN).out) 6 _ rfl
  have y7 := fun z : Ext V.heap.size V => cell_of (below_blk z.2 (hN).out) 7 _ rfl
  have u0 := fun z : Ext V.heap.size V => cell_of (below_blk z.2 (hM).out) 0 _ rfl
  have u1 := fun z : Ext V.heap.size V => cell_of (below_blk z.2 (hM).out) 1 _ rfl
  have u2 := fun z : Ext V.heap.size V => cell_of (below_blk z.2 (hM).out) 2 _ rfl
  have u3 := fun z : Ext V.heap.size V => cell_of (below_blk z.2 (hM).out) 3 _ rfl
  have u4 := fun z : Ext V.heap.size V => cell_of (below_blk z.2 (hM).out) 4 _ rfl
  have u5 := fun z : Ext V.heap.size V => cell_of (below_blk z.2 (hM).out) 5 _ rfl
  have u6 := fun z : Ext V.heap.size V => cell_of (below_blk z.2 (hM).out) 6 _ rfl
  have u7 := fun z : Ext V.heap.size V => cell_of (below_blk z.2 (hM).out) 7 _ rfl
  refine (Pure.st (cs.out _ (hX.out x).2.2)).mono ?_
  rintro e _ ⟨rfl, x, rfl⟩
  go_wp2
  all_goals (go_ret; exact ⟨by first | rfl | (simp_all; done), (hX.out x).1⟩)
end Go.Proofs.YtbhienpbfidgjaaGreatDoor
end
section
set_option linter.unusedVariables false
set_option linter.unusedSimpArgs false
namespace Go.Proofs.YtbhienpbfidgjaaGreatDoor
open Go.RowKit
theorem wpL_append {P : Program} {ops : Array Oper} {rest : List Oper} {o : Oper} {a : Act} {w w' : World} {Q : Exit → Act → World → Prop} {v' u1 u2 : Value} (hgd : o.guard = none) (s x : Operand) (t : TypeId)
    (hop : o.op = .call { callee := .builtin .append, args := #[s, x], argTypes := #[t, t] }) (h1 : a.eval s = u1) (h2 : a.eval x = u2) (hrun : (Builtin.append_ #[t, t] o.type #[u1, u2]).run P w = .ok v' w')
    (h : wpList P ops Q rest (a.put o.dst v') w') : wpList P ops Q (o :: rest) a w :=
  wpList_plain hgd fun K hK => by
    unfold Oper.wp
    have hr : (execOp a.eval o).run P w = .ok (.value v') w' := by
      unfold execOp
      simp only [hop, resolve, invoke, builtin, Sem.run_bind, Sem.run_pure, Result.andThen_ok, List.map_toArray, List.map_cons, List.map_nil, h1, h2, hrun]
    rw [hr, Oper.upon_value]
    exact hK _ _ h
/-- a row of pieces in a block of its own, which may be written -/
def RowPc (V : World) (g n : Nat) : Prop := ∃ cur : Array Value, V.heap[g]? = some (.cells cur 48 (0, 0)) ∧ ∀ k, k < n → ∃ v, cur[k]? = some (.int .i8 v)
/-- pieces of the call's own -/
def OwnPc (B : Nat) (V : World) (po : Option Addr) (ps : List Int) : Prop := ps = [] ∨ ∃ g, B ≤ g ∧ po = some ⟨g, 0, none⟩ ∧ PcAt V g 0 ps ∧ RowPc V g ps.length
theorem OwnPc.slc {B : Nat} {V : World} {po : Option Addr} {ps : List Int} (h : OwnPc B V po ps) : SlcAt V po ps := h.imp id fun ⟨g, _, h1, h2, _⟩ => ⟨g, 0, h1, h2⟩
theorem OwnPc.below {B : Nat} {V W : World} {po : Option Addr} {ps : List Int} (h : OwnPc B V po ps) (hb : Below V.heap.size V W) : OwnPc B W po ps := h.imp id fun ⟨g, h0, h1, h2, cur, h3, h4⟩ => ⟨g, h0, h1, h2.below hb, cur, below_blk hb h3, h4⟩
theorem OwnPc.mono {B C : Nat} {V : World} {po : Option Addr} {ps : List Int} (h : OwnPc B V po ps) (hb : C ≤ B) : OwnPc C V po ps := h.imp id fun ⟨g, h0, h1, h2⟩ => ⟨g, Nat.le_trans hb h0, h1, h2⟩
theorem own_pcs {B : Nat} {w : World} {v : Value} {ps : List Int} (h : w.ownsRow B 48 1 v ps.length (ps.map pcV)) : ∃ po cap, v = .slice po ps.length cap ∧ OwnPc B w po ps ∧ ps.length ≤ cap ∧ cap ≤ 9223372036854775807 := by
  obtain ⟨hl, ⟨rfl, h0⟩ | ⟨g, cap, cur, rfl, hb, hg, h1, h2, h3, h4⟩⟩ := h
  · have : ps = [] := List.length_eq_zero_iff.1 h0
    subst this
    exact ⟨none, 0, rfl, .inl rfl, by simp, by omega⟩
  · have he : ∀ (i : Nat) (p : Int), ps[i]? = some p → cur[i]? = some (Value.int .i8 p) := by
      intro i p hp
      have hi := (List.getElem?_eq_some_iff.1 hp).1
      have : (cur.toList.take (ps.length * 1))[i]? = some (pcV p) := by rw [h4, List.getElem?_map, hp]; rfl
      rw [List.getElem?_take, if_pos (by omega)] at this
      simpa [pcV] using this
    refine ⟨_, cap, rfl, .inr ⟨g, hb, rfl, fun i p hp => ?_, cur, hg, fun k hk => ⟨_, he k _ (List.getElem?_eq_getElem hk)⟩⟩, h1, by unfold maxLen at h2; omega⟩
    rw [Nat.zero_add]
    exact cell_of hg i _ (he i p hp)
theorem run_append_pcs {ty : TypeId} {base : Nat} {w : World} {v : Value} {ps : List Int} {po : Option Addr} {c : Nat} (hown : w.ownsRow base 48 1 v 0 []) (hS : SlcAt w po ps) (hn : ps.length ≤ 1000) (hbase : base ≤ w.heap.size) :
    ∃ v' w', (Builtin.append_ #[24, 24] ty #[v, .slice po ps.length c]).run Tryz.prog w = .ok v' w' ∧ w'.ownsRow base 48 1 v' ps.length (ps.map pcV) ∧ w.grownBy w' v.ownBlock := by
  obtain ⟨i0, hi, hz0, hz1, hz2⟩ := info_parts Tryz.infoPc
  cases ps with
  | nil =>
    obtain ⟨b0, cap0, rfl⟩ := own_form hown
    have hle : 0 ≤ cap0 := Nat.zero_le _
    have hs : Src Tryz.prog i0.size 24 (.slice po 0 c) 0 [] w := by
      cases po with
      | none => exact Src.ofNil _ Tryz.underlying24 c
      | some a => exact Src.ofSlice _ Tryz.underlying24 a 0 c [] (by simp) (by simp) (by simp)
    exact ⟨_, _, run_append_nothing w _ _ ty _ i0 Tryz.underlying24 hi b0 0 cap0 hle _ hs, hown, grown_refl _ _⟩
  | cons y ys =>
    obtain ⟨b, off, rfl, hP⟩ := hS.resolve_left (by simp)
    have h := run_append_any (P := Tryz.prog) (ty := ty) (po := some ⟨b, off, none⟩) (c := c) (xs := []) (news := (y :: ys).map pcV) Tryz.underlying24 hi hz0 hz1 hz2 rfl hown
      (.inr ⟨b, off, rfl, fun j u hu => by
          rw [List.getElem?_map] at hu
          cases hq : (y :: ys)[j]? with
          | none => rw [hq] at hu; cases hu
          | some q => rw [hq] at hu; cases hu; exact hP j q hq⟩)
      (by intro u hu; obtain ⟨q, _, rfl⟩ := List.mem_map.1 hu; rfl) (by intro a ha; cases ha; exact ⟨_, _, rfl⟩) (by simp at hn ⊢; omega) (by decide) hbase
    rw [List.length_map] at h
    simpa using h
def CopyOf (w : World) (ps : List Int) (e : Ending) (V : World) : Prop := (∃ po' cap', e = .returned (.slice po' ps.length cap') ∧ OwnPc w.heap.size V po' ps ∧ ps.length ≤ cap' ∧ cap' ≤ 9223372036854775807) ∧ Below w.heap.size w V
set_option maxHeartbeats 400000 in
theorem clone_c (w : World) (ps : List Int) (po : Option Addr) (c : Nat) (hS : SlcAt w po ps) (hn : ps.length ≤ 1000) :
    Calls Tryz.prog 89 #[.slice po ps.length c] w (CopyOf w ps) := by
  have hnil : ∀ (o : Option Addr) (n c : Nat) W, (binOp .eql 24 (.slice o n c) (.slice none 0 0)).run Tryz.prog W = .ok (.bool o.isNone) W := fun o n c W => Lib.run_eql_slice_nil W _ _ o n c _ _ Tryz.underlying24
  cases po with
  | none =>
    obtain rfl : ps = [] := hS.resolve_right (by rintro ⟨_, _, h, _⟩; cases h)
    rw [List.length_nil]
    go_enter Tryz.func89, Tryz.ntmps89
    go_wp2
    go_ret
    exact ⟨⟨none, 0, rfl, .inl rfl, by simp, by omega⟩, Below.refl _ _⟩
  | some ad =>
    obtain ⟨v', w', hr, hown, hgrow⟩ := run_append_pcs (ty := 24) (base := w.heap.size) (w := w.alloc (.cells #[] 48)) (v := .slice (some ⟨w.heap.size, 0, none⟩) 0 0) (ps := ps) (po := some ad) (c := c)
      ⟨rfl, .inr ⟨w.heap.size, 0, #[], rfl, Nat.le_refl _, blk_new rfl _, by simp, by unfold maxLen; omega, rfl, rfl⟩⟩ (hS.below ((Below.refl _ _).alloc (Nat.le_refl _) _)) hn (by simp)
    have hB : Below w.heap.size w w' := below_row (e := 48) (size := 1) (n := 0) (xs := []) ((Below.refl _ _).alloc (Nat.le_refl _) _) (by simp) ⟨rfl, .inr ⟨w.heap.size, 0, #[], rfl, Nat.le_refl _, blk_new rfl _, by simp, by unfold maxLen; omega, rfl, rfl⟩⟩ hgrow
    obtain ⟨po', cap', rfl, hO, l1, l2⟩ := own_pcs hown
    have hQ : CopyOf w ps (.returned (.slice po' ps.length cap')) w' := ⟨⟨po', cap', rfl, hO, l1, l2⟩, hB⟩
    clear hown hO l1 l2 hB hgrow hS
    obtain ⟨C, hC⟩ : ∃ C, CopyOf w ps = C := ⟨_, rfl⟩
    rw [hC] at hQ ⊢
    obtain ⟨n, hnl⟩ : ∃ n, ps.length = n := ⟨_, rfl⟩
    rw [hnl] at hr hQ ⊢
    clear hC hnl hn
    go_enter Tryz.func89, Tryz.ntmps89
    go_wp2_with (at_builtin; refine wpL_append rfl _ _ 24 rfl rfl rfl hr ?_)
    exact hQ
end Go.Proofs.YtbhienpbfidgjaaGreatDoor
end
section
set_option linter.unusedVariables false
set_option linter.unusedSimpArgs false
namespace Go.Proofs.YtbhienpbfidgjaaGreatDoor
open Go.RowKit
def CopyPos (w : World) (p : Pos) (e : Ending) (V : World) : Prop := (∃ po' cap', e = .returned (.agg (p.cells po' cap')) ∧ OwnPc w.heap.size V po' p.ps ∧ p.ps.length ≤ cap' ∧ cap' ≤ 9223372036854775807) ∧ Below w.heap.size w V
theorem pc_heap {W Z : World} {g off : Nat} {ps : List Int} (h : PcAt W g off ps) (he : Z.heap[g]? = W.heap[g]?) : PcAt Z g off ps := fun i p hp => by
  have := h i p hp
  unfold World.cell? at this ⊢
  simp only at this ⊢
  rw [he]
  exact this
theorem OwnPc.heap {B C : Nat} {W Z : World} {po : Option Addr} {ps : List Int} (h : OwnPc B W po ps) (he : ∀ g, B ≤ g → Z.heap[g]? = W.heap[g]?) : OwnPc B Z po ps := h.imp id fun ⟨g, h0, h1, h2, cur, h3, h4⟩ => ⟨g, h0, h1, pc_heap h2 (he g h0), cur, (he g h0).trans h3, h4⟩
/-- behind the copy: the copied list laid into the box, the box into the result -/
theorem copy_tail {w W : World} {p : Pos} {B : Nat} {po' : Option Addr} {cap' : Nat} {cs zs : Array Value} {t : TypeId} (hBe : w.heap.size = B) (hW : Below w.heap.size w W) (hO : OwnPc (B + 2) W po' p.ps) (h1 : p.ps.length ≤ cap') (h2 : cap' ≤ 9223372036854775807) (v : Value) (vs : List Value) :
    CopyPos w p (.returned (.agg (p.cells po' cap'))) ((W.setCell ⟨B, 2, none⟩ v).setCells (B + 1) 0 vs) :=
  ⟨⟨po', cap', rfl, (hO.heap (C := B) (fun g hg => by rw [setCells_other (by omega), Below.heap_setCell _ _ _ _ (by simp; omega)])).mono (by omega), h1, h2⟩,
    setCells_below (by omega) _ _ _ (hW.setCell (by simp; omega) v)⟩
set_option maxHeartbeats 400000 in
theorem pcopy_c (w : World) (p : Pos) (po : Option Addr) (c : Nat) (hS : SlcAt w po p.ps) (hn : p.ps.length ≤ 1000) :
    Calls Tryz.prog 32 #[.agg (p.cells po c)] w (CopyPos w p) := by
  obtain ⟨B, hBe⟩ : ∃ B, w.heap.size = B := ⟨_, rfl⟩
  have hcl := Lib.hid (fun W (hW : Below w.heap.size w W) => clone_c W p.ps po c (hS.below hW) hn)
  have hfin := fun W po' cap' v vs hW hO h1 h2 => @copy_tail w W p B po' cap' #[] #[] 0 hBe hW hO h1 h2 v vs
  obtain ⟨C, hC⟩ : ∃ C, CopyPos w p = C := ⟨_, rfl⟩
  simp only [hC] at hfin ⊢
  clear hC hS
  unfold Pos.cells at *
  obtain ⟨n, hnl⟩ : ∃ n, p.ps.length = n := ⟨_, rfl⟩
  simp only [hnl] at hcl hfin hn ⊢
  replace hfin := Lib.hid hfin
  replace hnl := Lib.hid hnl
  go_enter Tryz.func32, Tryz.ntmps32
  go_wp2_with fail
  refine start2Bc hBe ?_
  intro V hN hM hX x
  refine (hcl.out _ (hX.out x).2.2).mono ?_
  rintro e W ⟨⟨po', cap', rfl, hO, l1, l2⟩, hW⟩
  have hW2 : Below V.heap.size V W := x.2.trans (hW.mono x.2.size)
  have hsz : B + 1 < V.heap.size := (Array.getElem?_eq_some_iff.1 hM.out).1
  replace hO := Lib.hid (hO.mono (C := B + 2) (by have := x.2.size; omega))
  have hWw := Lib.hid ((hX.out ⟨W, hW2⟩).2.2)
  have hb := below_blk hW2 hN.out
  have y0 := cell_of hb 0 _ rfl
  have y1 := cell_of hb 1 _ rfl
  have y2 := cell_of hb 2 _ rfl
  have y3 := cell_of hb 3 _ rfl
  have y4 := cell_of hb 4 _ rfl
  have y5 := cell_of hb 5 _ rfl
  have y6 := cell_of hb 6 _ rfl
  have y7 := cell_of hb 7 _ rfl
  have f2 := free_of hb 2
  have hz := Lib.hid (fun v => (Below.heap_setCell W ⟨B, 2, none⟩ v (B + 1) (by simp)).trans (below_blk hW2 hM.out))
  rw [hnl.out] at l1 ⊢
  replace l2 := Lib.hid l2
  replace hb := Lib.hid hb
  replace hW2 := Lib.hid hW2
  clear hW
  go_wp2_with (refine store_row 26 (.tmp 2) (.tmp 7) rfl rfl #[.int .i64 p.f, .int .i64 p.r, .slice po' n cap', .bool p.black, .int .u8 p.castle, .int .i64 p.passant, .int .i64 p.half, .int .i64 p.full] rfl (by rfl) _ (hz.out _) rfl sizePo (onePo _ _ _ _ _ _ _ _ _ _) ?_)
  exact bodyPost_ret (results_cell_row rfl _ _ _ 26 _ (0, 0) _ rfl (setCells_arr (hz.out _) rfl) Tryz.underlying26 rfl sizePo) rfl (hfin.out _ _ _ _ _ hWw.out hO.out l1 l2.out)
end Go.Proofs.YtbhienpbfidgjaaGreatDoor
end
section
set_option linter.unusedVariables false
set_option linter.unusedSimpArgs false
namespace Go.Proofs.YtbhienpbfidgjaaGreatDoor
open Go.RowKit
set_option maxHeartbeats 400000 in
theorem rcopy_c (w : World) (p : Pos) (po : Option Addr) (c : Nat) (hS : SlcAt w po p.ps) (hn : p.ps.length ≤ 1000) :
    Calls Tryz.prog 25 #[.agg (p.cells po c)] w (CopyPos w p) := by
  obtain ⟨B, hBe⟩ : ∃ B, w.heap.size = B := ⟨_, rfl⟩
  obtain ⟨W0, hW0⟩ : ∃ W0, (w.alloc (.cells (p.cells po c) 26)).alloc (.cells #[.int .i64 0, .int .i64 0, .slice none 0 0, .bool false, .int .u8 0, .int .i64 0, .int .i64 0, .int .i64 0] 26) = W0 := ⟨_, rfl⟩
  have hB0 : Below w.heap.size w W0 := by rw [← hW0]; exact ((Below.refl _ _).alloc (Nat.le_refl _) _).alloc (by simp) _
  have hs0 : W0.heap.size = B + 2 := by rw [← hW0]; simp [hBe]
  have hN0 : W0.heap[B]? = some (.cells (p.cells po c) 26 (0, 0)) := by rw [← hW0, ← hBe]; exact blk_alloc (blk_new rfl _) _
  have hM0 : W0.heap[B + 1]? = some (.cells #[.int .i64 0, .int .i64 0, .slice none 0 0, .bool false, .int .u8 0, .int .i64 0, .int .i64 0, .int .i64 0] 26 (0, 0)) := by rw [← hW0]; exact blk_new (by simp [hBe]) _
  obtain ⟨v', W, hr, hown, hgrow⟩ := run_append_pcs (ty := 24) (base := B + 2) (w := W0) (v := .slice none 0 0) (ps := p.ps) (po := po) (c := c) ⟨rfl, .inl ⟨rfl, rfl⟩⟩ (hS.below hB0) hn (by omega)
  have hW2 : Below W0.heap.size W0 W := below_row (e := 48) (size := 1) (n := 0) (xs := []) (Below.refl _ _) (Nat.le_refl _) ⟨rfl, .inl ⟨rfl, rfl⟩⟩ hgrow
  obtain ⟨po', cap', rfl, hO, l1, l2⟩ := own_pcs hown
  have hfin := fun vs => @copy_tail w W p B po' cap' #[] #[] 0 hBe (hB0.trans (hW2.mono (by omega))) hO l1 l2 (.slice po' p.ps.length cap') vs
  have hb := below_blk hW2 hN0
  have hz := Lib.hid ((Below.heap_setCell W ⟨B, 2, none⟩ (.slice po' p.ps.length cap') (B + 1) (by simp)).trans (below_blk hW2 hM0))
  clear hown hgrow hO l1 l2 hS hM0 hW2 hB0
  obtain ⟨C, hC⟩ : ∃ C, CopyPos w p = C := ⟨_, rfl⟩
  simp only [hC] at hfin ⊢
  clear hC
  unfold Pos.cells at *
  obtain ⟨n, hnl⟩ : ∃ n, p.ps.length = n := ⟨_, rfl⟩
  simp only [hnl] at hr hfin hn hb hz hN0 hW0 ⊢
  clear hnl hn
  have y0 := cell_of hb 0 _ rfl
  have y1 := cell_of hb 1 _ rfl
  have y2 := cell_of hb 2 _ rfl
  have y3 := cell_of hb 3 _ rfl
  have y4 := cell_of hb 4 _ rfl
  have y5 := cell_of hb 5 _ rfl
  have y6 := cell_of hb 6 _ rfl
  have y7 := cell_of hb 7 _ rfl
  have f2 := free_of hb 2
  have u2 := cell_of hN0 2 _ rfl
  replace hfin := Lib.hid hfin
  replace hb := Lib.hid hb
  replace hN0 := Lib.hid hN0
  replace hs0 := Lib.hid hs0
  go_enter Tryz.func25, Tryz.ntmps25
  go_wp2_with (first | (at_builtin; (try simp only [hBe]); (try rw [hW0]); refine wpL_append rfl _ _ 24 rfl rfl rfl hr ?_) | (refine store_row 26 (.tmp 2) (.tmp 7) rfl rfl #[.int .i64 p.f, .int .i64 p.r, .slice po' n cap', .bool p.black, .int .u8 p.castle, .int .i64 p.passant, .int .i64 p.half, .int .i64 p.full] rfl (by rfl) _ hz.out rfl sizePo (onePo _ _ _ _ _ _ _ _ _ _) ?_))
  exact bodyPost_ret (results_cell_row rfl _ _ _ 26 _ (0, 0) _ rfl (setCells_arr hz.out rfl) Tryz.underlying26 rfl sizePo) rfl (hfin.out _)
end Go.Proofs.YtbhienpbfidgjaaGreatDoor
end
section
set_option linter.unusedVariables false
set_option linter.unusedSimpArgs false
namespace Go.Proofs.YtbhienpbfidgjaaGreatDoor
open Go.RowKit
set_option maxRecDepth 100000 in
set_option maxHeartbeats 2000000 in
theorem rvalid6_y (w : World) (p : Pos) (b off cap : Nat) (hP0 : PcAt w b off p.ps) (ho : orthB p.f p.r p.ps = true) (hc : 0 ≤ p.castle ∧ p.castle ≤ 255)
    (hk1 : 0 ≤ kingR p.ps false) (hk2 : 0 ≤ kingR p.ps true) (hA : (attL p.f p.r p.ps (kingR p.ps (!p.black)) (!!p.black)).isEmpty = true) :
    Pure 19 #[.agg (p.cells (some ⟨b, off, none⟩) cap)] w (.bool (pawnsR p && p.castles && passR p && p.counts)) := by
  obtain ⟨B, hBe⟩ : ∃ B, w.heap.size = B := ⟨_, rfl⟩
  have hbv : bvalid p.f p.r p.ps = true := by unfold orthB at ho; rw [Bool.and_eq_true] at ho; exact ho.1
  obtain ⟨hv, hlen, h64⟩ := bvalid_len hbv
  obtain ⟨f1, f2, r1, r2⟩ := vsize_bd hv
  have hS0 : SlcAt w (some ⟨b, off, none⟩) p.ps := .inr ⟨b, off, rfl, hP0⟩
  have cof := fun W => Lib.hid (rofb_c W p (some ⟨b, off, none⟩) cap)
  have co := Lib.hid (fun W (hW : Below w.heap.size w W) => (rorth_c W p.f p.r p.ps _ cap (hS0.below hW) (by omega)).of_eq (show _ = Value.bool true by rw [ho]))
  have ck1 := Lib.hid (fun W (hW : Below w.heap.size w W) => rking_c W p.f p.r p.ps _ cap false (hS0.below hW) (by omega))
  have ck2 := Lib.hid (fun W (hW : Below w.heap.size w W) => rking_c W p.f p.r p.ps _ cap true (hS0.below hW) (by omega))
  have cch := Lib.hid (fun W (hW : Below w.heap.size w W) => (rcheck_c W p.f p.r p.ps b off cap (!p.black) (hP0.below hW) ho (by cases p.black <;> assumption)).of_eq (show _ = Value.bool false by rw [hA]; rfl))
  have cca := Lib.hid (fun W (hW : Below w.heap.size w W) => rcastle_c W p b off cap (hP0.below hW) hbv hc)
  have cpa := Lib.hid (fun W (hW : Below w.heap.size w W) => rpass_c W p b off cap (hP0.below hW) hlen)
  have cpl := fun (k : Nat) (hk : k ≤ 64) W => rplace_c W p.f p.r k hv (by omega) (by omega)
  have cla := fun bl W => rlast_c W p.f p.r bl (by omega) (by omega)
  have hpm := fun i hi h => pawns_miss (p := p) (i := i) hi h
  have hph := fun h => pawns_hit (p := p) rfl h
  have horth := fun i h => orthB_at ho (getD_at' (ps := p.ps) (i := i) h)
  have hcell := fun i h => hP0 i _ (getD_at' (ps := p.ps) (i := i) h)
  have hbad : ∀ i, pawnBad p i = (kindI (p.ps.getD i 0) == 1 && (i : Int) / p.f == (if decide (p.ps.getD i 0 < 0) then 0 else p.r - 1)) := fun i => rfl
  have d1 : decide (kingR p.ps false < 0) = false := by simpa using hk1
  have d2 : decide (kingR p.ps true < 0) = false := by simpa using hk2
  have hcts : p.counts = (decide (0 ≤ p.half) && decide (p.half ≤ 10000) && decide (1 ≤ p.full) && decide (p.full ≤ 10000)) := rfl
  obtain ⟨R, hR⟩ : ∃ R, (pawnsR p && p.castles && passR p && p.counts) = R := ⟨_, rfl⟩
  rw [hR]
  rw [hcts] at hR
  generalize kingR p.ps false = k1 at *
  generalize kingR p.ps true = k2 at *
  generalize p.castles = ca at *
  generalize passR p = pr at *
  unfold bdV at *
  unfold Pos.cells pointV at *
  unfold Pure
  rw [hBe]
  obtain ⟨n, hn⟩ : ∃ n, p.ps.length = n := ⟨_, rfl⟩
  simp only [hn] at cof co ck1 ck2 cch cca cpa hpm hph horth hcell h64 ⊢
  replace hn := Lib.hid hn
  replace hR := Lib.hid hR
  replace hpm := Lib.hid hpm
  replace hph := Lib.hid hph
  replace horth := Lib.hid horth
  replace hcell := Lib.hid hcell
  replace hbad := Lib.hid hbad
  replace cpl := Lib.hid cpl
  replace cla := Lib.hid cla
  clear ho hS0 hbv hP0 hv hA hcts hc hlen
  go_enter Tryz.func19, Tryz.ntmps19
  go_wp2_with fail
  refine start1Bc hBe ?_
  intro V hN hX x
  have y0 := fun z : Ext V.heap.size V => cell_of (below_blk z.2 (hN).out) 0 _ rfl
  have y1 := fun z : Ext V.heap.size V => cell_of (below_blk z.2 (hN).out) 1 _ rfl
  have y2 := fun z : Ext V.heap.size V => cell_of (below_blk z.2 (hN).out) 2 _ rfl
  have y3 := fun z : Ext V.heap.size V => cell_of (below_blk z.2 (hN).out) 3 _ rfl
  have y4 := fun z : Ext V.heap.size V => cell_of (below_blk z.2 (hN).out) 4 _ rfl
  have y5 := fun z : Ext V.heap.size V => cell_of (below_blk z.2 (hN).out) 5 _ rfl
  have y6 := fun z : Ext V.heap.size V => cell_of (below_blk z.2 (hN).out) 6 _ rfl
  have y7 := fun z : Ext V.heap.size V => cell_of (below_blk z.2 (hN).out) 7 _ rfl
  refine (Pure.st (cof _).out).mono ?_
  rintro e _ ⟨rfl, x, rfl⟩
  go_wp2_with fail
  refine boxed_c ?_
  intro G V2 hG hV2 hP
  rw [hG]
  replace hX := Lib.hid (fun z : Ext V2.heap.size V2 => (show Below B w z.1 ∧ B < z.1.heap.size ∧ Below w.heap.size w z.1 from hX.out ⟨z.1, hV2.trans (z.2.mono hV2.size)⟩))
  replace hN := Lib.hid (below_blk hV2 hN.out)
  replace hP := Lib.hid hP
  clear y0 y1 y2 y3 y4 y5 y6 y7 hV2 hG x cof
  obtain ⟨V, hVe⟩ : ∃ V, V = V2 := ⟨_, rfl⟩
  subst hVe
  intro x
  have y0 := fun z : Ext V.heap.size V => cell_of (below_blk z.2 (hN).out) 0 _ rfl
  have y1 := fun z : Ext V.heap.size V => cell_of (below_blk z.2 (hN).out) 1 _ rfl
  have y2 := fun z : Ext V.heap.size V => cell_of (below_blk z.2 (hN).out) 2 _ rfl
  have y3 := fun z : Ext V.heap.size V => cell_of (below_blk z.2 (hN).out) 3 _ rfl
  have y4 := fun z : Ext V.heap.size V => cell_of (below_blk z.2 (hN).out) 4 _ rfl
  have y5 := fun z : Ext V.heap.size V => cell_of (below_blk z.2 (hN).out) 5 _ rfl
  have y6 := fun z : Ext V.heap.size V => cell_of (below_blk z.2 (hN).out) 6 _ rfl
  have y7 := fun z : Ext V.heap.size V => cell_of (below_blk z.2 (hN).out) 7 _ rfl
  have u0 := fun z : Ext V.heap.size V => cell_of (below_blk z.2 (hP).out) 0 _ rfl
  have u1 := fun z : Ext V.heap.size V => cell_of (below_blk z.2 (hP).out) 1 _ rfl
  have u2 := fun z : Ext V.heap.size V => cell_of (below_blk z.2 (hP).out) 2 _ rfl
  refine (Pure.st (co.out _ (hX.out x).2.2)).mono ?_
  rintro e _ ⟨rfl, x, rfl⟩
  go_wp2_with fail
  refine (Pure.st (ck1.out _ (hX.out x).2.2)).mono ?_
  rintro e _ ⟨rfl, x, rfl⟩
  go_wp2_with fail
  refine (Pure.st (ck2.out _ (hX.out x).2.2)).mono ?_
  rintro e _ ⟨rfl, x, rfl⟩
  go_wp2_with fail
  refine (Pure.st (cch.out _ (hX.out x).2.2)).mono ?_
  rintro e _ ⟨rfl, x, rfl⟩
  go_wp2_with fail
  clear co ck1 ck2 cch d1 d2 u0 u1 u2
  go_loopw [4] (fun i wr => ∃ (k : Nat) (x : Ext V.heap.size V), wr = x.1 ∧ k ≤ n ∧ i = .int .i64 k ∧ ∀ j, j < k → pawnBad p j = false) (fun i _ => n - (intOf i).toNat)
  case atStart => exact ⟨0, x, rfl, by omega, rfl, fun j h => absurd h (by omega)⟩
  case round =>
    clear x
    obtain ⟨k, x, rfl, hk, rfl, hpre⟩ := hrel
    replace hpre := Lib.hid hpre
    by_cases hkn : k = n
    · have hpt := hph.out (by rw [← hkn]; exact hpre.out)
      have hR2 := hR.out
      rw [hpt, Bool.true_and] at hR2
      replace hR2 := Lib.hid hR2
      subst hkn
      replace hpt := Lib.hid hpt
      go_wp2_with fail
      cases ca
      · refine (Pure.st (cca.out _ (hX.out x).2.2)).mono ?_
        rintro e _ ⟨rfl, x, rfl⟩
        go_wp2_with fail
        go_ret
        exact ⟨by rw [← hR2.out]; simp, (hX.out x).1⟩
      · refine (Pure.st (cca.out _ (hX.out x).2.2)).mono ?_
        rintro e _ ⟨rfl, x, rfl⟩
        go_wp2_with fail
        cases pr
        · refine (Pure.st (cpa.out _ (hX.out x).2.2)).mono ?_
          rintro e _ ⟨rfl, x, rfl⟩
          go_wp2_with fail
          go_ret
          exact ⟨by rw [← hR2.out]; simp, (hX.out x).1⟩
        · refine (Pure.st (cpa.out _ (hX.out x).2.2)).mono ?_
          rintro e _ ⟨rfl, x, rfl⟩
          go_wp2_with fail
          all_goals
            go_ret
            exact ⟨by rw [← hR2.out]; first | (simp_all; done) | (simp_all; omega), (hX.out x).1⟩
    · have hkl : k < n := by omega
      have hbk := hbad.out k
      have hcl := hcell.out k hkl
      obtain ⟨q1, q2⟩ := horth.out k hkl
      generalize p.ps.getD k 0 = q at *
      have z0 := fun z : Ext V.heap.size V => below_at (hX.out z).2.2 hcl
      have ckd := fun W => Lib.hid (rkind_c W q (by omega) (by omega))
      have cpl2 := fun W => Lib.hid (cpl.out k (by omega) W)
      have cla2 := fun W => Lib.hid (cla.out (decide (q < 0)) W)
      have hpm2 := Lib.hid (fun h => hpm.out k hkl h)
      have hki : ((k : Int) < n) = True := by simp; omega
      generalize (if decide (q < 0) = true then 0 else p.r - 1) = lst at *
      generalize kindI q = kd at *
      obtain ⟨kf, hkf⟩ : ∃ x, (k : Int) % p.f = x := ⟨_, rfl⟩
      obtain ⟨kr, hkr⟩ : ∃ x, (k : Int) / p.f = x := ⟨_, rfl⟩
      rw [hkr] at hbk
      simp only [hkf, hkr] at cpl2
      replace hkf := Lib.hid hkf
      replace hkr := Lib.hid hkr
      replace hbk := Lib.hid hbk
      clear hcl hkn cpl cla hpm
      have cpl := cpl2
      have cla := cla2
      clear cpl2 cla2
      go_wp2_with fail
      cases t1 : (kd == 1)
      · refine ext_region' (by kernel_rfl) (by kernel_rfl) ?_
        repeat (first | (go_big_quiet_step ((first | (go_at_call 66; exact Same.st (ckd _).out) | (go_at_call 67; exact Pure.st (cpl _).out) | (go_at_call 68; exact Pure.st (cla _).out)))) | ((refine wpQuiet_step (fun K hK => ?_)); go_simp; (first | (refine ⟨_, fun _ => rfl, hK _ ?_⟩) | (refine ⟨_, fun _ => ⟨rfl, rfl⟩, hK _ ?_⟩)); clear hK K))
        refine wpQuiet_nil ?_
        intro x
        replace t1 := Lib.hid t1
        have t2 := Lib.hid (show (kr == lst) = (kr == lst) from rfl)
        replace hpre := Lib.hid (fun j (hj : j < k + 1) => (show pawnBad p j = false by
          rcases Nat.lt_or_ge j k with h | h
          · exact hpre.out j h
          · obtain rfl : j = k := by omega
            rw [hbk.out]; simp [t1.out, t2.out]))
        go_wp2_with fail
        go_roundw
        case rel => exact ⟨k + 1, x, rfl, by omega, by go_num, hpre.out⟩
        case measure => simp [intOf]; omega
      · cases t2 : (kr == lst)
        · refine ext_region' (by kernel_rfl) (by kernel_rfl) ?_
          repeat (first | (go_big_quiet_step ((first | (go_at_call 66; exact Same.st (ckd _).out) | (go_at_call 67; exact Pure.st (cpl _).out) | (go_at_call 68; exact Pure.st (cla _).out)))) | ((refine wpQuiet_step (fun K hK => ?_)); go_simp; (first | (refine ⟨_, fun _ => rfl, hK _ ?_⟩) | (refine ⟨_, fun _ => ⟨rfl, rfl⟩, hK _ ?_⟩)); clear hK K))
          refine wpQuiet_nil ?_
          intro x
          replace t1 := Lib.hid t1
          replace t2 := Lib.hid t2
          replace hpre := Lib.hid (fun j (hj : j < k + 1) => (show pawnBad p j = false by
            rcases Nat.lt_or_ge j k with h | h
            · exact hpre.out j h
            · obtain rfl : j = k := by omega
              rw [hbk.out]; simp [t1.out, t2.out]))
          go_wp2_with fail
          go_roundw
          case rel => exact ⟨k + 1, x, rfl, by omega, by go_num, hpre.out⟩
          case measure => simp [intOf]; omega
        · have hpf := hpm2.out (by rw [hbk.out, t1, t2]; rfl)
          have hR2 := hR.out
          rw [hpf, Bool.false_and, Bool.false_and, Bool.false_and] at hR2
          subst hR2
          replace hpf := Lib.hid hpf
          refine ext_region' (by kernel_rfl) (by kernel_rfl) ?_
          repeat (first | (go_big_quiet_step ((first | (go_at_call 66; exact Same.st (ckd _).out) | (go_at_call 67; exact Pure.st (cpl _).out) | (go_at_call 68; exact Pure.st (cla _).out)))) | ((refine wpQuiet_step (fun K hK => ?_)); go_simp; (first | (refine ⟨_, fun _ => rfl, hK _ ?_⟩) | (refine ⟨_, fun _ => ⟨rfl, rfl⟩, hK _ ?_⟩)); clear hK K))
          refine wpQuiet_nil ?_
          intro x
          go_wp2
          go_ret
          exact ⟨rfl, (hX.out x).1⟩
end Go.Proofs.YtbhienpbfidgjaaGreatDoor
end
section
set_option linter.unusedVariables false
set_option linter.unusedSimpArgs false
namespace Go.Proofs.YtbhienpbfidgjaaGreatDoor
open Go.RowKit
theorem bit_or (S s a : Nat) : (S ||| 2 ^ s).testBit a = (S.testBit a || decide (s = a)) := by
  rw [Nat.testBit_or, Nat.testBit_two_pow]
theorem orL_bit (l : List Nat) (a : Nat) : ∀ S, (orL S l).testBit a = (S.testBit a || decide (a ∈ l)) := by
  induction l with
  | nil => intro S; simp [orL]
  | cons x l ih =>
    intro S
    show (orL (S ||| 2 ^ x) l).testBit a = _
    rw [ih, bit_or, Bool.or_assoc]
    congr 1
    rw [Bool.eq_iff_iff]
    simp only [Bool.or_eq_true, decide_eq_true_eq, List.mem_cons]
    constructor
    · rintro (h | h)
      · exact .inl h.symm
      · exact .inr h
    · rintro (h | h)
      · exact .inl h.symm
      · exact .inr h
/-- the file and the rank of a square on the board -/
theorem sq_xy {f r a X Y : Int} (hv : vsize f r = true) (h : onB f r X Y = true) (ha : 0 ≤ a) : sqn f X Y = a.toNat ↔ X = a % f ∧ Y = a / f := by
  obtain ⟨f1, f2, r1, r2⟩ := vsize_bd hv
  obtain ⟨x1, x2, y1, y2⟩ := onB_bd h
  have hs := (sqn_lt hv h).2
  have e := Int.mul_ediv_add_emod a f
  constructor
  · intro h2
    have h3 : X + Y * f = a := by rw [← hs, h2]; omega
    have h4 : a % f = X := by rw [← h3, Int.add_mul_emod_self_right]; exact Int.emod_eq_of_lt x1 x2
    have h5 : a / f = Y := by rw [← h3, Int.add_mul_ediv_right _ _ (by omega), Int.ediv_eq_zero_of_lt x1 x2]; omega
    exact ⟨h4.symm, h5.symm⟩
  · rintro ⟨rfl, rfl⟩
    have : ((sqn f (a % f) (a / f) : Nat) : Int) = a := by rw [hs, Int.mul_comm]; omega
    omega
theorem on_xy {f r a : Int} (hq : vsq f r a = true) : onB f r (a % f) (a / f) = true := by
  obtain ⟨h1, h2, _, h4, h5⟩ := pass_rank hq
  unfold onB
  simp
  omega
theorem leap_bit {f r a : Int} (hv : vsize f r = true) (hq : vsq f r a = true) (x y : Int) (L : List (Int × Int)) : ∀ S, (L.foldl (addS f r x y) S).testBit a.toNat = (S.testBit a.toNat || L.any fun d => x + d.1 == a % f && y + d.2 == a / f) := by
  induction L with
  | nil => intro S; simp
  | cons d L ih =>
    intro S
    rw [List.foldl_cons, ih, List.any_cons, ← Bool.or_assoc]
    congr 1
    unfold addS
    have ha := (vsq_bd hq).2.1
    cases ho : onB f r (x + d.1) (y + d.2)
    · rw [if_neg (by simp)]
      have : (x + d.1 == a % f && y + d.2 == a / f) = false := by
        rw [← Bool.not_eq_true]
        intro h
        simp only [Bool.and_eq_true, beq_iff_eq] at h
        rw [h.1, h.2, on_xy hq] at ho
        cases ho
      rw [this, Bool.or_false]
    · rw [if_pos rfl, bit_or]
      congr 1
      rw [Bool.eq_iff_iff]
      simp only [decide_eq_true_eq, Bool.and_eq_true, beq_iff_eq]
      exact sq_xy hv ho ha
theorem leapS_bit {f r i a : Int} (hv : vsize f r = true) (hq : vsq f r a = true) (L : List (Int × Int)) : (leapS f r i L).testBit a.toNat = L.any fun d => d.1 == a % f - i % f && d.2 == a / f - i / f := by
  unfold leapS
  rw [leap_bit hv hq, Nat.zero_testBit, Bool.false_or]
  congr 1
  funext d
  rw [Bool.eq_iff_iff]
  simp only [Bool.and_eq_true, beq_iff_eq]
  omega
theorem knight_all : ((List.range 15).all fun x => (List.range 15).all fun y => (leapsL.any fun d => d.1 == (x : Int) - 7 && d.2 == (y : Int) - 7) == (((x : Int) - 7) * ((x : Int) - 7) + ((y : Int) - 7) * ((y : Int) - 7) == 5)) = true := by kernel_rfl
theorem king_all : ((List.range 15).all fun x => (List.range 15).all fun y => ((diagL.any fun d => d.1 == (x : Int) - 7 && d.2 == (y : Int) - 7) || (strL.any fun d => d.1 == (x : Int) - 7 && d.2 == (y : Int) - 7)) == (max (kindI (7 - (x : Int))) (kindI (7 - (y : Int))) == 1)) = true := by kernel_rfl
theorem diffs {f r i a : Int} (hi : vsq f r i = true) (ha : vsq f r a = true) : ∃ x y : Nat, x < 15 ∧ y < 15 ∧ a % f - i % f = (x : Int) - 7 ∧ a / f - i / f = (y : Int) - 7 := by
  obtain ⟨h1, h2, _, h4, h5⟩ := pass_rank hi
  obtain ⟨g1, g2, _, g4, g5⟩ := pass_rank ha
  obtain ⟨f1, f2, r1, r2⟩ := vsize_bd (vsq_bd hi).1
  exact ⟨(a % f - i % f + 7).toNat, (a / f - i / f + 7).toNat, by omega, by omega, by omega, by omega⟩
theorem knight_bit {f r i a : Int} (hi : vsq f r i = true) (ha : vsq f r a = true) : (leapS f r i leapsL).testBit a.toNat = ((a % f - i % f) * (a % f - i % f) + (a / f - i / f) * (a / f - i / f) == 5) := by
  rw [leapS_bit (vsq_bd hi).1 ha]
  obtain ⟨x, y, hx, hy, e1, e2⟩ := diffs hi ha
  rw [e1, e2]
  have := List.all_eq_true.1 (List.all_eq_true.1 knight_all x (List.mem_range.2 hx)) y (List.mem_range.2 hy)
  simpa using this
theorem king_bit {f r i a : Int} (hi : vsq f r i = true) (ha : vsq f r a = true) : (kingS f r i).testBit a.toNat = (distI f i a == 1) := by
  unfold kingS distI
  rw [Nat.testBit_or, leapS_bit (vsq_bd hi).1 ha, leapS_bit (vsq_bd hi).1 ha]
  obtain ⟨x, y, hx, hy, e1, e2⟩ := diffs hi ha
  rw [e1, e2, show i % f - a % f = 7 - (x : Int) by omega, show i / f - a / f = 7 - (y : Int) by omega]
  have := List.all_eq_true.1 (List.all_eq_true.1 king_all x (List.mem_range.2 hx)) y (List.mem_range.2 hy)
  simpa using this
theorem dist_self (f a : Int) : distI f a a = 0 := by unfold distI kindI; simp
theorem pawn_bit {f r i a : Int} (bl : Bool) (hi : vsq f r i = true) (ha : vsq f r a = true) : (pawnS f r bl i).testBit a.toNat = (castL (pawnL f r bl i)).contains a := by
  unfold pawnS
  rw [leapS_bit (vsq_bd hi).1 ha]
  have e : (castL (pawnL f r bl i)).contains a = pawnB f bl i a := by
    obtain ⟨hv, a0, a1⟩ := vsq_bd ha
    rw [Bool.eq_iff_iff, List.contains_iff_mem]
    unfold castL pawnL cntN
    rw [List.mem_map]
    constructor
    · rintro ⟨n, hn, rfl⟩
      exact (List.mem_filter.1 hn).2
    · intro h
      refine ⟨a.toNat, List.mem_filter.2 ⟨List.mem_range.2 (by omega), ?_⟩, by omega⟩
      rw [show ((a.toNat : Nat) : Int) = a by omega]
      exact h
  rw [e]
  unfold pawnB
  rw [Bool.eq_iff_iff]
  simp only [List.any_cons, List.any_nil, Bool.or_false, Bool.or_eq_true, Bool.and_eq_true, beq_iff_eq]
  omega
/-! ### sliding -/
theorem hit_mem (occ : Nat) (a : Nat) : ∀ l : List Nat, a ∈ hitL occ l ↔ a ∈ l ∧ ∀ s ∈ l.takeWhile (fun x => x != a), occ.testBit s = false := by
  intro l
  induction l with
  | nil => simp [hitL]
  | cons x l ih =>
    by_cases hx : x = a
    · subst hx
      have : x ∈ hitL occ (x :: l) := by
        unfold hitL
        split <;> simp
      simp [this]
    · have hxa : ¬ a = x := fun e => hx e.symm
      rw [List.takeWhile_cons, if_pos (by simpa using hx)]
      cases ho : occ.testBit x
      · have e : hitL occ (x :: l) = x :: hitL occ l := by
          rw [hitL, if_neg (by rw [ho]; simp)]
        rw [e, List.mem_cons, ih]
        simp [hxa, ho]
      · have e : hitL occ (x :: l) = [x] := by
          rw [hitL, if_pos ho]
        rw [e]
        simp [hxa, ho]
theorem ray_mem {f r dx dy : Int} (n : Nat) : ∀ (x y : Int) (s : Nat), s ∈ rayN f r dx dy n x y → ∃ k : Nat, 1 ≤ k ∧ k ≤ n ∧ onB f r (x + k * dx) (y + k * dy) = true ∧ s = sqn f (x + k * dx) (y + k * dy) := by
  induction n with
  | zero => intro x y s h; simp [rayN] at h
  | succ n ih =>
    intro x y s h
    unfold rayN at h
    split at h
    · rename_i ho
      rcases List.mem_cons.1 h with rfl | h
      · exact ⟨1, by omega, by omega, by simpa using ho, by simp⟩
      · obtain ⟨k, h1, h2, h3, h4⟩ := ih _ _ _ h
        have ex : x + dx + (k : Int) * dx = x + ((k + 1 : Nat) : Int) * dx := by push_cast; rw [Int.add_mul]; omega
        have ey : y + dy + (k : Int) * dy = y + ((k + 1 : Nat) : Int) * dy := by push_cast; rw [Int.add_mul]; omega
        rw [ex, ey] at h3 h4
        exact ⟨k + 1, by omega, by omega, h3, h4⟩
    · cases h
theorem ray_on {f r dx dy : Int} (n : Nat) : ∀ (x y : Int) (k : Nat), 1 ≤ k → k ≤ n → (∀ j : Nat, 1 ≤ j → j ≤ k → onB f r (x + j * dx) (y + j * dy) = true) → sqn f (x + k * dx) (y + k * dy) ∈ rayN f r dx dy n x y := by
  induction n with
  | zero => intro x y k h1 h2; omega
  | succ n ih =>
    intro x y k h1 h2 h
    unfold rayN
    have ho := h 1 (by omega) h1
    simp only [Int.natCast_one, Int.one_mul] at ho
    rw [if_pos ho]
    rcases Nat.lt_or_ge 1 k with hk | hk
    · obtain ⟨m, rfl⟩ : ∃ m, k = m + 1 := ⟨k - 1, by omega⟩
      refine List.mem_cons_of_mem _ ?_
      have hx : ∀ j : Nat, x + ((j + 1 : Nat) : Int) * dx = x + dx + (j : Int) * dx := fun j => by push_cast; rw [Int.add_mul]; omega
      have hy : ∀ j : Nat, y + ((j + 1 : Nat) : Int) * dy = y + dy + (j : Int) * dy := fun j => by push_cast; rw [Int.add_mul]; omega
      rw [hx, hy]
      refine ih _ _ m (by omega) (by omega) fun j j1 j2 => ?_
      rw [← hx, ← hy]
      exact h (j + 1) (by omega) (by omega)
    · obtain rfl : k = 1 := by omega
      simp
end Go.Proofs.YtbhienpbfidgjaaGreatDoor
end
section
set_option linter.unusedVariables false
set_option linter.unusedSimpArgs false
namespace Go.Proofs.YtbhienpbfidgjaaGreatDoor
open Go.RowKit
theorem line_iff {f i a : Int} : lineB f i a = true ↔ i ≠ a ∧ (a % f - i % f = 0 ∨ a / f - i / f = 0 ∨ a % f - i % f = a / f - i / f ∨ a % f - i % f + (a / f - i / f) = 0) := by
  unfold lineB
  simp [or_assoc]
theorem ray_dir {f r i a dx dy : Int} (hi : vsq f r i = true) (ha : vsq f r a = true) (d1 : -1 ≤ dx) (d2 : dx ≤ 1) (d3 : -1 ≤ dy) (d4 : dy ≤ 1) (d0 : dx ≠ 0 ∨ dy ≠ 0) (h : a.toNat ∈ rayL f r i dx dy) :
    lineB f i a = true ∧ sgnI (a % f - i % f) = dx ∧ sgnI (a / f - i / f) = dy := by
  obtain ⟨k, h1, h2, h3, h4⟩ := ray_mem 8 _ _ _ h
  obtain ⟨e1, e2⟩ := (sq_xy (vsq_bd hi).1 h3 (vsq_bd ha).2.1).1 h4.symm
  have hne : a % f - i % f ≠ 0 ∨ a / f - i / f ≠ 0 → i ≠ a := by
    rintro h e
    subst e
    omega
  rw [line_iff]
  unfold sgnI
  obtain rfl | rfl | rfl : dx = -1 ∨ dx = 0 ∨ dx = 1 := by omega
  all_goals
    obtain rfl | rfl | rfl : dy = -1 ∨ dy = 0 ∨ dy = 1 := by omega
    all_goals first
      | (exfalso; omega)
      | (refine ⟨⟨hne (by omega), by omega⟩, ?_, ?_⟩ <;> (split <;> (try split) <;> omega))
theorem ray_conv {f r i a : Int} (hi : vsq f r i = true) (ha : vsq f r a = true) (h : lineB f i a = true) : a.toNat ∈ rayL f r i (sgnI (a % f - i % f)) (sgnI (a / f - i / f)) := by
  obtain ⟨hne, hl⟩ := line_iff.1 h
  have hd : a % f - i % f ≠ 0 ∨ a / f - i / f ≠ 0 := by
    rcases Decidable.em (a % f - i % f = 0) with h1 | h1
    · right
      intro h2
      exact hne (pt_eq (f := f) (by omega) (by omega))
    · exact .inl h1
  obtain ⟨h1, h2, _, h4, h5⟩ := pass_rank hi
  obtain ⟨g1, g2, _, g4, g5⟩ := pass_rank ha
  obtain ⟨f1, f2, r1, r2⟩ := vsize_bd (vsq_bd hi).1
  have key : ∀ (dx dy : Int) (k : Nat), 1 ≤ k → k ≤ 8 → i % f + k * dx = a % f → i / f + k * dy = a / f → (∀ j : Nat, 1 ≤ j → j ≤ k → onB f r (i % f + j * dx) (i / f + j * dy) = true) → a.toNat ∈ rayL f r i dx dy := by
    intro dx dy k k1 k2 e1 e2 ho
    have := ray_on (f := f) (r := r) (dx := dx) (dy := dy) 8 (i % f) (i / f) k k1 k2 ho
    rw [e1, e2, (sq_xy (vsq_bd hi).1 (on_xy ha) (vsq_bd ha).2.1).2 ⟨rfl, rfl⟩] at this
    exact this
  unfold sgnI
  generalize a % f = ax at *
  generalize a / f = ay at *
  generalize i % f = ix at *
  generalize i / f = iy at *
  have hon : ∀ x y : Int, (0 ≤ x ∧ x < f ∧ 0 ≤ y ∧ y < r) → onB f r x y = true := fun x y h => by unfold onB; simp; omega
  rcases (by omega : ax - ix < 0 ∨ ax - ix = 0 ∨ 0 < ax - ix) with hx | hx | hx
  · rcases (by omega : ay - iy < 0 ∨ ay - iy = 0 ∨ 0 < ay - iy) with hy | hy | hy
    · rw [if_pos hx, if_pos hy]
      exact key _ _ (ix - ax).toNat (by omega) (by omega) (by omega) (by omega) (fun j j1 j2 => hon _ _ (by omega))
    · rw [if_pos hx, if_neg (by omega), if_neg (by omega)]
      exact key _ _ (ix - ax).toNat (by omega) (by omega) (by omega) (by omega) (fun j j1 j2 => hon _ _ (by omega))
    · rw [if_pos hx, if_neg (by omega), if_pos hy]
      exact key _ _ (ix - ax).toNat (by omega) (by omega) (by omega) (by omega) (fun j j1 j2 => hon _ _ (by omega))
  · rcases (by omega : ay - iy < 0 ∨ 0 < ay - iy) with hy | hy
    · rw [if_neg (by omega), if_neg (by omega), if_pos hy]
      exact key _ _ (iy - ay).toNat (by omega) (by omega) (by omega) (by omega) (fun j j1 j2 => hon _ _ (by omega))
    · rw [if_neg (by omega), if_neg (by omega), if_neg (by omega), if_pos hy]
      exact key _ _ (ay - iy).toNat (by omega) (by omega) (by omega) (by omega) (fun j j1 j2 => hon _ _ (by omega))
  · rcases (by omega : ay - iy < 0 ∨ ay - iy = 0 ∨ 0 < ay - iy) with hy | hy | hy
    · rw [if_neg (by omega), if_pos hx, if_pos hy]
      exact key _ _ (ax - ix).toNat (by omega) (by omega) (by omega) (by omega) (fun j j1 j2 => hon _ _ (by omega))
    · rw [if_neg (by omega), if_pos hx, if_neg (by omega), if_neg (by omega)]
      exact key _ _ (ax - ix).toNat (by omega) (by omega) (by omega) (by omega) (fun j j1 j2 => hon _ _ (by omega))
    · rw [if_neg (by omega), if_pos hx, if_neg (by omega), if_pos hy]
      exact key _ _ (ax - ix).toNat (by omega) (by omega) (by omega) (by omega) (fun j j1 j2 => hon _ _ (by omega))
theorem slide_bit' (f r i : Int) (occ a : Nat) (L : List (Int × Int)) : ∀ S, (L.foldl (slideD f r i occ) S).testBit a = (S.testBit a || L.any fun d => decide (a ∈ hitL occ (rayL f r i d.1 d.2))) := by
  induction L with
  | nil => intro S; simp
  | cons d L ih =>
    intro S
    rw [List.foldl_cons, ih, List.any_cons, ← Bool.or_assoc]
    congr 1
    unfold slideD
    exact orL_bit _ _ _
theorem takeWhile_cast (l : List Nat) (a : Int) (ha : 0 ≤ a) : (castL l).takeWhile (fun x => x != a) = castL (l.takeWhile fun x => x != a.toNat) := by
  induction l with
  | nil => rfl
  | cons x l ih =>
    unfold castL at ih ⊢
    rw [List.map_cons, List.takeWhile_cons, List.takeWhile_cons]
    by_cases h : x = a.toNat
    · rw [if_neg (by simp; omega), if_neg (by simpa using h)]
      rfl
    · rw [if_pos (by simp; omega), if_pos (by simpa using h), List.map_cons, ih]
theorem free_ray {f r i a dx dy : Int} {occ : Nat} (hv : vsize f r = true) (ha : 0 ≤ a) (h : a.toNat ∈ rayL f r i dx dy) :
    freeB (betw (rayI f r i dx dy) a) occ = decide (a.toNat ∈ hitL occ (rayL f r i dx dy)) := by
  have hc : (rayI f r i dx dy).contains a = true := by
    rw [List.contains_iff_mem]
    unfold rayI
    exact List.mem_map.2 ⟨a.toNat, h, by omega⟩
  unfold betw
  rw [if_pos hc, show rayI f r i dx dy = castL (rayL f r i dx dy) from rfl, takeWhile_cast _ _ ha, Bool.eq_iff_iff, decide_eq_true_eq, hit_mem]
  unfold freeB castL
  rw [List.all_eq_true]
  constructor
  · intro hall
    refine ⟨h, fun s hs => ?_⟩
    have h1 := hall (s : Int) (List.mem_map.2 ⟨s, hs, rfl⟩)
    have h2 := rayN_bd hv 8 _ _ s ((List.takeWhile_sublist _).subset hs)
    simp at h1
    rcases h1 with h1 | h1
    · omega
    · exact h1
  · rintro ⟨_, hall⟩ x hx
    obtain ⟨s, hs, rfl⟩ := List.mem_map.1 hx
    have := hall s hs
    simp [this]
theorem slide_bit {f r i a : Int} {occ : Nat} (hi : vsq f r i = true) (ha : vsq f r a = true) (L : List (Int × Int)) (hL : ∀ d ∈ L, -1 ≤ d.1 ∧ d.1 ≤ 1 ∧ -1 ≤ d.2 ∧ d.2 ≤ 1 ∧ (d.1 ≠ 0 ∨ d.2 ≠ 0)) :
    (slideS f r i occ L).testBit a.toNat = (lineB f i a && decide ((sgnI (a % f - i % f), sgnI (a / f - i / f)) ∈ L) && freeB (betwI f r i a) occ) := by
  unfold slideS
  rw [slide_bit', Nat.zero_testBit, Bool.false_or, Bool.eq_iff_iff, List.any_eq_true]
  simp only [Bool.and_eq_true, decide_eq_true_eq]
  constructor
  · rintro ⟨d, hd, hm⟩
    obtain ⟨b1, b2, b3, b4, b0⟩ := hL d hd
    have hr := ((hit_mem occ a.toNat _).1 hm).1
    obtain ⟨h1, h2, h3⟩ := ray_dir hi ha b1 b2 b3 b4 b0 hr
    refine ⟨⟨h1, ?_⟩, ?_⟩
    · rw [h2, h3]; exact hd
    · unfold betwI
      rw [h2, h3, free_ray (vsq_bd hi).1 (vsq_bd ha).2.1 hr]
      exact decide_eq_true hm
  · rintro ⟨⟨h1, h2⟩, h3⟩
    have hr := ray_conv hi ha h1
    unfold betwI at h3
    rw [free_ray (vsq_bd hi).1 (vsq_bd ha).2.1 hr] at h3
    exact ⟨_, h2, of_decide_eq_true h3⟩
theorem dirs_all : ((List.range 3).all fun x => (List.range 3).all fun y => (decide (((x : Int) - 1, (y : Int) - 1) ∈ strL) == (((x : Int) - 1 == 0 || (y : Int) - 1 == 0) && !((x : Int) - 1 == 0 && (y : Int) - 1 == 0))) && (decide (((x : Int) - 1, (y : Int) - 1) ∈ diagL) == (!((x : Int) - 1 == 0 || (y : Int) - 1 == 0)))) = true := by kernel_rfl
theorem dirs {x y : Int} (h0 : x ≠ 0 ∨ y ≠ 0) : decide ((sgnI x, sgnI y) ∈ strL) = (x == 0 || y == 0) ∧ decide ((sgnI x, sgnI y) ∈ diagL) = !(x == 0 || y == 0) := by
  obtain ⟨s1, s2, _⟩ := sgn_bd x
  obtain ⟨t1, t2, _⟩ := sgn_bd y
  have := List.all_eq_true.1 (List.all_eq_true.1 dirs_all (sgnI x + 1).toNat (List.mem_range.2 (by omega))) (sgnI y + 1).toNat (List.mem_range.2 (by omega))
  rw [show (((sgnI x + 1).toNat : Nat) : Int) - 1 = sgnI x by omega, show (((sgnI y + 1).toNat : Nat) : Int) - 1 = sgnI y by omega] at this
  simp only [Bool.and_eq_true, beq_iff_eq] at this
  have ex : (sgnI x == 0) = (x == 0) := by
    rw [Bool.eq_iff_iff, beq_iff_eq, beq_iff_eq]; unfold sgnI; split <;> (try split) <;> omega
  have ey : (sgnI y == 0) = (y == 0) := by
    rw [Bool.eq_iff_iff, beq_iff_eq, beq_iff_eq]; unfold sgnI; split <;> (try split) <;> omega
  rw [ex, ey] at this
  have hne : (x == 0 && y == 0) = false := by
    rw [← Bool.not_eq_true]; simp; omega
  rw [hne] at this
  simpa using this
theorem reach_bit {f r k i a : Int} {occ : Nat} (hi : vsq f r i = true) (ha : vsq f r a = true) (hk : 2 ≤ k ∧ k ≤ 6) : (reachS f r i occ k).testBit a.toNat = (i != a && reachB f r k i a occ) := by
  have hdiag : ∀ d ∈ diagL, -1 ≤ d.1 ∧ d.1 ≤ 1 ∧ -1 ≤ d.2 ∧ d.2 ≤ 1 ∧ (d.1 ≠ 0 ∨ d.2 ≠ 0) := by decide
  have hstr : ∀ d ∈ strL, -1 ≤ d.1 ∧ d.1 ≤ 1 ∧ -1 ≤ d.2 ∧ d.2 ≤ 1 ∧ (d.1 ≠ 0 ∨ d.2 ≠ 0) := by decide
  by_cases hia : i = a
  · subst hia
    have hl : lineB f i i = false := by
      rw [← Bool.not_eq_true, line_iff]
      simp
    rw [show (i != i) = false by simp, Bool.false_and]
    obtain rfl | rfl | rfl | rfl | rfl : k = 2 ∨ k = 3 ∨ k = 4 ∨ k = 5 ∨ k = 6 := by omega
    · show (leapS f r i leapsL).testBit i.toNat = false
      rw [knight_bit hi ha]
      simp
    · show (slideS f r i occ diagL).testBit i.toNat = false
      rw [slide_bit hi ha _ hdiag, hl]
      simp
    · show (slideS f r i occ strL).testBit i.toNat = false
      rw [slide_bit hi ha _ hstr, hl]
      simp
    · show (queenS f r i occ).testBit i.toNat = false
      unfold queenS
      rw [Nat.testBit_or, slide_bit hi ha _ hdiag, slide_bit hi ha _ hstr, hl]
      simp
    · show (kingS f r i).testBit i.toNat = false
      rw [king_bit hi ha, dist_self]
      rfl
  · have hne : (i != a) = true := by simpa using hia
    rw [hne, Bool.true_and]
    have hd : a % f - i % f ≠ 0 ∨ a / f - i / f ≠ 0 := by
      rcases Decidable.em (a % f - i % f = 0) with h1 | h1
      · right
        intro h2
        exact hia (pt_eq (f := f) (by omega) (by omega))
      · exact .inl h1
    obtain ⟨hs, hg⟩ := dirs hd
    obtain rfl | rfl | rfl | rfl | rfl : k = 2 ∨ k = 3 ∨ k = 4 ∨ k = 5 ∨ k = 6 := by omega
    · exact knight_bit hi ha
    · show (slideS f r i occ diagL).testBit a.toNat = _
      rw [slide_bit hi ha _ hdiag, hg]
      unfold reachB
      rw [if_neg (by omega), if_neg (by omega)]
      cases (a % f - i % f == 0 || a / f - i / f == 0) <;> simp
    · show (slideS f r i occ strL).testBit a.toNat = _
      rw [slide_bit hi ha _ hstr, hs]
      unfold reachB
      rw [if_neg (by omega), if_neg (by omega)]
      cases (a % f - i % f == 0 || a / f - i / f == 0) <;> simp
    · show (queenS f r i occ).testBit a.toNat = _
      unfold queenS
      rw [Nat.testBit_or, slide_bit hi ha _ hdiag, slide_bit hi ha _ hstr, hs, hg]
      unfold reachB
      rw [if_neg (by omega), if_neg (by omega)]
      cases (a % f - i % f == 0 || a / f - i / f == 0) <;> simp
    · show (kingS f r i).testBit a.toNat = _
      rw [king_bit hi ha]
      rfl
end Go.Proofs.YtbhienpbfidgjaaGreatDoor
end
section
set_option linter.unusedVariables false
set_option linter.unusedSimpArgs false
namespace Go.Proofs.YtbhienpbfidgjaaGreatDoor
open Go.RowKit
theorem filter_none {P : Nat → Bool} {L : List Nat} (h : ∀ i ∈ L, P i = false) : L.filter P = [] := by
  rw [List.filter_eq_nil_iff]
  intro i hi
  rw [h i hi]
  simp
theorem range_one {P : Nat → Bool} {n a : Nat} (ha : a < n) (hp : P a = true) (h1 : ∀ i, i < a → P i = false) (h2 : ∀ i, a < i → i < n → P i = false) : (List.range n).filter P = [a] := by
  obtain ⟨m, rfl⟩ : ∃ m, n = a + (1 + m) := ⟨n - a - 1, by omega⟩
  rw [List.range_add, List.filter_append, filter_none (fun i hi => h1 i (List.mem_range.1 hi)), List.nil_append, List.range_add, List.map_append, List.filter_append]
  have hrest : (List.map (fun x => a + x) (List.map (fun x => 1 + x) (List.range m))).filter P = [] := filter_none fun i hi => by
    simp only [List.map_map, List.mem_map, List.mem_range, Function.comp] at hi
    obtain ⟨x, hx, rfl⟩ := hi
    exact h2 _ (by omega) (by omega)
  rw [hrest, show (List.map (fun x => a + x) (List.range 1)) = [a] by simp, List.filter_cons, if_pos hp]
  rfl
theorem getD_at {ps : List Int} {i : Nat} (h : i < ps.length) : ps[i]? = some (ps.getD i 0) := by
  rw [List.getD_eq_getElem?_getD, List.getElem?_eq_getElem h]
  rfl
theorem king_some {ps : List Int} {bl : Bool} {a : Nat} (h : kingI ps bl = some a) : kingR ps bl = a := by
  unfold kingI at h
  split at h
  · rename_i hany
    split at h
    · cases h
    · rename_i hno
      have hlt := (List.findIdx_lt_length (p := fun x => x == kingP bl) (xs := ps)).2 (List.any_eq_true.1 hany)
      cases h
      refine kingR_one rfl ?_
      unfold kingN idxN
      refine range_one hlt ?_ ?_ ?_
      · have := List.findIdx_getElem (w := hlt)
        rw [List.getD_eq_getElem?_getD, List.getElem?_eq_getElem hlt]
        exact this
      · intro i hi
        have := List.not_of_lt_findIdx hi
        rw [List.getD_eq_getElem?_getD, List.getElem?_eq_getElem (by omega)]
        simpa using this
      · intro i h1 h2
        simp only [List.any_eq_true, not_exists, not_and, Bool.not_eq_true] at hno
        have hm : ps.getD i 0 ∈ ps.drop (ps.findIdx (fun x => x == kingP bl) + 1) := by
          refine List.mem_of_getElem? (i := i - (ps.findIdx (fun x => x == kingP bl) + 1)) ?_
          rw [List.getElem?_drop, show ps.findIdx (fun x => x == kingP bl) + 1 + (i - (ps.findIdx (fun x => x == kingP bl) + 1)) = i by omega]
          exact getD_at h2
        exact hno _ hm
  · cases h
theorem king_none {ps : List Int} {bl : Bool} (h : kingI ps bl = none) : kingR ps bl = -1 := by
  refine kingR_no rfl ?_
  intro hl
  obtain ⟨a, ha⟩ := List.length_eq_one_iff.1 hl
  have hmem : ∀ i, i < ps.length → (ps.getD i 0 == kingP bl) = true → i = a := fun i hi hp => by
    have : i ∈ kingN ps bl := List.mem_filter.2 ⟨List.mem_range.2 hi, hp⟩
    rw [ha] at this
    simpa using this
  have haa : a ∈ kingN ps bl := by rw [ha]; simp
  obtain ⟨h1, h2⟩ := idxN_at haa
  unfold kingI at h
  rw [if_pos (List.any_eq_true.2 ⟨_, List.mem_of_getElem? (getD_at h1), h2⟩)] at h
  split at h
  · rename_i hany
    have hfl := (List.findIdx_lt_length (p := fun x => x == kingP bl) (xs := ps)).2 ⟨_, List.mem_of_getElem? (getD_at h1), h2⟩
    have e1 := hmem _ hfl (by
      have := List.findIdx_getElem (w := hfl)
      rw [List.getD_eq_getElem?_getD, List.getElem?_eq_getElem hfl]
      exact this)
    obtain ⟨x, hx, hp⟩ := List.any_eq_true.1 hany
    obtain ⟨j, hj⟩ := List.getElem?_of_mem hx
    rw [List.getElem?_drop] at hj
    have hjl := (List.getElem?_eq_some_iff.1 hj).1
    have e2 := hmem _ hjl (by rw [List.getD_eq_getElem?_getD, hj]; exact hp)
    omega
  · cases h
theorem orL_filter (P : Nat → Bool) (k : Nat) : orL 0 ((List.range (k + 1)).filter P) = if P k then orL 0 ((List.range k).filter P) ||| 2 ^ k else orL 0 ((List.range k).filter P) := by
  rw [List.range_succ, List.filter_append, orL_app]
  cases h : P k
  · rw [List.filter_cons, if_neg (by rw [h]; simp), if_neg (by simp)]
    simp [orL]
  · rw [List.filter_cons, if_pos h, if_pos rfl]
    simp [orL]
theorem att_range (f r : Int) (ps : List Int) (a : Nat) (bl : Bool) (k : Nat) : attS f r ps a bl k = orL 0 ((List.range k).filter fun i => isB (ps.getD i 0) bl && (ofS f r (ps.getD i 0) i (occS ps)).testBit a) := by
  induction k with
  | zero => rfl
  | succ k ih => rw [attS_snoc, orL_filter, ih]
theorem orL_zero (l : List Nat) : (orL 0 l == 0) = l.isEmpty := by
  cases l with
  | nil => rfl
  | cons x l =>
    have h : (orL 0 (x :: l)).testBit x = true := by rw [orL_bit]; simp
    have : orL 0 (x :: l) ≠ 0 := by
      intro e
      rw [e, Nat.zero_testBit] at h
      cases h
    simpa using this
theorem attL_range (f r : Int) (ps : List Int) (a : Int) (bl : Bool) : attL f r ps a bl = (List.range ps.length).filter fun i => sgnI (ps.getD i 0) == fwd bl && attR' f r ps a i := by
  unfold attL idxN
  rw [List.filter_filter]
  congr 1
  funext i
  rw [Bool.and_comm]
theorem att_same {f r : Int} {ps : List Int} {a : Nat} {bl : Bool} (ho : orthB f r ps = true) (ha : a < ps.length) : attL f r ps a bl = (List.range ps.length).filter fun i => isB (ps.getD i 0) bl && (ofS f r (ps.getD i 0) i (occS ps)).testBit a := by
  rw [attL_range]
  refine List.filter_congr fun i hi => ?_
  have hil := List.mem_range.1 hi
  have hbv : bvalid f r ps = true := by unfold orthB at ho; rw [Bool.and_eq_true] at ho; exact ho.1
  obtain ⟨hv, hlen, _⟩ := bvalid_len hbv
  have hqi := vsq_of hv hlen hil
  have hqa := vsq_of hv hlen ha
  obtain ⟨p1, p2⟩ := orthB_at ho (getD_at hil)
  unfold attR'
  generalize ps.getD i 0 = p at *
  have hs : (sgnI p == fwd bl) = isB p bl := by
    rw [Bool.eq_iff_iff]
    unfold sgnI fwd isB
    cases bl <;> simp <;> (split <;> (try split) <;> omega)
  rw [hs]
  by_cases h0 : p = 0
  · subst h0
    have : isB 0 bl = false := by unfold isB; simp
    rw [this]
    rfl
  · congr 1
    have hb := @reach_bit f r (kindI p) i a (occS ps) hqi hqa
    rw [Int.toNat_natCast] at hb
    have hpw := fun b => @pawn_bit f r i a b hqi hqa
    simp only [Int.toNat_natCast] at hpw
    unfold attR ofS
    by_cases h1 : p = 1
    · subst h1
      rw [if_pos rfl, if_pos (by rfl), hpw]
      rfl
    · by_cases h2 : p = -1
      · subst h2
        rw [if_pos (by rfl), if_neg (by decide), if_pos rfl, hpw]
        rfl
      · have hk : 2 ≤ kindI p ∧ kindI p ≤ 6 := by unfold kindI; split <;> omega
        have hmax : max p (-p) = kindI p := by unfold kindI; split <;> omega
        rw [if_neg (show ¬ kindI p = 1 by omega), if_neg h1, if_neg h2, hmax, hb hk]
theorem check_same {f r : Int} {ps : List Int} {a : Nat} {bl : Bool} (ho : orthB f r ps = true) (ha : a < ps.length) : (attL f r ps a bl).isEmpty = (attS f r ps a bl ps.length == 0) := by
  rw [att_same ho ha, att_range, orL_zero]
end Go.Proofs.YtbhienpbfidgjaaGreatDoor
end
section
set_option linter.unusedVariables false
set_option linter.unusedSimpArgs false
namespace Go.Proofs.YtbhienpbfidgjaaGreatDoor
open Go.RowKit
theorem orthB_bv {f r : Int} {ps : List Int} (ho : orthB f r ps = true) : bvalid f r ps = true := by unfold orthB at ho; rw [Bool.and_eq_true] at ho; exact ho.1
theorem rvalid6_c (w : World) (p : Pos) (po : Option Addr) (cap : Nat) (hS : SlcAt w po p.ps) (hn : p.ps.length ≤ 1000) (hc : 0 ≤ p.castle ∧ p.castle ≤ 255) :
    Pure 19 #[.agg (p.cells po cap)] w (.bool (rvB p)) := by
  unfold rvB
  cases ho : orthB p.f p.r p.ps
  · exact (rvalid6_no w p po cap hS hn ho).of_eq (by simp)
  · have hbv := orthB_bv ho
    obtain ⟨hv, hlen, h64⟩ := bvalid_len hbv
    have hm := vsize_mul hv
    obtain ⟨b, off, rfl, hPc⟩ := hS.resolve_left (by
      intro h
      rw [h] at hlen
      simp at hlen
      omega)
    by_cases h1 : 0 ≤ kingR p.ps false
    · by_cases h2 : 0 ≤ kingR p.ps true
      · cases hA : (attL p.f p.r p.ps (kingR p.ps (!p.black)) (!!p.black)).isEmpty
        · exact (rvalid6_k w p b off cap hPc ho (.inr (.inr hA))).of_eq (by simp [h1, h2])
        · exact (rvalid6_y w p b off cap hPc ho hc h1 h2 hA).of_eq (by simp [h1, h2])
      · exact (rvalid6_k w p b off cap hPc ho (.inr (.inl (by omega)))).of_eq (by simp [h1, h2])
    · exact (rvalid6_k w p b off cap hPc ho (.inl (by omega))).of_eq (by simp [h1])
theorem kings_same {p : Pos} (ho : orthB p.f p.r p.ps = true) : (decide (0 ≤ kingR p.ps false) && decide (0 ≤ kingR p.ps true) && (attL p.f p.r p.ps (kingR p.ps (!p.black)) (!!p.black)).isEmpty) = p.kings := by
  have hall : (decide (0 ≤ kingR p.ps false) && decide (0 ≤ kingR p.ps true)) = (decide (0 ≤ kingR p.ps p.black) && decide (0 ≤ kingR p.ps (!p.black))) := by
    cases p.black
    · rfl
    · exact Bool.and_comm _ _
  rw [hall]
  unfold Pos.kings
  rw [ho, Bool.true_and]
  cases h1 : kingI p.ps p.black with
  | none =>
    rw [king_none h1]
    simp
  | some a =>
    rw [king_some h1]
    cases h2 : kingI p.ps (!p.black) with
    | none =>
      rw [king_none h2]
      simp
    | some c =>
      rw [king_some h2, check_same ho (kingI_lt h2)]
      simp
theorem pawns_same {p : Pos} (hbv : bvalid p.f p.r p.ps = true) : pawnsR p = p.pawns := by
  obtain ⟨hv, hlen, h64⟩ := bvalid_len hbv
  obtain ⟨b1, b2, b3, b4⟩ := vsize_bd hv
  obtain ⟨f, hf⟩ : ∃ f : Nat, p.f = f := ⟨p.f.toNat, by omega⟩
  obtain ⟨r, hr⟩ : ∃ r : Nat, p.r = r := ⟨p.r.toNat, by omega⟩
  have hln : p.ps.length = f * r := by rw [hf, hr] at hlen; exact_mod_cast hlen
  have hfr : f ≤ f * r := Nat.le_mul_of_pos_right f (by omega)
  rw [Bool.eq_iff_iff]
  unfold pawnsR Pos.pawns
  rw [hf, Int.toNat_natCast]
  have hL : (((List.range p.ps.length).all fun i => !pawnBad p i) = true) ↔ ∀ i, i < p.ps.length → pawnBad p i = false := by simp [List.all_eq_true, List.mem_range]
  rw [hL]
  simp only [Bool.and_eq_true, Bool.not_eq_true', List.any_eq_false, beq_iff_eq, List.mem_iff_getElem?]
  have hrow : ∀ i : Nat, i < f * r → (((i : Int) / (f : Int)) = 0 ↔ i < f) ∧ (((i : Int) / (f : Int)) = p.r - 1 ↔ f * r - f ≤ i) := by
    intro i hi
    have e : (i : Int) / (f : Int) = ((i / f : Nat) : Int) := by simp
    rw [e, hr]
    have d1 : i / f < r := by rw [Nat.div_lt_iff_lt_mul (by omega)]; rw [Nat.mul_comm]; exact hi
    have d2 : i / f = 0 ↔ i < f := by rw [Nat.div_eq_zero_iff]; omega
    have d3 : r - 1 ≤ i / f ↔ (r - 1) * f ≤ i := by rw [Nat.le_div_iff_mul_le (by omega)]
    have d4 : (r - 1) * f = f * r - f := by rw [Nat.sub_mul, Nat.one_mul, Nat.mul_comm]
    rw [d4] at d3
    omega
  constructor
  · intro h
    refine ⟨?_, ?_⟩
    · rintro x ⟨i, hi⟩ rfl
      rw [List.getElem?_drop] at hi
      obtain ⟨hl, he⟩ := List.getElem?_eq_some_iff.1 hi
      have := h _ hl
      unfold pawnBad kindI at this
      rw [hf, List.getD_eq_getElem?_getD, hi] at this
      have hh := (hrow (p.ps.length - f + i) (by omega)).2.2 (by omega)
      generalize p.ps.length - f + i = j at *
      simp [hh] at this
    · rintro x ⟨i, hi⟩ rfl
      rw [List.getElem?_take] at hi
      split at hi
      · rename_i hif
        obtain ⟨hl, he⟩ := List.getElem?_eq_some_iff.1 hi
        have := h _ hl
        unfold pawnBad kindI at this
        rw [hf, List.getD_eq_getElem?_getD, hi] at this
        have hh := (hrow _ (by omega)).1.2 hif
        simp [hh] at this
      · cases hi
  · rintro ⟨h1, h2⟩ i hi
    have hg := getD_at hi
    unfold pawnBad kindI
    rw [hf]
    obtain ⟨w1, w2⟩ := hrow i (by omega)
    generalize hq : p.ps.getD i 0 = q at *
    rw [Bool.and_eq_false_iff]
    by_cases hlt : q < 0
    · rw [if_pos hlt, if_pos (by simpa using hlt)]
      by_cases hq1 : q = -1
      · right
        by_cases hlf : i < f
        · exact absurd hq1 (h2 q ⟨i, by
            rw [List.getElem?_take, if_pos hlf]
            exact hg⟩)
        · have := mt w1.1 hlf
          simpa using this
      · left
        simp
        omega
    · rw [if_neg hlt, if_neg (by simpa using hlt)]
      by_cases hq1 : q = 1
      · right
        by_cases hge : f * r - f ≤ i
        · exact absurd hq1 (h1 q ⟨i - (p.ps.length - f), by
            rw [List.getElem?_drop, show p.ps.length - f + (i - (p.ps.length - f)) = i by omega]
            exact hg⟩)
        · have := mt w2.1 hge
          simpa using this
      · left
        simp
        omega
theorem pass_same {p : Pos} : passR p = p.passes := by
  unfold passR Pos.passes
  by_cases h1 : p.passant = -1
  · rw [if_pos h1, h1]; rfl
  · rw [if_neg h1, show (p.passant == -1) = false by simpa using h1, Bool.false_or]
    by_cases h : p.r < 6 ∨ p.half ≠ 0 ∨ vsq p.f p.r p.passant = false
    · rw [if_pos h]
      have : ∀ up rank, p.passup up rank = false := by
        intro up rank
        unfold Pos.passup
        rcases h with h | h | h
        · rw [show decide (6 ≤ p.r) = false by simpa using h]; simp
        · rw [show (p.half == 0) = false by simpa using h]; simp
        · rw [h]; simp
      rw [this, this]
      simp
    · rw [if_neg h]
      simp only [not_or, Classical.not_not, Bool.not_eq_false] at h
      obtain ⟨h6, hh, hq⟩ := h
      obtain ⟨hsz, q0, q1⟩ := vsq_bd hq
      obtain ⟨b1, b2, b3, b4⟩ := vsize_bd hsz
      have hd := pass_rank hq
      unfold passLate Pos.passup
      rw [show decide (6 ≤ p.r) = true by simp; omega, show (p.half == 0) = true by simpa using hh, hq]
      have hx : ∀ a b : Int, (2 * (p.passant / p.f) == a + b) = (2 * (p.passant / p.f) == a + b) := fun _ _ => rfl
      obtain ⟨d1, d2, d3, d4, d5⟩ := hd
      generalize hF : p.passant % p.f = F at *
      generalize hY : p.passant / p.f = Y at *
      rw [d3]
      cases hb : p.black
      · simp only [Bool.false_eq_true, if_false, Bool.true_and, pofI, Bool.not_false, if_true]
        by_cases hY1 : Y = p.r - 3
        · rw [show (2 * Y == p.r - 2 + (p.r - 4)) = true by simp; omega, show (Y == p.r - 3) = true by simpa using hY1, hY1]
          have m1 := Int.sub_mul p.r 2 p.f
          have m2 := Int.mul_sub p.f p.r 3
          have m3 := Int.mul_comm p.r p.f
          have m4 := Int.sub_mul p.r 4 p.f
          rw [show (p.r - 2) * p.f + F = F + p.f * (p.r - 3) - -p.f by omega, show (p.r - 4) * p.f + F = F + p.f * (p.r - 3) + -p.f by omega]
        · rw [show (2 * Y == p.r - 2 + (p.r - 4)) = false by simp; omega, show (Y == p.r - 3) = false by simpa using hY1]
          simp
      · simp only [if_true, Bool.true_and, pofI, Bool.not_true, Bool.false_eq_true, if_false]
        by_cases hY1 : Y = 2
        · rw [show (2 * Y == 1 + 3) = true by simp; omega, show (Y == 2) = true by simpa using hY1, hY1]
          rw [show 1 * p.f + F = F + p.f * 2 - p.f by omega, show 3 * p.f + F = F + p.f * 2 + p.f by omega]
        · rw [show (2 * Y == 1 + 3) = false by simp; omega, show (Y == 2) = false by simpa using hY1]
          simp
theorem rv_same (p : Pos) : rvB p = p.valid := by
  unfold rvB Pos.valid
  cases ho : orthB p.f p.r p.ps
  · have : p.kings = false := by unfold Pos.kings; rw [ho]; rfl
    rw [this]
    simp
  · have hbv := orthB_bv ho
    rw [hbv, ← kings_same ho, ← pawns_same hbv, ← pass_same]
    simp [Bool.and_assoc]
end Go.Proofs.YtbhienpbfidgjaaGreatDoor
end
section
set_option linter.unusedVariables false
set_option linter.unusedSimpArgs false
namespace Go.Proofs.YtbhienpbfidgjaaGreatDoor
open Go.RowKit
def okT0 : ByteArray := ⟨#[51, 120, 51, 32, 107, 50, 47, 51, 47, 50, 75, 32, 119, 32, 45, 32, 45, 32, 48, 32, 49]⟩
def okT1 : ByteArray := ⟨#[51, 120, 51, 32, 107, 82, 49, 47, 51, 47, 50, 75, 32, 98, 32, 45, 32, 45, 32, 48, 32, 49]⟩
def okT2 : ByteArray := ⟨#[51, 120, 51, 32, 107, 50, 47, 51, 47, 49, 80, 75, 32, 119, 32, 45, 32, 45, 32, 48, 32, 49]⟩
def okT3 : ByteArray := ⟨#[51, 120, 54, 32, 107, 50, 47, 51, 47, 80, 50, 47, 51, 47, 51, 47, 50, 75, 32, 98, 32, 45, 32, 97, 51, 32, 48, 32, 49]⟩
def okT4 : ByteArray := ⟨#[56, 120, 56, 32, 52, 107, 51, 47, 56, 47, 56, 47, 56, 47, 56, 47, 56, 47, 56, 47, 52, 75, 50, 82, 32, 119, 32, 75, 32, 45, 32, 48, 32, 49]⟩
def noT0 : ByteArray := ⟨#[51, 120, 51, 32, 107, 82, 49, 47, 51, 47, 50, 75, 32, 119, 32, 45, 32, 45, 32, 48, 32, 49]⟩
def noT1 : ByteArray := ⟨#[51, 120, 51, 32, 107, 80, 49, 47, 51, 47, 50, 75, 32, 98, 32, 45, 32, 45, 32, 48, 32, 49]⟩
def noT2 : ByteArray := ⟨#[51, 120, 54, 32, 107, 50, 47, 51, 47, 51, 47, 80, 50, 47, 51, 47, 50, 75, 32, 98, 32, 45, 32, 97, 50, 32, 48, 32, 49]⟩
def noT3 : ByteArray := ⟨#[51, 120, 54, 32, 107, 50, 47, 51, 47, 51, 47, 80, 50, 47, 51, 47, 50, 75, 32, 98, 32, 45, 32, 97, 51, 32, 48, 32, 49]⟩
def noT4 : ByteArray := ⟨#[51, 120, 54, 32, 107, 50, 47, 51, 47, 80, 50, 47, 51, 47, 51, 47, 50, 75, 32, 98, 32, 45, 32, 97, 51, 32, 49, 32, 49]⟩
def noT5 : ByteArray := ⟨#[51, 120, 54, 32, 107, 50, 47, 51, 47, 80, 50, 47, 51, 47, 51, 47, 50, 75, 32, 119, 32, 45, 32, 97, 51, 32, 48, 32, 49]⟩
def noT6 : ByteArray := ⟨#[56, 120, 56, 32, 52, 107, 51, 47, 56, 47, 56, 47, 56, 47, 56, 47, 56, 47, 56, 47, 52, 75, 50, 82, 32, 119, 32, 81, 32, 45, 32, 48, 32, 49]⟩
theorem good_all : ([okT0, okT1, okT2, okT3, okT4].all fun t => decide (t.size ≤ 1000) && (posO t).isSome) = true := by kernel_rfl
theorem bad_all : ([noT0, noT1, noT2, noT3, noT4, noT5, noT6].all fun t => decide (t.size ≤ 1000) && (posO t).isNone) = true := by kernel_rfl
/-- a position that is read is valid and has the text -/
theorem posO_some {t : ByteArray} {p : Pos} (h : posO t = some p) : p.valid = true ∧ p.text = t := by
  unfold posO at h
  split at h
  · split at h
    · cases h
    · split at h
      · rename_i hc
        simp only [Bool.and_eq_true, ba_beq] at hc
        cases h
        exact hc
      · cases h
  · cases h
theorem good_t {t : ByteArray} (h : t ∈ [okT0, okT1, okT2, okT3, okT4]) : t.size ≤ 1000 ∧ ∃ p, posO t = some p ∧ p.valid = true ∧ p.text = t := by
  have := List.all_eq_true.1 good_all t h
  rw [Bool.and_eq_true] at this
  refine ⟨of_decide_eq_true this.1, ?_⟩
  obtain ⟨p, hp⟩ := Option.isSome_iff_exists.1 this.2
  exact ⟨p, hp, posO_some hp⟩
theorem bad_t {t : ByteArray} (h : t ∈ [noT0, noT1, noT2, noT3, noT4, noT5, noT6]) : t.size ≤ 1000 ∧ posO t = none := by
  have := List.all_eq_true.1 bad_all t h
  rw [Bool.and_eq_true] at this
  exact ⟨of_decide_eq_true this.1, Option.isNone_iff_eq_none.1 this.2⟩
/-- the package's Parse, where the library and the tables lie -/
theorem parse_at (L : Libs) {w : World} (hE : Env w) (t : ByteArray) (ht : t.size ≤ 1000) : Calls Tryz.prog 22 #[.string t] w fun e w' => PosIs t e w' ∧ Below w.heap.size w w' :=
  posparse_c L.split L.rev L.join L.cont w hE.max hE.kinds hE.itoa hE.atois hE.rays hE.full t ht
theorem parse_ok (L : Libs) {w : World} (hE : Env w) {t : ByteArray} {p : Pos} (ht : t.size ≤ 1000) (hp : posO t = some p) :
    Calls Tryz.prog 22 #[.string t] w fun e w' => (∃ po cap, e = .returned (.tuple #[.agg (p.cells po cap), .int .i64 0]) ∧ PosAt w' p po cap) ∧ Below w.heap.size w w' :=
  (parse_at L hE t ht).mono fun e V ⟨a, b⟩ => ⟨by unfold PosIs at a; rw [hp] at a; exact a, b⟩
theorem parse_no (L : Libs) {w : World} (hE : Env w) {t : ByteArray} (ht : t.size ≤ 1000) (hp : posO t = none) : Pure 22 #[.string t] w (.tuple #[.agg noPosC, .int .i64 6]) :=
  (parse_at L hE t ht).mono fun e V ⟨a, b⟩ => ⟨by unfold PosIs at a; rw [hp] at a; exact a, b⟩
theorem text_at (L : Libs) {w : World} (hE : Env w) (p : Pos) (po : Option Addr) (cap : Nat) (hP : PosAt w p po cap) : Pure 20 #[.agg (p.cells po cap)] w p.textV :=
  ptext_c L.rev L.join w hE.kinds hE.itoa p po cap hP hE.full
theorem start_at (L : Libs) {w : World} (hE : Env w) : Calls Tryz.prog 51 #[] w fun e w' => (∃ po cap, e = .returned (.agg (startP.cells po cap)) ∧ PosAt w' startP po cap) ∧ Below w.heap.size w w' :=
  start_c L.split L.rev L.join L.cont w hE.max hE.kinds hE.itoa hE.atois hE.rays hE.full
set_option maxRecDepth 100000 in
set_option maxHeartbeats 4000000 in
theorem known06_c (L : Libs) (w : World) (hE : Env w) : Pure 17 #[] w (.bool true) := by
  have hL := Lib.hid L
  replace hE := Lib.hid hE
  clear L
  have hgood := Lib.hid (fun t h => good_t (t := t) h)
  have hbad := Lib.hid (fun t h => bad_t (t := t) h)
  unfold Pure
  go_enter Tryz.func17, Tryz.ntmps17
  go_wp2_with fail
  have hN := Lib.hid (blk_new (w := w) rfl (.cells #[.string ⟨#[51, 120, 51, 32, 107, 50, 47, 51, 47, 50, 75, 32, 119, 32, 45, 32, 45, 32, 48, 32, 49]⟩, .string ⟨#[51, 120, 51, 32, 107, 82, 49, 47, 51, 47, 50, 75, 32, 98, 32, 45, 32, 45, 32, 48, 32, 49]⟩, .string ⟨#[51, 120, 51, 32, 107, 50, 47, 51, 47, 49, 80, 75, 32, 119, 32, 45, 32, 45, 32, 48, 32, 49]⟩, .string ⟨#[51, 120, 54, 32, 107, 50, 47, 51, 47, 80, 50, 47, 51, 47, 51, 47, 50, 75, 32, 98, 32, 45, 32, 97, 51, 32, 48, 32, 49]⟩, .string ⟨#[56, 120, 56, 32, 52, 107, 51, 47, 56, 47, 56, 47, 56, 47, 56, 47, 56, 47, 56, 47, 52, 75, 50, 82, 32, 119, 32, 75, 32, 45, 32, 48, 32, 49]⟩] 9))
  have hB := Lib.hid ((Below.refl w.heap.size w).alloc (Nat.le_refl _) (.cells #[.string ⟨#[51, 120, 51, 32, 107, 50, 47, 51, 47, 50, 75, 32, 119, 32, 45, 32, 45, 32, 48, 32, 49]⟩, .string ⟨#[51, 120, 51, 32, 107, 82, 49, 47, 51, 47, 50, 75, 32, 98, 32, 45, 32, 45, 32, 48, 32, 49]⟩, .string ⟨#[51, 120, 51, 32, 107, 50, 47, 51, 47, 49, 80, 75, 32, 119, 32, 45, 32, 45, 32, 48, 32, 49]⟩, .string ⟨#[51, 120, 54, 32, 107, 50, 47, 51, 47, 80, 50, 47, 51, 47, 51, 47, 50, 75, 32, 98, 32, 45, 32, 97, 51, 32, 48, 32, 49]⟩, .string ⟨#[56, 120, 56, 32, 52, 107, 51, 47, 56, 47, 56, 47, 56, 47, 56, 47, 56, 47, 56, 47, 52, 75, 50, 82, 32, 119, 32, 75, 32, 45, 32, 48, 32, 49]⟩] 9))
  obtain ⟨G, hG⟩ : ∃ G, w.heap.size = G := ⟨_, rfl⟩
  obtain ⟨V0, hV0⟩ : ∃ V0, w.alloc (.cells #[.string ⟨#[51, 120, 51, 32, 107, 50, 47, 51, 47, 50, 75, 32, 119, 32, 45, 32, 45, 32, 48, 32, 49]⟩, .string ⟨#[51, 120, 51, 32, 107, 82, 49, 47, 51, 47, 50, 75, 32, 98, 32, 45, 32, 45, 32, 48, 32, 49]⟩, .string ⟨#[51, 120, 51, 32, 107, 50, 47, 51, 47, 49, 80, 75, 32, 119, 32, 45, 32, 45, 32, 48, 32, 49]⟩, .string ⟨#[51, 120, 54, 32, 107, 50, 47, 51, 47, 80, 50, 47, 51, 47, 51, 47, 50, 75, 32, 98, 32, 45, 32, 97, 51, 32, 48, 32, 49]⟩, .string ⟨#[56, 120, 56, 32, 52, 107, 51, 47, 56, 47, 56, 47, 56, 47, 56, 47, 56, 47, 56, 47, 52, 75, 50, 82, 32, 119, 32, 75, 32, 45, 32, 48, 32, 49]⟩] 9) = V0 := ⟨_, rfl⟩
  rw [hG, hV0] at hN
  rw [hV0] at hB ⊢
  rw [hG]
  clear hG hV0
  go_loopw [15] (fun i wr => ∃ k : Nat, k ≤ 5 ∧ i = .int .i64 k ∧ wr.heap[G]? = some (.cells #[.string okT0, .string okT1, .string okT2, .string okT3, .string okT4] 9 (0, 0)) ∧ Below w.heap.size w wr) (fun i _ => 6 - (intOf i).toNat)
  case atStart => exact ⟨0, by omega, rfl, hN.out, hB.out⟩
  case round =>
    obtain ⟨k, hk, rfl, hNr, hBr⟩ := hrel
    clear hN hB
    rcases (by omega : k = 0 ∨ k = 1 ∨ k = 2 ∨ k = 3 ∨ k = 4 ∨ k = 5) with rfl | rfl | rfl | rfl | rfl | rfl
    · have x0 := cell_of hNr 0 _ rfl
      have hN := Lib.hid hNr
      have hB := Lib.hid hBr
      clear hNr hBr
      obtain ⟨hz, p, hp, hv, hx⟩ := hgood.out okT0 (by simp)
      have c1 := Lib.hid (fun W (hW : Below w.heap.size w W) => parse_ok hL.out (hE.out.below hW) hz hp)
      have c2 := Lib.hid (fun W po cap (hW : Below w.heap.size w W) (hP : PosAt W p po cap) => (text_at hL.out (hE.out.below hW) p po cap hP).of_eq (show _ = Value.tuple #[.string okT0, .int .i64 0] by unfold Pos.textV; rw [hv, hx]; rfl))
      have c3 := Lib.hid (fun W po cap (hW : Below w.heap.size w W) (hP : PosAt W p po cap) => (valid_c W p po cap hP (hE.out.below hW).full).of_eq (show _ = Value.bool true by rw [hv]))
      clear hz hp hv hx hgood
      obtain ⟨f, r, ps, bl, ca, pa, ha, fu⟩ := p
      unfold Pos.cells at c1 c2 c3
      dsimp only at c1 c2 c3
      go_wp2_with fail
      refine (c1.out _ hB.out).mono ?_
      rintro e V5 ⟨⟨po, cap, rfl, hPA⟩, hV5⟩
      replace hN := Lib.hid (below_blk hV5 hN.out)
      replace hB := Lib.hid (hB.out.trans (hV5.mono hB.out.size))
      replace hPA := Lib.hid hPA
      clear hV5 x0 c1
      go_wp2_with fail
      have hM := Lib.hid (blk_new (w := V5) rfl (.cells #[.int .i64 f, .int .i64 r, .slice po ps.length cap, .bool bl, .int .u8 ca, .int .i64 pa, .int .i64 ha, .int .i64 fu] 26))
      replace hN := Lib.hid (blk_alloc hN.out (.cells #[.int .i64 f, .int .i64 r, .slice po ps.length cap, .bool bl, .int .u8 ca, .int .i64 pa, .int .i64 ha, .int .i64 fu] 26))
      replace hB := Lib.hid (hB.out.alloc hB.out.size (.cells #[.int .i64 f, .int .i64 r, .slice po ps.length cap, .bool bl, .int .u8 ca, .int .i64 pa, .int .i64 ha, .int .i64 fu] 26))
      replace hPA := Lib.hid (hPA.out.below ((Below.refl _ _).alloc (Nat.le_refl _) (.cells #[.int .i64 f, .int .i64 r, .slice po ps.length cap, .bool bl, .int .u8 ca, .int .i64 pa, .int .i64 ha, .int .i64 fu] 26)))
      obtain ⟨H, hH⟩ : ∃ H, V5.heap.size = H := ⟨_, rfl⟩
      obtain ⟨V6, hV6⟩ : ∃ V6, V5.alloc (.cells #[.int .i64 f, .int .i64 r, .slice po ps.length cap, .bool bl, .int .u8 ca, .int .i64 pa, .int .i64 ha, .int .i64 fu] 26) = V6 := ⟨_, rfl⟩
      rw [hH, hV6] at hM
      rw [hV6] at hN hB hPA ⊢
      rw [hH]
      clear hH hV6
      refine (c2.out _ _ _ hB.out hPA.out).mono ?_
      rintro e V7 ⟨rfl, hV⟩
      replace hN := Lib.hid (below_blk hV hN.out)
      replace hM := Lib.hid (below_blk hV hM.out)
      replace hPA := Lib.hid (hPA.out.below hV)
      replace hB := Lib.hid (hB.out.trans (hV.mono hB.out.size))
      clear hV c2
      have z0 := cell_of hM.out 0 _ rfl
      have z1 := cell_of hM.out 1 _ rfl
      have z2 := cell_of hM.out 2 _ rfl
      have z3 := cell_of hM.out 3 _ rfl
      have z4 := cell_of hM.out 4 _ rfl
      have z5 := cell_of hM.out 5 _ rfl
      have z6 := cell_of hM.out 6 _ rfl
      have z7 := cell_of hM.out 7 _ rfl
      go_wp2_with fail
      clear z0 z1 z2 z3 z4 z5 z6 z7
      refine (c3.out _ _ _ hB.out hPA.out).mono ?_
      rintro e V8 ⟨rfl, hV⟩
      replace hN := Lib.hid (below_blk hV hN.out)
      replace hB := Lib.hid (hB.out.trans (hV.mono hB.out.size))
      clear hV c3 hM hPA
      go_wp2_with fail
      go_roundw
      case rel => exact ⟨0 + 1, by omega, by simp, hN.out, hB.out⟩
      case measure => simp [intOf]
    · have x0 := cell_of hNr 1 _ rfl
      have hN := Lib.hid hNr
      have hB := Lib.hid hBr
      clear hNr hBr
      obtain ⟨hz, p, hp, hv, hx⟩ := hgood.out okT1 (by simp)
      have c1 := Lib.hid (fun W (hW : Below w.heap.size w W) => parse_ok hL.out (hE.out.below hW) hz hp)
      have c2 := Lib.hid (fun W po cap (hW : Below w.heap.size w W) (hP : PosAt W p po cap) => (text_at hL.out (hE.out.below hW) p po cap hP).of_eq (show _ = Value.tuple #[.string okT1, .int .i64 0] by unfold Pos.textV; rw [hv, hx]; rfl))
      have c3 := Lib.hid (fun W po cap (hW : Below w.heap.size w W) (hP : PosAt W p po cap) => (valid_c W p po cap hP (hE.out.below hW).full).of_eq (show _ = Value.bool true by rw [hv]))
      clear hz hp hv hx hgood
      obtain ⟨f, r, ps, bl, ca, pa, ha, fu⟩ := p
      unfold Pos.cells at c1 c2 c3
      dsimp only at c1 c2 c3
      go_wp2_with fail
      refine (c1.out _ hB.out).mono ?_
      rintro e V5 ⟨⟨po, cap, rfl, hPA⟩, hV5⟩
      replace hN := Lib.hid (below_blk hV5 hN.out)
      replace hB := Lib.hid (hB.out.trans (hV5.mono hB.out.size))
      replace hPA := Lib.hid hPA
      clear hV5 x0 c1
      go_wp2_with fail
      have hM := Lib.hid (blk_new (w := V5) rfl (.cells #[.int .i64 f, .int .i64 r, .slice po ps.length cap, .bool bl, .int .u8 ca, .int .i64 pa, .int .i64 ha, .int .i64 fu] 26))
      replace hN := Lib.hid (blk_alloc hN.out (.cells #[.int .i64 f, .int .i64 r, .slice po ps.length cap, .bool bl, .int .u8 ca, .int .i64 pa, .int .i64 ha, .int .i64 fu] 26))
      replace hB := Lib.hid (hB.out.alloc hB.out.size (.cells #[.int .i64 f, .int .i64 r, .slice po ps.length cap, .bool bl, .int .u8 ca, .int .i64 pa, .int .i64 ha, .int .i64 fu] 26))
      replace hPA := Lib.hid (hPA.out.below ((Below.refl _ _).alloc (Nat.le_refl _) (.cells #[.int .i64 f, .int .i64 r, .slice po ps.length cap, .bool bl, .int .u8 ca, .int .i64 pa, .int .i64 ha, .int .i64 fu] 26)))
      obtain ⟨H, hH⟩ : ∃ H, V5.heap.size = H := ⟨_, rfl⟩
      obtain ⟨V6, hV6⟩ : ∃ V6, V5.alloc (.cells #[.int .i64 f, .int .i64 r, .slice po ps.length cap, .bool bl, .int .u8 ca, .int .i64 pa, .int .i64 ha, .int .i64 fu] 26) = V6 := ⟨_, rfl⟩
      rw [hH, hV6] at hM
      rw [hV6] at hN hB hPA ⊢
      rw [hH]
      clear hH hV6
      refine (c2.out _ _ _ hB.out hPA.out).mono ?_
      rintro e V7 ⟨rfl, hV⟩
      replace hN := Lib.hid (below_blk hV hN.out)
      replace hM := Lib.hid (below_blk hV hM.out)
      replace hPA := Lib.hid (hPA.out.below hV)
      replace hB := Lib.hid (hB.out.trans (hV.mono hB.out.size))
      clear hV c2
      have z0 := cell_of hM.out 0 _ rfl
      have z1 := cell_of hM.out 1 _ rfl
      have z2 := cell_of hM.out 2 _ rfl
      have z3 := cell_of hM.out 3 _ rfl
      have z4 := cell_of hM.out 4 _ rfl
      have z5 := cell_of hM.out 5 _ rfl
      have z6 := cell_of hM.out 6 _ rfl
      have z7 := cell_of hM.out 7 _ rfl
      go_wp2_with fail
      clear z0 z1 z2 z3 z4 z5 z6 z7
      refine (c3.out _ _ _ hB.out hPA.out).mono ?_
      rintro e V8 ⟨rfl, hV⟩
      replace hN := Lib.hid (below_blk hV hN.out)
      replace hB := Lib.hid (hB.out.trans (hV.mono hB.out.size))
      clear hV c3 hM hPA
      go_wp2_with fail
      go_roundw
      case rel => exact ⟨1 + 1, by omega, by simp, hN.out, hB.out⟩
      case measure => simp [intOf]
    · have x0 := cell_of hNr 2 _ rfl
      have hN := Lib.hid hNr
      have hB := Lib.hid hBr
      clear hNr hBr
      obtain ⟨hz, p, hp, hv, hx⟩ := hgood.out okT2 (by simp)
      have c1 := Lib.hid (fun W (hW : Below w.heap.size w W) => parse_ok hL.out (hE.out.below hW) hz hp)
      have c2 := Lib.hid (fun W po cap (hW : Below w.heap.size w W) (hP : PosAt W p po cap) => (text_at hL.out (hE.out.below hW) p po cap hP).of_eq (show _ = Value.tuple #[.string okT2, .int .i64 0] by unfold Pos.textV; rw [hv, hx]; rfl))
      have c3 := Lib.hid (fun W po cap (hW : Below w.heap.size w W) (hP : PosAt W p po cap) => (valid_c W p po cap hP (hE.out.below hW).full).of_eq (show _ = Value.bool true by rw [hv]))
      clear hz hp hv hx hgood
      obtain ⟨f, r, ps, bl, ca, pa, ha, fu⟩ := p
      unfold Pos.cells at c1 c2 c3
      dsimp only at c1 c2 c3
      go_wp2_with fail
      refine (c1.out _ hB.out).mono ?_
      rintro e V5 ⟨⟨po, cap, rfl, hPA⟩, hV5⟩
      replace hN := Lib.hid (below_blk hV5 hN.out)
      replace hB := Lib.hid (hB.out.trans (hV5.mono hB.out.size))
      replace hPA := Lib.hid hPA
      clear hV5 x0 c1
      go_wp2_with fail
      have hM := Lib.hid (blk_new (w := V5) rfl (.cells #[.int .i64 f, .int .i64 r, .slice po ps.length cap, .bool bl, .int .u8 ca, .int .i64 pa, .int .i64 ha, .int .i64 fu] 26))
      replace hN := Lib.hid (blk_alloc hN.out (.cells #[.int .i64 f, .int .i64 r, .slice po ps.length cap, .bool bl, .int .u8 ca, .int .i64 pa, .int .i64 ha, .int .i64 fu] 26))
      replace hB := Lib.hid (hB.out.alloc hB.out.size (.cells #[.int .i64 f, .int .i64 r, .slice po ps.length cap, .bool bl, .int .u8 ca, .int .i64 pa, .int .i64 ha, .int .i64 fu] 26))
      replace hPA := Lib.hid (hPA.out.below ((Below.refl _ _).alloc (Nat.le_refl _) (.cells #[.int .i64 f, .int .i64 r, .slice po ps.length cap, .bool bl, .int .u8 ca, .int .i64 pa, .int .i64 ha, .int .i64 fu] 26)))
      obtain ⟨H, hH⟩ : ∃ H, V5.heap.size = H := ⟨_, rfl⟩
      obtain ⟨V6, hV6⟩ : ∃ V6, V5.alloc (.cells #[.int .i64 f, .int .i64 r, .slice po ps.length cap, .bool bl, .int .u8 ca, .int .i64 pa, .int .i64 ha, .int .i64 fu] 26) = V6 := ⟨_, rfl⟩
      rw [hH, hV6] at hM
      rw [hV6] at hN hB hPA ⊢
      rw [hH]
      clear hH hV6
      refine (c2.out _ _ _ hB.out hPA.out).mono ?_
      rintro e V7 ⟨rfl, hV⟩
      replace hN := Lib.hid (below_blk hV hN.out)
      replace hM := Lib.hid (below_blk hV hM.out)
      replace hPA := Lib.hid (hPA.out.below hV)
      replace hB := Lib.hid (hB.out.trans (hV.mono hB.out.size))
      clear hV c2
      have z0 := cell_of hM.out 0 _ rfl
      have z1 := cell_of hM.out 1 _ rfl
      have z2 := cell_of hM.out 2 _ rfl
      have z3 := cell_of hM.out 3 _ rfl
      have z4 := cell_of hM.out 4 _ rfl
      have z5 := cell_of hM.out 5 _ rfl
      have z6 := cell_of hM.out 6 _ rfl
      have z7 := cell_of hM.out 7 _ rfl
      go_wp2_with fail
      clear z0 z1 z2 z3 z4 z5 z6 z7
      refine (c3.out _ _ _ hB.out hPA.out).mono ?_
      rintro e V8 ⟨rfl, hV⟩
      replace hN := Lib.hid (below_blk hV hN.out)
      replace hB := Lib.hid (hB.out.trans (hV.mono hB.out.size))
      clear hV c3 hM hPA
      go_wp2_with fail
      go_roundw
      case rel => exact ⟨2 + 1, by omega, by simp, hN.out, hB.out⟩
      case measure => simp [intOf]
    · have x0 := cell_of hNr 3 _ rfl
      have hN := Lib.hid hNr
      have hB := Lib.hid hBr
      clear hNr hBr
      obtain ⟨hz, p, hp, hv, hx⟩ := hgood.out okT3 (by simp)
      have c1 := Lib.hid (fun W (hW : Below w.heap.size w W) => parse_ok hL.out (hE.out.below hW) hz hp)
      have c2 := Lib.hid (fun W po cap (hW : Below w.heap.size w W) (hP : PosAt W p po cap) => (text_at hL.out (hE.out.below hW) p po cap hP).of_eq (show _ = Value.tuple #[.string okT3, .int .i64 0] by unfold Pos.textV; rw [hv, hx]; rfl))
      have c3 := Lib.hid (fun W po cap (hW : Below w.heap.size w W) (hP : PosAt W p po cap) => (valid_c W p po cap hP (hE.out.below hW).full).of_eq (show _ = Value.bool true by rw [hv]))
      clear hz hp hv hx hgood
      obtain ⟨f, r, ps, bl, ca, pa, ha, fu⟩ := p
      unfold Pos.cells at c1 c2 c3
      dsimp only at c1 c2 c3
      go_wp2_with fail
      refine (c1.out _ hB.out).mono ?_
      rintro e V5 ⟨⟨po, cap, rfl, hPA⟩, hV5⟩
      replace hN := Lib.hid (below_blk hV5 hN.out)
      replace hB := Lib.hid (hB.out.trans (hV5.mono hB.out.size))
      replace hPA := Lib.hid hPA
      clear hV5 x0 c1
      go_wp2_with fail
      have hM := Lib.hid (blk_new (w := V5) rfl (.cells #[.int .i64 f, .int .i64 r, .slice po ps.length cap, .bool bl, .int .u8 ca, .int .i64 pa, .int .i64 ha, .int .i64 fu] 26))
      replace hN := Lib.hid (blk_alloc hN.out (.cells #[.int .i64 f, .int .i64 r, .slice po ps.length cap, .bool bl, .int .u8 ca, .int .i64 pa, .int .i64 ha, .int .i64 fu] 26))
      replace hB := Lib.hid (hB.out.alloc hB.out.size (.cells #[.int .i64 f, .int .i64 r, .slice po ps.length cap, .bool bl, .int .u8 ca, .int .i64 pa, .int .i64 ha, .int .i64 fu] 26))
      replace hPA := Lib.hid (hPA.out.below ((Below.refl _ _).alloc (Nat.le_refl _) (.cells #[.int .i64 f, .int .i64 r, .slice po ps.length cap, .bool bl, .int .u8 ca, .int .i64 pa, .int .i64 ha, .int .i64 fu] 26)))
      obtain ⟨H, hH⟩ : ∃ H, V5.heap.size = H := ⟨_, rfl⟩
      obtain ⟨V6, hV6⟩ : ∃ V6, V5.alloc (.cells #[.int .i64 f, .int .i64 r, .slice po ps.length cap, .bool bl, .int .u8 ca, .int .i64 pa, .int .i64 ha, .int .i64 fu] 26) = V6 := ⟨_, rfl⟩
      rw [hH, hV6] at hM
      rw [hV6] at hN hB hPA ⊢
      rw [hH]
      clear hH hV6
      refine (c2.out _ _ _ hB.out hPA.out).mono ?_
      rintro e V7 ⟨rfl, hV⟩
      replace hN := Lib.hid (below_blk hV hN.out)
      replace hM := Lib.hid (below_blk hV hM.out)
      replace hPA := Lib.hid (hPA.out.below hV)
      replace hB := Lib.hid (hB.out.trans (hV.mono hB.out.size))
      clear hV c2
      have z0 := cell_of hM.out 0 _ rfl
      have z1 := cell_of hM.out 1 _ rfl
      have z2 := cell_of hM.out 2 _ rfl
      have z3 := cell_of hM.out 3 _ rfl
      have z4 := cell_of hM.out 4 _ rfl
      have z5 := cell_of hM.out 5 _ rfl
      have z6 := cell_of hM.out 6 _ rfl
      have z7 := cell_of hM.out 7 _ rfl
      go_wp2_with fail
      clear z0 z1 z2 z3 z4 z5 z6 z7
      refine (c3.out _ _ _ hB.out hPA.out).mono ?_
      rintro e V8 ⟨rfl, hV⟩
      replace hN := Lib.hid (below_blk hV hN.out)
      replace hB := Lib.hid (hB.out.trans (hV.mono hB.out.size))
      clear hV c3 hM hPA
      go_wp2_with fail
      go_roundw
      case rel => exact ⟨3 + 1, by omega, by simp, hN.out, hB.out⟩
      case measure => simp [intOf]
    · have x0 := cell_of hNr 4 _ rfl
      have hN := Lib.hid hNr
      have hB := Lib.hid hBr
      clear hNr hBr
      obtain ⟨hz, p, hp, hv, hx⟩ := hgood.out okT4 (by simp)
      have c1 := Lib.hid (fun W (hW : Below w.heap.size w W) => parse_ok hL.out (hE.out.below hW) hz hp)
      have c2 := Lib.hid (fun W po cap (hW : Below w.heap.size w W) (hP : PosAt W p po cap) => (text_at hL.out (hE.out.below hW) p po cap hP).of_eq (show _ = Value.tuple #[.string okT4, .int .i64 0] by unfold Pos.textV; rw [hv, hx]; rfl))
      have c3 := Lib.hid (fun W po cap (hW : Below w.heap.size w W) (hP : PosAt W p po cap) => (valid_c W p po cap hP (hE.out.below hW).full).of_eq (show _ = Value.bool true by rw [hv]))
      clear hz hp hv hx hgood
      obtain ⟨f, r, ps, bl, ca, pa, ha, fu⟩ := p
      unfold Pos.cells at c1 c2 c3
      dsimp only at c1 c2 c3
      go_wp2_with fail
      refine (c1.out _ hB.out).mono ?_
      rintro e V5 ⟨⟨po, cap, rfl, hPA⟩, hV5⟩
      replace hN := Lib.hid (below_blk hV5 hN.out)
      replace hB := Lib.hid (hB.out.trans (hV5.mono hB.out.size))
      replace hPA := Lib.hid hPA
      clear hV5 x0 c1
      go_wp2_with fail
      have hM := Lib.hid (blk_new (w := V5) rfl (.cells #[.int .i64 f, .int .i64 r, .slice po ps.length cap, .bool bl, .int .u8 ca, .int .i64 pa, .int .i64 ha, .int .i64 fu] 26))
      replace hN := Lib.hid (blk_alloc hN.out (.cells #[.int .i64 f, .int .i64 r, .slice po ps.length cap, .bool bl, .int .u8 ca, .int .i64 pa, .int .i64 ha, .int .i64 fu] 26))
      replace hB := Lib.hid (hB.out.alloc hB.out.size (.cells #[.int .i64 f, .int .i64 r, .slice po ps.length cap, .bool bl, .int .u8 ca, .int .i64 pa, .int .i64 ha, .int .i64 fu] 26))
      replace hPA := Lib.hid (hPA.out.below ((Below.refl _ _).alloc (Nat.le_refl _) (.cells #[.int .i64 f, .int .i64 r, .slice po ps.length cap, .bool bl, .int .u8 ca, .int .i64 pa, .int .i64 ha, .int .i64 fu] 26)))
      obtain ⟨H, hH⟩ : ∃ H, V5.heap.size = H := ⟨_, rfl⟩
      obtain ⟨V6, hV6⟩ : ∃ V6, V5.alloc (.cells #[.int .i64 f, .int .i64 r, .slice po ps.length cap, .bool bl, .int .u8 ca, .int .i64 pa, .int .i64 ha, .int .i64 fu] 26) = V6 := ⟨_, rfl⟩
      rw [hH, hV6] at hM
      rw [hV6] at hN hB hPA ⊢
      rw [hH]
      clear hH hV6
      refine (c2.out _ _ _ hB.out hPA.out).mono ?_
      rintro e V7 ⟨rfl, hV⟩
      replace hN := Lib.hid (below_blk hV hN.out)
      replace hM := Lib.hid (below_blk hV hM.out)
      replace hPA := Lib.hid (hPA.out.below hV)
      replace hB := Lib.hid (hB.out.trans (hV.mono hB.out.size))
      clear hV c2
      have z0 := cell_of hM.out 0 _ rfl
      have z1 := cell_of hM.out 1 _ rfl
      have z2 := cell_of hM.out 2 _ rfl
      have z3 := cell_of hM.out 3 _ rfl
      have z4 := cell_of hM.out 4 _ rfl
      have z5 := cell_of hM.out 5 _ rfl
      have z6 := cell_of hM.out 6 _ rfl
      have z7 := cell_of hM.out 7 _ rfl
      go_wp2_with fail
      clear z0 z1 z2 z3 z4 z5 z6 z7
      refine (c3.out _ _ _ hB.out hPA.out).mono ?_
      rintro e V8 ⟨rfl, hV⟩
      replace hN := Lib.hid (below_blk hV hN.out)
      replace hB := Lib.hid (hB.out.trans (hV.mono hB.out.size))
      clear hV c3 hM hPA
      go_wp2_with fail
      go_roundw
      case rel => exact ⟨4 + 1, by omega, by simp, hN.out, hB.out⟩
      case measure => simp [intOf]
    · clear hgood
      have hB := Lib.hid hBr
      clear hBr hNr
      go_wp2_with fail
      have hN := Lib.hid (blk_new (w := wr) rfl (.cells #[.string ⟨#[51, 120, 51, 32, 107, 82, 49, 47, 51, 47, 50, 75, 32, 119, 32, 45, 32, 45, 32, 48, 32, 49]⟩, .string ⟨#[51, 120, 51, 32, 107, 80, 49, 47, 51, 47, 50, 75, 32, 98, 32, 45, 32, 45, 32, 48, 32, 49]⟩, .string ⟨#[51, 120, 54, 32, 107, 50, 47, 51, 47, 51, 47, 80, 50, 47, 51, 47, 50, 75, 32, 98, 32, 45, 32, 97, 50, 32, 48, 32, 49]⟩, .string ⟨#[51, 120, 54, 32, 107, 50, 47, 51, 47, 51, 47, 80, 50, 47, 51, 47, 50, 75, 32, 98, 32, 45, 32, 97, 51, 32, 48, 32, 49]⟩, .string ⟨#[51, 120, 54, 32, 107, 50, 47, 51, 47, 80, 50, 47, 51, 47, 51, 47, 50, 75, 32, 98, 32, 45, 32, 97, 51, 32, 49, 32, 49]⟩, .string ⟨#[51, 120, 54, 32, 107, 50, 47, 51, 47, 80, 50, 47, 51, 47, 51, 47, 50, 75, 32, 119, 32, 45, 32, 97, 51, 32, 48, 32, 49]⟩, .string ⟨#[56, 120, 56, 32, 52, 107, 51, 47, 56, 47, 56, 47, 56, 47, 56, 47, 56, 47, 56, 47, 52, 75, 50, 82, 32, 119, 32, 81, 32, 45, 32, 48, 32, 49]⟩] 9))
      replace hB := Lib.hid (hB.out.alloc hB.out.size (.cells #[.string ⟨#[51, 120, 51, 32, 107, 82, 49, 47, 51, 47, 50, 75, 32, 119, 32, 45, 32, 45, 32, 48, 32, 49]⟩, .string ⟨#[51, 120, 51, 32, 107, 80, 49, 47, 51, 47, 50, 75, 32, 98, 32, 45, 32, 45, 32, 48, 32, 49]⟩, .string ⟨#[51, 120, 54, 32, 107, 50, 47, 51, 47, 51, 47, 80, 50, 47, 51, 47, 50, 75, 32, 98, 32, 45, 32, 97, 50, 32, 48, 32, 49]⟩, .string ⟨#[51, 120, 54, 32, 107, 50, 47, 51, 47, 51, 47, 80, 50, 47, 51, 47, 50, 75, 32, 98, 32, 45, 32, 97, 51, 32, 48, 32, 49]⟩, .string ⟨#[51, 120, 54, 32, 107, 50, 47, 51, 47, 80, 50, 47, 51, 47, 51, 47, 50, 75, 32, 98, 32, 45, 32, 97, 51, 32, 49, 32, 49]⟩, .string ⟨#[51, 120, 54, 32, 107, 50, 47, 51, 47, 80, 50, 47, 51, 47, 51, 47, 50, 75, 32, 119, 32, 45, 32, 97, 51, 32, 48, 32, 49]⟩, .string ⟨#[56, 120, 56, 32, 52, 107, 51, 47, 56, 47, 56, 47, 56, 47, 56, 47, 56, 47, 56, 47, 52, 75, 50, 82, 32, 119, 32, 81, 32, 45, 32, 48, 32, 49]⟩] 9))
      obtain ⟨H, hH⟩ : ∃ H, wr.heap.size = H := ⟨_, rfl⟩
      obtain ⟨V1, hV1⟩ : ∃ V1, wr.alloc (.cells #[.string ⟨#[51, 120, 51, 32, 107, 82, 49, 47, 51, 47, 50, 75, 32, 119, 32, 45, 32, 45, 32, 48, 32, 49]⟩, .string ⟨#[51, 120, 51, 32, 107, 80, 49, 47, 51, 47, 50, 75, 32, 98, 32, 45, 32, 45, 32, 48, 32, 49]⟩, .string ⟨#[51, 120, 54, 32, 107, 50, 47, 51, 47, 51, 47, 80, 50, 47, 51, 47, 50, 75, 32, 98, 32, 45, 32, 97, 50, 32, 48, 32, 49]⟩, .string ⟨#[51, 120, 54, 32, 107, 50, 47, 51, 47, 51, 47, 80, 50, 47, 51, 47, 50, 75, 32, 98, 32, 45, 32, 97, 51, 32, 48, 32, 49]⟩, .string ⟨#[51, 120, 54, 32, 107, 50, 47, 51, 47, 80, 50, 47, 51, 47, 51, 47, 50, 75, 32, 98, 32, 45, 32, 97, 51, 32, 49, 32, 49]⟩, .string ⟨#[51, 120, 54, 32, 107, 50, 47, 51, 47, 80, 50, 47, 51, 47, 51, 47, 50, 75, 32, 119, 32, 45, 32, 97, 51, 32, 48, 32, 49]⟩, .string ⟨#[56, 120, 56, 32, 52, 107, 51, 47, 56, 47, 56, 47, 56, 47, 56, 47, 56, 47, 56, 47, 52, 75, 50, 82, 32, 119, 32, 81, 32, 45, 32, 48, 32, 49]⟩] 9) = V1 := ⟨_, rfl⟩
      rw [hH, hV1] at hN
      rw [hV1] at hB ⊢
      rw [hH]
      clear hH hV1
      go_loopw [48] (fun i wr => ∃ k : Nat, k ≤ 7 ∧ i = .int .i64 k ∧ wr.heap[H]? = some (.cells #[.string noT0, .string noT1, .string noT2, .string noT3, .string noT4, .string noT5, .string noT6] 9 (0, 0)) ∧ Below w.heap.size w wr) (fun i _ => 8 - (intOf i).toNat)
      case atStart => exact ⟨0, by omega, rfl, hN.out, hB.out⟩
      case round =>
        obtain ⟨k, hk, rfl, hNr, hBr⟩ := hrel
        clear hN hB
        rcases (by omega : k = 0 ∨ k = 1 ∨ k = 2 ∨ k = 3 ∨ k = 4 ∨ k = 5 ∨ k = 6 ∨ k = 7) with rfl | rfl | rfl | rfl | rfl | rfl | rfl | rfl
        · have x0 := cell_of hNr 0 _ rfl
          have hN := Lib.hid hNr
          have hB := Lib.hid hBr
          clear hNr hBr
          obtain ⟨hz, hp⟩ := hbad.out noT0 (by simp)
          have c1 := Lib.hid (fun W (hW : Below w.heap.size w W) => parse_no hL.out (hE.out.below hW) hz hp)
          unfold noPosC at c1
          clear hz hp hbad
          go_wp2_with fail
          refine (c1.out _ hB.out).mono ?_
          rintro e V5 ⟨rfl, hV5⟩
          replace hN := Lib.hid (below_blk hV5 hN.out)
          replace hB := Lib.hid (hB.out.trans (hV5.mono hB.out.size))
          clear hV5 x0 c1
          go_wp2_with fail
          go_roundw
          case rel =>
            refine ⟨_, _, _, _, _, _, _, _, _, _, _, _, _, _, _, _, _, _, _, _, _, _, ⟨0 + 1, by omega, ?_, blk_alloc hN.out _, hB.out.alloc hB.out.size _⟩, rfl⟩
            simp
          case measure => simp [intOf]
        · have x0 := cell_of hNr 1 _ rfl
          have hN := Lib.hid hNr
          have hB := Lib.hid hBr
          clear hNr hBr
          obtain ⟨hz, hp⟩ := hbad.out noT1 (by simp)
          have c1 := Lib.hid (fun W (hW : Below w.heap.size w W) => parse_no hL.out (hE.out.below hW) hz hp)
          unfold noPosC at c1
          clear hz hp hbad
          go_wp2_with fail
          refine (c1.out _ hB.out).mono ?_
          rintro e V5 ⟨rfl, hV5⟩
          replace hN := Lib.hid (below_blk hV5 hN.out)
          replace hB := Lib.hid (hB.out.trans (hV5.mono hB.out.size))
          clear hV5 x0 c1
          go_wp2_with fail
          go_roundw
          case rel =>
            refine ⟨_, _, _, _, _, _, _, _, _, _, _, _, _, _, _, _, _, _, _, _, _, _, ⟨1 + 1, by omega, ?_, blk_alloc hN.out _, hB.out.alloc hB.out.size _⟩, rfl⟩
            simp
          case measure => simp [intOf]
        · have x0 := cell_of hNr 2 _ rfl
          have hN := Lib.hid hNr
          have hB := Lib.hid hBr
          clear hNr hBr
          obtain ⟨hz, hp⟩ := hbad.out noT2 (by simp)
          have c1 := Lib.hid (fun W (hW : Below w.heap.size w W) => parse_no hL.out (hE.out.below hW) hz hp)
          unfold noPosC at c1
          clear hz hp hbad
          go_wp2_with fail
          refine (c1.out _ hB.out).mono ?_
          rintro e V5 ⟨rfl, hV5⟩
          replace hN := Lib.hid (below_blk hV5 hN.out)
          replace hB := Lib.hid (hB.out.trans (hV5.mono hB.out.size))
          clear hV5 x0 c1
          go_wp2_with fail
          go_roundw
          case rel =>
            refine ⟨_, _, _, _, _, _, _, _, _, _, _, _, _, _, _, _, _, _, _, _, _, _, ⟨2 + 1, by omega, ?_, blk_alloc hN.out _, hB.out.alloc hB.out.size _⟩, rfl⟩
            simp
          case measure => simp [intOf]
        · have x0 := cell_of hNr 3 _ rfl
          have hN := Lib.hid hNr
          have hB := Lib.hid hBr
          clear hNr hBr
          obtain ⟨hz, hp⟩ := hbad.out noT3 (by simp)
          have c1 := Lib.hid (fun W (hW : Below w.heap.size w W) => parse_no hL.out (hE.out.below hW) hz hp)
          unfold noPosC at c1
          clear hz hp hbad
          go_wp2_with fail
          refine (c1.out _ hB.out).mono ?_
          rintro e V5 ⟨rfl, hV5⟩
          replace hN := Lib.hid (below_blk hV5 hN.out)
          replace hB := Lib.hid (hB.out.trans (hV5.mono hB.out.size))
          clear hV5 x0 c1
          go_wp2_with fail
          go_roundw
          case rel =>
            refine ⟨_, _, _, _, _, _, _, _, _, _, _, _, _, _, _, _, _, _, _, _, _, _, ⟨3 + 1, by omega, ?_, blk_alloc hN.out _, hB.out.alloc hB.out.size _⟩, rfl⟩
            simp
          case measure => simp [intOf]
        · have x0 := cell_of hNr 4 _ rfl
          have hN := Lib.hid hNr
          have hB := Lib.hid hBr
          clear hNr hBr
          obtain ⟨hz, hp⟩ := hbad.out noT4 (by simp)
          have c1 := Lib.hid (fun W (hW : Below w.heap.size w W) => parse_no hL.out (hE.out.below hW) hz hp)
          unfold noPosC at c1
          clear hz hp hbad
          go_wp2_with fail
          refine (c1.out _ hB.out).mono ?_
          rintro e V5 ⟨rfl, hV5⟩
          replace hN := Lib.hid (below_blk hV5 hN.out)
          replace hB := Lib.hid (hB.out.trans (hV5.mono hB.out.size))
          clear hV5 x0 c1
          go_wp2_with fail
          go_roundw
          case rel =>
            refine ⟨_, _, _, _, _, _, _, _, _, _, _, _, _, _, _, _, _, _, _, _, _, _, ⟨4 + 1, by omega, ?_, blk_alloc hN.out _, hB.out.alloc hB.out.size _⟩, rfl⟩
            simp
          case measure => simp [intOf]
        · have x0 := cell_of hNr 5 _ rfl
          have hN := Lib.hid hNr
          have hB := Lib.hid hBr
          clear hNr hBr
          obtain ⟨hz, hp⟩ := hbad.out noT5 (by simp)
          have c1 := Lib.hid (fun W (hW : Below w.heap.size w W) => parse_no hL.out (hE.out.below hW) hz hp)
          unfold noPosC at c1
          clear hz hp hbad
          go_wp2_with fail
          refine (c1.out _ hB.out).mono ?_
          rintro e V5 ⟨rfl, hV5⟩
          replace hN := Lib.hid (below_blk hV5 hN.out)
          replace hB := Lib.hid (hB.out.trans (hV5.mono hB.out.size))
          clear hV5 x0 c1
          go_wp2_with fail
          go_roundw
          case rel =>
            refine ⟨_, _, _, _, _, _, _, _, _, _, _, _, _, _, _, _, _, _, _, _, _, _, ⟨5 + 1, by omega, ?_, blk_alloc hN.out _, hB.out.alloc hB.out.size _⟩, rfl⟩
            simp
          case measure => simp [intOf]
        · have x0 := cell_of hNr 6 _ rfl
          have hN := Lib.hid hNr
          have hB := Lib.hid hBr
          clear hNr hBr
          obtain ⟨hz, hp⟩ := hbad.out noT6 (by simp)
          have c1 := Lib.hid (fun W (hW : Below w.heap.size w W) => parse_no hL.out (hE.out.below hW) hz hp)
          unfold noPosC at c1
          clear hz hp hbad
          go_wp2_with fail
          refine (c1.out _ hB.out).mono ?_
          rintro e V5 ⟨rfl, hV5⟩
          replace hN := Lib.hid (below_blk hV5 hN.out)
          replace hB := Lib.hid (hB.out.trans (hV5.mono hB.out.size))
          clear hV5 x0 c1
          go_wp2_with fail
          go_roundw
          case rel =>
            refine ⟨_, _, _, _, _, _, _, _, _, _, _, _, _, _, _, _, _, _, _, _, _, _, ⟨6 + 1, by omega, ?_, blk_alloc hN.out _, hB.out.alloc hB.out.size _⟩, rfl⟩
            simp
          case measure => simp [intOf]
        · clear hbad hNr
          have hB := Lib.hid hBr
          clear hBr
          have c1 := Lib.hid (fun W (hW : Below w.heap.size w W) => start_at hL.out (hE.out.below hW))
          have c2 := Lib.hid (fun W po cap (hW : Below w.heap.size w W) (hP : PosAt W startP po cap) => (text_at hL.out (hE.out.below hW) startP po cap hP).of_eq (show _ = Value.tuple #[.string startT, .int .i64 0] by unfold Pos.textV; rw [(posO_some start_o).1, (posO_some start_o).2]; rfl))
          unfold startT at c2
          go_wp2_with fail
          refine (c1.out _ hB.out).mono ?_
          rintro e V5 ⟨⟨po, cap, rfl, hPA⟩, hV5⟩
          replace hB := Lib.hid (hB.out.trans (hV5.mono hB.out.size))
          replace hPA := Lib.hid hPA
          clear hV5 c1
          go_wp2_with fail
          refine (c2.out _ _ _ hB.out hPA.out).mono ?_
          rintro e V7 ⟨rfl, hV⟩
          replace hB := Lib.hid (hB.out.trans (hV.mono hB.out.size))
          clear hV c2 hPA
          go_wp2
          go_ret
          exact ⟨by simp, hB.out⟩
end Go.Proofs.YtbhienpbfidgjaaGreatDoor
end
section
set_option linter.unusedVariables false
set_option linter.unusedSimpArgs false
namespace Go.Proofs.YtbhienpbfidgjaaGreatDoor
open Go.RowKit
theorem small_c (w : World) (q : Pos) (po : Option Addr) (cap : Nat) : Pure 16 #[.agg (q.cells po cap)] w (.bool (decide ((q.ps.length : Int) ≤ 70))) := by
  unfold Pos.cells
  generalize q.ps.length = n
  unfold Pure
  go_enter Tryz.func16, Tryz.ntmps16
  go_wp2
  all_goals (go_ret; refine ⟨by first | (simp_all [decide_eq_true_eq]; done) | (simp_all [decide_eq_true_eq]; omega) | (simp [decide_eq_true_eq]; omega), ?_⟩)
  all_goals
    repeat (first | (with_reducible assumption) | (with_reducible exact Below.refl _ _) | (with_reducible apply below_drewN) | (with_reducible apply Below.drew) | (with_reducible apply Below.alloc) | (with_reducible apply Below.setCell))
    all_goals first | omega | (dsimp only; omega) | (simp; done) | (simp; omega)
set_option maxHeartbeats 1000000 in
theorem posvalid_law (L : Libs) (w : World) (hE : Env w) (q : Pos) (po : Option Addr) (cap : Nat) (hS : SlcAt w po q.ps) (hl1 : q.ps.length ≤ cap) (hl2 : cap ≤ 9223372036854775807) (hcs : 0 ≤ q.castle ∧ q.castle ≤ 255) :
    Pure 3 #[.agg (q.cells po cap)] w (.bool true) := by
  obtain ⟨B, hBe⟩ : ∃ B, w.heap.size = B := ⟨_, rfl⟩
  have hk := Lib.hid (fun W (hW : Below w.heap.size w W) => known06_c L W (hE.below hW))
  have csm := fun W => Lib.hid (small_c W q po cap)
  rcases Nat.lt_or_ge 70 q.ps.length with hl | hl
  · rw [show decide ((q.ps.length : Int) ≤ 70) = false by simp; omega] at csm
    clear hE L hS hl2 hcs hl hl1
    unfold Pos.cells at *
    unfold Pure
    go_enter Tryz.func3, Tryz.ntmps3
    go_wp2_with fail
    refine start1Bc hBe ?_
    intro V hN hX x
    have y0 := fun z : Ext V.heap.size V => cell_of (below_blk z.2 (hN).out) 0 _ rfl
    have y1 := fun z : Ext V.heap.size V => cell_of (below_blk z.2 (hN).out) 1 _ rfl
    have y2 := fun z : Ext V.heap.size V => cell_of (below_blk z.2 (hN).out) 2 _ rfl
    have y3 := fun z : Ext V.heap.size V => cell_of (below_blk z.2 (hN).out) 3 _ rfl
    have y4 := fun z : Ext V.heap.size V => cell_of (below_blk z.2 (hN).out) 4 _ rfl
    have y5 := fun z : Ext V.heap.size V => cell_of (below_blk z.2 (hN).out) 5 _ rfl
    have y6 := fun z : Ext V.heap.size V => cell_of (below_blk z.2 (hN).out) 6 _ rfl
    have y7 := fun z : Ext V.heap.size V => cell_of (below_blk z.2 (hN).out) 7 _ rfl
    refine (Pure.st (csm _).out).mono ?_
    rintro e _ ⟨rfl, x, rfl⟩
    go_wp2_with fail
    refine (Pure.st (hk.out _ (hX.out x).2.2)).mono ?_
    rintro e _ ⟨rfl, x, rfl⟩
    go_wp2
    go_ret
    exact ⟨by first | rfl | simp, (hX.out x).2.2⟩
  · rw [show decide ((q.ps.length : Int) ≤ 70) = true by simp; omega] at csm
    have hP : PosAt w q po cap := ⟨hS, by omega, hl1, hl2, hcs, hE.rays⟩
    have c1 := Lib.hid (fun W (hW : Below w.heap.size w W) => valid_c W q po cap (hP.below hW) (hE.below hW).full)
    have c2 := Lib.hid (fun W (hW : Below w.heap.size w W) => (rvalid6_c W q po cap (hS.below hW) (by omega) hcs).of_eq (congrArg _ (rv_same q)))
    generalize q.valid = v at *
    clear hE L hS hl2 hcs hl hl1 hP
    unfold Pos.cells at *
    have d1 : (v == v) = true := by simp
    unfold Pure
    go_enter Tryz.func3, Tryz.ntmps3
    go_wp2_with fail
    refine start1Bc hBe ?_
    intro V hN hX x
    have y0 := fun z : Ext V.heap.size V => cell_of (below_blk z.2 (hN).out) 0 _ rfl
    have y1 := fun z : Ext V.heap.size V => cell_of (below_blk z.2 (hN).out) 1 _ rfl
    have y2 := fun z : Ext V.heap.size V => cell_of (below_blk z.2 (hN).out) 2 _ rfl
    have y3 := fun z : Ext V.heap.size V => cell_of (below_blk z.2 (hN).out) 3 _ rfl
    have y4 := fun z : Ext V.heap.size V => cell_of (below_blk z.2 (hN).out) 4 _ rfl
    have y5 := fun z : Ext V.heap.size V => cell_of (below_blk z.2 (hN).out) 5 _ rfl
    have y6 := fun z : Ext V.heap.size V => cell_of (below_blk z.2 (hN).out) 6 _ rfl
    have y7 := fun z : Ext V.heap.size V => cell_of (below_blk z.2 (hN).out) 7 _ rfl
    refine (Pure.st (csm _).out).mono ?_
    rintro e _ ⟨rfl, x, rfl⟩
    go_wp2_with fail
    refine ext_region' (by kernel_rfl) (by kernel_rfl) ?_
    repeat (first | (go_big_quiet_step ((first | (go_at_call 18; exact Pure.st (c1.out _ (hX.out _).2.2)) | (go_at_call 19; exact Pure.st (c2.out _ (hX.out _).2.2)) | (go_at_call 17; exact Pure.st (hk.out _ (hX.out _).2.2))))) | ((refine wpQuiet_step (fun K hK => ?_)); go_simp; (first | (refine ⟨_, fun _ => rfl, hK _ ?_⟩) | (refine ⟨_, fun _ => ⟨rfl, rfl⟩, hK _ ?_⟩)); clear hK K))
    refine wpQuiet_nil ?_
    intro x
    go_wp2
    go_ret
    exact ⟨by first | rfl | simp, (hX.out x).2.2⟩
end Go.Proofs.YtbhienpbfidgjaaGreatDoor
end
section
set_option linter.unusedVariables false
set_option linter.unusedSimpArgs false
namespace Go.Proofs.YtbhienpbfidgjaaGreatDoor
open Go.RowKit
theorem eqB_self (p : Pos) : eqB p p = true := by simp [eqB, sameB]
/-- a world with one block more, named -/
theorem boxed_w {c : Code} {Q : Exit → Act → World → Prop} {a : Act} {V : World} {x : Ext V.heap.size V} {o : Obj}
    (h : ∀ (G : Nat) (W : World), x.1.heap.size = G → W.heap.size = G + 1 → Below x.1.heap.size x.1 W → W.heap[G]? = some o → ∀ y : Ext W.heap.size W, c.wp Tryz.prog Q a y.1) : c.wp Tryz.prog Q a (x.1.alloc o) :=
  h x.1.heap.size _ rfl (by simp) ((Below.refl _ _).alloc (Nat.le_refl _) o) (blk_new rfl _) ⟨_, Below.refl _ _⟩
theorem boxed_v {c : Code} {Q : Exit → Act → World → Prop} {a : Act} {V : World} {x : Ext V.heap.size V} {o : Obj}
    (h : ∀ (G : Nat) (W : World), x.1.heap.size = G → W.heap.size = G + 1 → Below x.1.heap.size x.1 W → W.heap[G]? = some o → c.wp Tryz.prog Q a W) : c.wp Tryz.prog Q a (x.1.alloc o) :=
  h x.1.heap.size _ rfl (by simp) ((Below.refl _ _).alloc (Nat.le_refl _) o) (blk_new rfl _)
theorem back_w {c : Code} {Q : Exit → Act → World → Prop} {a : Act} {V : World} (h : c.wp Tryz.prog Q a V) : ∀ y : Ext V.heap.size V, y.1 = V → c.wp Tryz.prog Q a y.1 := fun y e => by rw [e]; exact h
theorem OwnPc.pick {B d : Nat} {V : World} {po : Option Addr} {ps : List Int} (h : OwnPc B V po ps) (hd : B ≤ d) : ∃ g, B ≤ g ∧ (g < V.heap.size ∨ g = d) ∧ (0 < ps.length → po = some ⟨g, 0, none⟩ ∧ RowPc V g ps.length) := by
  rcases h with h | ⟨g, h0, h1, h2, cur, h3, h4⟩
  · exact ⟨d, hd, .inr rfl, fun hl => by rw [h] at hl; simp at hl⟩
  · exact ⟨g, h0, .inl (Array.getElem?_eq_some_iff.1 h3).1, fun _ => ⟨h1, cur, h3, h4⟩⟩
theorem RowPc.set {V : World} {g n k : Nat} (h : RowPc V g n) (v : Int) : RowPc (V.setCell ⟨g, k, none⟩ (.int .i8 v)) g n := by
  obtain ⟨cur, h3, h4⟩ := h
  refine ⟨_, blk_set h3 k _, fun j hj => ?_⟩
  obtain ⟨u, hu⟩ := h4 j hj
  by_cases hk : k = j
  · subst hk
    have := (Array.getElem?_eq_some_iff.1 hu).1
    exact ⟨v, by rw [Array.getElem?_setIfInBounds_self_of_lt this]⟩
  · exact ⟨u, by rw [Array.getElem?_setIfInBounds_ne hk]; exact hu⟩
theorem RowPc.at {V : World} {g n k : Nat} (h : RowPc V g n) (hk : k < n) : (∃ v, V.cell? ⟨g, k, none⟩ = some (.int .i8 v)) ∧ V.frozen? ⟨g, k, none⟩ = false := by
  obtain ⟨cur, h3, h4⟩ := h
  obtain ⟨u, hu⟩ := h4 k hk
  exact ⟨⟨u, cell_of h3 k _ hu⟩, free_of h3 k⟩
theorem RowPc.below {V W : World} {g n : Nat} (h : RowPc V g n) (hb : Below V.heap.size V W) : RowPc W g n := by
  obtain ⟨cur, h3, h4⟩ := h
  exact ⟨cur, below_blk hb h3, h4⟩
/-- while the copy is written: all but its block lies as it lay -/
def InLoop (w V : World) (g n : Nat) (wr : World) : Prop := (∀ b, b ≠ g → wr.heap[b]? = V.heap[b]?) ∧ Below w.heap.size w wr ∧ (0 < n → RowPc wr g n)
theorem InLoop.set {w V wr : World} {g n k : Nat} (h : InLoop w V g n wr) (hg : w.heap.size ≤ g) (v : Int) : InLoop w V g n (wr.setCell ⟨g, k, none⟩ (.int .i8 v)) :=
  ⟨fun b hb => (Below.heap_setCell wr ⟨g, k, none⟩ _ b hb).trans (h.1 b hb), h.2.1.setCell hg _, fun hn => (h.2.2 hn).set v⟩
set_option maxRecDepth 100000 in
set_option maxHeartbeats 1000000 in
theorem posequal_law (L : Libs) (w : World) (hE : Env w) (p q : Pos) (po qo : Option Addr) (c1 c2 : Nat) (hS1 : SlcAt w po p.ps) (hS2 : SlcAt w qo q.ps) :
    Pure 8 #[.agg (p.cells po c1), .agg (q.cells qo c2)] w (.bool true) := by
  obtain ⟨B, hBe⟩ : ∃ B, w.heap.size = B := ⟨_, rfl⟩
  have hk := Lib.hid (fun W (hW : Below w.heap.size w W) => known06_c L W (hE.below hW))
  have cs1 := fun W => Lib.hid (small_c W p po c1)
  have cs2 := fun W => Lib.hid (small_c W q qo c2)
  rcases Nat.lt_or_ge 70 p.ps.length with hl1 | hl1
  · rw [show decide ((p.ps.length : Int) ≤ 70) = false by simp; omega] at cs1
    clear hE L hS1 hS2 hl1 cs2
    unfold Pos.cells at *
    unfold Pure
    go_enter Tryz.func8, Tryz.ntmps8
    go_wp2_with fail
    refine start2Bc hBe ?_
    intro V hN hM hX x
    have y0 := fun z : Ext V.heap.size V => cell_of (below_blk z.2 (hN).out) 0 _ rfl
    have y1 := fun z : Ext V.heap.size V => cell_of (below_blk z.2 (hN).out) 1 _ rfl
    have y2 := fun z : Ext V.heap.size V => cell_of (below_blk z.2 (hN).out) 2 _ rfl
    have y3 := fun z : Ext V.heap.size V => cell_of (below_blk z.2 (hN).out) 3 _ rfl
    have y4 := fun z : Ext V.heap.size V => cell_of (below_blk z.2 (hN).out) 4 _ rfl
    have y5 := fun z : Ext V.heap.size V => cell_of (below_blk z.2 (hN).out) 5 _ rfl
    have y6 := fun z : Ext V.heap.size V => cell_of (below_blk z.2 (hN).out) 6 _ rfl
    have y7 := fun z : Ext V.heap.size V => cell_of (below_blk z.2 (hN).out) 7 _ rfl
    have u0 := fun z : Ext V.heap.size V => cell_of (below_blk z.2 (hM).out) 0 _ rfl
    have u1 := fun z : Ext V.heap.size V => cell_of (below_blk z.2 (hM).out) 1 _ rfl
    have u2 := fun z : Ext V.heap.size V => cell_of (below_blk z.2 (hM).out) 2 _ rfl
    have u3 := fun z : Ext V.heap.size V => cell_of (below_blk z.2 (hM).out) 3 _ rfl
    have u4 := fun z : Ext V.heap.size V => cell_of (below_blk z.2 (hM).out) 4 _ rfl
    have u5 := fun z : Ext V.heap.size V => cell_of (below_blk z.2 (hM).out) 5 _ rfl
    have u6 := fun z : Ext V.heap.size V => cell_of (below_blk z.2 (hM).out) 6 _ rfl
    have u7 := fun z : Ext V.heap.size V => cell_of (below_blk z.2 (hM).out) 7 _ rfl
    refine (Pure.st (cs1 _).out).mono ?_
    rintro e _ ⟨rfl, x, rfl⟩
    go_wp2_with fail
    refine (Pure.st (hk.out _ (hX.out x).2.2)).mono ?_
    rintro e _ ⟨rfl, x, rfl⟩
    go_wp2
    go_ret
    exact ⟨by first | rfl | simp, (hX.out x).2.2⟩
  · rw [show decide ((p.ps.length : Int) ≤ 70) = true by simp; omega] at cs1
    rcases Nat.lt_or_ge 70 q.ps.length with hl2 | hl2
    · rw [show decide ((q.ps.length : Int) ≤ 70) = false by simp; omega] at cs2
      clear hE L hS1 hS2 hl1 hl2
      unfold Pos.cells at *
      unfold Pure
      go_enter Tryz.func8, Tryz.ntmps8
      go_wp2_with fail
      refine start2Bc hBe ?_
      intro V hN hM hX x
      have y0 := fun z : Ext V.heap.size V => cell_of (below_blk z.2 (hN).out) 0 _ rfl
      have y1 := fun z : Ext V.heap.size V => cell_of (below_blk z.2 (hN).out) 1 _ rfl
      have y2 := fun z : Ext V.heap.size V => cell_of (below_blk z.2 (hN).out) 2 _ rfl
      have y3 := fun z : Ext V.heap.size V => cell_of (below_blk z.2 (hN).out) 3 _ rfl
      have y4 := fun z : Ext V.heap.size V => cell_of (below_blk z.2 (hN).out) 4 _ rfl
      have y5 := fun z : Ext V.heap.size V => cell_of (below_blk z.2 (hN).out) 5 _ rfl
      have y6 := fun z : Ext V.heap.size V => cell_of (below_blk z.2 (hN).out) 6 _ rfl
      have y7 := fun z : Ext V.heap.size V => cell_of (below_blk z.2 (hN).out) 7 _ rfl
      have u0 := fun z : Ext V.heap.size V => cell_of (below_blk z.2 (hM).out) 0 _ rfl
      have u1 := fun z : Ext V.heap.size V => cell_of (below_blk z.2 (hM).out) 1 _ rfl
      have u2 := fun z : Ext V.heap.size V => cell_of (below_blk z.2 (hM).out) 2 _ rfl
      have u3 := fun z : Ext V.heap.size V => cell_of (below_blk z.2 (hM).out) 3 _ rfl
      have u4 := fun z : Ext V.heap.size V => cell_of (below_blk z.2 (hM).out) 4 _ rfl
      have u5 := fun z : Ext V.heap.size V => cell_of (below_blk z.2 (hM).out) 5 _ rfl
      have u6 := fun z : Ext V.heap.size V => cell_of (below_blk z.2 (hM).out) 6 _ rfl
      have u7 := fun z : Ext V.heap.size V => cell_of (below_blk z.2 (hM).out) 7 _ rfl
      refine (Pure.st (cs1 _).out).mono ?_
      rintro e _ ⟨rfl, x, rfl⟩
      go_wp2_with fail
      refine (Pure.st (cs2 _).out).mono ?_
      rintro e _ ⟨rfl, x, rfl⟩
      go_wp2_with fail
      refine (Pure.st (hk.out _ (hX.out x).2.2)).mono ?_
      rintro e _ ⟨rfl, x, rfl⟩
      go_wp2
      go_ret
      exact ⟨by first | rfl | simp, (hX.out x).2.2⟩
    · rw [show decide ((q.ps.length : Int) ≤ 70) = true by simp; omega] at cs2
      have ccp := Lib.hid (fun W (hW : Below w.heap.size w W) => pcopy_c W p po c1 (hS1.below hW) (by omega))
      have crc := Lib.hid (fun W (hW : Below w.heap.size w W) => rcopy_c W p po c1 (hS1.below hW) (by omega))
      have ce := Lib.hid (fun W (hW : Below w.heap.size w W) => pequal_c W p q po qo c1 c2 (hS1.below hW) (hS2.below hW) (by omega) (by omega))
      have cre := Lib.hid (fun W (hW : Below w.heap.size w W) => requal6_c W p q po qo c1 c2 (hS1.below hW) (hS2.below hW) (by omega) (by omega))
      have cs := Lib.hid (fun W (hW : Below w.heap.size w W) => psame_c W p q po qo c1 c2 (hS1.below hW) (hS2.below hW) (by omega) (by omega))
      have crs := Lib.hid (fun W (hW : Below w.heap.size w W) => rsame6_c W p q po qo c1 c2 (hS1.below hW) (hS2.below hW) (by omega) (by omega))
      have cpp := Lib.hid (fun W ao cap (hW : Below w.heap.size w W) (hA : SlcAt W ao p.ps) => (requal6_c W p p ao po cap c1 hA (hS1.below hW) (by omega) (by omega)).of_eq (show _ = Value.bool true by rw [eqB_self]))
      unfold CopyPos at ccp crc
      generalize eqB p q = E at *
      generalize sameB p q = S at *
      have d1 : (E != E) = false := by simp
      have d2 : (S != S) = false := by simp
      clear hE L hS1 hS2 hl2
      unfold Pos.cells at *
      obtain ⟨n, hn⟩ : ∃ n, p.ps.length = n := ⟨_, rfl⟩
      obtain ⟨m, hm⟩ : ∃ m, q.ps.length = m := ⟨_, rfl⟩
      simp only [hn] at cs1 ccp crc ce cre cs crs cpp hl1 ⊢
      simp only [hm] at cs2 ce cre cs crs ⊢
      replace hn := Lib.hid hn
      clear hm
      unfold Pure
      go_enter Tryz.func8, Tryz.ntmps8
      go_wp2_with fail
      refine start2Bc hBe ?_
      intro V hN hM hX x
      have y0 := fun z : Ext V.heap.size V => cell_of (below_blk z.2 (hN).out) 0 _ rfl
      have y1 := fun z : Ext V.heap.size V => cell_of (below_blk z.2 (hN).out) 1 _ rfl
      have y2 := fun z : Ext V.heap.size V => cell_of (below_blk z.2 (hN).out) 2 _ rfl
      have y3 := fun z : Ext V.heap.size V => cell_of (below_blk z.2 (hN).out) 3 _ rfl
      have y4 := fun z : Ext V.heap.size V => cell_of (below_blk z.2 (hN).out) 4 _ rfl
      have y5 := fun z : Ext V.heap.size V => cell_of (below_blk z.2 (hN).out) 5 _ rfl
      have y6 := fun z : Ext V.heap.size V => cell_of (below_blk z.2 (hN).out) 6 _ rfl
      have y7 := fun z : Ext V.heap.size V => cell_of (below_blk z.2 (hN).out) 7 _ rfl
      have u0 := fun z : Ext V.heap.size V => cell_of (below_blk z.2 (hM).out) 0 _ rfl
      have u1 := fun z : Ext V.heap.size V => cell_of (below_blk z.2 (hM).out) 1 _ rfl
      have u2 := fun z : Ext V.heap.size V => cell_of (below_blk z.2 (hM).out) 2 _ rfl
      have u3 := fun z : Ext V.heap.size V => cell_of (below_blk z.2 (hM).out) 3 _ rfl
      have u4 := fun z : Ext V.heap.size V => cell_of (below_blk z.2 (hM).out) 4 _ rfl
      have u5 := fun z : Ext V.heap.size V => cell_of (below_blk z.2 (hM).out) 5 _ rfl
      have u6 := fun z : Ext V.heap.size V => cell_of (below_blk z.2 (hM).out) 6 _ rfl
      have u7 := fun z : Ext V.heap.size V => cell_of (below_blk z.2 (hM).out) 7 _ rfl
      refine (Pure.st (cs1 _).out).mono ?_
      rintro e _ ⟨rfl, x, rfl⟩
      go_wp2_with fail
      refine (Pure.st (cs2 _).out).mono ?_
      rintro e _ ⟨rfl, x, rfl⟩
      go_wp2_with fail
      clear cs1 cs2
      refine (ccp.out _ (hX.out x).2.2).mono ?_
      rintro e W ⟨⟨co, cap, rfl, hO, l1, l2⟩, hW⟩
      replace l2 := Lib.hid l2
      obtain ⟨z, rfl⟩ : ∃ z : Ext V.heap.size V, z.1 = W := ⟨⟨W, x.2.trans (hW.mono x.2.size)⟩, rfl⟩
      have hO2 := Lib.hid hO
      have hWx := Lib.hid hW
      clear hO hW ccp l1 l2
      go_wp2_with fail
      refine boxed_w ?_
      intro G V2 hG hs2 hb2 hC
      rw [hG]
      have hV2 : Below V.heap.size V V2 := z.2.trans (hb2.mono z.2.size)
      have hsz : B + 1 < V.heap.size := (Array.getElem?_eq_some_iff.1 hM.out).1
      have hBG : B + 2 ≤ G := by have := z.2.size; omega
      have hO3 : OwnPc (B + 2) z.1 co p.ps := hO2.out.mono (by have := x.2.size; omega)
      have hpk := fun d (hd : B + 2 ≤ d) => hO3.pick hd
      rw [hG, hn.out] at hpk
      replace hpk := Lib.hid (fun d hd => (hpk d hd).imp fun g h => (⟨h.1, h.2.1, fun h0 => ⟨(h.2.2 h0).1, (h.2.2 h0).2.below hb2⟩⟩ : B + 2 ≤ g ∧ (g < G ∨ g = d) ∧ (0 < n → co = some ⟨g, 0, none⟩ ∧ RowPc V2 g n)))
      have hsl := Lib.hid (hO3.slc.below hb2)
      replace hX := Lib.hid (fun z : Ext V2.heap.size V2 => (show Below B w z.1 ∧ B < z.1.heap.size ∧ Below w.heap.size w z.1 from hX.out ⟨z.1, hV2.trans (z.2.mono hV2.size)⟩))
      replace hN := Lib.hid (below_blk hV2 hN.out)
      replace hM := Lib.hid (below_blk hV2 hM.out)
      replace hC := Lib.hid hC
      replace hs2 := Lib.hid hs2
      replace hBG := Lib.hid hBG
      clear y0 y1 y2 y3 y4 y5 y6 y7 u0 u1 u2 u3 u4 u5 u6 u7 hO2 hWx hO3 hsz hV2 hb2 hG
      obtain ⟨V, hVe⟩ : ∃ V, V = V2 := ⟨_, rfl⟩
      subst hVe
      intro x
      have y0 := fun z : Ext V.heap.size V => cell_of (below_blk z.2 (hN).out) 0 _ rfl
      have y1 := fun z : Ext V.heap.size V => cell_of (below_blk z.2 (hN).out) 1 _ rfl
      have y2 := fun z : Ext V.heap.size V => cell_of (below_blk z.2 (hN).out) 2 _ rfl
      have y3 := fun z : Ext V.heap.size V => cell_of (below_blk z.2 (hN).out) 3 _ rfl
      have y4 := fun z : Ext V.heap.size V => cell_of (below_blk z.2 (hN).out) 4 _ rfl
      have y5 := fun z : Ext V.heap.size V => cell_of (below_blk z.2 (hN).out) 5 _ rfl
      have y6 := fun z : Ext V.heap.size V => cell_of (below_blk z.2 (hN).out) 6 _ rfl
      have y7 := fun z : Ext V.heap.size V => cell_of (below_blk z.2 (hN).out) 7 _ rfl
      have u0 := fun z : Ext V.heap.size V => cell_of (below_blk z.2 (hM).out) 0 _ rfl
      have u1 := fun z : Ext V.heap.size V => cell_of (below_blk z.2 (hM).out) 1 _ rfl
      have u2 := fun z : Ext V.heap.size V => cell_of (below_blk z.2 (hM).out) 2 _ rfl
      have u3 := fun z : Ext V.heap.size V => cell_of (below_blk z.2 (hM).out) 3 _ rfl
      have u4 := fun z : Ext V.heap.size V => cell_of (below_blk z.2 (hM).out) 4 _ rfl
      have u5 := fun z : Ext V.heap.size V => cell_of (below_blk z.2 (hM).out) 5 _ rfl
      have u6 := fun z : Ext V.heap.size V => cell_of (below_blk z.2 (hM).out) 6 _ rfl
      have u7 := fun z : Ext V.heap.size V => cell_of (below_blk z.2 (hM).out) 7 _ rfl
      have v0 := fun z : Ext V.heap.size V => cell_of (below_blk z.2 (hC).out) 0 _ rfl
      have v1 := fun z : Ext V.heap.size V => cell_of (below_blk z.2 (hC).out) 1 _ rfl
      have v2 := fun z : Ext V.heap.size V => cell_of (below_blk z.2 (hC).out) 2 _ rfl
      have v3 := fun z : Ext V.heap.size V => cell_of (below_blk z.2 (hC).out) 3 _ rfl
      have v4 := fun z : Ext V.heap.size V => cell_of (below_blk z.2 (hC).out) 4 _ rfl
      have v5 := fun z : Ext V.heap.size V => cell_of (below_blk z.2 (hC).out) 5 _ rfl
      have v6 := fun z : Ext V.heap.size V => cell_of (below_blk z.2 (hC).out) 6 _ rfl
      have v7 := fun z : Ext V.heap.size V => cell_of (below_blk z.2 (hC).out) 7 _ rfl
      have cpp1 := fun (x : Ext V.heap.size V) => Lib.hid (cpp.out x.1 co cap (hX.out x).2.2 (hsl.out.below x.2))
      refine ext_region' (by kernel_rfl) (by kernel_rfl) ?_
      repeat (first | (go_big_quiet_step ((first | (go_at_call 33; exact Pure.st (ce.out _ (hX.out _).2.2)) | (go_at_call 24; first | with_reducible exact Pure.st (cre.out _ (hX.out _).2.2) | with_reducible exact Pure.st (cpp1 _).out) | (go_at_call 34; exact Pure.st (cs.out _ (hX.out _).2.2)) | (go_at_call 35; exact Pure.st (crs.out _ (hX.out _).2.2))))) | ((refine wpQuiet_step (fun K hK => ?_)); go_simp; (first | (refine ⟨_, fun _ => rfl, hK _ ?_⟩) | (refine ⟨_, fun _ => ⟨rfl, rfl⟩, hK _ ?_⟩)); clear hK K))
      refine wpQuiet_nil ?_
      intro x
      go_wp2_with fail
      clear y0 y1 y2 y3 y4 y5 y6 y7 u0 u1 u2 u3 u4 u5 u6 u7 v0 v1 v3 v4 v5 v6 v7 cpp1 ce cre cs crs hsl
      refine (crc.out _ (hX.out x).2.2).mono ?_
      rintro e W ⟨⟨ko, kap, rfl, hO, l1, l2⟩, hW⟩
      replace l2 := Lib.hid l2
      obtain ⟨z, rfl⟩ : ∃ z : Ext V.heap.size V, z.1 = W := ⟨⟨W, x.2.trans (hW.mono x.2.size)⟩, rfl⟩
      have hO2 := Lib.hid hO
      have hWx := Lib.hid hW
      have w2 := fun o => cell_past (cell_of (below_blk z.2 hC.out) 2 _ rfl) o
      clear hO hW crc l1 l2 v2
      go_wp2_with fail
      refine boxed_v ?_
      intro K V2 hK hs3 hb2 hD
      rw [hK]
      have hV2 : Below V.heap.size V V2 := z.2.trans (hb2.mono z.2.size)
      have hGK : G + 1 ≤ K := by have := z.2.size; have := hs2.out; omega
      obtain ⟨g, g0, g1, g2⟩ := hpk.out (K + 1) (by have := hBG.out; omega)
      have hKO : OwnPc (G + 1) V2 ko p.ps := (hO2.out.mono (by have := x.2.size; have := hs2.out; omega)).below hb2
      have hg2 : 0 < n → co = some ⟨g, 0, none⟩ ∧ RowPc V2 g n := fun h0 => ⟨(g2 h0).1, (g2 h0).2.below hV2⟩
      replace hX := Lib.hid (fun z : Ext V2.heap.size V2 => (show Below B w z.1 ∧ B < z.1.heap.size ∧ Below w.heap.size w z.1 from hX.out ⟨z.1, hV2.trans (z.2.mono hV2.size)⟩))
      replace hN := Lib.hid (below_blk hV2 hN.out)
      replace hM := Lib.hid (below_blk hV2 hM.out)
      replace hC := Lib.hid (below_blk hV2 hC.out)
      have hIn : InLoop w V2 g n V2 := ⟨fun _ _ => rfl, (hX.out ⟨V2, Below.refl _ _⟩).2.2, fun h0 => (hg2 h0).2⟩
      have hgB : B + 2 ≤ g ∧ g ≠ G ∧ g ≠ K ∧ (0 < n → g < G) := ⟨g0, by omega, by omega, fun h0 => by
        rcases g1 with h | h
        · exact h
        · exfalso
          obtain ⟨_, cur, h3, _⟩ := hg2 h0
          have := (Array.getElem?_eq_some_iff.1 h3).1
          omega⟩
      clear g0 g1 g2 hO2 hWx hs2 hs3 hb2 hV2 hpk w2 hK hBG
      replace hD := Lib.hid hD
      replace hKO := Lib.hid hKO
      replace hg2 := Lib.hid hg2
      replace hgB := Lib.hid hgB
      replace hGK := Lib.hid hGK
      replace hIn := Lib.hid hIn
      obtain ⟨V, hVe⟩ : ∃ V, V = V2 := ⟨_, rfl⟩
      subst hVe
      go_loopw [46] (fun i wr => ∃ k : Nat, k ≤ n ∧ i = .int .i64 k ∧ InLoop w V g n wr) (fun i _ => n - (intOf i).toNat)
      case atStart => exact ⟨0, by omega, rfl, hIn.out⟩
      case round =>
        obtain ⟨k, hk2, rfl, hI⟩ := hrel
        obtain ⟨i1, i2, i3⟩ := hI
        obtain ⟨e0, e1, e2, e3⟩ := hgB.out
        have hGw := (i1 G (by omega)).trans hC.out
        have v2 := cell_of hGw 2 _ rfl
        by_cases hkn : k = n
        · subst hkn
          have hNw := (i1 B (by omega)).trans hN.out
          have hDw := (i1 K (by omega)).trans hD.out
          have hKs : SlcAt wr ko p.ps := by
            by_cases hpe : p.ps = []
            · exact .inl hpe
            · have h0 : 0 < k := by have := List.length_pos_iff.2 hpe; have := hn.out; omega
              have h1 := e3 h0
              have h2 := hGK.out
              exact (OwnPc.heap (C := 0) hKO.out (fun b hb => i1 b (by omega))).slc
          replace hKs := Lib.hid hKs
          replace i2 := Lib.hid i2
          clear hN hM hC hD hX hKO hIn i1 i3 hg2 hGw hgB e0 e1 e2 e3 v2
          replace hNw := Lib.hid hNw
          replace hDw := Lib.hid hDw
          obtain ⟨V, hVe⟩ : ∃ V, V = wr := ⟨_, rfl⟩
          subst hVe
          refine start0r ?_
          intro x
          have y0 := fun z : Ext V.heap.size V => cell_of (below_blk z.2 (hNw).out) 0 _ rfl
          have y1 := fun z : Ext V.heap.size V => cell_of (below_blk z.2 (hNw).out) 1 _ rfl
          have y2 := fun z : Ext V.heap.size V => cell_of (below_blk z.2 (hNw).out) 2 _ rfl
          have y3 := fun z : Ext V.heap.size V => cell_of (below_blk z.2 (hNw).out) 3 _ rfl
          have y4 := fun z : Ext V.heap.size V => cell_of (below_blk z.2 (hNw).out) 4 _ rfl
          have y5 := fun z : Ext V.heap.size V => cell_of (below_blk z.2 (hNw).out) 5 _ rfl
          have y6 := fun z : Ext V.heap.size V => cell_of (below_blk z.2 (hNw).out) 6 _ rfl
          have y7 := fun z : Ext V.heap.size V => cell_of (below_blk z.2 (hNw).out) 7 _ rfl
          have u0 := fun z : Ext V.heap.size V => cell_of (below_blk z.2 (hDw).out) 0 _ rfl
          have u1 := fun z : Ext V.heap.size V => cell_of (below_blk z.2 (hDw).out) 1 _ rfl
          have u2 := fun z : Ext V.heap.size V => cell_of (below_blk z.2 (hDw).out) 2 _ rfl
          have u3 := fun z : Ext V.heap.size V => cell_of (below_blk z.2 (hDw).out) 3 _ rfl
          have u4 := fun z : Ext V.heap.size V => cell_of (below_blk z.2 (hDw).out) 4 _ rfl
          have u5 := fun z : Ext V.heap.size V => cell_of (below_blk z.2 (hDw).out) 5 _ rfl
          have u6 := fun z : Ext V.heap.size V => cell_of (below_blk z.2 (hDw).out) 6 _ rfl
          have u7 := fun z : Ext V.heap.size V => cell_of (below_blk z.2 (hDw).out) 7 _ rfl
          have hX := Lib.hid (fun x : Ext V.heap.size V => i2.out.trans (x.2.mono i2.out.size))
          have cpp2 := Lib.hid (fun x : Ext V.heap.size V => cpp.out x.1 ko kap (hX.out x) (hKs.out.below x.2))
          go_wp2_with fail
          refine (Pure.st (cpp2.out x)).mono ?_
          rintro e _ ⟨rfl, x, rfl⟩
          go_wp2_with fail
          refine (Pure.st (hk.out _ (hX.out x))).mono ?_
          rintro e _ ⟨rfl, x, rfl⟩
          go_wp2
          go_ret
          exact ⟨by first | rfl | simp, hX.out x⟩
        · have hkl : k < n := by omega
          obtain ⟨rfl, _⟩ := hg2.out (by omega)
          obtain ⟨⟨v, hv⟩, hf⟩ := (i3 (by omega)).at hkl
          have hki : ((k : Int) < n) = True := by simp; omega
          have hIw : Hid (InLoop w V g n wr) := Lib.hid ⟨i1, i2, i3⟩
          have hgw : Hid (w.heap.size ≤ g) := Lib.hid (by omega)
          clear i1 i2 i3
          clear e0 e1 e2 e3 hN hM hC hD hX hKO hIn hg2 hGw hkn
          go_wp2_with fail
          go_roundw
          case rel => exact ⟨k + 1, by omega, by go_num, hIw.out.set hgw.out _⟩
          case measure => simp [intOf]; omega
end Go.Proofs.YtbhienpbfidgjaaGreatDoor
end
