/- Attacks: attackers, King, Checkers. Conditions: the pieces lie in memory; the tables of rays as laid. -/
import Derived.Test.YtbhienpbfidgjaaGreatDoorB3
set_option linter.unusedVariables false
set_option linter.unusedSimpArgs false
namespace Go.Proofs.YtbhienpbfidgjaaGreatDoor
open Go.RowKit
theorem reachS_lt {f r a : Int} {occ : Nat} (hv : vsize f r = true) (k : Int) : reachS f r a occ k < 18446744073709551616 := by
  have s1 : slideS f r a occ diagL < 18446744073709551616 := slide_lt hv _ 0 (by decide)
  have s2 : slideS f r a occ strL < 18446744073709551616 := slide_lt hv _ 0 (by decide)
  unfold reachS
  split
  · exact leapS_lt hv _
  · split
    · exact s1
    · split
      · exact s2
      · split
        · exact or64 s1 s2
        · exact or64 (leapS_lt hv _) (leapS_lt hv _)
theorem ofS_lt {f r a p : Int} {occ : Nat} (hv : vsize f r = true) : ofS f r p a occ < 18446744073709551616 := by
  unfold ofS
  split
  · exact leapS_lt hv _
  · split
    · exact leapS_lt hv _
    · exact reachS_lt hv _
theorem vsq_of {f r : Int} {n i : Nat} (hv : vsize f r = true) (hl : (n : Int) = f * r) (hi : i < n) : vsq f r i = true := by
  simp [vsq, hv]; omega
set_option maxHeartbeats 1000000 in
theorem attackers_c (w : World) (f r : Int) (ps : List Int) (b off cap a : Nat) (black : Bool) (hP : PcAt w b off ps) (ho : orthB f r ps = true) (ha : a < 64) (hR : Rays w) :
    Pure 140 #[bdV f r (some ⟨b, off, none⟩) ps.length cap, .int .i64 a, .bool black] w (.int .u64 (attS f r ps a black ps.length)) := by
  have hv : bvalid f r ps = true := by simp only [orthB, Bool.and_eq_true] at ho; exact ho.1
  obtain ⟨hz, hlen, hn⟩ := bvalid_len hv
  have h1 := fun W (hw : Below w.heap.size w W) => Lib.hid (occupied_c W f r ps b off cap (hP.below hw) hv hn)
  have h2 := fun W (hw : Below w.heap.size w W) (i : Nat) (p : Int) (hp : ps[i]? = some p) (h0 : p ≠ 0) => Lib.hid (of_c W f r ps b off cap i p (occS ps) (hP.below hw) hp (vsq_of hz hlen (List.getElem?_eq_some_iff.1 hp).1) (occ_on hv (vsq_of (i := i) hz hlen (List.getElem?_eq_some_iff.1 hp).1)).1 (occ_on hv (vsq_of (i := i) hz hlen (List.getElem?_eq_some_iff.1 hp).1)).2 (hR.below hw) ⟨h0, orthB_at ho hp⟩)
  have hsn := fun k => Lib.hid (attS_snoc f r ps a black k)
  have hlt := fun k h => Lib.hid (attS_lt f r ps a black k h)
  have htb := fun p i => Lib.hid (test_bit (ofS_lt (a := i) (p := p) (occ := occS ps) hz) ha)
  have hzero : Hid (attS f r ps a black 0 = 0) := Lib.hid rfl
  obtain ⟨O, hO⟩ : ∃ O, occS ps = O := ⟨_, rfl⟩
  rw [hO] at h1 h2 hsn htb
  unfold bdV at *
  obtain ⟨n, hln⟩ : ∃ n, ps.length = n := ⟨_, rfl⟩
  rw [hln] at hn h1 h2 ⊢
  replace hlen := Lib.hid hlen
  replace hln := Lib.hid hln
  replace hP := Lib.hid hP
  replace hv := Lib.hid hv
  replace ho := Lib.hid ho
  replace hz := Lib.hid hz
  replace hO := Lib.hid hO
  unfold Pure
  go_enter Tryz.func140, Tryz.ntmps140
  go_wp2_with fail
  refine ((h1 _ ((Below.refl _ _).alloc (Nat.le_refl _) _)).out).mono ?_
  rintro e V ⟨rfl, hV⟩
  obtain ⟨B, hBe⟩ : ∃ B, w.heap.size = B := ⟨_, rfl⟩
  have hX := Lib.hid (box_of hV)
  have hB := Lib.hid (below_of_alloc hV)
  have y2 := cell_of hX.out 2 _ rfl
  rw [hBe] at hX y2 ⊢
  replace hBe := Lib.hid hBe
  clear hV h1
  go_wp2_with fail
  clear y2
  go_loopw [7, 16] (fun S i wr => ∃ k : Nat, k ≤ n ∧ i = .int .i64 k ∧ S = .int .u64 (attS f r ps a black k) ∧ wr.heap[B]? = some (.cells #[.int .i64 f, .int .i64 r, .slice (some ⟨b, off, none⟩) n cap] 40 (0, 0)) ∧ Below w.heap.size w wr) (fun _ i _ => n - (intOf i).toNat)
  case atStart => exact ⟨0, by omega, rfl, by rw [hzero.out]; rfl, hX.out, hB.out⟩
  case round =>
    obtain ⟨k, hk, rfl, rfl, hXr, hBr⟩ := hrel
    clear hX hB
    by_cases hkn : k = n
    · subst hkn
      replace hXr := Lib.hid hXr
      replace hBr := Lib.hid hBr
      go_wp2
      go_ret
      exact ⟨rfl, hBr.out⟩
    · have hkl : k < n := by omega
      obtain ⟨p, hp⟩ : ∃ p, ps[k]? = some p := ⟨_, List.getElem?_eq_getElem (by rw [hln.out]; exact hkl)⟩
      have y := (hP.out.below hBr) k p hp
      have hgd : ps.getD k 0 = p := by rw [List.getD_eq_getElem?_getD, hp]; rfl
      have hs := hsn k
      rw [hgd] at hs
      have hl := (hlt k (by omega)).out
      have h2k := fun h0 => h2 wr hBr k p hp h0
      have htk := htb p k
      have hik := Lib.hid (is_c wr p black)
      obtain ⟨S, hS⟩ : ∃ S, attS f r ps a black k = S := ⟨_, rfl⟩
      rw [hS] at hs hl ⊢
      have e1 := Lib.hid (or_bit hl (show k < 64 by omega))
      have y0' := cell_of hXr 0 _ rfl
      have y1' := cell_of hXr 1 _ rfl
      have y2' := cell_of hXr 2 _ rfl
      replace hS := Lib.hid hS
      replace hgd := Lib.hid hgd
      replace hp := Lib.hid hp
      replace hXr := Lib.hid hXr
      replace hBr := Lib.hid hBr
      clear hkn h2 hlt hsn htb
      cases hi : isB p black
      · rw [hi] at hs hik
        replace hi := Lib.hid hi
        clear h2k htk
        go_wp2_with fail
        refine hik.out.mono ?_
        rintro e V ⟨rfl, rfl⟩
        clear y
        go_wp2
        go_roundw
        case rel => exact ⟨k + 1, by omega, by go_num, by rw [hs.out]; simp, hXr.out, hBr.out⟩
        case measure => simp [intOf]; omega
      · rw [hi] at hs hik
        have h0 : p ≠ 0 := by rintro rfl; simp [isB] at hi
        have h2k := h2k h0
        obtain ⟨T, hT⟩ : ∃ T, ofS f r p k O = T := ⟨_, rfl⟩
        rw [hT] at hs h2k htk
        replace hT := Lib.hid hT
        replace hi := Lib.hid hi
        clear h0
        cases ht : T.testBit a
        · rw [ht] at hs htk
          replace ht := Lib.hid ht
          have htk := htk.out
          go_wp2_with fail
          refine hik.out.mono ?_
          rintro e V ⟨rfl, rfl⟩
          go_wp2_with fail
          refine (h2k.out).mono ?_
          rintro e V ⟨rfl, hV⟩
          have hX3 := Lib.hid (below_blk hV hXr.out)
          have hB3 := Lib.hid (hBr.out.trans (hV.mono hBr.out.size))
          clear hV y y0' y1' y2'
          go_wp2
          go_roundw
          case rel => exact ⟨k + 1, by omega, by go_num, by rw [hs.out]; simp, hX3.out, hB3.out⟩
          case measure => simp [intOf]; omega
        · rw [ht] at hs htk
          replace ht := Lib.hid ht
          have htk := htk.out
          go_wp2_with fail
          refine hik.out.mono ?_
          rintro e V ⟨rfl, rfl⟩
          go_wp2_with fail
          refine (h2k.out).mono ?_
          rintro e V ⟨rfl, hV⟩
          have hX3 := Lib.hid (below_blk hV hXr.out)
          have hB3 := Lib.hid (hBr.out.trans (hV.mono hBr.out.size))
          clear hV y y0' y1' y2'
          go_wp2
          go_roundw
          case rel => exact ⟨k + 1, by omega, by go_num, by rw [hs.out, e1.out]; simp, hX3.out, hB3.out⟩
          case measure => simp [intOf]; omega
end Go.Proofs.YtbhienpbfidgjaaGreatDoor
