/- The reference of stipulations: Text. Conditions: none. -/
import Derived.Test.YtbhienpbfidgjaaGreatDoorT5
import Derived.Test.YtbhienpbfidgjaaGreatDoorR
import Derived.Test.YtbhienpbfidgjaaGreatDoorS2
set_option linter.unusedVariables false
set_option linter.unusedSimpArgs false
namespace Go.Proofs.YtbhienpbfidgjaaGreatDoor
open Go.RowKit
def pre1 : Array Value := #[.string ⟨#[]⟩, .string ⟨#[104]⟩, .string ⟨#[115]⟩, .string ⟨#[114]⟩]
def pre2 : Array Value := #[.string ⟨#[35]⟩, .string ⟨#[61]⟩]
def digs : ByteArray := ⟨#[48, 49, 50, 51, 52, 53, 54, 55, 56, 57]⟩
def digit (n : Nat) : ByteArray := digs.extract n (n + 1)
def p1 (i : Nat) : ByteArray := (#[⟨#[]⟩, ⟨#[104]⟩, ⟨#[115]⟩, ⟨#[114]⟩] : Array ByteArray).getD i ⟨#[]⟩
def p2 (i : Nat) : ByteArray := (#[⟨#[35]⟩, ⟨#[61]⟩] : Array ByteArray).getD i ⟨#[]⟩
def refT (i k m : Nat) : ByteArray := if 9 < m + 1 then p1 i ++ p2 k ++ digit ((m + 1) / 10) ++ digit ((m + 1) % 10) else p1 i ++ p2 k ++ digit ((m + 1) % 10)
/-- what the reference writes is the text -/
theorem ref_text : ((List.range 4).all fun i => (List.range 2).all fun k => (List.range 20).all fun m =>
    refT i k m == (⟨((i + 1 : Nat) : Int), ((k + 1 : Nat) : Int), ((m + 1 : Nat) : Int), false⟩ : Stip).text && (refT i k m ++ ⟨#[46, 53]⟩) == (⟨((i + 1 : Nat) : Int), ((k + 1 : Nat) : Int), ((m + 1 : Nat) : Int), true⟩ : Stip).text) = true := by kernel_rfl
theorem ref_text' (i k m : Nat) (h1 : i < 4) (h2 : k < 2) (h3 : m < 20) : refT i k m = (⟨((i + 1 : Nat) : Int), ((k + 1 : Nat) : Int), ((m + 1 : Nat) : Int), false⟩ : Stip).text ∧ refT i k m ++ ⟨#[46, 53]⟩ = (⟨((i + 1 : Nat) : Int), ((k + 1 : Nat) : Int), ((m + 1 : Nat) : Int), true⟩ : Stip).text := by
  have a := List.all_eq_true.1 ref_text i (by simpa using h1)
  have b := List.all_eq_true.1 a k (by simpa using h2)
  have c := List.all_eq_true.1 b m (by simpa using h3)
  simp only [Bool.and_eq_true, ba_beq] at c
  exact c
theorem digit_size (n : Nat) (h : n < 10) : (digit n).size ≤ 1 := by
  have : ∀ n < 10, (digit n).size ≤ 1 := by decide
  exact this n h
theorem p1_size (i : Nat) (h : i < 4) : (p1 i).size ≤ 1 := by
  rcases (by omega : i = 0 ∨ i = 1 ∨ i = 2 ∨ i = 3) with rfl | rfl | rfl | rfl <;> decide
theorem p2_size (i : Nat) (h : i < 2) : (p2 i).size ≤ 1 := by
  rcases (by omega : i = 0 ∨ i = 1) with rfl | rfl <;> decide
set_option maxRecDepth 100000 in
set_option maxHeartbeats 4000000 in
theorem rtext_v (w : World) (i k m : Nat) (half : Bool) (hi : i < 4) (hk : k < 2) (hm : m < 20) (hv : (⟨((i + 1 : Nat) : Int), ((k + 1 : Nat) : Int), ((m + 1 : Nat) : Int), half⟩ : Stip).valid = true) (T : ByteArray)
    (hT : T = (⟨((i + 1 : Nat) : Int), ((k + 1 : Nat) : Int), ((m + 1 : Nat) : Int), half⟩ : Stip).text) :
    Pure 40 #[.agg #[.int .i64 ((i : Int) + 1), .int .i64 ((k : Int) + 1), .int .i64 ((m : Int) + 1), .bool half]] w (.tuple #[.string T, .int .i64 0]) := by
  have h1 := fun W => Lib.hid (rvalid_c W (⟨((i + 1 : Nat) : Int), ((k + 1 : Nat) : Int), ((m + 1 : Nat) : Int), half⟩ : Stip))
  rw [hv] at h1
  unfold Stip.v at h1
  simp only [Int.natCast_add, Int.natCast_one] at h1
  replace hv := Lib.hid hv
  have e1 : pre1[i]? = some (.string (p1 i)) := by
    rcases (by omega : i = 0 ∨ i = 1 ∨ i = 2 ∨ i = 3) with rfl | rfl | rfl | rfl <;> rfl
  have e2 : pre2[k]? = some (.string (p2 k)) := by
    rcases (by omega : k = 0 ∨ k = 1) with rfl | rfl <;> rfl
  unfold pre1 at e1
  unfold pre2 at e2
  replace hT := Lib.hid hT
  unfold Pure
  go_enter Tryz.func40, Tryz.ntmps40
  go_wp2_with fail
  refine (h1 _).out.mono ?_
  rintro e V ⟨rfl, hV⟩
  have hX := Lib.hid (box_of hV)
  have hB := Lib.hid (below_of_alloc hV)
  clear hV h1
  go_wp2_with fail
  have hS : Below V.heap.size V V.drew := (Below.refl _ _).drew
  have wi : IntKind.i64.wrap (i : Int) = (i : Int) := by rw [IntKind.wrap_i64]; omega
  have bi : (4 ≤ (i : Int)) = False := by simp; omega
  have bk : (2 ≤ (k : Int)) = False := by simp; omega
  have zz : (9223372036854775807 < (p1 i).size + (p2 k).size) = False := by
    have := p1_size i hi
    have := p2_size k hk
    simp; omega
  obtain ⟨E1, hE1⟩ : ∃ E, (⟨#[48, 49, 50, 51, 52, 53, 54, 55, 56, 57]⟩ : ByteArray).extract ((m + 1) / 10) ((m + 1) / 10 + 1) = E := ⟨_, rfl⟩
  obtain ⟨E2, hE2⟩ : ∃ E, (⟨#[48, 49, 50, 51, 52, 53, 54, 55, 56, 57]⟩ : ByteArray).extract ((m + 1) % 10) ((m + 1) % 10 + 1) = E := ⟨_, rfl⟩
  have zE1 : E1.size ≤ 1 := by rw [← hE1]; exact digit_size _ (by omega)
  have zE2 : E2.size ≤ 1 := by rw [← hE2]; exact digit_size _ (by omega)
  have q1 := p1_size i hi
  have q2 := p2_size k hk
  have zz1 : (9223372036854775807 < (p1 i).size + (p2 k).size + E1.size) = False := by simp; omega
  have zz2 : (9223372036854775807 < (p1 i).size + (p2 k).size + E1.size + E2.size) = False := by simp; omega
  have zz3 : (9223372036854775807 < (p1 i).size + (p2 k).size + E2.size) = False := by simp; omega
  have zz4 : (9223372036854775807 < (p1 i).size + (p2 k).size + E1.size + E2.size + 2) = False := by simp; omega
  have zz5 : (9223372036854775807 < (p1 i).size + (p2 k).size + E2.size + 2) = False := by simp; omega
  clear q1 q2
  have wk : IntKind.i64.wrap (k : Int) = (k : Int) := by rw [IntKind.wrap_i64]; omega
  refine wp_region_held (S := fun W => Below V.heap.size V W) (by kernel_rfl) ?_
  refine wpAnyH_take (i := 1) (v := .pointer (some ⟨w.heap.size, 0, none⟩)) rfl (by kernel_rfl) (by kernel_rfl) (by kernel_rfl) (fun _ _ _ h => h) (.inl ⟨by rfl, fun w' hh => by skip; go_simp⟩) hS ?_
  refine wpAnyH_take (i := 2) (v := .int .i64 ((i : Int) + 1)) rfl (by kernel_rfl) (by kernel_rfl) (by kernel_rfl) (fun _ _ _ h => h) (.inl ⟨by rfl, fun w' hh => by have c0 := cell_of (below_blk hh hX.out) 0 _ rfl; clear hh; go_simp⟩) hS ?_
  refine wpAnyH_take (i := 3) (v := .int .i64 (i : Int)) rfl (by kernel_rfl) (by kernel_rfl) (by kernel_rfl) (fun _ _ _ h => h) (.inl ⟨by rfl, fun w' hh => by skip; go_simp⟩) hS ?_
  refine wpAnyH_take (i := 7) (v := .pointer (some ⟨w.heap.size, 1, none⟩)) rfl (by kernel_rfl) (by kernel_rfl) (by kernel_rfl) (fun _ _ _ h => h) (.inl ⟨by rfl, fun w' hh => by skip; go_simp⟩) hS ?_
  refine wpAnyH_take (i := 8) (v := .int .i64 ((k : Int) + 1)) rfl (by kernel_rfl) (by kernel_rfl) (by kernel_rfl) (fun _ _ _ h => h) (.inl ⟨by rfl, fun w' hh => by have c0 := cell_of (below_blk hh hX.out) 1 _ rfl; clear hh; go_simp⟩) hS ?_
  refine wpAnyH_take (i := 9) (v := .int .i64 (k : Int)) rfl (by kernel_rfl) (by kernel_rfl) (by kernel_rfl) (fun _ _ _ h => h) (.inl ⟨by rfl, fun w' hh => by skip; go_simp⟩) hS ?_
  obtain ⟨V1, hV1⟩ : ∃ V1, V.drew = V1 := ⟨_, rfl⟩
  change wpAnyH _ _ _ _ _ _ _ _ V.drew
  rw [hV1] at hS ⊢
  have hBl : w.heap.size < V.heap.size := lt_of_blk hX.out
  clear hV1
  refine wpAnyH_two (i := 0) (j := 6) (by kernel_rfl) rfl rfl rfl rfl ?_ ?_
  · intro K hK
    unfold Oper.wp
    go_simp
    have hS1 := (hS).alloc (hS).size (.cells (#[.string ⟨#[]⟩, .string ⟨#[104]⟩, .string ⟨#[115]⟩, .string ⟨#[114]⟩]) 9)
    refine hK _ _ hS1 ?_
    have hA := Lib.hid (blk_new (w := V1) rfl (.cells (#[.string ⟨#[]⟩, .string ⟨#[104]⟩, .string ⟨#[115]⟩, .string ⟨#[114]⟩]) 9))
    have hold := Lib.hid (fun (b : Nat) (o : Obj) (h : (V1).heap[b]? = some o) => blk_alloc h (.cells (#[.string ⟨#[]⟩, .string ⟨#[104]⟩, .string ⟨#[115]⟩, .string ⟨#[114]⟩]) 9))
    obtain ⟨N1, hn⟩ : ∃ N, (V1).heap.size = N := ⟨_, rfl⟩
    obtain ⟨W1, hw⟩ : ∃ W, (V1).alloc (.cells (#[.string ⟨#[]⟩, .string ⟨#[104]⟩, .string ⟨#[115]⟩, .string ⟨#[114]⟩]) 9) = W := ⟨_, rfl⟩
    rw [hn] at hA
    rw [hw] at hA hS1 hold
    rw [hw, hn]
    clear hw hn hK K
    have ca := cell_of hA.out i _ e1
    refine wpAnyH_take (i := 4) (v := .pointer (some ⟨N1, i, none⟩)) rfl (by kernel_rfl) (by kernel_rfl) (by kernel_rfl) (fun _ _ _ h => h) (.inl ⟨by rfl, fun w' hh => by skip; go_simp⟩) hS1 ?_
    refine wpAnyH_two (i := 5) (j := 6) (by kernel_rfl) rfl rfl rfl rfl ?_ ?_
    · intro K hK
      unfold Oper.wp
      go_simp
      refine hK _ _ hS1 ?_
      clear hK K
      refine wpAnyH_only (i := 6) (by kernel_rfl) rfl (by rfl) ?_
      intro K hK
      unfold Oper.wp
      go_simp
      have hS2 := (hS1).alloc (hS1).size (.cells (#[.string ⟨#[35]⟩, .string ⟨#[61]⟩]) 9)
      refine hK _ _ hS2 ?_
      have hB2 := Lib.hid (blk_new (w := W1) rfl (.cells (#[.string ⟨#[35]⟩, .string ⟨#[61]⟩]) 9))
      have hold := Lib.hid (fun (b : Nat) (o : Obj) (h : (W1).heap[b]? = some o) => blk_alloc h (.cells (#[.string ⟨#[35]⟩, .string ⟨#[61]⟩]) 9))
      obtain ⟨N2, hn⟩ : ∃ N, (W1).heap.size = N := ⟨_, rfl⟩
      obtain ⟨W2, hw⟩ : ∃ W, (W1).alloc (.cells (#[.string ⟨#[35]⟩, .string ⟨#[61]⟩]) 9) = W := ⟨_, rfl⟩
      rw [hn] at hB2
      rw [hw] at hB2 hS2 hold
      rw [hw, hn]
      clear hw hn hK K
      have cb := cell_of hB2.out k _ e2
      refine wpAnyH_take (i := 10) (v := .pointer (some ⟨N2, k, none⟩)) rfl (by kernel_rfl) (by kernel_rfl) (by kernel_rfl) (fun _ _ _ h => h) (.inl ⟨by rfl, fun w' hh => by skip; go_simp⟩) hS2 ?_
      refine wpAnyH_only (i := 11) (by kernel_rfl) rfl (by rfl) ?_
      intro K hK
      unfold Oper.wp
      go_simp
      refine hK _ _ hS2 ?_
      clear hK K
      refine wpAnyH_only (i := 12) (by kernel_rfl) rfl (by rfl) ?_
      intro K hK
      unfold Oper.wp
      go_simp
      refine hK _ _ hS2 ?_
      clear hK K
      refine wpAnyH_only (i := 13) (by kernel_rfl) rfl (by rfl) ?_
      intro K hK
      unfold Oper.wp
      go_simp
      refine hK _ _ hS2 ?_
      clear hK K
      refine wpAnyH_done (by kernel_rfl) ?_ _
      have hX2 := below_blk hS2 hX.out
      have c2 := cell_of hX2 2 _ rfl
      have c3 := cell_of hX2 3 _ rfl
      have hB2' := Lib.hid (hB.out.trans (hS2.mono hB.out.size))
      clear hX2 hX hB hS2 hS
      go_simp
      by_cases hm9 : 9 < m + 1
      · have dm : decide (9 < (m : Int) + 1) = true := by simp; omega
        have hfin : Hid (refT i k m = p1 i ++ p2 k ++ E1 ++ E2) := Lib.hid (by unfold refT; rw [if_pos hm9]; unfold digit digs; rw [hE1, hE2])
        replace hm9 := Lib.hid hm9
        cases half
        · have hT2 : Hid (T = refT i k m) := Lib.hid (hT.out.trans (ref_text' i k m hi hk hm).1.symm)
          go_wp2
          go_ret2
          exact ⟨by rw [hT2.out, hfin.out]; rfl, hB2'.out⟩
        · have hT2 : Hid (T = refT i k m ++ ⟨#[46, 53]⟩) := Lib.hid (hT.out.trans (ref_text' i k m hi hk hm).2.symm)
          go_wp2
          go_ret2
          exact ⟨by rw [hT2.out, hfin.out]; rfl, hB2'.out⟩
      · have dm : decide (9 < (m : Int) + 1) = false := by simp; omega
        have hfin : Hid (refT i k m = p1 i ++ p2 k ++ E2) := Lib.hid (by unfold refT; rw [if_neg hm9]; unfold digit digs; rw [hE2])
        replace hm9 := Lib.hid hm9
        cases half
        · have hT2 : Hid (T = refT i k m) := Lib.hid (hT.out.trans (ref_text' i k m hi hk hm).1.symm)
          go_wp2
          go_ret2
          exact ⟨by rw [hT2.out, hfin.out]; rfl, hB2'.out⟩
        · have hT2 : Hid (T = refT i k m ++ ⟨#[46, 53]⟩) := Lib.hid (hT.out.trans (ref_text' i k m hi hk hm).2.symm)
          go_wp2
          go_ret2
          exact ⟨by rw [hT2.out, hfin.out]; rfl, hB2'.out⟩
    · intro K hK
      unfold Oper.wp
      go_simp
      have hS2 := (hS1).alloc (hS1).size (.cells (#[.string ⟨#[35]⟩, .string ⟨#[61]⟩]) 9)
      refine hK _ _ hS2 ?_
      have hB2 := Lib.hid (blk_new (w := W1) rfl (.cells (#[.string ⟨#[35]⟩, .string ⟨#[61]⟩]) 9))
      have hold := Lib.hid (fun (b : Nat) (o : Obj) (h : (W1).heap[b]? = some o) => blk_alloc h (.cells (#[.string ⟨#[35]⟩, .string ⟨#[61]⟩]) 9))
      obtain ⟨N2, hn⟩ : ∃ N, (W1).heap.size = N := ⟨_, rfl⟩
      obtain ⟨W2, hw⟩ : ∃ W, (W1).alloc (.cells (#[.string ⟨#[35]⟩, .string ⟨#[61]⟩]) 9) = W := ⟨_, rfl⟩
      rw [hn] at hB2
      rw [hw] at hB2 hS2 hold
      rw [hw, hn]
      clear hw hn hK K
      have cb := cell_of hB2.out k _ e2
      have ca2 := cell_of (hold.out _ _ hA.out) i _ e1
      refine wpAnyH_take (i := 10) (v := .pointer (some ⟨N2, k, none⟩)) rfl (by kernel_rfl) (by kernel_rfl) (by kernel_rfl) (fun _ _ _ h => h) (.inl ⟨by rfl, fun w' hh => by skip; go_simp⟩) hS2 ?_
      refine wpAnyH_two (i := 5) (j := 11) (by kernel_rfl) rfl rfl rfl rfl ?_ ?_
      · intro K hK
        unfold Oper.wp
        go_simp
        refine hK _ _ hS2 ?_
        clear hK K
        refine wpAnyH_only (i := 11) (by kernel_rfl) rfl (by rfl) ?_
        intro K hK
        unfold Oper.wp
        go_simp
        refine hK _ _ hS2 ?_
        clear hK K
        refine wpAnyH_only (i := 12) (by kernel_rfl) rfl (by rfl) ?_
        intro K hK
        unfold Oper.wp
        go_simp
        refine hK _ _ hS2 ?_
        clear hK K
        refine wpAnyH_only (i := 13) (by kernel_rfl) rfl (by rfl) ?_
        intro K hK
        unfold Oper.wp
        go_simp
        refine hK _ _ hS2 ?_
        clear hK K
        refine wpAnyH_done (by kernel_rfl) ?_ _
        have hX2 := below_blk hS2 hX.out
        have c2 := cell_of hX2 2 _ rfl
        have c3 := cell_of hX2 3 _ rfl
        have hB2' := Lib.hid (hB.out.trans (hS2.mono hB.out.size))
        clear hX2 hX hB hS2 hS
        go_simp
        by_cases hm9 : 9 < m + 1
        · have dm : decide (9 < (m : Int) + 1) = true := by simp; omega
          have hfin : Hid (refT i k m = p1 i ++ p2 k ++ E1 ++ E2) := Lib.hid (by unfold refT; rw [if_pos hm9]; unfold digit digs; rw [hE1, hE2])
          replace hm9 := Lib.hid hm9
          cases half
          · have hT2 : Hid (T = refT i k m) := Lib.hid (hT.out.trans (ref_text' i k m hi hk hm).1.symm)
            go_wp2
            go_ret2
            exact ⟨by rw [hT2.out, hfin.out]; rfl, hB2'.out⟩
          · have hT2 : Hid (T = refT i k m ++ ⟨#[46, 53]⟩) := Lib.hid (hT.out.trans (ref_text' i k m hi hk hm).2.symm)
            go_wp2
            go_ret2
            exact ⟨by rw [hT2.out, hfin.out]; rfl, hB2'.out⟩
        · have dm : decide (9 < (m : Int) + 1) = false := by simp; omega
          have hfin : Hid (refT i k m = p1 i ++ p2 k ++ E2) := Lib.hid (by unfold refT; rw [if_neg hm9]; unfold digit digs; rw [hE2])
          replace hm9 := Lib.hid hm9
          cases half
          · have hT2 : Hid (T = refT i k m) := Lib.hid (hT.out.trans (ref_text' i k m hi hk hm).1.symm)
            go_wp2
            go_ret2
            exact ⟨by rw [hT2.out, hfin.out]; rfl, hB2'.out⟩
          · have hT2 : Hid (T = refT i k m ++ ⟨#[46, 53]⟩) := Lib.hid (hT.out.trans (ref_text' i k m hi hk hm).2.symm)
            go_wp2
            go_ret2
            exact ⟨by rw [hT2.out, hfin.out]; rfl, hB2'.out⟩
      · intro K hK
        unfold Oper.wp
        go_simp
        refine hK _ _ hS2 ?_
        clear hK K
        refine wpAnyH_only (i := 5) (by kernel_rfl) rfl (by rfl) ?_
        intro K hK
        unfold Oper.wp
        go_simp
        refine hK _ _ hS2 ?_
        clear hK K
        refine wpAnyH_only (i := 12) (by kernel_rfl) rfl (by rfl) ?_
        intro K hK
        unfold Oper.wp
        go_simp
        refine hK _ _ hS2 ?_
        clear hK K
        refine wpAnyH_only (i := 13) (by kernel_rfl) rfl (by rfl) ?_
        intro K hK
        unfold Oper.wp
        go_simp
        refine hK _ _ hS2 ?_
        clear hK K
        refine wpAnyH_done (by kernel_rfl) ?_ _
        have hX2 := below_blk hS2 hX.out
        have c2 := cell_of hX2 2 _ rfl
        have c3 := cell_of hX2 3 _ rfl
        have hB2' := Lib.hid (hB.out.trans (hS2.mono hB.out.size))
        clear hX2 hX hB hS2 hS
        go_simp
        by_cases hm9 : 9 < m + 1
        · have dm : decide (9 < (m : Int) + 1) = true := by simp; omega
          have hfin : Hid (refT i k m = p1 i ++ p2 k ++ E1 ++ E2) := Lib.hid (by unfold refT; rw [if_pos hm9]; unfold digit digs; rw [hE1, hE2])
          replace hm9 := Lib.hid hm9
          cases half
          · have hT2 : Hid (T = refT i k m) := Lib.hid (hT.out.trans (ref_text' i k m hi hk hm).1.symm)
            go_wp2
            go_ret2
            exact ⟨by rw [hT2.out, hfin.out]; rfl, hB2'.out⟩
          · have hT2 : Hid (T = refT i k m ++ ⟨#[46, 53]⟩) := Lib.hid (hT.out.trans (ref_text' i k m hi hk hm).2.symm)
            go_wp2
            go_ret2
            exact ⟨by rw [hT2.out, hfin.out]; rfl, hB2'.out⟩
        · have dm : decide (9 < (m : Int) + 1) = false := by simp; omega
          have hfin : Hid (refT i k m = p1 i ++ p2 k ++ E2) := Lib.hid (by unfold refT; rw [if_neg hm9]; unfold digit digs; rw [hE2])
          replace hm9 := Lib.hid hm9
          cases half
          · have hT2 : Hid (T = refT i k m) := Lib.hid (hT.out.trans (ref_text' i k m hi hk hm).1.symm)
            go_wp2
            go_ret2
            exact ⟨by rw [hT2.out, hfin.out]; rfl, hB2'.out⟩
          · have hT2 : Hid (T = refT i k m ++ ⟨#[46, 53]⟩) := Lib.hid (hT.out.trans (ref_text' i k m hi hk hm).2.symm)
            go_wp2
            go_ret2
            exact ⟨by rw [hT2.out, hfin.out]; rfl, hB2'.out⟩
  · intro K hK
    unfold Oper.wp
    go_simp
    have hS1 := (hS).alloc (hS).size (.cells (#[.string ⟨#[35]⟩, .string ⟨#[61]⟩]) 9)
    refine hK _ _ hS1 ?_
    have hA := Lib.hid (blk_new (w := V1) rfl (.cells (#[.string ⟨#[35]⟩, .string ⟨#[61]⟩]) 9))
    have hold := Lib.hid (fun (b : Nat) (o : Obj) (h : (V1).heap[b]? = some o) => blk_alloc h (.cells (#[.string ⟨#[35]⟩, .string ⟨#[61]⟩]) 9))
    obtain ⟨N1, hn⟩ : ∃ N, (V1).heap.size = N := ⟨_, rfl⟩
    obtain ⟨W1, hw⟩ : ∃ W, (V1).alloc (.cells (#[.string ⟨#[35]⟩, .string ⟨#[61]⟩]) 9) = W := ⟨_, rfl⟩
    rw [hn] at hA
    rw [hw] at hA hS1 hold
    rw [hw, hn]
    clear hw hn hK K
    have cb := cell_of hA.out k _ e2
    refine wpAnyH_take (i := 10) (v := .pointer (some ⟨N1, k, none⟩)) rfl (by kernel_rfl) (by kernel_rfl) (by kernel_rfl) (fun _ _ _ h => h) (.inl ⟨by rfl, fun w' hh => by skip; go_simp⟩) hS1 ?_
    refine wpAnyH_two (i := 0) (j := 11) (by kernel_rfl) rfl rfl rfl rfl ?_ ?_
    · intro K hK
      unfold Oper.wp
      go_simp
      have hS2 := (hS1).alloc (hS1).size (.cells (#[.string ⟨#[]⟩, .string ⟨#[104]⟩, .string ⟨#[115]⟩, .string ⟨#[114]⟩]) 9)
      refine hK _ _ hS2 ?_
      have hB2 := Lib.hid (blk_new (w := W1) rfl (.cells (#[.string ⟨#[]⟩, .string ⟨#[104]⟩, .string ⟨#[115]⟩, .string ⟨#[114]⟩]) 9))
      have hold := Lib.hid (fun (b : Nat) (o : Obj) (h : (W1).heap[b]? = some o) => blk_alloc h (.cells (#[.string ⟨#[]⟩, .string ⟨#[104]⟩, .string ⟨#[115]⟩, .string ⟨#[114]⟩]) 9))
      obtain ⟨N2, hn⟩ : ∃ N, (W1).heap.size = N := ⟨_, rfl⟩
      obtain ⟨W2, hw⟩ : ∃ W, (W1).alloc (.cells (#[.string ⟨#[]⟩, .string ⟨#[104]⟩, .string ⟨#[115]⟩, .string ⟨#[114]⟩]) 9) = W := ⟨_, rfl⟩
      rw [hn] at hB2
      rw [hw] at hB2 hS2 hold
      rw [hw, hn]
      clear hw hn hK K
      have ca := cell_of hB2.out i _ e1
      have cb2 := cell_of (hold.out _ _ hA.out) k _ e2
      refine wpAnyH_take (i := 4) (v := .pointer (some ⟨N2, i, none⟩)) rfl (by kernel_rfl) (by kernel_rfl) (by kernel_rfl) (fun _ _ _ h => h) (.inl ⟨by rfl, fun w' hh => by skip; go_simp⟩) hS2 ?_
      refine wpAnyH_two (i := 5) (j := 11) (by kernel_rfl) rfl rfl rfl rfl ?_ ?_
      · intro K hK
        unfold Oper.wp
        go_simp
        refine hK _ _ hS2 ?_
        clear hK K
        refine wpAnyH_only (i := 11) (by kernel_rfl) rfl (by rfl) ?_
        intro K hK
        unfold Oper.wp
        go_simp
        refine hK _ _ hS2 ?_
        clear hK K
        refine wpAnyH_only (i := 12) (by kernel_rfl) rfl (by rfl) ?_
        intro K hK
        unfold Oper.wp
        go_simp
        refine hK _ _ hS2 ?_
        clear hK K
        refine wpAnyH_only (i := 13) (by kernel_rfl) rfl (by rfl) ?_
        intro K hK
        unfold Oper.wp
        go_simp
        refine hK _ _ hS2 ?_
        clear hK K
        refine wpAnyH_done (by kernel_rfl) ?_ _
        have hX2 := below_blk hS2 hX.out
        have c2 := cell_of hX2 2 _ rfl
        have c3 := cell_of hX2 3 _ rfl
        have hB2' := Lib.hid (hB.out.trans (hS2.mono hB.out.size))
        clear hX2 hX hB hS2 hS
        go_simp
        by_cases hm9 : 9 < m + 1
        · have dm : decide (9 < (m : Int) + 1) = true := by simp; omega
          have hfin : Hid (refT i k m = p1 i ++ p2 k ++ E1 ++ E2) := Lib.hid (by unfold refT; rw [if_pos hm9]; unfold digit digs; rw [hE1, hE2])
          replace hm9 := Lib.hid hm9
          cases half
          · have hT2 : Hid (T = refT i k m) := Lib.hid (hT.out.trans (ref_text' i k m hi hk hm).1.symm)
            go_wp2
            go_ret2
            exact ⟨by rw [hT2.out, hfin.out]; rfl, hB2'.out⟩
          · have hT2 : Hid (T = refT i k m ++ ⟨#[46, 53]⟩) := Lib.hid (hT.out.trans (ref_text' i k m hi hk hm).2.symm)
            go_wp2
            go_ret2
            exact ⟨by rw [hT2.out, hfin.out]; rfl, hB2'.out⟩
        · have dm : decide (9 < (m : Int) + 1) = false := by simp; omega
          have hfin : Hid (refT i k m = p1 i ++ p2 k ++ E2) := Lib.hid (by unfold refT; rw [if_neg hm9]; unfold digit digs; rw [hE2])
          replace hm9 := Lib.hid hm9
          cases half
          · have hT2 : Hid (T = refT i k m) := Lib.hid (hT.out.trans (ref_text' i k m hi hk hm).1.symm)
            go_wp2
            go_ret2
            exact ⟨by rw [hT2.out, hfin.out]; rfl, hB2'.out⟩
          · have hT2 : Hid (T = refT i k m ++ ⟨#[46, 53]⟩) := Lib.hid (hT.out.trans (ref_text' i k m hi hk hm).2.symm)
            go_wp2
            go_ret2
            exact ⟨by rw [hT2.out, hfin.out]; rfl, hB2'.out⟩
      · intro K hK
        unfold Oper.wp
        go_simp
        refine hK _ _ hS2 ?_
        clear hK K
        refine wpAnyH_only (i := 5) (by kernel_rfl) rfl (by rfl) ?_
        intro K hK
        unfold Oper.wp
        go_simp
        refine hK _ _ hS2 ?_
        clear hK K
        refine wpAnyH_only (i := 12) (by kernel_rfl) rfl (by rfl) ?_
        intro K hK
        unfold Oper.wp
        go_simp
        refine hK _ _ hS2 ?_
        clear hK K
        refine wpAnyH_only (i := 13) (by kernel_rfl) rfl (by rfl) ?_
        intro K hK
        unfold Oper.wp
        go_simp
        refine hK _ _ hS2 ?_
        clear hK K
        refine wpAnyH_done (by kernel_rfl) ?_ _
        have hX2 := below_blk hS2 hX.out
        have c2 := cell_of hX2 2 _ rfl
        have c3 := cell_of hX2 3 _ rfl
        have hB2' := Lib.hid (hB.out.trans (hS2.mono hB.out.size))
        clear hX2 hX hB hS2 hS
        go_simp
        by_cases hm9 : 9 < m + 1
        · have dm : decide (9 < (m : Int) + 1) = true := by simp; omega
          have hfin : Hid (refT i k m = p1 i ++ p2 k ++ E1 ++ E2) := Lib.hid (by unfold refT; rw [if_pos hm9]; unfold digit digs; rw [hE1, hE2])
          replace hm9 := Lib.hid hm9
          cases half
          · have hT2 : Hid (T = refT i k m) := Lib.hid (hT.out.trans (ref_text' i k m hi hk hm).1.symm)
            go_wp2
            go_ret2
            exact ⟨by rw [hT2.out, hfin.out]; rfl, hB2'.out⟩
          · have hT2 : Hid (T = refT i k m ++ ⟨#[46, 53]⟩) := Lib.hid (hT.out.trans (ref_text' i k m hi hk hm).2.symm)
            go_wp2
            go_ret2
            exact ⟨by rw [hT2.out, hfin.out]; rfl, hB2'.out⟩
        · have dm : decide (9 < (m : Int) + 1) = false := by simp; omega
          have hfin : Hid (refT i k m = p1 i ++ p2 k ++ E2) := Lib.hid (by unfold refT; rw [if_neg hm9]; unfold digit digs; rw [hE2])
          replace hm9 := Lib.hid hm9
          cases half
          · have hT2 : Hid (T = refT i k m) := Lib.hid (hT.out.trans (ref_text' i k m hi hk hm).1.symm)
            go_wp2
            go_ret2
            exact ⟨by rw [hT2.out, hfin.out]; rfl, hB2'.out⟩
          · have hT2 : Hid (T = refT i k m ++ ⟨#[46, 53]⟩) := Lib.hid (hT.out.trans (ref_text' i k m hi hk hm).2.symm)
            go_wp2
            go_ret2
            exact ⟨by rw [hT2.out, hfin.out]; rfl, hB2'.out⟩
    · intro K hK
      unfold Oper.wp
      go_simp
      refine hK _ _ hS1 ?_
      clear hK K
      refine wpAnyH_only (i := 0) (by kernel_rfl) rfl (by rfl) ?_
      intro K hK
      unfold Oper.wp
      go_simp
      have hS2 := (hS1).alloc (hS1).size (.cells (#[.string ⟨#[]⟩, .string ⟨#[104]⟩, .string ⟨#[115]⟩, .string ⟨#[114]⟩]) 9)
      refine hK _ _ hS2 ?_
      have hB2 := Lib.hid (blk_new (w := W1) rfl (.cells (#[.string ⟨#[]⟩, .string ⟨#[104]⟩, .string ⟨#[115]⟩, .string ⟨#[114]⟩]) 9))
      have hold := Lib.hid (fun (b : Nat) (o : Obj) (h : (W1).heap[b]? = some o) => blk_alloc h (.cells (#[.string ⟨#[]⟩, .string ⟨#[104]⟩, .string ⟨#[115]⟩, .string ⟨#[114]⟩]) 9))
      obtain ⟨N2, hn⟩ : ∃ N, (W1).heap.size = N := ⟨_, rfl⟩
      obtain ⟨W2, hw⟩ : ∃ W, (W1).alloc (.cells (#[.string ⟨#[]⟩, .string ⟨#[104]⟩, .string ⟨#[115]⟩, .string ⟨#[114]⟩]) 9) = W := ⟨_, rfl⟩
      rw [hn] at hB2
      rw [hw] at hB2 hS2 hold
      rw [hw, hn]
      clear hw hn hK K
      have ca := cell_of hB2.out i _ e1
      refine wpAnyH_take (i := 4) (v := .pointer (some ⟨N2, i, none⟩)) rfl (by kernel_rfl) (by kernel_rfl) (by kernel_rfl) (fun _ _ _ h => h) (.inl ⟨by rfl, fun w' hh => by skip; go_simp⟩) hS2 ?_
      refine wpAnyH_only (i := 5) (by kernel_rfl) rfl (by rfl) ?_
      intro K hK
      unfold Oper.wp
      go_simp
      refine hK _ _ hS2 ?_
      clear hK K
      refine wpAnyH_only (i := 12) (by kernel_rfl) rfl (by rfl) ?_
      intro K hK
      unfold Oper.wp
      go_simp
      refine hK _ _ hS2 ?_
      clear hK K
      refine wpAnyH_only (i := 13) (by kernel_rfl) rfl (by rfl) ?_
      intro K hK
      unfold Oper.wp
      go_simp
      refine hK _ _ hS2 ?_
      clear hK K
      refine wpAnyH_done (by kernel_rfl) ?_ _
      have hX2 := below_blk hS2 hX.out
      have c2 := cell_of hX2 2 _ rfl
      have c3 := cell_of hX2 3 _ rfl
      have hB2' := Lib.hid (hB.out.trans (hS2.mono hB.out.size))
      clear hX2 hX hB hS2 hS
      go_simp
      by_cases hm9 : 9 < m + 1
      · have dm : decide (9 < (m : Int) + 1) = true := by simp; omega
        have hfin : Hid (refT i k m = p1 i ++ p2 k ++ E1 ++ E2) := Lib.hid (by unfold refT; rw [if_pos hm9]; unfold digit digs; rw [hE1, hE2])
        replace hm9 := Lib.hid hm9
        cases half
        · have hT2 : Hid (T = refT i k m) := Lib.hid (hT.out.trans (ref_text' i k m hi hk hm).1.symm)
          go_wp2
          go_ret2
          exact ⟨by rw [hT2.out, hfin.out]; rfl, hB2'.out⟩
        · have hT2 : Hid (T = refT i k m ++ ⟨#[46, 53]⟩) := Lib.hid (hT.out.trans (ref_text' i k m hi hk hm).2.symm)
          go_wp2
          go_ret2
          exact ⟨by rw [hT2.out, hfin.out]; rfl, hB2'.out⟩
      · have dm : decide (9 < (m : Int) + 1) = false := by simp; omega
        have hfin : Hid (refT i k m = p1 i ++ p2 k ++ E2) := Lib.hid (by unfold refT; rw [if_neg hm9]; unfold digit digs; rw [hE2])
        replace hm9 := Lib.hid hm9
        cases half
        · have hT2 : Hid (T = refT i k m) := Lib.hid (hT.out.trans (ref_text' i k m hi hk hm).1.symm)
          go_wp2
          go_ret2
          exact ⟨by rw [hT2.out, hfin.out]; rfl, hB2'.out⟩
        · have hT2 : Hid (T = refT i k m ++ ⟨#[46, 53]⟩) := Lib.hid (hT.out.trans (ref_text' i k m hi hk hm).2.symm)
          go_wp2
          go_ret2
          exact ⟨by rw [hT2.out, hfin.out]; rfl, hB2'.out⟩
/-- the reference's text of any stipulation -/
theorem rtext_c (w : World) (s : Stip) : Pure 40 #[s.v] w (s.textV (digB s.moves)) := by
  cases hv : s.valid
  · have h1 := fun W => Lib.hid (rvalid_c W s)
    rw [hv] at h1
    unfold Stip.textV
    rw [hv]
    replace hv := Lib.hid hv
    obtain ⟨p, g, m, h⟩ := s
    dsimp only [Stip.v] at *
    unfold Pure
    go_enter Tryz.func40, Tryz.ntmps40
    go_wp2_with fail
    refine (h1 _).out.mono ?_
    rintro e V ⟨rfl, hV⟩
    go_wp2
    go_ret2
    exact ⟨by rfl, below_of_alloc hV⟩
  · obtain ⟨a1, a2, a3, a4, a5, a6⟩ := Stip.of_valid hv
    unfold Stip.textV
    rw [hv]
    obtain ⟨p, g, m, h⟩ := s
    dsimp only at *
    obtain ⟨i, rfl⟩ : ∃ i : Nat, p = (i : Int) + 1 := ⟨(p - 1).toNat, by omega⟩
    obtain ⟨k, rfl⟩ : ∃ k : Nat, g = (k : Int) + 1 := ⟨(g - 1).toNat, by omega⟩
    obtain ⟨n, rfl⟩ : ∃ n : Nat, m = (n : Int) + 1 := ⟨(m - 1).toNat, by omega⟩
    exact rtext_v w i k n h (by omega) (by omega) (by omega) (by simpa using hv) _ (by simp [Stip.text])
end Go.Proofs.YtbhienpbfidgjaaGreatDoor
