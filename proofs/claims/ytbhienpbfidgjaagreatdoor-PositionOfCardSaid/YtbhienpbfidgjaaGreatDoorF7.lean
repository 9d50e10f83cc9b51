/- Boards: Parse, the walk. Conditions: the library's Split, Reverse and Join as said; the table of kinds lies in memory. -/
import Derived.Test.YtbhienpbfidgjaaGreatDoorF6
import Derived.Test.YtbhienpbfidgjaaGreatDoorT5
import Derived.Test.YtbhienpbfidgjaaGreatDoorR
set_option linter.unusedVariables false
set_option linter.unusedSimpArgs false
namespace Go.Proofs.YtbhienpbfidgjaaGreatDoor
open Go.RowKit
theorem sizeBd : (Tryz.prog.info? 40).map (·.size) = some 3 := by kernel_rfl
set_option maxRecDepth 100000 in
set_option maxHeartbeats 4000000 in
theorem bparse_c (hSp : SplitOK) (hR : RevOK) (hJ : JoinOK) (w : World) (hM : MaxAt w) (hK : KindsAt w) (t : ByteArray) (ht : t.size ≤ 1000) :
    Calls Tryz.prog 80 #[.string t] w fun e w' => BoardIs w.heap.size t e w' ∧ Below w.heap.size w w' := by
  obtain ⟨i0, hi, hz0, hz1, hz2⟩ := info_parts Tryz.infoPc
  have hsp := fun W hW => Lib.hid (hSp t ⟨#[47]⟩ W (hM.below hW) (by omega) (by decide))
  have hmem : ∀ r ∈ (splitS t ⟨#[47]⟩).reverse, r.size ≤ 1000 := fun r hr => Nat.le_trans (splitB_size _ _ _ r (by simpa [splitS] using hr)) ht
  obtain ⟨S, hS⟩ : ∃ S, splitS t ⟨#[47]⟩ = S := ⟨_, rfl⟩
  rw [hS] at hsp hmem
  have hSl : S.length ≤ 1001 := by rw [← hS]; exact splitS_len t _ (by decide) 1000 ht
  obtain ⟨n, hn⟩ : ∃ n, S.length = n := ⟨_, rfl⟩
  rw [hn] at hsp hSl
  replace hS := Lib.hid hS
  replace hM := Lib.hid hM
  replace hK := Lib.hid hK
  have hpp := fun W hW c h1 h2 => Lib.hid (pparse_c W (hK.out.below hW) c h1 h2)
  unfold pieceV at hpp
  go_enter Tryz.func80, Tryz.ntmps80
  go_wp2_with fail
  refine (hsp _ ((Below.refl _ _).alloc (Nat.le_refl _) _)).out.mono ?_
  rintro e V ⟨rfl, hV⟩
  simp only [World.size_alloc] at *
  obtain ⟨B, hBe⟩ : ∃ B, w.heap.size = B := ⟨_, rfl⟩
  have hX : V.heap[B]? = some (.cells #[.int .i64 0, .int .i64 0, .slice none 0 0] 40 (0, 0)) := by rw [hV, ← hBe]; exact blk_alloc (blk_new rfl _) _
  have hrow : V.ownsRow (B + 1) 9 1 (.slice (some ⟨B + 1, 0, none⟩) n n) n (S.map strV) := by
    have h := World.ownsRow_lit (base := B + 1) (e := 9) (size := 1) (w.alloc (.cells #[.int .i64 0, .int .i64 0, .slice none 0 0] 40)) (S.map Value.string).toArray n (by simp; omega) (by unfold maxLen; omega) (by simp [hn])
    rw [hV]
    have e : S.map Value.string = S.map strV := rfl
    rw [e] at h ⊢
    simpa [hBe] using h
  have hB : Below B w V := by rw [hV, ← hBe]; exact ((Below.refl _ _).alloc (Nat.le_refl _) _).alloc (by simp) _
  rw [hBe]
  replace hBe := Lib.hid hBe
  replace hX := Lib.hid hX
  replace hrow := Lib.hid hrow
  replace hB := Lib.hid hB
  clear hsp hV
  by_cases h8 : 8 < n
  · have d8 : decide ((8 : Int) < (n : Int)) = true := by simp; omega
    have hnone : Hid (boardO t = none) := Lib.hid (boardO_long (by rw [hS.out, hn]; exact h8))
    go_wp2_with (refine store_row 40 (.tmp 2) (.tmp 19) rfl rfl #[.int .i64 0, .int .i64 0, .slice none 0 0] rfl (by rfl) _ (hX.out) rfl sizeBd (by simp [Value.oneCell']) ?_)
    refine bodyPost_ret (results_row rfl _ _ _ #[.int .i64 0, .int .i64 0, .slice none 0 0] _ rfl (setCells_arr (hX.out) rfl) Tryz.underlying40 rfl sizeBd) rfl ⟨?_, ?_⟩
    · unfold BoardIs; rw [hnone.out]; rfl
    · rw [hBe.out]; exact setCells_below (Nat.le_refl _) _ _ _ hB.out
  · have d8 : decide ((8 : Int) < (n : Int)) = false := by simp; omega
    have hrv := Lib.hid (hR (B + 1) (.slice (some ⟨B + 1, 0, none⟩) n n) S V (by rw [hn]; exact hrow.out) (by omega))
    go_wp2_with fail
    refine hrv.out.mono ?_
    rintro e W2 ⟨rfl, hrow2, hg2⟩
    rw [hn] at hrow2
    have hX2 : W2.heap[B]? = some (.cells #[.int .i64 0, .int .i64 0, .slice none 0 0] 40 (0, 0)) := (hg2.block B (lt_of_blk hX.out) (by simp [Value.ownBlock])).trans hX.out
    have hB2 : Below B w W2 := hB.out.grown hg2 (Nat.le_of_lt (lt_of_blk hX.out)) (fun k e => by simp [Value.ownBlock] at e; omega)
    have hsz := (hrow2.lt (B + 1) rfl).2
    obtain ⟨B2, hB2e⟩ : ∃ B2, W2.heap.size = B2 := ⟨_, rfl⟩
    replace hrow2 := Lib.hid hrow2
    replace hX2 := Lib.hid hX2
    replace hB2 := Lib.hid hB2
    obtain ⟨R, hRe⟩ : ∃ R, S.reverse = R := ⟨_, rfl⟩
    rw [hRe] at hrow2 hmem
    have hRl : R.length = n := by rw [← hRe, List.length_reverse, hn]
    replace hRe := Lib.hid hRe
    clear hrv hX hrow hB hg2
    have hst : Hid (BPI w B (B + 1) B2 n R (.slice none 0 0) [] (W2.alloc (.cells #[.int .i64 0, .int .i64 (n : Int), .slice none 0 0] 40))) := Lib.hid (by
      subst hB2e
      refine ⟨blk_alloc hX2.out _, hrow2.out.alloc _, blk_new rfl _, ?_, ?_⟩
      · simpa using World.ownsRow_nil _ _ _ _
      · exact hB2.out.alloc (by omega) _)
    go_wp2_with fail
    have h12 : B + 1 < B2 := by omega
    replace hB2e := Lib.hid hB2e
    clear hX2 hB2 hrow2
    go_loopw [28] (fun i wr => ∃ (k : Nat) (v : Value) (acc : List Int), k ≤ n ∧ i = .int .i64 k ∧ pcsL ((R.take k).map (·.data.toList)).flatten = some acc ∧ BPI w B (B + 1) B2 n R v acc wr ∧ acc.length ≤ 8000 * k) (fun i _ => n - (intOf i).toNat)
    case atStart => exact ⟨0, _, [], by omega, rfl, rfl, hst.out, by simp⟩
    case round =>
      obtain ⟨k, v, acc, hk, rfl, hacc, hI, hal⟩ := hrel
      clear hst
      replace hacc := Lib.hid hacc
      by_cases hkn : k = n
      · have hps : Hid (pcsL ((splitS t ⟨#[47]⟩).reverse.map (·.data.toList)).flatten = some acc) := Lib.hid (by
          rw [hS.out, hRe.out, ← hacc.out, hkn, List.take_of_length_le (by omega)])
        have hbo := Lib.hid (boardO_ps (by rw [hS.out, hn]; exact h8) hps.out)
        rw [hS.out, hn] at hbo
        obtain ⟨po, cap, rfl⟩ := own_form hI.row
        obtain ⟨hsl, hc1, hc2⟩ := own_slc hI.row
        have hn1 : 1 ≤ n := by rw [← hn, ← hS.out]; exact splitB_pos _ _ _
        obtain ⟨f, hf⟩ : ∃ f, acc.length / n = f := ⟨_, rfl⟩
        rw [hf] at hbo
        have hq0 : ((n : Int) = 0) = False := by simp; omega
        have hq : wrap64 ((acc.length : Int) / (n : Int)) = (f : Int) := by
          have e : (acc.length : Int) / (n : Int) = (f : Int) := by rw [← hf]; simp
          rw [e]
          have : f ≤ acc.length := by rw [← hf]; exact Nat.div_le_self _ _
          unfold wrap64
          omega
        have b2 := cell_of hI.box 2 _ rfl
        have b0 := cell_of hI.box 0 _ rfl
        have b1 := cell_of hI.box 1 _ rfl
        have bf := free_of hI.box 0
        have hI2 : Hid (BPI w B (B + 1) B2 n R (.slice po acc.length cap) acc wr) := Lib.hid hI
        replace hsl := Lib.hid hsl
        have hbx : Hid ((wr.setCell ⟨B2, 0, none⟩ (.int .i64 (f : Int))).heap[B2]? = some (.cells #[.int .i64 (f : Int), .int .i64 (n : Int), .slice po acc.length cap] 40 (0, 0))) := Lib.hid (blk_at (blk_set hI.box 0 (.int .i64 (f : Int))) (by simp))
        have hrow' := hI.row.kept (w' := wr.setCell ⟨B2, 0, none⟩ (.int .i64 (f : Int))) (grown_set (grown_refl wr (some B2)) (p := ⟨B2, 0, none⟩) (.inl rfl) _) (by
          cases e : (Value.slice po acc.length cap).ownBlock with
          | none => exact .inl rfl
          | some g => right; have := (hI.row.lt g e).1; simp; omega)
        have hres' : Hid ((wr.setCell ⟨B2, 0, none⟩ (.int .i64 (f : Int))).heap[B]? = some (.cells #[.int .i64 0, .int .i64 0, .slice none 0 0] 40 (0, 0))) := Lib.hid (blk_other hI.res (by simp; omega) _)
        have hbel' : Hid (Below w.heap.size w (wr.setCell ⟨B2, 0, none⟩ (.int .i64 (f : Int)))) := Lib.hid (by rw [hBe.out]; exact hI.below.setCell (by simp; omega) _)
        have hbt := Lib.hid (btext_c hR hJ _ (hK.out.below hbel'.out) (f : Int) (n : Int) acc po cap (own_slc hrow').1 (by omega) hc1 hc2)
        unfold boardV at hbt
        simp only [Int.toNat_natCast] at hbt
        unfold bdV at hbt
        obtain ⟨bl, hbl⟩ : ∃ bl, boardL f n acc = bl := ⟨_, rfl⟩
        rw [hbl] at hbo hbt
        replace hbl := Lib.hid hbl
        replace hrow' := Lib.hid hrow'
        replace hI := Lib.hid hI
        replace hf := Lib.hid hf
        subst hkn
        cases hbv : bvalid (f : Int) (k : Int) acc
        · rw [hbv] at hbt hbo
          replace hbv := Lib.hid hbv
          simp only [Bool.false_eq_true, if_false, Bool.false_and] at hbt hbo
          go_wp2_with fail
          refine hbt.out.mono ?_
          rintro e V6 ⟨rfl, hV6⟩
          have hr6 := Lib.hid (below_blk hV6 hres'.out)
          have hb6 := hbel'.out.trans (hV6.mono hbel'.out.size)
          go_wp2_with (refine store_row 40 (.tmp 2) (.tmp 88) rfl rfl #[.int .i64 0, .int .i64 0, .slice none 0 0] rfl (by rfl) _ (hr6.out) rfl sizeBd (by simp [Value.oneCell']) ?_)
          refine bodyPost_ret (results_row rfl _ _ _ #[.int .i64 0, .int .i64 0, .slice none 0 0] _ rfl (setCells_arr (hr6.out) rfl) Tryz.underlying40 rfl sizeBd) rfl ⟨?_, ?_⟩
          · unfold BoardIs; rw [hbo.out]; rfl
          · exact setCells_below (Nat.le_of_eq hBe.out) _ _ _ hb6
        · rw [hbv] at hbt hbo
          replace hbv := Lib.hid hbv
          simp only [if_true, Bool.true_and] at hbt hbo
          cases heq : (bl == t.data.toList)
          · rw [heq] at hbo
            simp only [Bool.false_eq_true, if_false] at hbo
            have hs0 : (⟨bl.toArray⟩ : ByteArray) ≠ t := by
              intro h
              rw [← h] at heq
              simp at heq
            have hs1 : ((⟨bl.toArray⟩ : ByteArray) == t) = false := by
              cases h : ((⟨bl.toArray⟩ : ByteArray) == t)
              · rfl
              · exact absurd (ba_beq.1 h) hs0
            obtain ⟨s, hs⟩ : ∃ s, (⟨bl.toArray⟩ : ByteArray) = s := ⟨_, rfl⟩
            rw [hs] at hs0 hs1 hbt
            have hs2 : (s.toList == t.toList) = false := by rw [ByteArray.toList_eq, ByteArray.toList_eq, ← hs]; exact heq
            replace heq := Lib.hid heq
            replace hs := Lib.hid hs
            go_wp2_with fail
            refine hbt.out.mono ?_
            rintro e V6 ⟨rfl, hV6⟩
            have hr6 := Lib.hid (below_blk hV6 hres'.out)
            have hb6 := hbel'.out.trans (hV6.mono hbel'.out.size)
            go_wp2_with (refine store_row 40 (.tmp 2) (.tmp 88) rfl rfl #[.int .i64 0, .int .i64 0, .slice none 0 0] rfl (by rfl) _ (hr6.out) rfl sizeBd (by simp [Value.oneCell']) ?_)
            refine bodyPost_ret (results_row rfl _ _ _ #[.int .i64 0, .int .i64 0, .slice none 0 0] _ rfl (setCells_arr (hr6.out) rfl) Tryz.underlying40 rfl sizeBd) rfl ⟨?_, ?_⟩
            · unfold BoardIs; rw [hbo.out]; rfl
            · exact setCells_below (Nat.le_of_eq hBe.out) _ _ _ hb6
          · rw [heq] at hbo
            simp only [if_true] at hbo
            have hs0 : (⟨bl.toArray⟩ : ByteArray) = t := by
              have h : bl = t.data.toList := by simpa using heq
              rw [h]
            rw [hs0] at hbt
            replace heq := Lib.hid heq
            replace hs0 := Lib.hid hs0
            go_wp2_with fail
            refine hbt.out.mono ?_
            rintro e V6 ⟨rfl, hV6⟩
            have hr6 := Lib.hid (below_blk hV6 hres'.out)
            have hx6 := below_blk hV6 hbx.out
            have hb6 := hbel'.out.trans (hV6.mono hbel'.out.size)
            have hsl6 := own_slc (own_below hrow'.out hV6)
            have c0 := cell_of hx6 0 _ rfl
            have c1 := cell_of hx6 1 _ rfl
            have c2 := cell_of hx6 2 _ rfl
            replace hx6 := Lib.hid hx6
            replace hsl6 := Lib.hid hsl6
            go_wp2_with (refine store_row 40 (.tmp 2) (.tmp 89) rfl rfl #[.int .i64 (f : Int), .int .i64 (k : Int), .slice po acc.length cap] rfl (by rfl) _ hr6.out rfl sizeBd (by simp [Value.oneCell']) ?_)
            refine bodyPost_ret (results_row rfl _ _ _ #[.int .i64 (f : Int), .int .i64 (k : Int), .slice po acc.length cap] _ rfl (setCells_arr hr6.out rfl) Tryz.underlying40 rfl sizeBd) rfl ⟨?_, ?_⟩
            · unfold BoardIs
              rw [hbo.out]
              refine ⟨po, cap, rfl, ?_, hc1, hc2, fun a ha => by subst ha; have h1 := (own_below hrow'.out hV6).lt a.block rfl; have h2 := hBe.out; omega⟩
              rcases hsl6.out.1 with h | ⟨b, off, rfl, hp⟩
              · exact .inl h
              · refine .inr ⟨b, off, rfl, fun i p hip => ?_⟩
                have hne : b ≠ B := by
                  have h1 := (own_below hrow'.out hV6).lt b rfl
                  omega
                refine Eq.trans ?_ (hp i p hip)
                exact World.cell?_of_block (setCells_other hne _ _ _)
            · exact setCells_below (Nat.le_of_eq hBe.out) _ _ _ hb6
      · have hkl : k < n := by omega
        obtain ⟨r, hr⟩ : ∃ r, R[k]? = some r := ⟨_, List.getElem?_eq_getElem (by omega)⟩
        have hrs := hmem r (List.mem_of_getElem? hr)
        have hlr : r.data.toList.length = r.size := (Lib.size_eq r).symm
        have yr : wr.cell? ⟨B + 1, k, none⟩ = some (.string r) := by
          rw [hI.str.cellAt k (by omega), List.getElem?_map, hr]
          rfl
        have htk : Hid (((R.take (k + 1)).map (·.data.toList)).flatten = ((R.take k).map (·.data.toList)).flatten ++ r.data.toList) := Lib.hid (by rw [List.take_add_one, hr]; simp)
        obtain ⟨P, hP⟩ : ∃ P, ((R.take k).map (·.data.toList)).flatten = P := ⟨_, rfl⟩
        rw [hP] at hacc htk
        replace hP := Lib.hid hP
        replace hr := Lib.hid hr
        replace hI := Lib.hid hI
        replace hmem := Lib.hid hmem
        go_wp2_with fail
        go_loopw [34] (fun i2 wr => ∃ (j : Nat) (v : Value) (acc : List Int), j ≤ r.size ∧ i2 = .int .i64 j ∧ pcsL (P ++ r.data.toList.take j) = some acc ∧ BPI w B (B + 1) B2 n R v acc wr ∧ acc.length ≤ 8000 * k + 8 * j) (fun i2 _ => r.size - (intOf i2).toNat)
        case atStart => exact ⟨0, _, _, by omega, rfl, by simpa using hacc.out, hI.out, by omega⟩
        case round =>
          obtain ⟨j, v, acc, hj, rfl, hacc, hI, hal⟩ := hrel
          replace hacc := Lib.hid hacc
          by_cases hjn : j = r.size
          · subst hjn
            go_wp2_with fail
            go_roundw
            case rel => exact ⟨k + 1, v, acc, by omega, by simp, by rw [htk.out, ← hacc.out, List.take_of_length_le (Nat.le_of_eq hlr)], hI, by omega⟩
            case measure => simp [intOf]; omega
          · have hjl : j < r.size := by omega
            obtain ⟨c, hcj⟩ : ∃ c, r[j]'hjl = c := ⟨_, rfl⟩
            have htj : Hid (P ++ r.data.toList.take (j + 1) = (P ++ r.data.toList.take j) ++ [c]) := Lib.hid (by
              rw [List.take_succ_eq_append_getElem (by omega), ← List.append_assoc]
              congr 2)
            have hsn : Hid (pcsL (P ++ r.data.toList.take (j + 1)) = pcsStep (some acc) c) := Lib.hid (by rw [htj.out, pcsL_snoc, hacc.out])
            have hbox := cell_of hI.box 2 _ rfl
            have hd1 : c.toNat < 256 := c.toNat_lt
            replace hcj' := Lib.hid htj
            clear htj hcj'
            by_cases hd : 49 ≤ c.toNat ∧ c.toNat ≤ 56
            · obtain ⟨m, hm⟩ : ∃ m, c.toNat = m + 48 := ⟨c.toNat - 48, by omega⟩
              have m0 : 0 < m := by omega
              have m8 : m ≤ 8 := by omega
              have hnew : Hid (pcsL (P ++ r.data.toList.take (j + 1)) = some (acc ++ List.replicate m 0)) := Lib.hid (by
                rw [hsn.out]; unfold pcsStep pcsB; rw [if_pos hd, hm]; simp)
              obtain ⟨g, cap, w1, hrun, hown', hgrow, hlt⟩ := run_append_zeros wr (B2 + 1) 24 v acc.length _ hI.row m m0 m8 (by omega) (by have := lt_of_blk hI.box; omega)
              obtain ⟨hb1, hI2⟩ := hI.add (m := acc.length + m) (v' := .slice (some ⟨g, 0, none⟩) (acc.length + m) cap) (new := List.replicate m 0) (by omega) (by omega) (Below.refl _ _) hgrow (by simp) (by simpa [zeros, pcV] using hown')
              have z2 := cell_of hb1 2 _ rfl
              have zf := free_of hb1 2
              replace hI2 := Lib.hid hI2
              replace hI := Lib.hid hI
              replace hrun := Lib.hid hrun
              clear hd hsn hown' hgrow hb1
              go_wp2_with (at_builtin; refine Lib.wpList_append_run _ rfl _ _ _ _ rfl _ _ rfl rfl _ _ hrun.out ?_)
              go_roundw
              case rel => exact ⟨j + 1, _, _, by omega, by simp, hnew.out, hI2.out, by simp; omega⟩
              case measure => simp [intOf]; omega
            · have hpo := fun W hW => hpp W hW c.toNat (by omega) (by omega)
              have hB3 := Lib.hid (show Below w.heap.size w wr by rw [hBe.out]; exact hI.below)
              have hst2 : pcsStep (some acc) c = match pieceO c.toNat with | some p => some (acc ++ [p]) | none => none := by
                unfold pcsStep pcsB
                rw [if_neg hd]
                cases pieceO c.toNat <;> rfl
              rw [hst2] at hsn
              clear hst2
              have hcases : c.toNat < 49 ∨ (49 ≤ c.toNat ∧ 56 < c.toNat) := by omega
              cases hpc : pieceO c.toNat with
              | none =>
                rw [hpc] at hsn
                simp only [hpc] at hpo
                have hnone : Hid (boardO t = none) := Lib.hid (boardO_bad (by
                  rw [hS.out, hRe.out]
                  have e : R.map (·.data.toList) = (R.take (k + 1)).map (·.data.toList) ++ (R.drop (k + 1)).map (·.data.toList) := by rw [← List.map_append, List.take_append_drop]
                  rw [e, List.flatten_append]
                  refine pcsL_none ?_
                  rw [htk.out]
                  have e2 : r.data.toList = r.data.toList.take (j + 1) ++ r.data.toList.drop (j + 1) := (List.take_append_drop _ _).symm
                  rw [e2, ← List.append_assoc]
                  exact pcsL_none hsn.out))
                replace hI := Lib.hid hI
                replace hpc := Lib.hid hpc
                clear hsn hd hbox hpp
                rcases hcases with hc1 | ⟨hc1, hc2⟩
                · go_wp2_with fail
                  refine (hpo _ hB3.out).out.mono ?_
                  rintro e V2 ⟨rfl, hV2⟩
                  have hI3 := Lib.hid (hI.out.below' hV2)
                  go_wp2_with (refine store_row 40 (.tmp 2) (.tmp 59) rfl rfl #[.int .i64 0, .int .i64 0, .slice none 0 0] rfl (by rfl) _ (hI3.out.res) rfl sizeBd (by simp [Value.oneCell']) ?_)
                  refine bodyPost_ret (results_row rfl _ _ _ #[.int .i64 0, .int .i64 0, .slice none 0 0] _ rfl (setCells_arr (hI3.out.res) rfl) Tryz.underlying40 rfl sizeBd) rfl ⟨?_, ?_⟩
                  · unfold BoardIs; rw [hnone.out]; rfl
                  · rw [hBe.out]; exact setCells_below (Nat.le_refl _) _ _ _ hI3.out.below
                · go_wp2_with fail
                  refine (hpo _ hB3.out).out.mono ?_
                  rintro e V2 ⟨rfl, hV2⟩
                  have hI3 := Lib.hid (hI.out.below' hV2)
                  go_wp2_with (refine store_row 40 (.tmp 2) (.tmp 59) rfl rfl #[.int .i64 0, .int .i64 0, .slice none 0 0] rfl (by rfl) _ (hI3.out.res) rfl sizeBd (by simp [Value.oneCell']) ?_)
                  refine bodyPost_ret (results_row rfl _ _ _ #[.int .i64 0, .int .i64 0, .slice none 0 0] _ rfl (setCells_arr (hI3.out.res) rfl) Tryz.underlying40 rfl sizeBd) rfl ⟨?_, ?_⟩
                  · unfold BoardIs; rw [hnone.out]; rfl
                  · rw [hBe.out]; exact setCells_below (Nat.le_refl _) _ _ _ hI3.out.below
              | some p =>
                rw [hpc] at hsn
                simp only [hpc] at hpo
                replace hI := Lib.hid hI
                replace hpc := Lib.hid hpc
                clear hd hbox hpp
                rcases hcases with hc1 | ⟨hc1, hc2⟩
                · go_wp2_with fail
                  refine (hpo _ hB3.out).out.mono ?_
                  rintro e V2 ⟨rfl, hV2⟩
                  have hI3 := hI.out.below' hV2
                  have hbx3 := cell_of hI3.box 2 _ rfl
                  have hB2l := lt_of_blk hI3.box
                  clear hpo
                  replace hI3 := Lib.hid hI3
                  go_wp2_with (at_builtin; refine wpList_append_lies _ rfl _ _ 24 rfl (B2 + 1) 48 i0 (.int .i8 0) 1 1 Tryz.underlying24 hi hz0 hz1 hz2 rfl (by decide) _ _ _ rfl (hI3.out.row.alloc _) ⟨V2.heap.size, 0, none⟩ 1 1 [.int .i8 p] rfl rfl (World.news_of_block (blk_new rfl _)) (by intro u hu; simp at hu; subst hu; rfl) (by omega) (by unfold maxLen; omega) (by omega) (by simp; omega) _ rfl ?_; intro g cap w1 hown' hgrow hat hlt; obtain ⟨hb1, hI2⟩ := hI3.out.add (m := acc.length + 1) (v' := .slice (some ⟨g, 0, none⟩) (acc.length + 1) cap) (new := [p]) (by omega) (by omega) ((Below.refl _ _).alloc (Nat.le_refl _) _) hgrow (by simp) (by simpa [pcV] using hown'); have z2 := cell_of hb1 2 _ rfl; have zf := free_of hb1 2; replace hI2 := Lib.hid hI2; clear hown' hgrow hb1 hat)
                  go_roundw
                  case rel => exact ⟨j + 1, _, _, by omega, by simp, hsn.out, hI2.out, by simp; omega⟩
                  case measure => simp [intOf]; omega
                · go_wp2_with fail
                  refine (hpo _ hB3.out).out.mono ?_
                  rintro e V2 ⟨rfl, hV2⟩
                  have hI3 := hI.out.below' hV2
                  have hbx3 := cell_of hI3.box 2 _ rfl
                  have hB2l := lt_of_blk hI3.box
                  clear hpo
                  replace hI3 := Lib.hid hI3
                  go_wp2_with (at_builtin; refine wpList_append_lies _ rfl _ _ 24 rfl (B2 + 1) 48 i0 (.int .i8 0) 1 1 Tryz.underlying24 hi hz0 hz1 hz2 rfl (by decide) _ _ _ rfl (hI3.out.row.alloc _) ⟨V2.heap.size, 0, none⟩ 1 1 [.int .i8 p] rfl rfl (World.news_of_block (blk_new rfl _)) (by intro u hu; simp at hu; subst hu; rfl) (by omega) (by unfold maxLen; omega) (by omega) (by simp; omega) _ rfl ?_; intro g cap w1 hown' hgrow hat hlt; obtain ⟨hb1, hI2⟩ := hI3.out.add (m := acc.length + 1) (v' := .slice (some ⟨g, 0, none⟩) (acc.length + 1) cap) (new := [p]) (by omega) (by omega) ((Below.refl _ _).alloc (Nat.le_refl _) _) hgrow (by simp) (by simpa [pcV] using hown'); have z2 := cell_of hb1 2 _ rfl; have zf := free_of hb1 2; replace hI2 := Lib.hid hI2; clear hown' hgrow hb1 hat)
                  go_roundw
                  case rel => exact ⟨j + 1, _, _, by omega, by simp, hsn.out, hI2.out, by simp; omega⟩
                  case measure => simp [intOf]; omega
end Go.Proofs.YtbhienpbfidgjaaGreatDoor
