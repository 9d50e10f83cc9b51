/- Stipulations: Parse, the walk. Conditions: the library's CutPrefix, CutSuffix, Atoi as said. -/
import Derived.Test.YtbhienpbfidgjaaGreatDoorT3
import Derived.Test.YtbhienpbfidgjaaGreatDoorT5
import Derived.Test.YtbhienpbfidgjaaGreatDoorR
set_option linter.unusedVariables false
set_option linter.unusedSimpArgs false
namespace Go.Proofs.YtbhienpbfidgjaaGreatDoor
open Go.RowKit
theorem sizeSt : (Tryz.prog.info? 54).map (·.size) = some 4 := by kernel_rfl
set_option maxRecDepth 100000 in
set_option maxHeartbeats 4000000 in
theorem parse_w (hI : ItoaOK) (hp : CutPOK) (hs : CutSOK) (w : World) (t : ByteArray) (ht : t.size ≤ 1000) (ha : AtoiAt w) : Pure 41 #[.string t] w (parseV t) := by
  have hh := fun W => Lib.hid (heads_c W)
  unfold headsV headsC at hh
  unfold Pure
  go_enter Tryz.func41, Tryz.ntmps41
  go_wp2_with fail
  refine ((hh _).out).mono ?_
  rintro e V ⟨rfl, hV⟩
  go_wp2_with fail
  have hX := box_of hV
  have hB := Lib.hid (below_of_alloc hV)
  clear hV
  obtain ⟨B, hBe⟩ : ∃ B, w.heap.size = B := ⟨_, rfl⟩
  rw [hBe] at hX ⊢
  replace hX := Lib.hid hX
  replace hBe := Lib.hid hBe
  replace ha := Lib.hid ha
  go_loopw [18] (fun i wr => ∃ k : Nat, k ≤ 4 ∧ i = .int .i64 k ∧ (∀ i' < k, ∀ k' < 2, tryHead t i' k' = none) ∧ wr.heap[B]? = some (.cells #[.int .i64 0, .int .i64 0, .int .i64 0, .bool false] 54 (0, 0)) ∧ Below w.heap.size w wr) (fun i _ => 4 - (intOf i).toNat)
  case atStart => exact ⟨0, by omega, rfl, fun _ h => absurd h (by omega), hX.out, hB.out⟩
  case round =>
    obtain ⟨i, hi, rfl, hno, hXr, hBr⟩ := hrel
    clear hX hB
    have hno0 := Lib.hid hno
    clear hno
    replace hXr := Lib.hid hXr
    replace hBr := Lib.hid hBr
    by_cases h4 : i < 4
    · have hidx := fun W => headIx W i h4
      unfold headsC at hidx
      have hd4 : decide ((i : Int) < 4) = true := by simp; omega
      go_wp2_with fail
      go_loopw [23] (fun i2 wr => ∃ k : Nat, k ≤ 2 ∧ i2 = .int .i64 k ∧ (∀ k' < k, tryHead t i k' = none) ∧ wr.heap[B]? = some (.cells #[.int .i64 0, .int .i64 0, .int .i64 0, .bool false] 54 (0, 0)) ∧ Below w.heap.size w wr) (fun i2 _ => 2 - (intOf i2).toNat)
      case atStart => exact ⟨0, by omega, rfl, fun _ h => absurd h (by omega), blk_alloc hXr.out _, hBr.out.alloc hBr.out.size _⟩
      case round =>
        obtain ⟨k, hk, rfl, hnk, hXk, hBk⟩ := hrel
        replace hnk := Lib.hid hnk
        replace hXk := Lib.hid hXk
        replace hBk := Lib.hid hBk
        by_cases hk2 : k < 2
        · have hjdx := fun W => headJx W (headB i 0) (headB i 1) k hk2
          rw [headB_k i k hk2] at hjdx
          have hcp := fun W => Lib.hid (hp t (headB i k) W)
          obtain ⟨rest, hrest⟩ : ∃ rest, Lib.trimPrefix t.data.toList (headB i k).data.toList = rest := ⟨_, rfl⟩
          obtain ⟨is, his⟩ : ∃ is, Lib.hasPrefix t.data.toList (headB i k).data.toList = is := ⟨_, rfl⟩
          rw [hrest, his] at hcp
          go_wp2_with fail
          refine ((hcp _).out).mono ?_
          rintro e V ⟨rfl, hV⟩
          have hX2 := Lib.hid (below_blk hV hXk.out)
          have hB2 := Lib.hid (hBk.out.trans (hV.mono hBk.out.size))
          clear hV
          cases is
          · have hnone : Hid (tryHead t i k = none) := Lib.hid (by unfold tryHead; rw [his]; rfl)
            go_wp2_with fail
            go_roundw
            case rel => exact ⟨k + 1, by omega, by simp, (fun k' hk' => by
              by_cases e : k' = k
              · rw [e]; exact hnone.out
              · exact hnk.out k' (by omega)), hX2.out, hB2.out⟩
            case measure => simp [intOf]; omega
          · have hrz : (⟨rest.toArray⟩ : ByteArray).size ≤ 1000000 := by
              have e : (⟨rest.toArray⟩ : ByteArray).size = rest.length := by show rest.toArray.size = _; simp
              have h2 : rest.length ≤ t.data.toList.length := by rw [← hrest]; unfold Lib.trimPrefix; split <;> simp
              have h3 : t.data.toList.length = t.size := (Lib.size_eq t).symm
              omega
            have hcs := fun W => Lib.hid (hs ⟨rest.toArray⟩ ⟨#[46, 53]⟩ W hrz)
            clear hrz
            obtain ⟨num, hnum⟩ : ∃ num, Lib.trimSuffix rest [46, 53] = num := ⟨_, rfl⟩
            obtain ⟨half, hhalf⟩ : ∃ half, Lib.hasSuffix rest [46, 53] = half := ⟨_, rfl⟩
            simp only [List.toList_toArray] at hcs
            rw [hnum, hhalf] at hcs
            have hlen : (⟨num.toArray⟩ : ByteArray).size ≤ 281474976710656 := by
              have e : (⟨num.toArray⟩ : ByteArray).size = num.length := by show num.toArray.size = _; simp
              have h1 : num.length ≤ rest.length := by rw [← hnum]; unfold Lib.trimSuffix; split <;> simp
              have h2 : rest.length ≤ t.data.toList.length := by rw [← hrest]; unfold Lib.trimPrefix; split <;> simp
              have h3 : t.data.toList.length = t.size := (Lib.size_eq t).symm
              omega
            go_wp2_with fail
            refine ((hcs _).out).mono ?_
            rintro e V ⟨rfl, hV⟩
            have hX3 := Lib.hid (below_blk hV hX2.out)
            have hB3 := Lib.hid (hB2.out.trans (hV.mono hB2.out.size))
            clear hV
            obtain ⟨v, hat⟩ := ha.out _ ⟨num.toArray⟩ hB3.out hlen
            replace hat := Lib.hid hat
            go_wp2_with fail
            refine hat.out.mono ?_
            rintro e V ⟨⟨ev, rfl, hdis⟩, hV⟩
            replace hdis := Lib.hid hdis
            have hX4 := Lib.hid (below_blk hV hX3.out)
            have hB4 := Lib.hid (hB3.out.trans (hV.mono hB3.out.size))
            clear hV
            go_wp2_with fail
            obtain ⟨S, hS⟩ : ∃ S : Stip, (⟨i + 1, k + 1, v, half⟩ : Stip) = S := ⟨_, rfl⟩
            have htx := fun W => Lib.hid (text_c hI W ⟨i + 1, k + 1, v, half⟩)
            have hSv : Hid (Value.agg #[.int .i64 (i + 1), .int .i64 (k + 1), .int .i64 v, .bool half] = S.v) := Lib.hid (by rw [← hS]; rfl)
            have hSd : digB v = digB S.moves := by rw [← hS]
            unfold Stip.textV at htx
            dsimp only at htx
            rw [hS] at htx
            simp only [← hSv.out] at htx
            have htry : tryHead t i k = match Lib.atoiAll num with
                | .ok n => if (⟨i + 1, k + 1, n, half⟩ : Stip).valid && (⟨i + 1, k + 1, n, half⟩ : Stip).textB (digB n) == t then some ⟨i + 1, k + 1, n, half⟩ else none
                | _ => none := by
              unfold tryHead
              rw [his, if_pos rfl, hrest]
              dsimp only
              rw [hnum, hhalf]
              cases Lib.atoiAll num <;> rfl
            have hX5 := fun o => Lib.hid (blk_alloc hX4.out o)
            have hB5 := fun o => Lib.hid (hB4.out.alloc hB4.out.size o)
            replace hdis : (Lib.atoiAll num = .ok v ∧ ev = .nilIface) ∨ ((∀ n, Lib.atoiAll num ≠ .ok n) ∧ ∃ t p, ev = .iface t p) := by simpa using hdis.out
            rcases hdis with ⟨hok, rfl⟩ | ⟨hno, t', p', rfl⟩
            · rw [hok] at htry
              dsimp only at htry
              rw [hS] at htry
              obtain ⟨T, hT⟩ : ∃ T, S.textB (digB v) = T := ⟨_, rfl⟩
              rw [hT] at htry
              simp only [hT] at htx
              cases hv : S.valid
              · rw [hv] at htry
                simp only [Bool.false_and, Bool.false_eq_true, if_false] at htry
                simp only [hv, Bool.false_eq_true, if_false] at htx
                have hnone := Lib.hid htry
                have hX5 := hX5 (.cells #[.int .i64 (i + 1), .int .i64 (k + 1), .int .i64 v, .bool half] 54)
                have hB5 := hB5 (.cells #[.int .i64 (i + 1), .int .i64 (k + 1), .int .i64 v, .bool half] 54)
                clear htry
                replace hv := Lib.hid hv
                replace hT := Lib.hid hT
                replace hok := Lib.hid hok
                replace hS := Lib.hid hS
                replace hSd := Lib.hid hSd
                replace hrest := Lib.hid hrest
                replace his := Lib.hid his
                replace hnum := Lib.hid hnum
                replace hhalf := Lib.hid hhalf
                refine (htx _).out.mono ?_
                rintro e V6 ⟨rfl, hV6⟩
                have hX6 := Lib.hid (below_blk hV6 hX5.out)
                have hB6 := Lib.hid (hB5.out.trans (hV6.mono hB5.out.size))
                clear hV6
                go_wp2_with fail
                go_roundw
                case rel => exact ⟨k + 1, by omega, by simp, (fun k' hk' => by
                  by_cases e : k' = k
                  · rw [e]; exact hnone.out
                  · exact hnk.out k' (by omega)), hX6.out, hB6.out⟩
                case measure => simp [intOf]; omega
              · rw [hv] at htry
                simp only [Bool.true_and] at htry
                simp only [hv, if_true] at htx
                cases heq : (T == t)
                · rw [heq] at htry
                  simp only [Bool.false_eq_true, if_false] at htry
                  have hs2 : (T.toList == t.toList) = false := by rw [← beq_toListBytes]; exact heq
                  have hnone := Lib.hid htry
                  have hX5 := hX5 (.cells #[.int .i64 (i + 1), .int .i64 (k + 1), .int .i64 v, .bool half] 54)
                  have hB5 := hB5 (.cells #[.int .i64 (i + 1), .int .i64 (k + 1), .int .i64 v, .bool half] 54)
                  clear htry
                  replace hv := Lib.hid hv
                  replace hT := Lib.hid hT
                  replace hok := Lib.hid hok
                  replace hS := Lib.hid hS
                  replace hSd := Lib.hid hSd
                  replace hrest := Lib.hid hrest
                  replace his := Lib.hid his
                  replace hnum := Lib.hid hnum
                  replace hhalf := Lib.hid hhalf
                  refine (htx _).out.mono ?_
                  rintro e V6 ⟨rfl, hV6⟩
                  have hX6 := Lib.hid (below_blk hV6 hX5.out)
                  have hB6 := Lib.hid (hB5.out.trans (hV6.mono hB5.out.size))
                  clear hV6
                  go_wp2_with fail
                  go_roundw
                  case rel => exact ⟨k + 1, by omega, by simp, (fun k' hk' => by
                    by_cases e : k' = k
                    · rw [e]; exact hnone.out
                    · exact hnk.out k' (by omega)), hX6.out, hB6.out⟩
                  case measure => simp [intOf]; omega
                · rw [heq] at htry
                  simp only [if_true] at htry
                  have hhit := Lib.hid (parse_hit h4 hk2 hno0.out hnk.out htry)
                  simp only [ba_beq.1 heq] at htx
                  have hfin : Hid (parseV t = .tuple #[.agg #[.int .i64 (i + 1), .int .i64 (k + 1), .int .i64 v, .bool half], .int .i64 0]) := Lib.hid (by unfold parseV; rw [hhit.out, hSv.out])
                  replace htry := Lib.hid htry
                  replace heq := Lib.hid heq
                  replace hv := Lib.hid hv
                  replace hT := Lib.hid hT
                  replace hok := Lib.hid hok
                  replace hS := Lib.hid hS
                  replace hSd := Lib.hid hSd
                  replace hrest := Lib.hid hrest
                  replace his := Lib.hid his
                  replace hnum := Lib.hid hnum
                  replace hhalf := Lib.hid hhalf
                  have hX5 := hX5 (.cells #[.int .i64 (i + 1), .int .i64 (k + 1), .int .i64 v, .bool half] 54)
                  have hB5 := hB5 (.cells #[.int .i64 (i + 1), .int .i64 (k + 1), .int .i64 v, .bool half] 54)
                  refine (htx _).out.mono ?_
                  rintro e V6 ⟨rfl, hV6⟩
                  have hX6 := Lib.hid (below_blk hV6 hX5.out)
                  have hB6 := Lib.hid (hB5.out.trans (hV6.mono hB5.out.size))
                  have hN6 := box_of hV6
                  have c0 := cell_of hN6 0 _ rfl
                  have c1 := cell_of hN6 1 _ rfl
                  have c2 := cell_of hN6 2 _ rfl
                  have c3 := cell_of hN6 3 _ rfl
                  clear hV6 hN6
                  go_wp2_with (refine store_row 54 (.tmp 2) (.tmp 68) rfl rfl #[.int .i64 (i + 1), .int .i64 (k + 1), .int .i64 v, .bool half] rfl (by rfl) _ hX6.out rfl sizeSt (by simp [Value.oneCell']) ?_)
                  refine bodyPost_ret (results_row rfl _ _ _ #[.int .i64 (i + 1), .int .i64 (k + 1), .int .i64 v, .bool half] _ rfl (setCells_arr hX6.out rfl) Tryz.underlying54 rfl sizeSt) rfl ⟨?_, ?_⟩
                  · rw [hfin.out]; rfl
                  · exact setCells_below (Nat.le_of_eq hBe.out) _ _ _ hB6.out
            · have hno2 : tryHead t i k = none := by
                rw [htry]
                split
                · rename_i n e; exact absurd e (hno n)
                · rfl
              clear htry hno
              have htry := hno2
              cases hv : S.valid
              · simp only [hv, Bool.false_eq_true, if_false] at htx
                have hok := True.intro
                obtain ⟨T, hT⟩ : ∃ T, S.textB (digB v) = T := ⟨_, rfl⟩
                have hnone := Lib.hid htry
                have hX5 := hX5 (.cells #[.int .i64 (i + 1), .int .i64 (k + 1), .int .i64 v, .bool half] 54)
                have hB5 := hB5 (.cells #[.int .i64 (i + 1), .int .i64 (k + 1), .int .i64 v, .bool half] 54)
                clear htry
                replace hv := Lib.hid hv
                replace hT := Lib.hid hT
                replace hok := Lib.hid hok
                replace hS := Lib.hid hS
                replace hSd := Lib.hid hSd
                replace hrest := Lib.hid hrest
                replace his := Lib.hid his
                replace hnum := Lib.hid hnum
                replace hhalf := Lib.hid hhalf
                refine (htx _).out.mono ?_
                rintro e V6 ⟨rfl, hV6⟩
                have hX6 := Lib.hid (below_blk hV6 hX5.out)
                have hB6 := Lib.hid (hB5.out.trans (hV6.mono hB5.out.size))
                clear hV6
                go_wp2_with fail
                go_roundw
                case rel => exact ⟨k + 1, by omega, by simp, (fun k' hk' => by
                  by_cases e : k' = k
                  · rw [e]; exact hnone.out
                  · exact hnk.out k' (by omega)), hX6.out, hB6.out⟩
                case measure => simp [intOf]; omega
              · simp only [hv, if_true] at htx
                have hok := True.intro
                obtain ⟨T, hT⟩ : ∃ T, S.textB (digB v) = T := ⟨_, rfl⟩
                have hnone := Lib.hid htry
                have hX5 := hX5 (.cells #[.int .i64 (i + 1), .int .i64 (k + 1), .int .i64 v, .bool half] 54)
                have hB5 := hB5 (.cells #[.int .i64 (i + 1), .int .i64 (k + 1), .int .i64 v, .bool half] 54)
                clear htry
                replace hv := Lib.hid hv
                replace hT := Lib.hid hT
                replace hok := Lib.hid hok
                replace hS := Lib.hid hS
                replace hSd := Lib.hid hSd
                replace hrest := Lib.hid hrest
                replace his := Lib.hid his
                replace hnum := Lib.hid hnum
                replace hhalf := Lib.hid hhalf
                refine (htx _).out.mono ?_
                rintro e V6 ⟨rfl, hV6⟩
                have hX6 := Lib.hid (below_blk hV6 hX5.out)
                have hB6 := Lib.hid (hB5.out.trans (hV6.mono hB5.out.size))
                clear hV6
                go_wp2_with fail
                go_roundw
                case rel => exact ⟨k + 1, by omega, by simp, (fun k' hk' => by
                  by_cases e : k' = k
                  · rw [e]; exact hnone.out
                  · exact hnk.out k' (by omega)), hX6.out, hB6.out⟩
                case measure => simp [intOf]; omega
        · have hk3 : k = 2 := by omega
          subst hk3
          go_wp2_with fail
          go_roundw
          case rel => exact ⟨i + 1, by omega, by simp, (fun i' hi' k' hk' => by
            by_cases e : i' = i
            · rw [e]; exact hnk.out k' hk'
            · exact hno0.out i' (by omega) k' hk'), hXk.out, hBk.out⟩
          case measure => simp [intOf]; omega
    · have hi4 : i = 4 := by omega
      subst hi4
      have hmiss := Lib.hid (parse_miss hno0.out)
      have hfin : Hid (parseV t = .tuple #[.agg #[.int .i64 0, .int .i64 0, .int .i64 0, .bool false], .int .i64 6]) := Lib.hid (by unfold parseV; rw [hmiss.out])
      go_wp2_with (refine store_row 54 (.tmp 2) (.tmp 71) rfl rfl #[.int .i64 0, .int .i64 0, .int .i64 0, .bool false] rfl (by rfl) _ hXr.out rfl sizeSt (by simp [Value.oneCell']) ?_)
      refine bodyPost_ret (results_row rfl _ _ _ #[.int .i64 0, .int .i64 0, .int .i64 0, .bool false] _ rfl (setCells_arr hXr.out rfl) Tryz.underlying54 rfl sizeSt) rfl ⟨?_, ?_⟩
      · rw [hfin.out]; rfl
      · exact setCells_below (Nat.le_of_eq hBe.out) _ _ _ hBr.out
end Go.Proofs.YtbhienpbfidgjaaGreatDoor
