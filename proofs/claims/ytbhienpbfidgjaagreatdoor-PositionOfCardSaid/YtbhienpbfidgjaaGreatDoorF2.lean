/- Boards: the text of a rank. Conditions: the table of kinds and the pieces lie in memory. -/
import Derived.Test.YtbhienpbfidgjaaGreatDoorF1
import Derived.Test.YtbhienpbfidgjaaGreatDoorB2
import Derived.OwnWalk
import Derived.Deep.AppendLies
set_option linter.unusedVariables false
set_option linter.unusedSimpArgs false
namespace Go.Proofs.YtbhienpbfidgjaaGreatDoor
open Go.RowKit
def letB (p : Int) : UInt8 := UInt8.ofNat (letP p).toNat
theorem letP_bd {p : Int} (h1 : -15 ≤ p) (h2 : p ≤ 15) (h0 : p ≠ 0) : 65 ≤ letP p ∧ letP p ≤ 122 := by
  unfold letP
  split
  · have := letN_bd (k := (-p - 1).toNat) (by omega); omega
  · have := letN_bd (k := (p - 1).toNat) (by omega); omega
theorem letB_eq {p : Int} (h1 : -15 ≤ p) (h2 : p ≤ 15) (h0 : p ≠ 0) : ((letB p).toNat : Int) = letP p := by
  have := letP_bd h1 h2 h0
  unfold letB
  rw [UInt8.toNat_ofNat']
  omega
def rankStep (out : List UInt8) (p : Int) : List UInt8 :=
  if p ≠ 0 then out ++ [letB p]
  else match out.getLast? with
    | some d => if 49 ≤ d.toNat ∧ d.toNat ≤ 56 then out.set (out.length - 1) (d + 1) else out ++ [49]
    | none => out ++ [49]
def rankL (ps : List Int) : List UInt8 := ps.foldl rankStep []
theorem rankStep_len (out : List UInt8) (p : Int) : (rankStep out p).length ≤ out.length + 1 := by
  unfold rankStep
  split
  · simp
  · split
    · split <;> simp
    · simp
theorem rankL_snoc (ps : List Int) (k : Nat) (p : Int) (h : ps[k]? = some p) : rankL (ps.take (k + 1)) = rankStep (rankL (ps.take k)) p := by
  unfold rankL
  rw [List.take_add_one, h]
  simp
theorem rankL_len (ps : List Int) (k : Nat) : (rankL (ps.take k)).length ≤ k := by
  induction k with
  | zero => simp [rankL]
  | succ k ih =>
    cases h : ps[k]? with
    | none =>
      rw [List.take_add_one, h]
      simp
      omega
    | some p =>
      rw [rankL_snoc ps k p h]
      have := rankStep_len (rankL (ps.take k)) p
      omega
def byteV (b : UInt8) : Value := .int .u8 (b.toNat : Int)
theorem Tryz.infoByte : (Tryz.prog.info? 5).map (fun i => (i.zero, i.size, i.bytes)) = some (some (.int .u8 0), 1, 1) := by kernel_rfl
theorem rankL_all (ps : List Int) : rankL (ps.take ps.length) = rankL ps := by rw [List.take_length]
theorem rankStep_p {out : List UInt8} {p : Int} (h : p ≠ 0) : rankStep out p = out ++ [letB p] := by unfold rankStep; rw [if_pos h]
theorem rankStep_new {out : List UInt8} (h : ∀ d, out.getLast? = some d → ¬ (49 ≤ d.toNat ∧ d.toNat ≤ 56)) : rankStep out 0 = out ++ [49] := by
  unfold rankStep
  rw [if_neg (by simp)]
  split
  · rename_i d hd; rw [if_neg (h d hd)]
  · rfl
theorem rankStep_up {out : List UInt8} {d : UInt8} (h : out.getLast? = some d) (hd : 49 ≤ d.toNat ∧ d.toNat ≤ 56) : rankStep out 0 = out.set (out.length - 1) (d + 1) := by
  unfold rankStep
  rw [if_neg (by simp), h]
  dsimp only
  rw [if_pos hd]
theorem own_below {B : Nat} {w V : World} {e : TypeId} {size n : Nat} {v : Value} {xs : List Value} (h : w.ownsRow B e size v n xs) (hV : Below w.heap.size w V) : V.ownsRow B e size v n xs :=
  h.kept (below_grown2 hV (row := none)) (by cases v.ownBlock with
    | none => exact .inl rfl
    | some k => exact .inr (by simp))
theorem own_form {B : Nat} {w : World} {e : TypeId} {size n : Nat} {v : Value} {xs : List Value} (h : w.ownsRow B e size v n xs) : ∃ po cap, v = .slice po n cap := by
  rcases h.2 with ⟨rfl, rfl⟩ | ⟨g, cap, cur, rfl, _⟩
  · exact ⟨none, 0, rfl⟩
  · exact ⟨_, cap, rfl⟩
theorem own_string {B : Nat} {w : World} {v : Value} {bs : List UInt8} {n : Nat} (h : w.ownsRow B 5 1 v n (bs.map byteV)) : Sem.run Tryz.prog (convert 140 9 v) w = .ok (.string ⟨bs.toArray⟩) w := by
  have hl : bs.length = n := by simpa using h.1
  rcases h.2 with ⟨rfl, h0⟩ | ⟨g, cap, cur, rfl, _⟩
  · have : bs = [] := List.length_eq_zero_iff.1 (by omega)
    subst this
    exact run_convert_bytes_nil w 140 5 Tryz.underlying140 Tryz.underlying5 0 0 _ Tryz.underlying9
  · have h2 := run_convert_bytes_arg (P := Tryz.prog) w 140 5 Tryz.underlying140 Tryz.underlying5 g 0 n cap (bs.map fun b => (b.toNat : Int)) (by simpa using hl) (fun i hi => by
      rw [Nat.zero_add, h.cellAt i (by omega)]
      have hi' : i < bs.length := by omega
      simp [List.getElem?_eq_getElem hi', byteV]) 9 Tryz.underlying9
    rw [show strOfNums (bs.map fun b => (b.toNat : Int)) = ⟨bs.toArray⟩ by simp [strOfNums, Function.comp_def]] at h2
    exact h2
theorem below_row {B : Nat} {w w1 w2 : World} {e : TypeId} {size n : Nat} {v : Value} {xs : List Value} (hb : Below B w w1) (hB : B ≤ w1.heap.size) (h : w1.ownsRow B e size v n xs) (hg : w1.grownBy w2 v.ownBlock) : Below B w w2 :=
  hb.grown hg hB fun k e => (h.lt k e).1
set_option maxRecDepth 100000 in
set_option maxHeartbeats 4000000 in
theorem rank_c (w : World) (hK : KindsAt w) (ps : List Int) (b off cap : Nat) (hP : PcAt w b off ps) (hn : ps.length ≤ 8) (hv : ∀ p ∈ ps, -15 ≤ p ∧ p ≤ 15) :
    Pure 122 #[.slice (some ⟨b, off, none⟩) ps.length cap] w (.string ⟨(rankL ps).toArray⟩) := by
  obtain ⟨i0, hi, hz0, hz1, hz2⟩ := info_parts Tryz.infoByte
  have hlet := fun W hW p h1 h2 h0 => Lib.hid (letter_c W (hK.below hW) p h1 h2 h0)
  have hsnoc := fun k p h => Lib.hid (rankL_snoc ps k p h)
  have hlen := rankL_len ps
  have hall := Lib.hid (rankL_all ps)
  obtain ⟨n, hln⟩ : ∃ n, ps.length = n := ⟨_, rfl⟩
  rw [hln] at hn hall ⊢
  replace hln := Lib.hid hln
  replace hv := Lib.hid hv
  replace hP := Lib.hid hP
  clear hK
  unfold Pure
  go_enter Tryz.func122, Tryz.ntmps122
  go_wp2_with fail
  go_loopw [3, 11] (fun v i wr => ∃ k : Nat, k ≤ n ∧ i = .int .i64 k ∧ wr.ownsRow w.heap.size 5 1 v (rankL (ps.take k)).length ((rankL (ps.take k)).map byteV) ∧ Below w.heap.size w wr) (fun _ i _ => n - (intOf i).toNat)
  case atStart => exact ⟨0, by omega, rfl, by simpa [rankL] using World.ownsRow_nil w w.heap.size 5 1, Below.refl _ _⟩
  case round =>
    obtain ⟨k, hk, rfl, hown, hBr⟩ := hrel
    by_cases hkn : k = n
    · subst hkn
      rw [hall.out] at hown
      have hc := own_string hown
      clear hown hlet hsnoc hlen
      go_wp2
      go_ret
      exact ⟨rfl, hBr⟩
    · have hkl : k < n := by omega
      obtain ⟨p, hp⟩ : ∃ p, ps[k]? = some p := ⟨_, List.getElem?_eq_getElem (by rw [hln.out]; exact hkl)⟩
      have y := below_at hBr (hP.out k p hp)
      obtain ⟨p1, p2⟩ := hv.out p (List.mem_of_getElem? hp)
      have hs := hsnoc k p hp
      have hl := hlen k
      obtain ⟨R, hR⟩ : ∃ R, rankL (ps.take k) = R := ⟨_, rfl⟩
      rw [hR] at hown hs hl
      clear hlen hsnoc hkn hall
      replace hR := Lib.hid hR
      replace hp := Lib.hid hp
      by_cases h0 : p = 0
      · subst h0
        clear hlet p1 p2
        replace hBr := Lib.hid hBr
        rcases List.eq_nil_or_concat R with rfl | ⟨R', d, rfl⟩
        · rw [rankStep_new (by simp)] at hs
          obtain ⟨po, cap, rfl⟩ := own_form hown
          replace hown := Lib.hid hown
          go_wp2_with (at_builtin; refine wpList_append_lies _ rfl _ _ 140 rfl w.heap.size 5 i0 (.int .u8 0) 1 1 Tryz.underlying140 hi hz0 hz1 hz2 rfl (by decide) _ _ _ rfl (hown.out.alloc _) ⟨wr.heap.size, 0, none⟩ 1 1 [.int .u8 49] rfl rfl (World.news_of_block (blk_new rfl _)) (by intro u hu; simp at hu; subst hu; rfl) (by omega) (by unfold maxLen; omega) (by omega) (by have := hBr.out.size; simp; omega) _ rfl ?_; intro g2 cap2 w1 hown' hgrow hat hlt)
          have hB2 := Lib.hid (below_row (hBr.out.alloc (by exact hBr.out.size) _) (by have := hBr.out.size; simp; omega) (hown.out.alloc _) hgrow)
          have ho2 : Hid (w1.ownsRow w.heap.size 5 1 (.slice (some ⟨g2, 0, none⟩) 1 cap2) (rankL (ps.take (k + 1))).length ((rankL (ps.take (k + 1))).map byteV)) := Lib.hid (by
            rw [hs.out]
            simpa [byteV] using hown')
          clear hown' hgrow hat
          go_wp2
          go_roundw
          case rel => exact ⟨k + 1, by omega, by simp, ho2.out, hB2.out⟩
          case measure => simp [intOf]; omega
        · have hl2 : (R'.concat d).length = R'.length + 1 := by simp
          rw [hl2] at hown hl
          obtain ⟨g, cap, rfl, hg1, hg2⟩ := hown.form (by omega)
          have hcd : wr.cell? ⟨g, R'.length, none⟩ = some (byteV d) := by
            rw [hown.cellAt _ (by omega)]
            simp
          have hfz := hown.frozenAt R'.length
          have hst := fun u => Lib.hid (hown.stored R'.length u)
          have hst2 := fun u => Lib.hid (hown.stored R'.length u)
          have hlast : (R'.concat d).getLast? = some d := by simp
          have hd1 : d.toNat < 256 := d.toNat_lt
          unfold byteV at hcd
          obtain ⟨m, hm⟩ : ∃ m, R'.length = m := ⟨_, rfl⟩
          rw [hm] at hcd hfz hown hl ⊢
          simp only [hm] at hst
          clear hst2
          replace hown := Lib.hid hown
          by_cases hd : 49 ≤ d.toNat ∧ d.toNat ≤ 56
          · rw [rankStep_up hlast hd] at hs
            obtain ⟨q1, q2⟩ := hd
            obtain ⟨D, hD⟩ : ∃ D, d.toNat = D := ⟨_, rfl⟩
            rw [hD] at hcd q1 q2
            have hup : Hid ((R'.concat d).set ((R'.concat d).length - 1) (d + 1) = R' ++ [d + 1] ∧ ((d + 1 : UInt8).toNat : Int) = (D : Int) + 1) := Lib.hid (by
              refine ⟨by simp, ?_⟩
              rw [UInt8.toNat_add, hD]
              simp
              omega)
            clear hd1 hlast hl2
            replace hD := Lib.hid hD
            go_wp2
            go_roundw
            case rel =>
              refine ⟨k + 1, by omega, by simp, ?_, ?_⟩
              · rw [hs.out, hup.out.1]
                have h3 := (hst (.int .u8 ((D : Int) + 1))).out.1
                rw [List.length_append, List.map_append, hm]
                have e : byteV (d + 1) = .int .u8 ((D : Int) + 1) := by unfold byteV; rw [hup.out.2]
                simpa [e, hm] using h3
              · exact below_row hBr.out (by exact hBr.out.size) hown.out (hst (.int .u8 ((D : Int) + 1))).out.2
            case measure => simp [intOf]; omega
          · rw [rankStep_new (fun x hx => by rw [hlast] at hx; cases hx; exact hd)] at hs
            obtain ⟨D, hD⟩ : ∃ D, d.toNat = D := ⟨_, rfl⟩
            rw [hD] at hcd hd hd1
            replace hD := Lib.hid hD
            clear hst hlast
            by_cases hd3 : 49 ≤ D
            · have hd4 : 56 < D := by omega
              clear hd
              go_wp2_with (at_builtin; refine wpList_append_lies _ rfl _ _ 140 rfl w.heap.size 5 i0 (.int .u8 0) 1 1 Tryz.underlying140 hi hz0 hz1 hz2 rfl (by decide) _ _ _ rfl (hown.out.alloc _) ⟨wr.heap.size, 0, none⟩ 1 1 [.int .u8 49] rfl rfl (World.news_of_block (blk_new rfl _)) (by intro u hu; simp at hu; subst hu; rfl) (by omega) (by unfold maxLen; omega) (by omega) (by have := hBr.out.size; simp; omega) _ rfl ?_; intro g2 cap2 w1 hown' hgrow hat hlt)
              have hB2 := Lib.hid (below_row (hBr.out.alloc (by exact hBr.out.size) _) (by have := hBr.out.size; simp; omega) (hown.out.alloc _) hgrow)
              have ho2 : Hid (w1.ownsRow w.heap.size 5 1 (.slice (some ⟨g2, 0, none⟩) (m + 1 + 1) cap2) (rankL (ps.take (k + 1))).length ((rankL (ps.take (k + 1))).map byteV)) := Lib.hid (by
                rw [hs.out]
                simpa [byteV, hm] using hown')
              clear hown' hgrow hat
              go_wp2
              go_roundw
              case rel => exact ⟨k + 1, by omega, by simp, ho2.out, hB2.out⟩
              case measure => simp [intOf]; omega
            · have hd4 : D < 49 := by omega
              clear hd hd3
              go_wp2_with (at_builtin; refine wpList_append_lies _ rfl _ _ 140 rfl w.heap.size 5 i0 (.int .u8 0) 1 1 Tryz.underlying140 hi hz0 hz1 hz2 rfl (by decide) _ _ _ rfl (hown.out.alloc _) ⟨wr.heap.size, 0, none⟩ 1 1 [.int .u8 49] rfl rfl (World.news_of_block (blk_new rfl _)) (by intro u hu; simp at hu; subst hu; rfl) (by omega) (by unfold maxLen; omega) (by omega) (by have := hBr.out.size; simp; omega) _ rfl ?_; intro g2 cap2 w1 hown' hgrow hat hlt)
              have hB2 := Lib.hid (below_row (hBr.out.alloc (by exact hBr.out.size) _) (by have := hBr.out.size; simp; omega) (hown.out.alloc _) hgrow)
              have ho2 : Hid (w1.ownsRow w.heap.size 5 1 (.slice (some ⟨g2, 0, none⟩) (m + 1 + 1) cap2) (rankL (ps.take (k + 1))).length ((rankL (ps.take (k + 1))).map byteV)) := Lib.hid (by
                rw [hs.out]
                simpa [byteV, hm] using hown')
              clear hown' hgrow hat
              go_wp2
              go_roundw
              case rel => exact ⟨k + 1, by omega, by simp, ho2.out, hB2.out⟩
              case measure => simp [intOf]; omega
      · have h00 : (p == 0) = false := by simpa using h0
        have hl1 := fun W hW => hlet W hW p p1 p2 h0
        have hbe := Lib.hid (letB_eq p1 p2 h0)
        rw [rankStep_p h0] at hs
        replace h0 := Lib.hid h0
        replace hBr := Lib.hid hBr
        obtain ⟨L, hL⟩ : ∃ L, letP p = L := ⟨_, rfl⟩
        simp only [hL] at hl1 hbe
        replace hL := Lib.hid hL
        clear hlet
        replace hown := Lib.hid hown
        go_wp2_with fail
        refine (hl1 _ hBr.out).out.mono ?_
        rintro e V ⟨rfl, hV⟩
        have hown1 := own_below hown.out hV
        have hB1 := hBr.out.trans (hV.mono hBr.out.size)
        clear hown hBr y hl1
        go_wp2_with (at_builtin; refine wpList_append_lies _ rfl _ _ 140 rfl w.heap.size 5 i0 (.int .u8 0) 1 1 Tryz.underlying140 hi hz0 hz1 hz2 rfl (by decide) _ _ _ rfl (hown1.alloc _) ⟨V.heap.size, 0, none⟩ 1 1 [.int .u8 L] rfl rfl (World.news_of_block (blk_new rfl _)) (by intro u hu; simp at hu; subst hu; rfl) (by omega) (by unfold maxLen; omega) (by omega) (by have := hB1.size; simp; omega) _ rfl ?_; intro g cap w1 hown' hgrow hat hlt)
        have hB2 := Lib.hid (below_row (hB1.alloc (by exact hB1.size) _) (by have := hB1.size; simp; omega) (hown1.alloc _) hgrow)
        have ho2 : Hid (w1.ownsRow w.heap.size 5 1 (.slice (some ⟨g, 0, none⟩) (R.length + 1) cap) (rankL (ps.take (k + 1))).length ((rankL (ps.take (k + 1))).map byteV)) := Lib.hid (by
          rw [hs.out, List.length_append, List.map_append]
          simpa [byteV, hbe.out] using hown')
        clear hown' hgrow hown1 hB1 hat
        go_wp2
        go_roundw
        case rel => exact ⟨k + 1, by omega, by simp, ho2.out, hB2.out⟩
        case measure => simp [intOf]; omega
end Go.Proofs.YtbhienpbfidgjaaGreatDoor
