/- The law on waits before presses: its walk. Conditions: the arguments lie in memory. -/
import Derived.Test.YtgigehlflgcdpaaO
import Derived.Test.YtgigehlflgcdpaaL4
import Derived.Test.YtgigehlflgcdpaaK2
import Derived.Deep.DeepCutAuto
set_option linter.unusedVariables false
set_option linter.unusedSimpArgs false
namespace Go.Proofs.Ytgigehlflgcdpaa
open Go.RowKit
theorem start_congr {L M : Ctl} (hk : L.k = M.k) (hp : L.ps = M.ps) (c : Ck) (t : Int) : c.start L t = c.start M t := by
  obtain ⟨_, _, _, k, ps⟩ := L
  obtain ⟨_, _, _, k', ps'⟩ := M
  dsimp only at hk hp
  subst hk
  subst hp
  rfl
theorem press_congr {L M : Ctl} (hk : L.k = M.k) (hp : L.ps = M.ps) (c : Ck) (t : Int) : c.press L t = c.press M t := by
  obtain ⟨_, _, _, k, ps⟩ := L
  obtain ⟨_, _, _, k', ps'⟩ := M
  dsimp only at hk hp
  subst hk
  subst hp
  rfl
theorem inv_congr {L M : Ctl} {c : Ck} (hk : L.k = M.k) (hp : L.ps = M.ps) (h : Inv L c) : Inv M c := by
  obtain ⟨i1, i2, i3, i4, i5, i6, i7, i8, i9, i10, i11, i12, i13, i14, i15⟩ := h
  rw [hp] at i1 i2 i15
  rw [hk] at i13 i14
  exact ⟨i1, i2, i3, i4, i5, i6, i7, i8, i9, i10, i11, i12, i13, i14, i15⟩
set_option maxHeartbeats 1000000 in
set_option maxRecDepth 100000 in
theorem holds_many {w : World} (k : Int) (po : Option Addr) (pn pcap : Nat) (o : Option Addr) (n cap : Nat) (one two : Int) (hn : 20 < n) :
    Calls Try.prog 4 #[.agg #[.int .i64 k, .slice po pn pcap], .slice o n cap, .int .u16 one, .int .u16 two] w fun e w' => e = .returned (.bool true) ∧ Below w.heap.size w w' := by
  go_enter Try.func4, Try.ntmps4
  go_wp2_with fail
  refine (known_c _).mono ?_
  rintro e W ⟨rfl, hk⟩
  go_wp2
  go_ret
  exact ⟨rfl, below_of_alloc hk⟩
set_option maxHeartbeats 1000000 in
set_option maxRecDepth 100000 in
theorem holds_bad {w : World} (k : Int) (ps : List Per) (po : Option Addr) (pn pcap : Nat) (o : Option Addr) (n cap : Nat) (one two : Int) (hn : n ≤ 20) (hC : CtlArg w k ps po pn) (hv : vld k ps = false) :
    Calls Try.prog 4 #[.agg #[.int .i64 k, .slice po pn pcap], .slice o n cap, .int .u16 one, .int .u16 two] w fun e w' => e = .returned (.bool true) ∧ Below w.heap.size w w' := by
  have hval := fun W (hb : Below w.heap.size w W) => Lib.hid ((hC.below hb).valid (cap := pcap))
  rw [hv] at hval
  have hnn : ¬ 20 < n := by omega
  clear hC
  go_enter Try.func4, Try.ntmps4
  go_wp2_with fail
  refine (hval _ ((Below.refl _ _).alloc (Nat.le_refl _) _)).out.mono ?_
  rintro e V ⟨rfl, hV⟩
  go_wp2_with fail
  refine (known_c _).mono ?_
  rintro e W ⟨rfl, hk⟩
  go_wp2
  go_ret
  exact ⟨rfl, below_of_alloc (hV.trans (hk.mono hV.size))⟩
theorem left_le {L : Ctl} {c : Ck} {s : Bool} {t : Int} (hI : Inv L c) (h1 : c.last ≤ t) (h2 : t ≤ 1099511627776) : c.left L s t ≤ 1099511627776 := by
  have := counted_bd t hI h1 h2
  have := hI.sa1
  have := hI.sb1
  unfold Ck.left
  cases s <;> simp only [Ck.hand] <;> split <;> omega
theorem left_pos {L : Ctl} {c : Ck} {s : Bool} {t : Int} : 0 ≤ c.left L s t := by
  unfold Ck.left
  omega
set_option maxHeartbeats 4000000 in
set_option maxRecDepth 100000 in
theorem holds_main {w : World} (k : Int) (ps : List Per) (pb off pcap : Nat) (o : Option Addr) (n cap : Nat) (us : Nat → Int) (one two : Int) (hn : n ≤ 20) (hP : PerAt w ps pb off) (hv : vld k ps = true)
    (ho : n = 0 ∨ ∃ wb woff, o = some ⟨wb, woff, none⟩ ∧ ∀ i, i < n → w.cell? ⟨wb, woff + i, none⟩ = some (.int .u16 (us i))) (hu : ∀ i, i < n → 0 ≤ us i ∧ us i ≤ 65535) (h1 : 0 ≤ one ∧ one ≤ 65535) (h2 : 0 ≤ two ∧ two ≤ 65535) :
    Calls Try.prog 4 #[.agg #[.int .i64 k, .slice (some ⟨pb, off, none⟩) ps.length pcap], .slice o n cap, .int .u16 one, .int .u16 two] w fun e w' => e = .returned (.bool true) ∧ Below w.heap.size w w' := by
  have hval := fun W (hp : PerAt W ps pb off) => Lib.hid (lvalid_c (w := W) k ps pb off pcap hp)
  rw [hv] at hval
  have hnew := fun W (hp : PerAt W ps pb off) => Lib.hid (new_c (w := W) k ps pb off pcap hp hv)
  have hnn : ¬ 20 < n := by omega
  have hP := Lib.hid hP
  have ho := Lib.hid ho
  have hu := Lib.hid hu
  generalize hT : (ps.getD 0 ⟨0, 0, 0⟩).time = T at *
  generalize hl : ps.length = l at *
  have hT := Lib.hid hT
  have hl := Lib.hid hl
  have hlp := Lib.hid hv
  clear hv
  go_enter Try.func4, Try.ntmps4
  go_wp2_with fail
  refine (hval _ (hP.out.below ((Below.refl _ _).alloc (Nat.le_refl _) _))).out.mono ?_
  rintro e V0 ⟨rfl, hV⟩
  have hX := box_of hV
  have y0 : (V0).cell? ⟨w.heap.size, 0, none⟩ = some (.int .i64 k) := cell_of hX 0 _ rfl
  have y1 : (V0).cell? ⟨w.heap.size, 1, none⟩ = some (.slice (some ⟨pb, off, none⟩) l pcap) := cell_of hX 1 _ rfl
  clear hX
  have hs0 : w.heap.size < V0.heap.size := lt_of_cell y0
  go_wp2_with fail
  refine (hnew _ (hP.out.below (below_of_alloc hV))).out.mono ?_
  rintro e V1 ⟨b1, L1, rfl, k1, p1, hO1, hB1⟩
  replace hV := hV.trans (hB1.mono hV.size)
  clear y0 y1
  have hX := box_of hV
  have y0 : (V1).cell? ⟨w.heap.size, 0, none⟩ = some (.int .i64 k) := cell_of hX 0 _ rfl
  have y1 : (V1).cell? ⟨w.heap.size, 1, none⟩ = some (.slice (some ⟨pb, off, none⟩) l pcap) := cell_of hX 1 _ rfl
  clear hX
  go_wp2_with fail
  refine (hnew _ (hP.out.below (below_of_alloc hV))).out.mono ?_
  rintro e V2 ⟨b2, L2, rfl, k2, p2, hO2, hB2⟩
  have hV0 := hV
  replace hV := hV.trans (hB2.mono hV.size)
  replace hO1 := hO1.past hB2
  obtain ⟨lo1, hi1, hO1, hw1, hh1⟩ : ∃ lo hi, Own lo hi V2 b1 L1 (Ck.new T) ∧ w.heap.size + 1 ≤ lo ∧ hi ≤ V1.heap.size := ⟨_, _, hO1, hs0, Nat.le_refl _⟩
  obtain ⟨lo2, hi2, hO2, hw2⟩ : ∃ lo hi, Own lo hi V2 b2 L2 (Ck.new T) ∧ hi1 ≤ lo := ⟨_, _, hO2, hh1⟩
  have hl1 : lo1 < hi1 := by have := hO1.bnd; omega
  clear y0 y1 hB1 hB2 hV0 hh1
  have g1 : Good L1 := by unfold Good; rw [k1, p1]; exact hlp.out
  have g2 : Good L2 := by unfold Good; rw [k2, p2]; exact hlp.out
  have kk : L2.k = L1.k := by rw [k1, k2]
  have pp : L2.ps = L1.ps := by rw [p1, p2]
  obtain ⟨r1, r2⟩ := rdy_start g1
  have i1 := inv_new g1
  have i2 := inv_new g2
  have q2 := start_congr kk pp (Ck.new T) 0
  rw [p1, hT.out] at r1 r2 i1
  rw [p2, hT.out] at i2
  rw [r1] at q2
  have kk := Lib.hid kk
  have pp := Lib.hid pp
  have k1 := Lib.hid k1
  have p1 := Lib.hid p1
  clear k2 p2
  generalize hc0 : ({ Ck.new T with runs := true } : Ck) = c0 at *
  have hs1 := start_o 0 hO1 i1
  rw [r1] at hs1
  go_wp2_with fail
  refine hs1.mono ?_
  rintro e V3 ⟨rfl, hO1', hg⟩
  replace hV := hV.trans (hO1.below hg (by simp; omega))
  replace hO2 := hO2.far hg (by have := hO1.bnd; omega)
  replace hO1 := hO1'
  clear hg hO1' hs1
  have hs2 := start_o 0 hO2 i2
  rw [q2] at hs2
  go_wp2_with fail
  refine hs2.mono ?_
  rintro e V4 ⟨rfl, hO2', hg⟩
  replace hV := hV.trans (hO2.below hg (by simp; omega))
  replace hO1 := hO1.far hg (by have := hO2.bnd; omega)
  replace hO2 := hO2'
  clear hg hO2' hs2 r1 q2 i1 i2 hc0
  go_wp2_with fail
  go_loopw [13, 14] (fun t i wr => ∃ (j : Nat) (tt : Int) (c : Ck), i = .int .i64 j ∧ t = .int .i64 tt ∧ j ≤ n ∧ 0 ≤ tt ∧ tt ≤ 65535 * (j : Int) ∧ Rdy L1 c tt j ∧ Own lo1 hi1 wr b1 L1 c ∧ Own lo2 hi2 wr b2 L2 c ∧
      Below (w.heap.size + 1) (w.alloc (.cells #[.int .i64 k, .slice (some ⟨pb, off, none⟩) l pcap] 25 (0, 0))) wr) (fun _ i _ => n - (intOf i).toNat)
  case atStart =>
    exact ⟨0, 0, c0, rfl, rfl, by omega, by omega, by omega, r2, hO1, hO2, by simpa using hV⟩
  case round =>
    obtain ⟨j, tt, c, rfl, rfl, hj, ht0, ht1, hR, hO1, hO2, hB⟩ := hrel
    have hV : Below (w.alloc (.cells #[.int .i64 k, .slice (some ⟨pb, off, none⟩) l pcap] 25 (0, 0))).heap.size (w.alloc (.cells #[.int .i64 k, .slice (some ⟨pb, off, none⟩) l pcap] 25 (0, 0))) wr := by simpa using hB
    clear hB
    by_cases hjn : j = n
    · subst hjn
      clear hu ho
      have hX := box_of hV
      have y0 : (wr).cell? ⟨w.heap.size, 0, none⟩ = some (.int .i64 k) := cell_of hX 0 _ rfl
      have y1 : (wr).cell? ⟨w.heap.size, 1, none⟩ = some (.slice (some ⟨pb, off, none⟩) l pcap) := cell_of hX 1 _ rfl
      clear hX
      have hR0 := hR.inv
      have hlf : ∀ (s : Bool) (si t : Int) W, sideI s = si → Own lo1 hi1 W b1 L1 c → tt ≤ t → t ≤ 1099511627776 → Calls Try.prog 20 #[.pointer (some ⟨b1, 0, none⟩), .int .i64 si, .int .i64 t] W fun e w' => e = .returned (.tuple #[.int .i64 (c.left L1 s t), .int .i64 0]) ∧ W.grownBy w' none := by
        rintro s si t W rfl hO t1 t2
        have h := left_c s t hO.clk hO.ctl hR0
        rw [(left_two hR t1 t2 s).1] at h
        exact h.grown
      have hfl : ∀ (t : Int) W, Own lo1 hi1 W b1 L1 c → tt ≤ t → t ≤ 1099511627776 → Calls Try.prog 19 #[.pointer (some ⟨b1, 0, none⟩), .int .i64 t] W fun e w' => e = .returned (.tuple #[.bool (decide (c.left L1 c.side t = 0)), .int .i64 0]) ∧ W.grownBy w' none := by
        intro t W hO t1 t2
        have h := flag_c t hO.clk hO.ctl hR0
        rw [(left_two hR t1 t2 false).2, fallen_left] at h
        exact h.grown
      have hlf := Lib.hid hlf
      have hfl := Lib.hid hfl
      have hsn := Lib.hid (show sideI (!c.side) = 1 - sideI c.side by cases c.side <;> rfl)
      obtain ⟨sb0, sb1⟩ := sideI_bd c.side
      have hmv : ∀ W, Own lo1 hi1 W b1 L1 c → Calls Try.prog 21 #[.pointer (some ⟨b1, 0, none⟩)] W fun e w' => e = .returned (.tuple #[.int .i64 (sideI c.side), .bool true]) ∧ W.grownBy w' none := by
        intro W hO
        have h := (move_c hO.clk).grown
        rw [hR.runs] at h
        exact h
      have hmv := Lib.hid hmv
      go_upto_region 24 with (fail)
      go_cut [165] (fun v wx => v = .bool (decide (l = 1 ∧ k = 0)) ∧ wx = wr)
      case first =>
        by_cases hl1 : l = 1
        · have hl1b : ((l : Int) == 1) = true := by simp [hl1]
          go_wp2_with fail
          go_meet
          case rel => exact ⟨congrArg Value.bool (by rw [Bool.eq_iff_iff]; simp [hl1]), rfl⟩
        · have hl1b : ((l : Int) == 1) = false := by
            simp
            omega
          go_wp2_with fail
          go_meet
          case rel => exact ⟨congrArg Value.bool (by simp [hl1]), rfl⟩
      case rest =>
        obtain ⟨cd, hcd⟩ : ∃ cd, decide (l = 1 ∧ k = 0) = cd := ⟨_, rfl⟩
        rw [hcd] at hcut
        replace hcd := Lib.hid hcd
        obtain ⟨rfl, rfl⟩ := hcut
        go_upto_if 165 with (fail)
        go_cut [13] (fun v wx => v = .int .i64 tt ∧ Own lo1 hi1 wx b1 L1 c ∧ Below (w.alloc (.cells #[.int .i64 k, .slice (some ⟨pb, off, none⟩) l pcap] 25 (0, 0))).heap.size (w.alloc (.cells #[.int .i64 k, .slice (some ⟨pb, off, none⟩) l pcap] 25 (0, 0))) wx)
        case first =>
          as_aux_lemma =>
          cases cd
          · go_wp2_with fail
            go_meet
            case rel => exact ⟨rfl, hO1, hV⟩
          · have hlk : l = 1 ∧ k = 0 := by have := hcd.out; simpa using this
            obtain ⟨hl1, hk0⟩ := hlk
            have hsum := left_sum hR (k1.out.trans hk0) (by rw [p1.out, hl.out]; exact hl1)
            rw [p1.out, hT.out] at hsum
            have hle1 := left_le (s := false) (t := tt) hR0 (by have := hR.last; omega) (by omega)
            have hle2 := left_le (s := true) (t := tt) hR0 (by have := hR.last; omega) (by omega)
            have hp1 := left_pos (L := L1) (c := c) (s := false) (t := tt)
            have hp2 := left_pos (L := L1) (c := c) (s := true) (t := tt)
            have hne : (c.left L1 false tt + c.left L1 true tt + tt != 2 * T) = false := by simp [hsum]
            have hTb : 0 ≤ T ∧ T ≤ 1099511627776 * 2 := by omega
            obtain ⟨hT1, hT2⟩ := hTb
            have hzw := (hP.out.at 0 (by have := hl.out; omega)).2.1
            rw [hT.out] at hzw
            simp only [Nat.zero_mul, Nat.add_zero] at hzw
            have hzw := Lib.hid hzw
            have hl0 : 0 < l := by omega
            clear hk0 hsum hl1
            go_wp2_with fail
            refine (hlf.out false _ tt _ rfl hO1 (by omega) (by omega)).mono ?_
            rintro e W ⟨rfl, hg⟩
            replace hV := hV.trans ((below_grown hg).mono hV.size)
            replace hO1 := hO1.none hg
            clear hg
            go_wp2_with fail
            clear y0 y1
            refine (hlf.out true _ tt _ rfl hO1 (by omega) (by omega)).mono ?_
            rintro e W ⟨rfl, hg⟩
            replace hV := hV.trans ((below_grown hg).mono hV.size)
            replace hO1 := hO1.none hg
            clear hg
            have hX := box_of hV
            have y0 : (W).cell? ⟨w.heap.size, 0, none⟩ = some (.int .i64 k) := cell_of hX 0 _ rfl
            have y1 : (W).cell? ⟨w.heap.size, 1, none⟩ = some (.slice (some ⟨pb, off, none⟩) l pcap) := cell_of hX 1 _ rfl
            clear hX
            have z1 := below_at (below_of_alloc hV) hzw.out
            have hzl := lt_of_cell z1
            go_wp2_with fail
            go_meet
            case rel => exact ⟨rfl, hO1, hV⟩
        case rest =>
          as_aux_lemma =>
          obtain ⟨rfl, hO1, hV⟩ := hcut
          clear y0 y1
          go_upto_region 30 with (first | (refine (hmv.out _ hO1).mono ?_; rintro e W ⟨rfl, hg⟩; replace hV := hV.trans ((below_grown hg).mono hV.size); replace hO1 := hO1.none hg; clear hg))
          clear hmv
          go_cut [28, 29] (fun a b wx => ∃ F S : Int, a = .int .i64 F ∧ b = .int .i64 S ∧ tt ≤ F ∧ F ≤ S ∧ S ≤ tt + 65535 ∧ wx = W)
          case first =>
            go_wp2_with fail
            all_goals
              go_meet
              case rel => exact ⟨_, _, rfl, rfl, by omega, by omega, by omega, rfl⟩
          case rest =>
            obtain ⟨F, S, rfl, rfl, hF1, hF2, hF3, rfl⟩ := hcut
            go_wp2_with fail
            refine (hlf.out c.side _ F _ rfl hO1 (by omega) (by omega)).mono ?_
            rintro e W ⟨rfl, hg⟩
            replace hV := hV.trans ((below_grown hg).mono hV.size)
            replace hO1 := hO1.none hg
            clear hg
            go_wp2_with fail
            refine (hlf.out c.side _ S _ rfl hO1 (by omega) (by omega)).mono ?_
            rintro e W ⟨rfl, hg⟩
            replace hV := hV.trans ((below_grown hg).mono hV.size)
            replace hO1 := hO1.none hg
            clear hg
            go_wp2_with fail
            refine (hlf.out (!c.side) _ F _ hsn.out hO1 (by omega) (by omega)).mono ?_
            rintro e W ⟨rfl, hg⟩
            replace hV := hV.trans ((below_grown hg).mono hV.size)
            replace hO1 := hO1.none hg
            clear hg
            go_wp2_with fail
            refine (hlf.out (!c.side) _ S _ hsn.out hO1 (by omega) (by omega)).mono ?_
            rintro e W ⟨rfl, hg⟩
            replace hV := hV.trans ((below_grown hg).mono hV.size)
            replace hO1 := hO1.none hg
            clear hg
            go_wp2_with fail
            have m1 := left_mono (L := L1) (t := F) (u := S) hR (by omega) (by omega)
            have m2 := left_other (L := L1) (c := c) (t := F) (u := S)
            have m3 := left_pos (L := L1) (c := c) (s := c.side) (t := S)
            rw [m2]
            refine (hfl.out F _ hO1 (by omega) (by omega)).mono ?_
            rintro e W ⟨rfl, hg⟩
            replace hV := hV.trans ((below_grown hg).mono hV.size)
            replace hO1 := hO1.none hg
            clear hg m2
            have hfS := fun W hO => Lib.hid (hfl.out S W hO (by omega) (by omega))
            generalize c.left L1 c.side F = A at *
            generalize c.left L1 c.side S = B at *
            clear hfl hlf hsn
            by_cases q1 : A = 0
            · obtain rfl : B = 0 := by omega
              subst q1
              go_wp2_with fail
              refine (hfS _ hO1).out.mono ?_
              rintro e W ⟨rfl, hg⟩
              replace hV := hV.trans ((below_grown hg).mono hV.size)
              clear hg
              go_wp2_with fail
              refine (known_c _).mono ?_
              rintro e W ⟨rfl, hk⟩
              go_wp2
              go_ret
              exact ⟨rfl, below_of_alloc (hV.trans (hk.mono hV.size))⟩
            · have q1b : (A == 0) = false := by simp [q1]
              have q1d : decide (A = 0) = false := by simp [q1]
              by_cases q2 : B = 0
              · subst q2
                go_wp2_with fail
                refine (hfS _ hO1).out.mono ?_
                rintro e W ⟨rfl, hg⟩
                replace hV := hV.trans ((below_grown hg).mono hV.size)
                clear hg
                go_wp2_with fail
                refine (known_c _).mono ?_
                rintro e W ⟨rfl, hk⟩
                go_wp2
                go_ret
                exact ⟨rfl, below_of_alloc (hV.trans (hk.mono hV.size))⟩
              · have q2b : (B == 0) = false := by simp [q2]
                have q2d : decide (B = 0) = false := by simp [q2]
                go_wp2_with fail
                refine (hfS _ hO1).out.mono ?_
                rintro e W ⟨rfl, hg⟩
                replace hV := hV.trans ((below_grown hg).mono hV.size)
                clear hg
                go_wp2_with fail
                refine (known_c _).mono ?_
                rintro e W ⟨rfl, hk⟩
                go_wp2
                go_ret
                exact ⟨rfl, below_of_alloc (hV.trans (hk.mono hV.size))⟩
    · as_aux_lemma =>
      have hjl : j < n := by omega
      obtain h0 | ⟨wb, woff, ho, hcell⟩ := ho.out
      · omega
      subst ho
      obtain ⟨u0, u1⟩ := hu.out j hjl
      have hcw := Lib.hid (hcell j hjl)
      have hcj := below_at (below_of_alloc hV) (hcell j hjl)
      have hlt := lt_of_cell hcj
      generalize us j = u at *
      clear hcell ho
      have hR0 := hR.inv
      obtain ⟨ks, ki, kc⟩ := wait_law (half := tt + u / 2) (now' := tt + u) g1 hR (by omega) (by omega) (by omega) (by omega)
      have a1 := stop_o (tt + u / 2) hO2 (inv_congr kk.out.symm pp.out.symm hR0)
      rw [show c.stop (tt + u / 2) = ((c.stop (tt + u / 2)).1, 0) from Prod.ext rfl ks] at a1
      generalize (c.stop (tt + u / 2)).1 = d at *
      clear ks
      have kc := Lib.hid kc
      go_wp2_with fail
      refine a1.mono ?_
      rintro e W1 ⟨rfl, hN, hg⟩
      replace hV := hV.trans (hO2.below hg (by simp; omega))
      replace hO1 := hO1.far hg (by have := hO2.bnd; omega)
      replace hO2 := hN
      clear hg hN a1
      go_wp2_with fail
      have i2 := inv_start ki (tt + u / 2)
      have a2 := start_o (tt + u / 2) hO2 (inv_congr kk.out.symm pp.out.symm ki)
      rw [start_congr kk.out pp.out] at a2
      obtain ⟨e1, e2, e3, e4⟩ | ⟨e1, e2, e3⟩ := kc.out
      · rw [show d.start L1 (tt + u / 2) = ((d.start L1 (tt + u / 2)).1, 410) from Prod.ext rfl e1] at a2
        generalize (d.start L1 (tt + u / 2)).1 = d2 at *
        clear e1 kc
        have e2 := Lib.hid e2
        have e3 := Lib.hid e3
        have e4 := Lib.hid e4
        refine a2.mono ?_
        rintro e W2 ⟨rfl, hN, hg⟩
        replace hV := hV.trans (hO2.below hg (by simp; omega))
        replace hO1 := hO1.far hg (by have := hO2.bnd; omega)
        replace hO2 := hN
        clear hg hN a2
        have a3 := press_o (tt + u) hO1 hR0 g1
        rw [show c.press L1 (tt + u) = ((c.press L1 (tt + u)).1, 410) from Prod.ext rfl e3.out] at a3
        have e4 := e4.out
        have i3 := inv_press g1 hR0 (tt + u)
        generalize (c.press L1 (tt + u)).1 = c2 at *
        have e4 := Lib.hid e4
        clear e3
        clear hcj
        have hcj := below_at (below_of_alloc hV) hcw.out
        go_wp2_with fail
        refine a3.mono ?_
        rintro e W3 ⟨rfl, hN, hg⟩
        replace hV := hV.trans (hO1.below hg (by simp; omega))
        replace hO2 := hO2.far hg (by have := hO1.bnd; omega)
        replace hO1 := hN
        clear hg hN a3
        clear hcj
        have a4 := press_o (tt + u) hO2 (inv_congr kk.out.symm pp.out.symm i2) g2
        rw [press_congr kk.out pp.out, show d2.press L1 (tt + u) = ((d2.press L1 (tt + u)).1, 8) from Prod.ext rfl e2.out] at a4
        generalize (d2.press L1 (tt + u)).1 = d3 at *
        clear e2
        go_wp2_with fail
        refine a4.mono ?_
        rintro e W4 ⟨rfl, hN, hg⟩
        replace hV := hV.trans (hO2.below hg (by simp; omega))
        replace hO1 := hO1.far hg (by have := hO2.bnd; omega)
        replace hO2 := hN
        clear hg hN a4
        have a5 := flag_c (tt + u) hO1.clk hO1.ctl i3
        rw [e4.out] at a5
        go_wp2_with fail
        refine (Quiet.grown a5).mono ?_
        rintro e W5 ⟨rfl, hg⟩
        replace hV := hV.trans ((below_grown hg).mono hV.size)
        clear hg a5
        go_wp2_with fail
        refine (known_c _).mono ?_
        rintro e W ⟨rfl, hk⟩
        go_wp2
        go_ret
        exact ⟨rfl, below_of_alloc (hV.trans (hk.mono hV.size))⟩
      · rw [show d.start L1 (tt + u / 2) = ((d.start L1 (tt + u / 2)).1, 0) from Prod.ext rfl e1] at a2
        generalize (d.start L1 (tt + u / 2)).1 = d2 at *
        clear e1 kc
        have e2 := Lib.hid e2
        have e3 := Lib.hid e3
        refine a2.mono ?_
        rintro e W2 ⟨rfl, hN, hg⟩
        replace hV := hV.trans (hO2.below hg (by simp; omega))
        replace hO1 := hO1.far hg (by have := hO2.bnd; omega)
        replace hO2 := hN
        clear hg hN a2
        clear hcj
        have hcj := below_at (below_of_alloc hV) hcw.out
        have i3 := inv_press g1 hR0 (tt + u)
        have a3 := press_o (tt + u) hO1 hR0 g1
        obtain ⟨f1, f2⟩ | ⟨f1, f2, f3⟩ := e3.out
        · rw [show c.press L1 (tt + u) = ((c.press L1 (tt + u)).1, 410) from Prod.ext rfl f1] at a3
          have e2 := e2.out.trans f1
          generalize (c.press L1 (tt + u)).1 = c2 at *
          have f2 := Lib.hid f2
          clear e3 f1
          go_wp2_with fail
          refine a3.mono ?_
          rintro e W3 ⟨rfl, hN, hg⟩
          replace hV := hV.trans (hO1.below hg (by simp; omega))
          replace hO2 := hO2.far hg (by have := hO1.bnd; omega)
          replace hO1 := hN
          clear hg hN a3
          clear hcj
          have a4 := press_o (tt + u) hO2 (inv_congr kk.out.symm pp.out.symm i2) g2
          rw [press_congr kk.out pp.out, show d2.press L1 (tt + u) = ((d2.press L1 (tt + u)).1, 410) from Prod.ext rfl e2] at a4
          generalize (d2.press L1 (tt + u)).1 = d3 at *
          clear e2
          go_wp2_with fail
          refine a4.mono ?_
          rintro e W4 ⟨rfl, hN, hg⟩
          replace hV := hV.trans (hO2.below hg (by simp; omega))
          replace hO1 := hO1.far hg (by have := hO2.bnd; omega)
          replace hO2 := hN
          clear hg hN a4
          have a5 := flag_c (tt + u) hO1.clk hO1.ctl i3
          rw [f2.out] at a5
          go_wp2_with fail
          refine (Quiet.grown a5).mono ?_
          rintro e W5 ⟨rfl, hg⟩
          replace hV := hV.trans ((below_grown hg).mono hV.size)
          clear hg a5
          go_wp2_with fail
          refine (known_c _).mono ?_
          rintro e W ⟨rfl, hk⟩
          go_wp2
          go_ret
          exact ⟨rfl, below_of_alloc (hV.trans (hk.mono hV.size))⟩
        · rw [show c.press L1 (tt + u) = ((c.press L1 (tt + u)).1, 0) from Prod.ext rfl f1] at a3
          have e2 := e2.out.trans f1
          have a4 := fun W (hO : Own lo2 hi2 W b2 L2 d2) => press_o (tt + u) hO (inv_congr kk.out.symm pp.out.symm i2) g2
          rw [press_congr kk.out pp.out, show d2.press L1 (tt + u) = ((c.press L1 (tt + u)).1, 0) from Prod.ext f2 e2] at a4
          generalize (c.press L1 (tt + u)).1 = c2 at *
          have f3 := Lib.hid f3
          clear e3 f1 f2 e2
          have a4 := Lib.hid a4
          go_wp2_with fail
          refine a3.mono ?_
          rintro e W3 ⟨rfl, hN, hg⟩
          replace hV := hV.trans (hO1.below hg (by simp; omega))
          replace hO2 := hO2.far hg (by have := hO1.bnd; omega)
          replace hO1 := hN
          clear hg hN a3
          clear hcj
          go_wp2_with fail
          refine (a4.out _ hO2).mono ?_
          rintro e W4 ⟨rfl, hN, hg⟩
          replace hV := hV.trans (hO2.below hg (by simp; omega))
          replace hO1 := hO1.far hg (by have := hO2.bnd; omega)
          replace hO2 := hN
          clear hg hN a4
          go_wp2
          go_roundw
          case rel =>
            first
              | (refine ⟨j + 1, tt + u, c2, by simp, rfl, by omega, by omega, by omega, f3.out, hO1, hO2, ?_⟩)
              | ((repeat apply Exists.intro); refine And.intro ?_ rfl; refine ⟨j + 1, tt + u, c2, by simp, rfl, by omega, by omega, by push_cast; omega, f3.out, hO1, hO2, ?_⟩)
            simpa using hV
          case measure =>
            simp [intOf] <;> omega
end Go.Proofs.Ytgigehlflgcdpaa
