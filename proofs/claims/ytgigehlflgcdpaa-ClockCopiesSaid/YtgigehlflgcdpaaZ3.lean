/- The law on copies: its walk. Conditions: the arguments lie in memory. -/
import Derived.Test.YtgigehlflgcdpaaZ2
set_option linter.unusedVariables false
set_option linter.unusedSimpArgs false
namespace Go.Proofs.Ytgigehlflgcdpaa
open Go.RowKit
theorem Mid.own {w W : World} {b mb : Nat} {L : Ctl} {r : Rf} {c c' : Ck} (h : Mid w W b mb L r c c') : Pair w (W.setCells mb 0 (c'.rcells L r).toList) b mb L r c' := by
  have hg := grown_setCells3 (g := mb) (c'.rcells L r).toList 0 W (grown_refl W (some mb))
  exact ⟨h.clk.grown hg (by simpa using h.ne.1.symm), h.ctl.grown hg (by simpa using h.ne.2.1.symm) (by simpa using h.ne.2.2.symm), h.inv, h.bc, h.bp, h.lo, h.ne, setCells_same h.mod rfl, setCells_below h.lo.2.2.2 _ _ _ h.below⟩
/-- two clocks with their references, apart -/
structure Duo (w W : World) (b1 m1 b2 m2 : Nat) (L : Ctl) (r : Rf) (c1 c2 : Ck) : Prop where
  one : Pair w W b1 m1 L r c1
  two : Pair w W b2 m2 L r c2
  bb : b1 ≠ b2
  mm : m1 ≠ m2
  mb : m1 ≠ b2
  bm : b1 ≠ m2
theorem Duo.flip {w W : World} {b1 m1 b2 m2 : Nat} {L : Ctl} {r : Rf} {c1 c2 : Ck} (h : Duo w W b1 m1 b2 m2 L r c1 c2) : Duo w W b2 m2 b1 m1 L r c2 c1 :=
  ⟨h.two, h.one, h.bb.symm, h.mm.symm, h.bm.symm, h.mb.symm⟩
/-- a pair behind what wrote another block -/
theorem Pair.far {w W V : World} {b m g : Nat} {L : Ctl} {r : Rf} {c : Ck} (h : Pair w W b m L r c) (hg : W.grownBy V (some g)) (hB : Below w.heap.size w V) (h1 : b ≠ g) (h2 : m ≠ g) (h3 : L.cb ≠ g) (h4 : L.pb ≠ g) : Pair w V b m L r c :=
  ⟨h.clk.grown hg (by simpa using h1), h.ctl.grown hg (by simpa using h3) (by simpa using h4), h.inv, h.bc, h.bp, h.lo, h.ne, (hg.block m (Array.getElem?_eq_some_iff.1 h.mod).1 (by simpa using h2)).trans h.mod, hB⟩
/-- a step on the first of two -/
theorem Duo.step {w W V : World} {b1 m1 b2 m2 b' : Nat} {L : Ctl} {r : Rf} {c1 c2 c' : Ck} (h : Duo w W b1 m1 b2 m2 L r c1 c2) (hC : ClkAt V b' L c') (hI : Inv L c') (hb : b' = b1 ∨ W.heap.size ≤ b') (hg : W.grownBy V (some b1)) :
    Duo w (V.setCells m1 0 (c'.rcells L r).toList) b' m1 b2 m2 L r c' c2 := by
  have hM := Mid.of_step h.one hC hI hb hg
  have h2 := h.two.far hg hM.below h.bb.symm h.bm.symm h.one.bc.symm h.one.bp.symm
  have hO := hM.own
  have hs := grown_setCells3 (g := m1) (c'.rcells L r).toList 0 V (grown_refl V (some m1))
  have h3 := h2.far hs hO.below h.mb.symm h.mm.symm h.one.ne.2.1.symm h.one.ne.2.2.symm
  have l2 : b2 < W.heap.size := (Array.getElem?_eq_some_iff.1 h.two.clk).1
  have l3 : m2 < W.heap.size := (Array.getElem?_eq_some_iff.1 h.two.mod).1
  have n1 := h.bb
  have n2 := h.bm
  exact ⟨hO, h3, by rcases hb with e | e <;> omega, h.mm, h.mb, by rcases hb with e | e <;> omega⟩
set_option maxHeartbeats 1000000 in
theorem copies_many {w : World} (k : Int) (po : Option Addr) (pn pcap : Nat) (o1 : Option Addr) (n1 c1 : Nat) (o2 : Option Addr) (n2 c2 : Nat) (o3 : Option Addr) (n3 c3 : Nat) (hn : 15 < n1 ∨ 15 < n2 ∨ 15 < n3) :
    Calls Try.prog 6 #[.agg #[.int .i64 k, .slice po pn pcap], .slice o1 n1 c1, .slice o2 n2 c2, .slice o3 n3 c3] w fun e w' => e = .returned (.bool true) ∧ Below w.heap.size w w' := by
  by_cases h1 : 15 < n1
  · clear hn
    go_enter Try.func6, Try.ntmps6
    go_wp2_with fail
    refine (known_c _).mono ?_
    rintro e W ⟨rfl, hk⟩
    go_wp2
    go_ret
    exact ⟨rfl, below_of_alloc hk⟩
  by_cases h2 : 15 < n2
  · clear hn
    go_enter Try.func6, Try.ntmps6
    go_wp2_with fail
    refine (known_c _).mono ?_
    rintro e W ⟨rfl, hk⟩
    go_wp2
    go_ret
    exact ⟨rfl, below_of_alloc hk⟩
  · have h3 : 15 < n3 := by omega
    clear hn
    go_enter Try.func6, Try.ntmps6
    go_wp2_with fail
    refine (known_c _).mono ?_
    rintro e W ⟨rfl, hk⟩
    go_wp2
    go_ret
    exact ⟨rfl, below_of_alloc hk⟩
set_option maxHeartbeats 1000000 in
theorem copies_bad {w : World} (k : Int) (ps : List Per) (po : Option Addr) (pn pcap : Nat) (o1 : Option Addr) (n1 c1 : Nat) (o2 : Option Addr) (n2 c2 : Nat) (o3 : Option Addr) (n3 c3 : Nat) (h1 : ¬ 15 < n1) (h2 : ¬ 15 < n2) (h3 : ¬ 15 < n3) (hC : CtlArg w k ps po pn) (hv : vld k ps = false) :
    Calls Try.prog 6 #[.agg #[.int .i64 k, .slice po pn pcap], .slice o1 n1 c1, .slice o2 n2 c2, .slice o3 n3 c3] w fun e w' => e = .returned (.bool true) ∧ Below w.heap.size w w' := by
  have hval := fun W (hb : Below w.heap.size w W) => Lib.hid ((hC.below hb).valid (cap := pcap))
  rw [hv] at hval
  clear hC
  go_enter Try.func6, Try.ntmps6
  go_wp2_with fail
  refine (hval _ ((Below.refl _ _).alloc (Nat.le_refl _) _)).out.mono ?_
  rintro e V ⟨rfl, hV⟩
  go_wp2_with fail
  refine (known_c _).mono ?_
  rintro e W ⟨rfl, hk⟩
  go_wp2
  go_ret
  exact ⟨rfl, below_of_alloc (hV.trans (hk.mono hV.size))⟩
/-- two pairs behind what grew -/
theorem Duo.grow {w W V : World} {b1 m1 b2 m2 : Nat} {L : Ctl} {r : Rf} {c1 c2 : Ck} (h : Duo w W b1 m1 b2 m2 L r c1 c2) (hg : W.grownBy V none) : Duo w V b1 m1 b2 m2 L r c1 c2 :=
  ⟨h.one.grow hg, h.two.grow hg, h.bb, h.mm, h.mb, h.bm⟩
theorem Duo.drew {w W : World} {b1 m1 b2 m2 : Nat} {L : Ctl} {r : Rf} {c1 c2 : Ck} (h : Duo w W b1 m1 b2 m2 L r c1 c2) : Duo w W.drew b1 m1 b2 m2 L r c1 c2 :=
  h.grow (grown_drew (grown_refl W none))
/-- where the blocks of a pair lie -/
def Fits (W : World) (b mb : Nat) (L : Ctl) : Prop := b < W.heap.size ∧ L.cb < W.heap.size ∧ L.pb < W.heap.size ∧ mb < W.heap.size
theorem Pair.fits {w W : World} {b mb : Nat} {L : Ctl} {r : Rf} {c : Ck} (h : Pair w W b mb L r c) : Fits W b mb L :=
  ⟨(Array.getElem?_eq_some_iff.1 h.clk).1, (Array.getElem?_eq_some_iff.1 h.ctl.ctl).1, ctl_pb h.ctl (by have := h.inv.pa; omega), (Array.getElem?_eq_some_iff.1 h.mod).1⟩
/-- a copy of a clock, and of the reference -/
theorem Pair.twin {w w0 W : World} {b mb b2 m2 : Nat} {L : Ctl} {r : Rf} {c : Ck} (h : Pair w W b mb L r c) (hN : ClkAt W b2 L c) (hb2 : w0.heap.size ≤ b2) (hf : Fits w0 b mb L) (hz : W.heap[m2]? = some (.cells zeros 37 (0, 0))) (hm2 : w0.heap.size ≤ m2) (hne : b2 ≠ m2 := by omega) :
    Duo w (W.setCells m2 0 (c.rcells L r).toList) b mb b2 m2 L r c c := by
  obtain ⟨f1, f2, f3, f4⟩ := hf
  obtain ⟨l1, l2, l3, l4⟩ := h.lo
  have hg := grown_setCells3 (g := m2) (c.rcells L r).toList 0 W (grown_refl W (some m2))
  have hB : Below w.heap.size w (W.setCells m2 0 (c.rcells L r).toList) := setCells_below (by omega) _ _ _ h.below
  have h1 := h.far hg hB (by omega) (by omega) (by omega) (by omega)
  exact ⟨h1, ⟨hN.grown hg (by simpa using hne), h1.ctl, h.inv, by omega, by omega, ⟨by omega, l2, l3, by omega⟩, ⟨by omega, by omega, by omega⟩, setCells_same hz rfl, hB⟩, by omega, by omega, by omega, by omega⟩
set_option maxHeartbeats 4000000 in
set_option maxRecDepth 100000 in
theorem copies_main {w : World} (k : Int) (ps : List Per) (pb off pcap : Nat) (o1 : Option Addr) (n1 d1 : Nat) (o2 : Option Addr) (n2 d2 : Nat) (o3 : Option Addr) (n3 d3 : Nat) (a1 a2 a3 : Nat → Int × Int × Int × Int) (h1 : ¬ 15 < n1) (h2 : ¬ 15 < n2) (h3 : ¬ 15 < n3) (hP : PerAt w ps pb off) (hv : vld k ps = true)
    (ho1 : n1 = 0 ∨ ∃ ab aoff, o1 = some ⟨ab, aoff, none⟩ ∧ ∀ i, i < n1 → ActAt w ab aoff i (a1 i)) (ho2 : n2 = 0 ∨ ∃ ab aoff, o2 = some ⟨ab, aoff, none⟩ ∧ ∀ i, i < n2 → ActAt w ab aoff i (a2 i)) (ho3 : n3 = 0 ∨ ∃ ab aoff, o3 = some ⟨ab, aoff, none⟩ ∧ ∀ i, i < n3 → ActAt w ab aoff i (a3 i)) :
    Calls Try.prog 6 #[.agg #[.int .i64 k, .slice (some ⟨pb, off, none⟩) ps.length pcap], .slice o1 n1 d1, .slice o2 n2 d2, .slice o3 n3 d3] w fun e w' => e = .returned (.bool true) ∧ Below w.heap.size w w' := by
  have hval := fun W (hp : PerAt W ps pb off) => Lib.hid (lvalid_c (w := W) k ps pb off pcap hp)
  rw [hv] at hval
  have hnew := fun W (hp : PerAt W ps pb off) => Lib.hid (new_c (w := W) k ps pb off pcap hp hv)
  have hP := Lib.hid hP
  have ho1 := Lib.hid ho1
  have ho2 := Lib.hid ho2
  have ho3 := Lib.hid ho3
  obtain ⟨T, hT⟩ : ∃ T, (ps.getD 0 ⟨0, 0, 0⟩).time = T := ⟨_, rfl⟩
  obtain ⟨l, hl⟩ : ∃ l, ps.length = l := ⟨_, rfl⟩
  rw [hl] at hval hnew ⊢
  rw [hT] at hnew
  have hT := Lib.hid hT
  have hl := Lib.hid hl
  have hvh := Lib.hid hv
  clear hv
  go_enter Try.func6, Try.ntmps6
  go_wp2_with fail
  refine (hval _ (hP.out.below ((Below.refl _ _).alloc (Nat.le_refl _) _))).out.mono ?_
  rintro e V0 ⟨rfl, hV⟩
  have hX := box_of hV
  have y0 := cell_of hX 0 (.int .i64 k) rfl
  have y1 := cell_of hX 1 (.slice (some ⟨pb, off, none⟩) l pcap) rfl
  have hB := below_of_alloc hV
  have hs0 : w.heap.size < V0.heap.size := lt_of_cell y0
  clear hV
  go_wp2_with fail
  refine (hnew _ (hP.out.below hB)).out.mono ?_
  rintro e V1 ⟨b, L, rfl, k1, p1, hO, hB1⟩
  have hX1 := below_blk hB1 hX
  have hBv := hB.trans (hB1.mono hB.size)
  clear y0 y1
  have y0 := cell_of hX1 0 (.int .i64 k) rfl
  have y1 := cell_of hX1 1 (.slice (some ⟨pb, off, none⟩) l pcap) rfl
  have gL : Good L := by unfold Good; rw [k1, p1]; exact hvh.out
  have iL := inv_new gL
  rw [p1, hT.out] at iL
  have hmade : ∀ W, PerAt W ps pb off → Hid (Pure 13 #[.agg #[.int .i64 k, .slice (some ⟨pb, off, none⟩) l pcap]] W (.agg ((Ck.new T).rcells L ⟨pb, off, pcap⟩))) := by
    intro W hp
    have h := made_r (w := W) (L := L) ⟨pb, off, pcap⟩ (p := L.ps.getD 0 ⟨0, 0, 0⟩) (by rw [p1]; exact hp) gL.first gL.hdr.2.1
    rw [k1, p1, hl.out, hT.out] at h
    exact Lib.hid h
  replace k1 := Lib.hid k1
  replace p1 := Lib.hid p1
  clear hval hnew hX hB
  go_wp2_with fail
  refine (hmade V1 (hP.out.below hBv)).out.mono ?_
  rintro e V2 ⟨rfl, hV2⟩
  have hX2 := below_blk hV2 hX1
  have hB2 := hBv.trans (hV2.mono hBv.size)
  have hO2 := hO.past hV2
  have hsz : V0.heap.size ≤ V1.heap.size := hB1.size
  clear y0 y1 hmade hX1 hBv hB1
  dsimp only [Ck.rcells, Ck.new, sideI]
  go_wp2_with fail
  obtain ⟨mb, hmb⟩ : ∃ mb, mb = V2.heap.size := ⟨_, rfl⟩
  rw [← hmb]
  have hpair : Pair w (V2.alloc (.cells (Ck.rcells (Ck.new T) L ⟨pb, off, pcap⟩) 37 (0, 0))) b mb L ⟨pb, off, pcap⟩ (Ck.new T) := by
    obtain ⟨b1, b2, b3, b4, b5, b6, b7⟩ := hO2.bnd
    exact ⟨blk_alloc hO2.clk _, hO2.ctl.grown (grown_alloc (grown_refl V2 none) _) (by simp) (by simp), iL, hO2.bc, hO2.bp, by omega, by omega, blk_new hmb _, hB2.alloc (by omega) _⟩
  have hpair := Lib.hid hpair
  clear hO2 hB2 hX2 hs0 hsz hO
  go_loopw [9, 12] (fun x i wr => ∃ (j b : Nat) (c : Ck), x = .pointer (some ⟨b, 0, none⟩) ∧ i = .int .i64 j ∧ j ≤ n1 ∧ Pair w wr b mb L ⟨pb, off, pcap⟩ c) (fun _ i _ => n1 - (intOf i).toNat)
  case atStart => exact ⟨0, b, Ck.new T, rfl, rfl, by omega, hpair.out⟩
  case round =>
    obtain ⟨j, b, c, rfl, rfl, hj, hp⟩ := hrel
    clear hpair hmb
    replace hp := Lib.hid hp
    by_cases hjn : j = n1
    · subst hjn
      go_upto_region 13 with (fail)
      go_cut [13, 14] (fun p q wx => ∃ b2 m2, p = .pointer (some ⟨b2, 0, none⟩) ∧ q = .pointer (some ⟨m2, 0, none⟩) ∧ Duo w wx b mb b2 m2 L ⟨pb, off, pcap⟩ c c)
      case first =>
        have hpd := Lib.hid hp.out.drew
        have hS : Held1 mb (.cells (c.rcells L ⟨pb, off, pcap⟩) 37 (0, 0)) wr.drew := hpd.out.mod
        refine wp_region_held_drew (S := Held1 mb (.cells (c.rcells L ⟨pb, off, pcap⟩) 37 (0, 0))) (by kernel_rfl) hS ?_
        clear hS
        intro hS
        refine wpAnyH_take (i := 0) (v := .pointer (some ⟨b, 0, none⟩)) rfl (by kernel_rfl) (by kernel_rfl) (by kernel_rfl) (fun _ _ _ h => h) (.inl ⟨by rfl, fun w' _ => by go_simp⟩) hS ?_
        refine wpAnyH_take (i := 2) rfl (by kernel_rfl) (by kernel_rfl) (by kernel_rfl) (fun _ _ _ h => h) (yields_row 37 (.tmp 11) rfl rfl mb (by go_simp) 37 (c.rcells L ⟨pb, off, pcap⟩) (0, 0) _ (fun _ h => h) Try.underlying37 rfl size37) hS ?_
        refine wpAnyH_two (i := 1) (j := 3) (by kernel_rfl) rfl (by rfl) rfl (by rfl) ?_ ?_
        · intro K hK
          unfold Oper.wp
          go_simp
          refine (copy_q hpd.out.clk).mono ?_
          rintro e V ⟨rfl, hN, hg⟩
          have hpv := Lib.hid (hpd.out.grow hg)
          have hS2 : Held1 mb (.cells (c.rcells L ⟨pb, off, pcap⟩) 37 (0, 0)) V := hpv.out.mod
          refine hK.out _ V hS2 ?_
          clear hK hS
          refine wpAnyH_only (i := 3) (by kernel_rfl) rfl (by rfl) ?_
          intro K hK
          unfold Oper.wp
          go_simp
          have hpw := Lib.hid (hpv.out.grow (grown_alloc (grown_refl V none) (.cells zeros 37 (0, 0))))
          have hS3 : Held1 mb (.cells (c.rcells L ⟨pb, off, pcap⟩) 37 (0, 0)) (V.alloc (.cells zeros 37 (0, 0))) := hpw.out.mod
          refine hK.out _ (V.alloc (.cells zeros 37 (0, 0))) hS3 ?_
          clear hK hS2
          refine wpAnyH_take (i := 4) (v := .pointer (some ⟨wr.heap.size, 0, none⟩)) rfl (by kernel_rfl) (by kernel_rfl) (by kernel_rfl) (fun _ _ _ h => h) (yields_val rfl (fun w' _ => by (try dsimp only [SV]); go_simp)) hS3 ?_
          have hlV : wr.drew.heap.size < V.heap.size := (Array.getElem?_eq_some_iff.1 hN).1
          have hdz : wr.drew.heap.size = wr.heap.size := rfl
          have hmb1 : mb < wr.heap.size := (Array.getElem?_eq_some_iff.1 hp.out.mod).1
          have hF := Lib.hid (hpw.out.twin (hN.grown (grown_alloc (grown_refl V none) (.cells zeros 37 (0, 0))) (by simp)) (by omega) hp.out.fits (m2 := V.heap.size) (blk_new rfl _) (by omega) (by omega))
          refine wpAnyH_store (i := 5) 37 (.tmp 14) (.tmp 71) (by kernel_rfl) (by rfl) (c.rcells L ⟨pb, off, pcap⟩) (by go_simp) (by go_simp) zeros (blk_new rfl _) rfl size37 (one37 _ _ _) ((setCells_other (by omega) _ _ _).trans hS3) ?_
          clear hS3 hpw hpv
          generalize (V.alloc (.cells zeros 37 (0, 0))).setCells V.heap.size 0 (c.rcells L ⟨pb, off, pcap⟩).toList = V3 at *
          refine wpAnyH_done (by kernel_rfl) ?_ _
          go_simp
          go_wp2_with fail
          go_meet
          case rel => exact ⟨_, _, rfl, rfl, hF.out⟩
        · intro K hK
          unfold Oper.wp
          go_simp
          have hpv := Lib.hid (hp.out.grow (grown_drew (grown_alloc (grown_refl wr none) (.cells zeros 37 (0, 0)))))
          have hz1 : (wr.alloc (.cells zeros 37 (0, 0))).drew.heap[wr.heap.size]? = some (.cells zeros 37 (0, 0)) := blk_drew (blk_new rfl _)
          have hS2 : Held1 mb (.cells (c.rcells L ⟨pb, off, pcap⟩) 37 (0, 0)) (wr.alloc (.cells zeros 37 (0, 0))).drew := hpv.out.mod
          refine hK.out _ (wr.alloc (.cells zeros 37 (0, 0))).drew hS2 ?_
          clear hK hS
          refine wpAnyH_only (i := 1) (by kernel_rfl) rfl (by rfl) ?_
          intro K hK
          unfold Oper.wp
          go_simp
          obtain ⟨V0, hV0⟩ : ∃ V0, V0 = (wr.alloc (.cells zeros 37 (0, 0))).drew := ⟨_, rfl⟩
          have hl0 : wr.heap.size < V0.heap.size := by rw [hV0]; exact (Array.getElem?_eq_some_iff.1 hz1).1
          rw [← hV0] at hpv hz1 hS2 ⊢
          clear hV0
          refine (copy_q hpv.out.clk).mono ?_
          rintro e V ⟨rfl, hN, hg⟩
          have hpw := Lib.hid (hpv.out.grow hg)
          have hz2 := (hg.block wr.heap.size hl0 (by simp)).trans hz1
          have hS3 : Held1 mb (.cells (c.rcells L ⟨pb, off, pcap⟩) 37 (0, 0)) V := hpw.out.mod
          refine hK.out _ V hS3 ?_
          clear hK hS2
          refine wpAnyH_take (i := 4) (v := .pointer (some ⟨V0.heap.size, 0, none⟩)) rfl (by kernel_rfl) (by kernel_rfl) (by kernel_rfl) (fun _ _ _ h => h) (yields_val rfl (fun w' _ => by (try dsimp only [SV]); go_simp)) hS3 ?_
          have hmb1 : mb < wr.heap.size := (Array.getElem?_eq_some_iff.1 hp.out.mod).1
          have hF := Lib.hid (hpw.out.twin hN (by omega) hp.out.fits (m2 := wr.heap.size) hz2 (Nat.le_refl _) (Nat.ne_of_gt hl0))
          refine wpAnyH_store (i := 5) 37 (.tmp 14) (.tmp 71) (by kernel_rfl) (by rfl) (c.rcells L ⟨pb, off, pcap⟩) (by go_simp) (by go_simp) zeros hz2 rfl size37 (one37 _ _ _) ((setCells_other (by omega) _ _ _).trans hS3) ?_
          clear hS3 hpw hpv hz2 hz1
          generalize V.setCells wr.heap.size 0 (c.rcells L ⟨pb, off, pcap⟩).toList = V3 at *
          refine wpAnyH_done (by kernel_rfl) ?_ _
          go_simp
          go_wp2_with fail
          go_meet
          case rel => exact ⟨_, _, rfl, rfl, hF.out⟩
      case rest =>
        obtain ⟨b2, m2, rfl, rfl, hd0⟩ := hcut
        replace hd0 := Lib.hid hd0
        clear hp
        obtain ⟨⟨sa, ma, pa, da⟩, ⟨sb, mb2, pb2, db⟩, sd2, used, since, last, runs⟩ := c
        have hC1 := same_c (w := wc) ⟨pb, off, pcap⟩ last hd0.out.two.clk hd0.out.two.ctl (by rw [p1.out]; exact hP.out.below hd0.out.two.below) hd0.out.two.inv
        have hlm : m2 < wc.heap.size := (Array.getElem?_eq_some_iff.1 hd0.out.two.mod).1
        obtain ⟨y0, y1, y2, y3, y4, y5, y6, y7, y8, y9, y10, y11, y12, y13, y14⟩ := rcells_all hd0.out.two.mod
        dsimp only at y0 y1 y2 y3 y4 y5 y6 y7 y8 y9 y10 y11 y12 y13 y14
        dsimp only [Ck.rcells] at hC1
        replace hC1 := Lib.hid hC1
        go_wp2_with fail
        refine hC1.out.mono ?_
        rintro e V ⟨rfl, hV⟩
        clear y0 y1 y2 y3 y4 y5 y6 y7 y8 y9 y10 y11 y12 y13 y14 hC1 hlm
        replace hd0 := Lib.hid (hd0.out.grow (below_grown2 hV))
        clear hV
        obtain ⟨c2, hc2⟩ : ∃ c2 : Ck, c2 = ⟨⟨sa, ma, pa, da⟩, ⟨sb, mb2, pb2, db⟩, sd2, used, since, last, runs⟩ := ⟨_, rfl⟩
        rw [← hc2] at hd0
        clear hc2
        go_wp2_with fail
        go_loopw [9, 15, 16] (fun x q i wr => ∃ (j b : Nat) (c : Ck), x = .pointer (some ⟨b, 0, none⟩) ∧ q = .bool true ∧ i = .int .i64 j ∧ j ≤ n2 ∧ Duo w wr b mb b2 m2 L ⟨pb, off, pcap⟩ c c2) (fun _ _ i _ => n2 - (intOf i).toNat)
        case atStart => exact ⟨0, b, c2, rfl, rfl, rfl, by omega, hd0.out⟩
        case round =>
          obtain ⟨j, b, c, rfl, rfl, rfl, hj, hd⟩ := hrel
          clear hd0
          replace hd := Lib.hid hd
          by_cases hjn : j = n2
          · subst hjn
            go_wp2_with fail
            have hd2 := hd
            clear hd
            go_loopw [13, 15, 17] (fun x q i wr => ∃ (j b2 : Nat) (c2 : Ck), x = .pointer (some ⟨b2, 0, none⟩) ∧ q = .bool true ∧ i = .int .i64 j ∧ j ≤ n3 ∧ Duo w wr b mb b2 m2 L ⟨pb, off, pcap⟩ c c2) (fun _ _ i _ => n3 - (intOf i).toNat)
            case atStart => exact ⟨0, b2, c2, rfl, rfl, rfl, by omega, hd2.out⟩
            case round =>
              obtain ⟨j, b2, c2, rfl, rfl, rfl, hj, hd⟩ := hrel
              clear hd2
              replace hd := Lib.hid hd
              by_cases hjn : j = n3
              · subst hjn
                obtain ⟨⟨sa, ma, pa, da⟩, ⟨sb, mb2, pb2, db⟩, sd2, used, since, last, runs⟩ := c
                obtain ⟨⟨xa, na, ra, ea⟩, ⟨xb, nb2, rb2, eb⟩, xd2, xsed, xince, xast, xuns⟩ := c2
                have hC1 := same_c (w := wr) ⟨pb, off, pcap⟩ last hd.out.one.clk hd.out.one.ctl (by rw [p1.out]; exact hP.out.below hd.out.one.below) hd.out.one.inv
                have hC2 := fun W (hb : Below wr.heap.size wr W) => Lib.hid (same_c (w := W) ⟨pb, off, pcap⟩ xast (hd.out.two.grow (below_grown2 hb)).clk (hd.out.two.grow (below_grown2 hb)).ctl (by rw [p1.out]; exact hP.out.below (hd.out.two.grow (below_grown2 hb)).below) hd.out.two.inv)
                have hlm : mb < wr.heap.size := (Array.getElem?_eq_some_iff.1 hd.out.one.mod).1
                obtain ⟨y0, y1, y2, y3, y4, y5, y6, y7, y8, y9, y10, y11, y12, y13, y14⟩ := rcells_all hd.out.one.mod
                dsimp only at y0 y1 y2 y3 y4 y5 y6 y7 y8 y9 y10 y11 y12 y13 y14
                dsimp only [Ck.rcells] at hC1 hC2
                replace hC1 := Lib.hid hC1
                go_wp2_with fail
                refine hC1.out.mono ?_
                rintro e V ⟨rfl, hV⟩
                clear y0 y1 y2 y3 y4 y5 y6 y7 y8 y9 y10 y11 y12 y13 y14 hC1 hlm
                have hlm : m2 < V.heap.size := (Array.getElem?_eq_some_iff.1 (hd.out.two.grow (below_grown2 hV)).mod).1
                obtain ⟨y0, y1, y2, y3, y4, y5, y6, y7, y8, y9, y10, y11, y12, y13, y14⟩ := rcells_all (hd.out.two.grow (below_grown2 hV)).mod
                dsimp only at y0 y1 y2 y3 y4 y5 y6 y7 y8 y9 y10 y11 y12 y13 y14
                have hV := Lib.hid hV
                go_wp2_with fail
                refine (hC2 V hV.out).out.mono ?_
                rintro e V2 ⟨rfl, hV2⟩
                clear y0 y1 y2 y3 y4 y5 y6 y7 y8 y9 y10 y11 y12 y13 y14 hC2 hlm
                have hB := Lib.hid (hd.out.one.below.trans ((hV.out.trans (hV2.mono hV.out.size)).mono hd.out.one.below.size))
                clear hV hV2
                go_wp2_with fail
                refine (known_c _).mono ?_
                rintro e W ⟨rfl, hk⟩
                go_wp2
                go_ret
                exact ⟨rfl, hB.out.trans (hk.mono hB.out.size)⟩
              · have hjl : j < n3 := by omega
                obtain h0 | ⟨ab, aoff, hoo, hac⟩ := ho3.out
                · omega
                subst hoo
                obtain ⟨⟨what, now, sd, tm⟩, hq⟩ : ∃ q, a3 j = q := ⟨_, rfl⟩
                have hact0 := Lib.hid (hac j hjl)
                rw [hq] at hact0
                clear hq hac ho3
                have hact := Lib.hid (hact0.out.below hd.out.one.below)
                go_upto_region 26 with (fail)
                obtain ⟨⟨sa, ma, pa, da⟩, ⟨sb, mb2, pb2, db⟩, sd2, used, since, last, runs⟩ := c2
                have hpd := Lib.hid hd.out.two.drew
                have hdd : Hid (Duo w wr.drew b2 m2 b mb L ⟨pb, off, pcap⟩ _ c) := Lib.hid hd.out.flip.drew
                have hmd := rcells_all hpd.out.mod
                have hst := hact.out
                have q1 := hst.what
                have q2 := hst.now
                have q3 := hst.side
                have q4 := hst.time
                obtain ⟨y0, y1, y2, y3, y4, y5, y6, y7, y8, y9, y10, y11, y12, y13, y14⟩ := hmd
                dsimp only [World.cell?_drew] at q1 q2 q3 q4 y0 y1 y2 y3 y4 y5 y6 y7 y8 y9 y10 y11 y12 y13 y14
                clear hst
                go_cut [13, 15] (fun p q wx => ∃ b' c', p = .pointer (some ⟨b', 0, none⟩) ∧ q = .bool true ∧ Duo w wx b mb b' m2 L ⟨pb, off, pcap⟩ c c')
                case first =>
                  refine wp_region_held_drew (S := fun _ => True) (by kernel_rfl) trivial ?_
                  intro _
                  refine wpAnyH_take (i := 0) (v := .pointer (some ⟨b2, 0, none⟩)) rfl (by kernel_rfl) (by kernel_rfl) (by kernel_rfl) (fun _ _ _ h => h) (yields_val rfl (fun w' _ => by (try dsimp only [SV]); go_simp)) trivial ?_
                  refine wpAnyH_take (i := 2) (v := .slice (some ⟨ab, aoff, none⟩) n3 d3) rfl (by kernel_rfl) (by kernel_rfl) (by kernel_rfl) (fun _ _ _ h => h) (yields_val rfl (fun w' _ => by (try dsimp only [SV]); go_simp)) trivial ?_
                  refine wpAnyH_take (i := 3) (v := .int .i64 j) rfl (by kernel_rfl) (by kernel_rfl) (by kernel_rfl) (fun _ _ _ h => h) (yields_val rfl (fun w' _ => by (try dsimp only [SV]); go_simp)) trivial ?_
                  refine wpAnyH_take (i := 4) (v := .pointer (some ⟨ab, aoff + j * 4, none⟩)) rfl (by kernel_rfl) (by kernel_rfl) (by kernel_rfl) (fun _ _ _ h => h) (yields_val rfl (fun w' _ => by (try dsimp only [SV]); go_simp)) trivial ?_
                  refine wpAnyH_two (i := 1) (j := 5) (by kernel_rfl) rfl (by rfl) rfl (by rfl) ?_ ?_
                  · intro K hK
                    unfold Oper.wp
                    go_simp
                    refine hK.out _ _ trivial ?_
                    clear hK
                    refine wpAnyH_only (i := 5) (by kernel_rfl) rfl (by rfl) ?_
                    intro K hK
                    unfold Oper.wp
                    go_simp
                    refine hK.out _ _ trivial ?_
                    clear hK y0 y1 y2 y3 y4 y5 y6 y7 y8 y9 y10 y11 y12 y13 y14 q1 q2 q3 q4
                    refine wpAnyH_only (i := 6) (by kernel_rfl) rfl (by rfl) ?_
                    intro K hK
                    unfold Oper.wp
                    go_simp
                    refine (step_c ⟨pb, off, pcap⟩ what now sd tm hpd.out.clk hpd.out.ctl (by rw [p1.out]; exact hP.out.below hpd.out.below) hpd.out.inv gL hpd.out.bc hpd.out.bp).mono ?_
                    rintro e V ⟨b', c', rfl, hC', hI', hb', hg⟩
                    have hM := Mid.of_step hpd.out hC' hI' hb' hg
                    have hF := Lib.hid (hdd.out.step hC' hI' hb' hg)
                    refine hK.out _ V trivial ?_
                    clear hK
                    refine wpAnyH_take (i := 7) (v := SV L ⟨pb, off, pcap⟩ b' c') rfl (by kernel_rfl) (by kernel_rfl) (by kernel_rfl) (fun _ _ _ h => h) (yields_val rfl (fun w' _ => by (try dsimp only [SV]); go_simp)) trivial ?_
                    refine wpAnyH_take (i := 8) (v := .pointer (some ⟨b', 0, none⟩)) rfl (by kernel_rfl) (by kernel_rfl) (by kernel_rfl) (fun _ _ _ h => h) (yields_val rfl (fun w' _ => by (try dsimp only [SV]); go_simp)) trivial ?_
                    refine wpAnyH_take (i := 9) (v := .agg (c'.rcells L ⟨pb, off, pcap⟩)) rfl (by kernel_rfl) (by kernel_rfl) (by kernel_rfl) (fun _ _ _ h => h) (yields_val rfl (fun w' _ => by (try dsimp only [SV]); go_simp)) trivial ?_
                    refine wpAnyH_take (i := 10) (v := .bool true) rfl (by kernel_rfl) (by kernel_rfl) (by kernel_rfl) (fun _ _ _ h => h) (yields_val rfl (fun w' _ => by (try dsimp only [SV]); go_simp)) trivial ?_
                    refine wpAnyH_take (i := 11) (v := .pointer (some ⟨b', 0, none⟩)) rfl (by kernel_rfl) (by kernel_rfl) (by kernel_rfl) (fun _ _ _ h => h) (yields_val rfl (fun w' _ => by (try dsimp only [SV]); go_simp)) trivial ?_
                    refine wpAnyH_store (i := 12) 37 (.tmp 14) (.tmp 120) (by kernel_rfl) (by rfl) (c'.rcells L ⟨pb, off, pcap⟩) (by go_simp) (by go_simp) _ hM.mod rfl size37 (one37 _ _ _) trivial ?_
                    clear hM hC' hg hb' hI'
                    generalize V.setCells m2 0 (c'.rcells L ⟨pb, off, pcap⟩).toList = V3 at *
                    refine wpAnyH_take (i := 13) (v := .bool true) rfl (by kernel_rfl) (by kernel_rfl) (by kernel_rfl) (fun _ _ _ h => h) (yields_val rfl (fun w' _ => by (try dsimp only [SV]); go_simp)) trivial ?_
                    refine wpAnyH_done (by kernel_rfl) ?_ _
                    go_simp
                    go_wp2_with fail
                    go_meet
                    case rel => exact ⟨b', c', rfl, rfl, hF.out.flip⟩
                  · intro K hK
                    unfold Oper.wp
                    go_simp
                    refine hK.out _ _ trivial ?_
                    clear hK
                    refine wpAnyH_only (i := 1) (by kernel_rfl) rfl (by rfl) ?_
                    intro K hK
                    unfold Oper.wp
                    go_simp
                    refine hK.out _ _ trivial ?_
                    clear hK y0 y1 y2 y3 y4 y5 y6 y7 y8 y9 y10 y11 y12 y13 y14 q1 q2 q3 q4
                    refine wpAnyH_only (i := 6) (by kernel_rfl) rfl (by rfl) ?_
                    intro K hK
                    unfold Oper.wp
                    go_simp
                    refine (step_c ⟨pb, off, pcap⟩ what now sd tm hpd.out.clk hpd.out.ctl (by rw [p1.out]; exact hP.out.below hpd.out.below) hpd.out.inv gL hpd.out.bc hpd.out.bp).mono ?_
                    rintro e V ⟨b', c', rfl, hC', hI', hb', hg⟩
                    have hM := Mid.of_step hpd.out hC' hI' hb' hg
                    have hF := Lib.hid (hdd.out.step hC' hI' hb' hg)
                    refine hK.out _ V trivial ?_
                    clear hK
                    refine wpAnyH_take (i := 7) (v := SV L ⟨pb, off, pcap⟩ b' c') rfl (by kernel_rfl) (by kernel_rfl) (by kernel_rfl) (fun _ _ _ h => h) (yields_val rfl (fun w' _ => by (try dsimp only [SV]); go_simp)) trivial ?_
                    refine wpAnyH_take (i := 8) (v := .pointer (some ⟨b', 0, none⟩)) rfl (by kernel_rfl) (by kernel_rfl) (by kernel_rfl) (fun _ _ _ h => h) (yields_val rfl (fun w' _ => by (try dsimp only [SV]); go_simp)) trivial ?_
                    refine wpAnyH_take (i := 9) (v := .agg (c'.rcells L ⟨pb, off, pcap⟩)) rfl (by kernel_rfl) (by kernel_rfl) (by kernel_rfl) (fun _ _ _ h => h) (yields_val rfl (fun w' _ => by (try dsimp only [SV]); go_simp)) trivial ?_
                    refine wpAnyH_take (i := 10) (v := .bool true) rfl (by kernel_rfl) (by kernel_rfl) (by kernel_rfl) (fun _ _ _ h => h) (yields_val rfl (fun w' _ => by (try dsimp only [SV]); go_simp)) trivial ?_
                    refine wpAnyH_take (i := 11) (v := .pointer (some ⟨b', 0, none⟩)) rfl (by kernel_rfl) (by kernel_rfl) (by kernel_rfl) (fun _ _ _ h => h) (yields_val rfl (fun w' _ => by (try dsimp only [SV]); go_simp)) trivial ?_
                    refine wpAnyH_store (i := 12) 37 (.tmp 14) (.tmp 120) (by kernel_rfl) (by rfl) (c'.rcells L ⟨pb, off, pcap⟩) (by go_simp) (by go_simp) _ hM.mod rfl size37 (one37 _ _ _) trivial ?_
                    clear hM hC' hg hb' hI'
                    generalize V.setCells m2 0 (c'.rcells L ⟨pb, off, pcap⟩).toList = V3 at *
                    refine wpAnyH_take (i := 13) (v := .bool true) rfl (by kernel_rfl) (by kernel_rfl) (by kernel_rfl) (fun _ _ _ h => h) (yields_val rfl (fun w' _ => by (try dsimp only [SV]); go_simp)) trivial ?_
                    refine wpAnyH_done (by kernel_rfl) ?_ _
                    go_simp
                    go_wp2_with fail
                    go_meet
                    case rel => exact ⟨b', c', rfl, rfl, hF.out.flip⟩
                case rest =>
                  obtain ⟨b', c', rfl, rfl, hp2⟩ := hcut
                  replace hp2 := Lib.hid hp2
                  clear y0 y1 y2 y3 y4 y5 y6 y7 y8 y9 y10 y11 y12 y13 y14 q1 q2 q3 q4
                  go_wp2_with fail
                  go_roundw
                  case rel =>
                    first
                      | (exact ⟨j + 1, b', _, rfl, rfl, by simp, by omega, hp2.out⟩)
                      | ((repeat apply Exists.intro); refine And.intro ?_ rfl; exact ⟨j + 1, b', _, rfl, rfl, by simp, by omega, hp2.out⟩)
                  case measure =>
                    simp [intOf] <;> omega
          · have hjl : j < n2 := by omega
            obtain h0 | ⟨ab, aoff, hoo, hac⟩ := ho2.out
            · omega
            subst hoo
            obtain ⟨⟨what, now, sd, tm⟩, hq⟩ : ∃ q, a2 j = q := ⟨_, rfl⟩
            have hact0 := Lib.hid (hac j hjl)
            rw [hq] at hact0
            clear hq hac ho2
            have hact := Lib.hid (hact0.out.below hd.out.one.below)
            go_upto_region 20 with (fail)
            obtain ⟨⟨sa, ma, pa, da⟩, ⟨sb, mb2, pb2, db⟩, sd2, used, since, last, runs⟩ := c
            have hpd := Lib.hid hd.out.one.drew
            have hdd := Lib.hid hd.out.drew
            have hmd := rcells_all hpd.out.mod
            have hst := hact.out
            have q1 := hst.what
            have q2 := hst.now
            have q3 := hst.side
            have q4 := hst.time
            obtain ⟨y0, y1, y2, y3, y4, y5, y6, y7, y8, y9, y10, y11, y12, y13, y14⟩ := hmd
            dsimp only [World.cell?_drew] at q1 q2 q3 q4 y0 y1 y2 y3 y4 y5 y6 y7 y8 y9 y10 y11 y12 y13 y14
            clear hst
            go_cut [9, 15] (fun p q wx => ∃ b' c', p = .pointer (some ⟨b', 0, none⟩) ∧ q = .bool true ∧ Duo w wx b' mb b2 m2 L ⟨pb, off, pcap⟩ c' c2)
            case first =>
              refine wp_region_held_drew (S := fun _ => True) (by kernel_rfl) trivial ?_
              intro _
              refine wpAnyH_take (i := 0) (v := .pointer (some ⟨b, 0, none⟩)) rfl (by kernel_rfl) (by kernel_rfl) (by kernel_rfl) (fun _ _ _ h => h) (yields_val rfl (fun w' _ => by (try dsimp only [SV]); go_simp)) trivial ?_
              refine wpAnyH_take (i := 2) (v := .slice (some ⟨ab, aoff, none⟩) n2 d2) rfl (by kernel_rfl) (by kernel_rfl) (by kernel_rfl) (fun _ _ _ h => h) (yields_val rfl (fun w' _ => by (try dsimp only [SV]); go_simp)) trivial ?_
              refine wpAnyH_take (i := 3) (v := .int .i64 j) rfl (by kernel_rfl) (by kernel_rfl) (by kernel_rfl) (fun _ _ _ h => h) (yields_val rfl (fun w' _ => by (try dsimp only [SV]); go_simp)) trivial ?_
              refine wpAnyH_take (i := 4) (v := .pointer (some ⟨ab, aoff + j * 4, none⟩)) rfl (by kernel_rfl) (by kernel_rfl) (by kernel_rfl) (fun _ _ _ h => h) (yields_val rfl (fun w' _ => by (try dsimp only [SV]); go_simp)) trivial ?_
              refine wpAnyH_two (i := 1) (j := 5) (by kernel_rfl) rfl (by rfl) rfl (by rfl) ?_ ?_
              · intro K hK
                unfold Oper.wp
                go_simp
                refine hK.out _ _ trivial ?_
                clear hK
                refine wpAnyH_only (i := 5) (by kernel_rfl) rfl (by rfl) ?_
                intro K hK
                unfold Oper.wp
                go_simp
                refine hK.out _ _ trivial ?_
                clear hK y0 y1 y2 y3 y4 y5 y6 y7 y8 y9 y10 y11 y12 y13 y14 q1 q2 q3 q4
                refine wpAnyH_only (i := 6) (by kernel_rfl) rfl (by rfl) ?_
                intro K hK
                unfold Oper.wp
                go_simp
                refine (step_c ⟨pb, off, pcap⟩ what now sd tm hpd.out.clk hpd.out.ctl (by rw [p1.out]; exact hP.out.below hpd.out.below) hpd.out.inv gL hpd.out.bc hpd.out.bp).mono ?_
                rintro e V ⟨b', c', rfl, hC', hI', hb', hg⟩
                have hM := Mid.of_step hpd.out hC' hI' hb' hg
                have hF := Lib.hid (hdd.out.step hC' hI' hb' hg)
                refine hK.out _ V trivial ?_
                clear hK
                refine wpAnyH_take (i := 7) (v := SV L ⟨pb, off, pcap⟩ b' c') rfl (by kernel_rfl) (by kernel_rfl) (by kernel_rfl) (fun _ _ _ h => h) (yields_val rfl (fun w' _ => by (try dsimp only [SV]); go_simp)) trivial ?_
                refine wpAnyH_take (i := 8) (v := .pointer (some ⟨b', 0, none⟩)) rfl (by kernel_rfl) (by kernel_rfl) (by kernel_rfl) (fun _ _ _ h => h) (yields_val rfl (fun w' _ => by (try dsimp only [SV]); go_simp)) trivial ?_
                refine wpAnyH_take (i := 9) (v := .agg (c'.rcells L ⟨pb, off, pcap⟩)) rfl (by kernel_rfl) (by kernel_rfl) (by kernel_rfl) (fun _ _ _ h => h) (yields_val rfl (fun w' _ => by (try dsimp only [SV]); go_simp)) trivial ?_
                refine wpAnyH_take (i := 10) (v := .bool true) rfl (by kernel_rfl) (by kernel_rfl) (by kernel_rfl) (fun _ _ _ h => h) (yields_val rfl (fun w' _ => by (try dsimp only [SV]); go_simp)) trivial ?_
                refine wpAnyH_take (i := 11) (v := .pointer (some ⟨b', 0, none⟩)) rfl (by kernel_rfl) (by kernel_rfl) (by kernel_rfl) (fun _ _ _ h => h) (yields_val rfl (fun w' _ => by (try dsimp only [SV]); go_simp)) trivial ?_
                refine wpAnyH_store (i := 12) 37 (.tmp 11) (.tmp 97) (by kernel_rfl) (by rfl) (c'.rcells L ⟨pb, off, pcap⟩) (by go_simp) (by go_simp) _ hM.mod rfl size37 (one37 _ _ _) trivial ?_
                clear hM hC' hg hb' hI'
                generalize V.setCells mb 0 (c'.rcells L ⟨pb, off, pcap⟩).toList = V3 at *
                refine wpAnyH_take (i := 13) (v := .bool true) rfl (by kernel_rfl) (by kernel_rfl) (by kernel_rfl) (fun _ _ _ h => h) (yields_val rfl (fun w' _ => by (try dsimp only [SV]); go_simp)) trivial ?_
                refine wpAnyH_done (by kernel_rfl) ?_ _
                go_simp
                go_wp2_with fail
                go_meet
                case rel => exact ⟨b', c', rfl, rfl, hF.out⟩
              · intro K hK
                unfold Oper.wp
                go_simp
                refine hK.out _ _ trivial ?_
                clear hK
                refine wpAnyH_only (i := 1) (by kernel_rfl) rfl (by rfl) ?_
                intro K hK
                unfold Oper.wp
                go_simp
                refine hK.out _ _ trivial ?_
                clear hK y0 y1 y2 y3 y4 y5 y6 y7 y8 y9 y10 y11 y12 y13 y14 q1 q2 q3 q4
                refine wpAnyH_only (i := 6) (by kernel_rfl) rfl (by rfl) ?_
                intro K hK
                unfold Oper.wp
                go_simp
                refine (step_c ⟨pb, off, pcap⟩ what now sd tm hpd.out.clk hpd.out.ctl (by rw [p1.out]; exact hP.out.below hpd.out.below) hpd.out.inv gL hpd.out.bc hpd.out.bp).mono ?_
                rintro e V ⟨b', c', rfl, hC', hI', hb', hg⟩
                have hM := Mid.of_step hpd.out hC' hI' hb' hg
                have hF := Lib.hid (hdd.out.step hC' hI' hb' hg)
                refine hK.out _ V trivial ?_
                clear hK
                refine wpAnyH_take (i := 7) (v := SV L ⟨pb, off, pcap⟩ b' c') rfl (by kernel_rfl) (by kernel_rfl) (by kernel_rfl) (fun _ _ _ h => h) (yields_val rfl (fun w' _ => by (try dsimp only [SV]); go_simp)) trivial ?_
                refine wpAnyH_take (i := 8) (v := .pointer (some ⟨b', 0, none⟩)) rfl (by kernel_rfl) (by kernel_rfl) (by kernel_rfl) (fun _ _ _ h => h) (yields_val rfl (fun w' _ => by (try dsimp only [SV]); go_simp)) trivial ?_
                refine wpAnyH_take (i := 9) (v := .agg (c'.rcells L ⟨pb, off, pcap⟩)) rfl (by kernel_rfl) (by kernel_rfl) (by kernel_rfl) (fun _ _ _ h => h) (yields_val rfl (fun w' _ => by (try dsimp only [SV]); go_simp)) trivial ?_
                refine wpAnyH_take (i := 10) (v := .bool true) rfl (by kernel_rfl) (by kernel_rfl) (by kernel_rfl) (fun _ _ _ h => h) (yields_val rfl (fun w' _ => by (try dsimp only [SV]); go_simp)) trivial ?_
                refine wpAnyH_take (i := 11) (v := .pointer (some ⟨b', 0, none⟩)) rfl (by kernel_rfl) (by kernel_rfl) (by kernel_rfl) (fun _ _ _ h => h) (yields_val rfl (fun w' _ => by (try dsimp only [SV]); go_simp)) trivial ?_
                refine wpAnyH_store (i := 12) 37 (.tmp 11) (.tmp 97) (by kernel_rfl) (by rfl) (c'.rcells L ⟨pb, off, pcap⟩) (by go_simp) (by go_simp) _ hM.mod rfl size37 (one37 _ _ _) trivial ?_
                clear hM hC' hg hb' hI'
                generalize V.setCells mb 0 (c'.rcells L ⟨pb, off, pcap⟩).toList = V3 at *
                refine wpAnyH_take (i := 13) (v := .bool true) rfl (by kernel_rfl) (by kernel_rfl) (by kernel_rfl) (fun _ _ _ h => h) (yields_val rfl (fun w' _ => by (try dsimp only [SV]); go_simp)) trivial ?_
                refine wpAnyH_done (by kernel_rfl) ?_ _
                go_simp
                go_wp2_with fail
                go_meet
                case rel => exact ⟨b', c', rfl, rfl, hF.out⟩
            case rest =>
              obtain ⟨b', c', rfl, rfl, hp2⟩ := hcut
              replace hp2 := Lib.hid hp2
              clear y0 y1 y2 y3 y4 y5 y6 y7 y8 y9 y10 y11 y12 y13 y14 q1 q2 q3 q4
              go_wp2_with fail
              go_roundw
              case rel =>
                first
                  | (exact ⟨j + 1, b', _, rfl, rfl, by simp, by omega, hp2.out⟩)
                  | ((repeat apply Exists.intro); refine And.intro ?_ rfl; exact ⟨j + 1, b', _, rfl, rfl, by simp, by omega, hp2.out⟩)
              case measure =>
                simp [intOf] <;> omega
    · have hjl : j < n1 := by omega
      obtain h0 | ⟨ab, aoff, hoo, hac⟩ := ho1.out
      · omega
      subst hoo
      obtain ⟨⟨what, now, sd, tm⟩, hq⟩ : ∃ q, a1 j = q := ⟨_, rfl⟩
      have hact0 := Lib.hid (hac j hjl)
      rw [hq] at hact0
      clear hq hac ho1
      have hact := Lib.hid (hact0.out.below hp.out.below)
      go_upto_region 10 with (fail)
      obtain ⟨⟨sa, ma, pa, da⟩, ⟨sb, mb2, pb2, db⟩, sd2, used, since, last, runs⟩ := c
      have hpd := Lib.hid hp.out.drew
      have hmd := rcells_all hpd.out.mod
      have hst := hact.out
      have q1 := hst.what
      have q2 := hst.now
      have q3 := hst.side
      have q4 := hst.time
      obtain ⟨y0, y1, y2, y3, y4, y5, y6, y7, y8, y9, y10, y11, y12, y13, y14⟩ := hmd
      dsimp only [World.cell?_drew] at q1 q2 q3 q4 y0 y1 y2 y3 y4 y5 y6 y7 y8 y9 y10 y11 y12 y13 y14
      clear hst
      go_cut [9] (fun p wx => ∃ b' c', p = .pointer (some ⟨b', 0, none⟩) ∧ Pair w wx b' mb L ⟨pb, off, pcap⟩ c')
      case first =>
        refine wp_region_held_drew (S := fun _ => True) (by kernel_rfl) trivial ?_
        intro _
        refine wpAnyH_take (i := 0) (v := .pointer (some ⟨b, 0, none⟩)) rfl (by kernel_rfl) (by kernel_rfl) (by kernel_rfl) (fun _ _ _ h => h) (yields_val rfl (fun w' _ => by (try dsimp only [SV]); go_simp)) trivial ?_
        refine wpAnyH_take (i := 2) (v := .slice (some ⟨ab, aoff, none⟩) n1 d1) rfl (by kernel_rfl) (by kernel_rfl) (by kernel_rfl) (fun _ _ _ h => h) (yields_val rfl (fun w' _ => by (try dsimp only [SV]); go_simp)) trivial ?_
        refine wpAnyH_take (i := 3) (v := .int .i64 j) rfl (by kernel_rfl) (by kernel_rfl) (by kernel_rfl) (fun _ _ _ h => h) (yields_val rfl (fun w' _ => by (try dsimp only [SV]); go_simp)) trivial ?_
        refine wpAnyH_take (i := 4) (v := .pointer (some ⟨ab, aoff + j * 4, none⟩)) rfl (by kernel_rfl) (by kernel_rfl) (by kernel_rfl) (fun _ _ _ h => h) (yields_val rfl (fun w' _ => by (try dsimp only [SV]); go_simp)) trivial ?_
        refine wpAnyH_two (i := 1) (j := 5) (by kernel_rfl) rfl (by rfl) rfl (by rfl) ?_ ?_
        · intro K hK
          unfold Oper.wp
          go_simp
          refine hK.out _ _ trivial ?_
          clear hK
          refine wpAnyH_only (i := 5) (by kernel_rfl) rfl (by rfl) ?_
          intro K hK
          unfold Oper.wp
          go_simp
          refine hK.out _ _ trivial ?_
          clear hK y0 y1 y2 y3 y4 y5 y6 y7 y8 y9 y10 y11 y12 y13 y14 q1 q2 q3 q4
          refine wpAnyH_only (i := 6) (by kernel_rfl) rfl (by rfl) ?_
          intro K hK
          unfold Oper.wp
          go_simp
          refine (step_c ⟨pb, off, pcap⟩ what now sd tm hpd.out.clk hpd.out.ctl (by rw [p1.out]; exact hP.out.below hpd.out.below) hpd.out.inv gL hpd.out.bc hpd.out.bp).mono ?_
          rintro e V ⟨b', c', rfl, hC', hI', hb', hg⟩
          have hM := Mid.of_step hpd.out hC' hI' hb' hg
          have hF := Lib.hid (hM.own)
          refine hK.out _ V trivial ?_
          clear hK
          refine wpAnyH_take (i := 7) (v := SV L ⟨pb, off, pcap⟩ b' c') rfl (by kernel_rfl) (by kernel_rfl) (by kernel_rfl) (fun _ _ _ h => h) (yields_val rfl (fun w' _ => by (try dsimp only [SV]); go_simp)) trivial ?_
          refine wpAnyH_take (i := 8) (v := .pointer (some ⟨b', 0, none⟩)) rfl (by kernel_rfl) (by kernel_rfl) (by kernel_rfl) (fun _ _ _ h => h) (yields_val rfl (fun w' _ => by (try dsimp only [SV]); go_simp)) trivial ?_
          refine wpAnyH_take (i := 9) (v := .agg (c'.rcells L ⟨pb, off, pcap⟩)) rfl (by kernel_rfl) (by kernel_rfl) (by kernel_rfl) (fun _ _ _ h => h) (yields_val rfl (fun w' _ => by (try dsimp only [SV]); go_simp)) trivial ?_
          refine wpAnyH_take (i := 10) (v := .bool true) rfl (by kernel_rfl) (by kernel_rfl) (by kernel_rfl) (fun _ _ _ h => h) (yields_val rfl (fun w' _ => by (try dsimp only [SV]); go_simp)) trivial ?_
          refine wpAnyH_take (i := 11) (v := .pointer (some ⟨b', 0, none⟩)) rfl (by kernel_rfl) (by kernel_rfl) (by kernel_rfl) (fun _ _ _ h => h) (yields_val rfl (fun w' _ => by (try dsimp only [SV]); go_simp)) trivial ?_
          refine wpAnyH_store (i := 12) 37 (.tmp 11) (.tmp 65) (by kernel_rfl) (by rfl) (c'.rcells L ⟨pb, off, pcap⟩) (by go_simp) (by go_simp) _ hM.mod rfl size37 (one37 _ _ _) trivial ?_
          clear hM hC' hg hb' hI'
          generalize V.setCells mb 0 (c'.rcells L ⟨pb, off, pcap⟩).toList = V3 at *
          refine wpAnyH_done (by kernel_rfl) ?_ _
          go_simp
          go_wp2_with fail
          go_meet
          case rel => exact ⟨b', c', rfl, hF.out⟩
        · intro K hK
          unfold Oper.wp
          go_simp
          refine hK.out _ _ trivial ?_
          clear hK
          refine wpAnyH_only (i := 1) (by kernel_rfl) rfl (by rfl) ?_
          intro K hK
          unfold Oper.wp
          go_simp
          refine hK.out _ _ trivial ?_
          clear hK y0 y1 y2 y3 y4 y5 y6 y7 y8 y9 y10 y11 y12 y13 y14 q1 q2 q3 q4
          refine wpAnyH_only (i := 6) (by kernel_rfl) rfl (by rfl) ?_
          intro K hK
          unfold Oper.wp
          go_simp
          refine (step_c ⟨pb, off, pcap⟩ what now sd tm hpd.out.clk hpd.out.ctl (by rw [p1.out]; exact hP.out.below hpd.out.below) hpd.out.inv gL hpd.out.bc hpd.out.bp).mono ?_
          rintro e V ⟨b', c', rfl, hC', hI', hb', hg⟩
          have hM := Mid.of_step hpd.out hC' hI' hb' hg
          have hF := Lib.hid (hM.own)
          refine hK.out _ V trivial ?_
          clear hK
          refine wpAnyH_take (i := 7) (v := SV L ⟨pb, off, pcap⟩ b' c') rfl (by kernel_rfl) (by kernel_rfl) (by kernel_rfl) (fun _ _ _ h => h) (yields_val rfl (fun w' _ => by (try dsimp only [SV]); go_simp)) trivial ?_
          refine wpAnyH_take (i := 8) (v := .pointer (some ⟨b', 0, none⟩)) rfl (by kernel_rfl) (by kernel_rfl) (by kernel_rfl) (fun _ _ _ h => h) (yields_val rfl (fun w' _ => by (try dsimp only [SV]); go_simp)) trivial ?_
          refine wpAnyH_take (i := 9) (v := .agg (c'.rcells L ⟨pb, off, pcap⟩)) rfl (by kernel_rfl) (by kernel_rfl) (by kernel_rfl) (fun _ _ _ h => h) (yields_val rfl (fun w' _ => by (try dsimp only [SV]); go_simp)) trivial ?_
          refine wpAnyH_take (i := 10) (v := .bool true) rfl (by kernel_rfl) (by kernel_rfl) (by kernel_rfl) (fun _ _ _ h => h) (yields_val rfl (fun w' _ => by (try dsimp only [SV]); go_simp)) trivial ?_
          refine wpAnyH_take (i := 11) (v := .pointer (some ⟨b', 0, none⟩)) rfl (by kernel_rfl) (by kernel_rfl) (by kernel_rfl) (fun _ _ _ h => h) (yields_val rfl (fun w' _ => by (try dsimp only [SV]); go_simp)) trivial ?_
          refine wpAnyH_store (i := 12) 37 (.tmp 11) (.tmp 65) (by kernel_rfl) (by rfl) (c'.rcells L ⟨pb, off, pcap⟩) (by go_simp) (by go_simp) _ hM.mod rfl size37 (one37 _ _ _) trivial ?_
          clear hM hC' hg hb' hI'
          generalize V.setCells mb 0 (c'.rcells L ⟨pb, off, pcap⟩).toList = V3 at *
          refine wpAnyH_done (by kernel_rfl) ?_ _
          go_simp
          go_wp2_with fail
          go_meet
          case rel => exact ⟨b', c', rfl, hF.out⟩
      case rest =>
        obtain ⟨b', c', rfl, hp2⟩ := hcut
        replace hp2 := Lib.hid hp2
        clear y0 y1 y2 y3 y4 y5 y6 y7 y8 y9 y10 y11 y12 y13 y14 q1 q2 q3 q4
        go_wp2_with fail
        go_roundw
        case rel =>
          first
            | (exact ⟨j + 1, b', _, rfl, by simp, by omega, hp2.out⟩)
            | ((repeat apply Exists.intro); refine And.intro ?_ rfl; exact ⟨j + 1, b', _, rfl, by simp, by omega, hp2.out⟩)
        case measure =>
          simp [intOf] <;> omega
end Go.Proofs.Ytgigehlflgcdpaa
