/- The law on any calls: its walk. Conditions: the arguments lie in memory. -/
import Derived.Test.YtgigehlflgcdpaaU7
import Derived.Test.YtgigehlflgcdpaaO
set_option linter.unusedVariables false
set_option linter.unusedSimpArgs false
namespace Go.Proofs.Ytgigehlflgcdpaa
open Go.RowKit
set_option maxHeartbeats 1000000 in
theorem plays_many {w : World} (k : Int) (po : Option Addr) (pn pcap : Nat) (o : Option Addr) (n cap : Nat) (hn : 30 < n) :
    Calls Try.prog 5 #[.agg #[.int .i64 k, .slice po pn pcap], .slice o n cap] w fun e w' => e = .returned (.bool true) ∧ Below w.heap.size w w' := by
  go_enter Try.func5, Try.ntmps5
  go_wp2_with fail
  refine (known_c _).mono ?_
  rintro e W ⟨rfl, hk⟩
  go_wp2
  go_ret
  exact ⟨rfl, below_of_alloc hk⟩
set_option maxHeartbeats 1000000 in
theorem plays_bad {w : World} (k : Int) (ps : List Per) (po : Option Addr) (pn pcap : Nat) (o : Option Addr) (n cap : Nat) (hn : n ≤ 30) (hC : CtlArg w k ps po pn) (hv : vld k ps = false) :
    Calls Try.prog 5 #[.agg #[.int .i64 k, .slice po pn pcap], .slice o n cap] w fun e w' => e = .returned (.bool true) ∧ Below w.heap.size w w' := by
  have hval := fun W (hb : Below w.heap.size w W) => Lib.hid ((hC.below hb).valid (cap := pcap))
  rw [hv] at hval
  have hnn : ¬ 30 < n := by omega
  clear hC
  go_enter Try.func5, Try.ntmps5
  go_wp2_with fail
  refine (hval _ ((Below.refl _ _).alloc (Nat.le_refl _) _)).out.mono ?_
  rintro e V ⟨rfl, hV⟩
  go_wp2_with fail
  refine (known_c _).mono ?_
  rintro e W ⟨rfl, hk⟩
  go_wp2
  go_ret
  exact ⟨rfl, below_of_alloc (hV.trans (hk.mono hV.size))⟩
theorem ActAt.below {w w' : World} {b o i : Nat} {a : Int × Int × Int × Int} (h : ActAt w b o i a) (hb : Below w.heap.size w w') : ActAt w' b o i a :=
  ⟨below_at hb h.what, below_at hb h.now, below_at hb h.side, below_at hb h.time, h.wf⟩
theorem ActAt.drew {w : World} {b o i : Nat} {a : Int × Int × Int × Int} (h : ActAt w b o i a) : ActAt w.drew b o i a := ⟨h.what, h.now, h.side, h.time, h.wf⟩
theorem grown_setCells3 {a : World} {g : Nat} : ∀ (vs : List Value) (o : Nat) (w : World), a.grownBy w (some g) → a.grownBy (w.setCells g o vs) (some g)
  | [], _, _, h => h
  | v :: vs, o, w, h => grown_setCells3 vs (o + 1) _ (grown_set h (p := ⟨g, o, none⟩) (.inl rfl) v)
/-- a block stands -/
def Held1 (m : Nat) (A : Obj) (W : World) : Prop := W.heap[m]? = some A
/-- a block and a call's numbers stand -/
def HeldA (m : Nat) (A : Obj) (ab ao j : Nat) (x : Int × Int × Int × Int) (W : World) : Prop := W.heap[m]? = some A ∧ ActAt W ab ao j x
/-- a clock and the reference beside it, in memory of the call's own -/
structure Pair (w W : World) (b mb : Nat) (L : Ctl) (r : Rf) (c : Ck) : Prop where
  clk : ClkAt W b L c
  ctl : CtlAt W L
  inv : Inv L c
  bc : b ≠ L.cb
  bp : b ≠ L.pb
  lo : w.heap.size ≤ b ∧ w.heap.size ≤ L.cb ∧ w.heap.size ≤ L.pb ∧ w.heap.size ≤ mb
  ne : mb ≠ b ∧ mb ≠ L.cb ∧ mb ≠ L.pb
  mod : W.heap[mb]? = some (.cells (c.rcells L r) 37 (0, 0))
  below : Below w.heap.size w W
theorem Pair.drew {w W : World} {b mb : Nat} {L : Ctl} {r : Rf} {c : Ck} (h : Pair w W b mb L r c) : Pair w W.drew b mb L r c :=
  ⟨h.clk, h.ctl.grown (grown_drew (grown_refl W none)) (by simp) (by simp), h.inv, h.bc, h.bp, h.lo, h.ne, h.mod, h.below.drew⟩
/-- behind a call of step: the new clock, and the old reference -/
structure Mid (w W : World) (b mb : Nat) (L : Ctl) (r : Rf) (c c' : Ck) : Prop where
  clk : ClkAt W b L c'
  ctl : CtlAt W L
  inv : Inv L c'
  bc : b ≠ L.cb
  bp : b ≠ L.pb
  lo : w.heap.size ≤ b ∧ w.heap.size ≤ L.cb ∧ w.heap.size ≤ L.pb ∧ w.heap.size ≤ mb
  ne : mb ≠ b ∧ mb ≠ L.cb ∧ mb ≠ L.pb
  mod : W.heap[mb]? = some (.cells (c.rcells L r) 37 (0, 0))
  below : Below w.heap.size w W
theorem below_row2 {w W V : World} {b : Nat} (hB : Below w.heap.size w W) (hg : W.grownBy V (some b)) (hb : w.heap.size ≤ b) : Below w.heap.size w V :=
  hB.trans ⟨hg.os, hg.tape, hg.output, hg.size, fun k hk => hg.block k (by have := hB.size; omega) (by simp; omega)⟩
theorem ctl_pb {W : World} {L : Ctl} (h : CtlAt W L) (hn : 0 < L.ps.length) : L.pb < W.heap.size := by
  obtain ⟨p, hp⟩ : ∃ p, L.ps[0]? = some p := ⟨_, List.getElem?_eq_getElem hn⟩
  exact lt_of_cell (h.per _ _ hp).1
theorem Mid.of_step {w W V : World} {b b' mb : Nat} {L : Ctl} {r : Rf} {c c' : Ck} (h : Pair w W b mb L r c) (hC : ClkAt V b' L c') (hI : Inv L c') (hb : b' = b ∨ W.heap.size ≤ b') (hg : W.grownBy V (some b)) : Mid w V b' mb L r c c' := by
  obtain ⟨l1, l2, l3, l4⟩ := h.lo
  obtain ⟨n1, n2, n3⟩ := h.ne
  have hcb : L.cb < W.heap.size := (Array.getElem?_eq_some_iff.1 h.ctl.ctl).1
  have hpb := ctl_pb h.ctl (by have := h.inv.pa; omega)
  have hmb : mb < W.heap.size := (Array.getElem?_eq_some_iff.1 h.mod).1
  have hbl : b < W.heap.size := (Array.getElem?_eq_some_iff.1 h.clk).1
  have h1 := h.bc
  have h2 := h.bp
  refine ⟨hC, h.ctl.grown hg (by simpa using h.bc.symm) (by simpa using h.bp.symm), hI, ?_, ?_, ⟨?_, l2, l3, l4⟩, ⟨?_, n2, n3⟩, (hg.block mb hmb (by simpa using n1)).trans h.mod, below_row2 h.below hg l1⟩ <;> omega
theorem Mid.grow {w W V : World} {b mb : Nat} {L : Ctl} {r : Rf} {c c' : Ck} (h : Mid w W b mb L r c c') (hg : W.grownBy V none) : Mid w V b mb L r c c' :=
  ⟨h.clk.grown hg (by simp), h.ctl.grown hg (by simp) (by simp), h.inv, h.bc, h.bp, h.lo, h.ne, (hg.block mb (Array.getElem?_eq_some_iff.1 h.mod).1 (by simp)).trans h.mod, h.below.trans ((below_grown hg).mono h.below.size)⟩
theorem Pair.grow {w W V : World} {b mb : Nat} {L : Ctl} {r : Rf} {c : Ck} (h : Pair w W b mb L r c) (hg : W.grownBy V none) : Pair w V b mb L r c :=
  ⟨h.clk.grown hg (by simp), h.ctl.grown hg (by simp) (by simp), h.inv, h.bc, h.bp, h.lo, h.ne, (hg.block mb (Array.getElem?_eq_some_iff.1 h.mod).1 (by simp)).trans h.mod, h.below.trans ((below_grown hg).mono h.below.size)⟩
theorem Mid.fin {w W : World} {b mb m2 : Nat} {L : Ctl} {r : Rf} {c c' : Ck} (h : Mid w W b mb L r c c') (hz : W.heap[m2]? = some (.cells zeros 37 (0, 0))) (h1 : m2 ≠ b) (h2 : m2 ≠ L.cb) (h3 : m2 ≠ L.pb) (h4 : m2 ≠ mb) (h5 : w.heap.size ≤ m2) :
    Pair w (W.setCells m2 0 (c'.rcells L r).toList) b m2 L r c' ∧ (W.setCells m2 0 (c'.rcells L r).toList).heap[mb]? = some (.cells (c.rcells L r) 37 (0, 0)) ∧ mb ≠ b ∧ mb ≠ m2 := by
  have hg := grown_setCells3 (g := m2) (c'.rcells L r).toList 0 W (grown_refl W (some m2))
  refine ⟨⟨h.clk.grown hg (by simpa using h1.symm), h.ctl.grown hg (by simpa using h2.symm) (by simpa using h3.symm), h.inv, h.bc, h.bp, ⟨h.lo.1, h.lo.2.1, h.lo.2.2.1, h5⟩, ⟨h1, h2, h3⟩, setCells_same hz rfl, setCells_below h5 _ _ _ h.below⟩, (setCells_other (Ne.symm h4) _ _ _).trans h.mod, h.ne.1, Ne.symm h4⟩
theorem Pair.copy {w W : World} {b mb m2 : Nat} {L : Ctl} {r : Rf} {c c' : Ck} (h : Pair w W b m2 L r c') (ho : W.heap[mb]? = some (.cells (c.rcells L r) 37 (0, 0))) (h1 : mb ≠ b) (h2 : mb ≠ L.cb) (h3 : mb ≠ L.pb) (h5 : w.heap.size ≤ mb) :
    Pair w (W.setCells mb 0 (c'.rcells L r).toList) b mb L r c' := by
  have hg := grown_setCells3 (g := mb) (c'.rcells L r).toList 0 W (grown_refl W (some mb))
  exact ⟨h.clk.grown hg (by simpa using h1.symm), h.ctl.grown hg (by simpa using h2.symm) (by simpa using h3.symm), h.inv, h.bc, h.bp, ⟨h.lo.1, h.lo.2.1, h.lo.2.2.1, h5⟩, ⟨h1, h2, h3⟩, setCells_same ho rfl, setCells_below h5 _ _ _ h.below⟩
set_option maxHeartbeats 2000000 in
set_option maxRecDepth 100000 in
theorem plays_main {w : World} (k : Int) (ps : List Per) (pb off pcap : Nat) (o : Option Addr) (n cap : Nat) (ac : Nat → Int × Int × Int × Int) (hn : n ≤ 30) (hP : PerAt w ps pb off) (hv : vld k ps = true)
    (ho : n = 0 ∨ ∃ ab aoff, o = some ⟨ab, aoff, none⟩ ∧ ∀ i, i < n → ActAt w ab aoff i (ac i)) :
    Calls Try.prog 5 #[.agg #[.int .i64 k, .slice (some ⟨pb, off, none⟩) ps.length pcap], .slice o n cap] w fun e w' => e = .returned (.bool true) ∧ Below w.heap.size w w' := by
  have hval := fun W (hp : PerAt W ps pb off) => Lib.hid (lvalid_c (w := W) k ps pb off pcap hp)
  rw [hv] at hval
  have hnew := fun W (hp : PerAt W ps pb off) => Lib.hid (new_c (w := W) k ps pb off pcap hp hv)
  have hnn : ¬ 30 < n := by omega
  have hP := Lib.hid hP
  have ho := Lib.hid ho
  obtain ⟨T, hT⟩ : ∃ T, (ps.getD 0 ⟨0, 0, 0⟩).time = T := ⟨_, rfl⟩
  obtain ⟨l, hl⟩ : ∃ l, ps.length = l := ⟨_, rfl⟩
  rw [hl] at hval hnew ⊢
  rw [hT] at hnew
  have hT := Lib.hid hT
  have hl := Lib.hid hl
  have hvh := Lib.hid hv
  clear hv
  go_enter Try.func5, Try.ntmps5
  go_wp2_with fail
  refine (hval _ (hP.out.below ((Below.refl _ _).alloc (Nat.le_refl _) _))).out.mono ?_
  rintro e V0 ⟨rfl, hV⟩
  have hX := box_of hV
  have y0 := cell_of hX 0 (.int .i64 k) rfl
  have y1 := cell_of hX 1 (.slice (some ⟨pb, off, none⟩) l pcap) rfl
  have hB := below_of_alloc hV
  have hs0 : w.heap.size < V0.heap.size := lt_of_cell y0
  clear hV
  go_wp2_with fail
  refine (hnew _ (hP.out.below hB)).out.mono ?_
  rintro e V1 ⟨b, L, rfl, k1, p1, hO, hB1⟩
  have hX1 := below_blk hB1 hX
  have hBv := hB.trans (hB1.mono hB.size)
  clear y0 y1
  have y0 := cell_of hX1 0 (.int .i64 k) rfl
  have y1 := cell_of hX1 1 (.slice (some ⟨pb, off, none⟩) l pcap) rfl
  have gL : Good L := by unfold Good; rw [k1, p1]; exact hvh.out
  have iL := inv_new gL
  rw [p1, hT.out] at iL
  have hmade : ∀ W, PerAt W ps pb off → Hid (Pure 13 #[.agg #[.int .i64 k, .slice (some ⟨pb, off, none⟩) l pcap]] W (.agg ((Ck.new T).rcells L ⟨pb, off, pcap⟩))) := by
    intro W hp
    have h := made_r (w := W) (L := L) ⟨pb, off, pcap⟩ (p := L.ps.getD 0 ⟨0, 0, 0⟩) (by rw [p1]; exact hp) gL.first gL.hdr.2.1
    rw [k1, p1, hl.out, hT.out] at h
    exact Lib.hid h
  replace k1 := Lib.hid k1
  replace p1 := Lib.hid p1
  clear hval hnew hX hB
  go_wp2_with fail
  refine (hmade V1 (hP.out.below hBv)).out.mono ?_
  rintro e V2 ⟨rfl, hV2⟩
  have hX2 := below_blk hV2 hX1
  have hB2 := hBv.trans (hV2.mono hBv.size)
  have hO2 := hO.past hV2
  have hsz : V0.heap.size ≤ V1.heap.size := hB1.size
  clear y0 y1 hmade hX1 hBv hB1
  dsimp only [Ck.rcells, Ck.new, sideI]
  go_wp2_with fail
  obtain ⟨mb, hmb⟩ : ∃ mb, mb = V2.heap.size := ⟨_, rfl⟩
  rw [← hmb]
  have hpair : Pair w (V2.alloc (.cells (Ck.rcells (Ck.new T) L ⟨pb, off, pcap⟩) 37 (0, 0))) b mb L ⟨pb, off, pcap⟩ (Ck.new T) := by
    obtain ⟨b1, b2, b3, b4, b5, b6, b7⟩ := hO2.bnd
    exact ⟨blk_alloc hO2.clk _, hO2.ctl.grown (grown_alloc (grown_refl V2 none) _) (by simp) (by simp), iL, hO2.bc, hO2.bp, by omega, by omega, blk_new hmb _, hB2.alloc (by omega) _⟩
  have hpair := Lib.hid hpair
  clear hO2 hB2 hX2 hs0 hsz hO
  go_loopw [5, 8] (fun x i wr => ∃ (j b : Nat) (c : Ck), x = .pointer (some ⟨b, 0, none⟩) ∧ i = .int .i64 j ∧ j ≤ n ∧ Pair w wr b mb L ⟨pb, off, pcap⟩ c) (fun _ i _ => n - (intOf i).toNat)
  case atStart => exact ⟨0, b, Ck.new T, rfl, rfl, by omega, hpair.out⟩
  case round =>
    obtain ⟨j, b, c, rfl, rfl, hj, hp⟩ := hrel
    clear hpair hmb
    have hp := Lib.hid hp
    by_cases hjn : j = n
    · subst hjn
      go_wp2_with fail
      refine (known_c _).mono ?_
      rintro e W ⟨rfl, hk⟩
      go_wp2
      go_ret
      exact ⟨rfl, hp.out.below.trans (hk.mono hp.out.below.size)⟩
    · have hjl : j < n := by omega
      obtain h0 | ⟨ab, aoff, hoo, hac⟩ := ho.out
      · omega
      subst hoo
      have hact := Lib.hid ((hac j hjl).below hp.out.below)
      obtain ⟨⟨what, now, sd, tm⟩, hq⟩ : ∃ q, ac j = q := ⟨_, rfl⟩
      rw [hq] at hact
      have hact0 := Lib.hid (hac j hjl)
      rw [hq] at hact0
      clear hq hac ho
      go_upto_region 10 with (fail)
      go_cut [9, 10, 11] (fun p q s wx => ∃ b' c' mb2, p = .pointer (some ⟨b', 0, none⟩) ∧ q = .pointer (some ⟨mb2, 0, none⟩) ∧ s = .bool true ∧ Pair w wx b' mb2 L ⟨pb, off, pcap⟩ c' ∧ wx.heap[mb]? = some (.cells (c.rcells L ⟨pb, off, pcap⟩) 37 (0, 0)) ∧ mb ≠ b' ∧ mb ≠ mb2)
      case first =>
        have hS0 : HeldA mb (.cells (c.rcells L ⟨pb, off, pcap⟩) 37 (0, 0)) ab aoff j (what, now, sd, tm) wr.drew := ⟨hp.out.mod, hact.out.drew⟩
        refine wp_region_held_drew (S := HeldA mb (.cells (c.rcells L ⟨pb, off, pcap⟩) 37 (0, 0)) ab aoff j (what, now, sd, tm)) (by kernel_rfl) hS0 ?_
        intro hS
        refine wpAnyH_take (i := 0) (v := .pointer (some ⟨b, 0, none⟩)) rfl (by kernel_rfl) (by kernel_rfl) (by kernel_rfl) (fun _ _ _ h => h) (.inl ⟨by rfl, fun w' _ => by go_simp⟩) hS ?_
        refine wpAnyH_take (i := 1) rfl (by kernel_rfl) (by kernel_rfl) (by kernel_rfl) (fun _ _ _ h => h) (yields_row 37 (.tmp 7) rfl rfl mb (by go_simp) 37 (c.rcells L ⟨pb, off, pcap⟩) (0, 0) _ (fun _ h => h.1) Try.underlying37 rfl size37) hS ?_
        refine wpAnyH_take (i := 2) (v := .slice (some ⟨ab, aoff, none⟩) n cap) rfl (by kernel_rfl) (by kernel_rfl) (by kernel_rfl) (fun _ _ _ h => h) (.inl ⟨by rfl, fun w' _ => by go_simp⟩) hS ?_
        refine wpAnyH_take (i := 3) (v := .int .i64 j) rfl (by kernel_rfl) (by kernel_rfl) (by kernel_rfl) (fun _ _ _ h => h) (.inl ⟨by rfl, fun w' _ => by go_simp⟩) hS ?_
        refine wpAnyH_take (i := 4) (v := .pointer (some ⟨ab, aoff + j * 4, none⟩)) rfl (by kernel_rfl) (by kernel_rfl) (by kernel_rfl) (fun _ _ _ h => h) (.inl ⟨by rfl, fun w' _ => by go_simp⟩) hS ?_
        refine wpAnyH_take (i := 5) (v := .agg #[.int .i64 what, .int .i64 now, .int .i64 sd, .int .i64 tm]) rfl (by kernel_rfl) (by kernel_rfl) (by kernel_rfl) (fun _ _ _ h => h) (.inl ⟨by rfl, fun w' hh => by have a1 := hh.2.what; have a2 := hh.2.now; have a3 := hh.2.side; have a4 := hh.2.time; clear hh; go_simp⟩) hS ?_
        have hpd := hp.out.drew
        have hbm := hp.out.lo
        refine wpAnyH_two (i := 6) (j := 11) (by kernel_rfl) rfl (by rfl) rfl (by rfl) ?_ ?_
        · intro K hK
          unfold Oper.wp
          go_simp
          refine (step_c ⟨pb, off, pcap⟩ what now sd tm hpd.clk hpd.ctl (by rw [p1.out]; exact hP.out.below hpd.below) hpd.inv gL hpd.bc hpd.bp).mono ?_
          rintro e V ⟨b', c', rfl, hC', hI', hb', hg⟩
          have hM := Mid.of_step hpd hC' hI' hb' hg
          have hS2 : HeldA mb (.cells (c.rcells L ⟨pb, off, pcap⟩) 37 (0, 0)) ab aoff j (what, now, sd, tm) V := ⟨hM.mod, hact0.out.below hM.below⟩
          refine hK.out _ _ hS2 ?_
          clear hK hS
          refine wpAnyH_take (i := 7) (v := SV L ⟨pb, off, pcap⟩ b' c') rfl (by kernel_rfl) (by kernel_rfl) (by kernel_rfl) (fun _ _ _ h => h) (yields_val rfl (fun w' _ => by (try dsimp only [SV]); go_simp)) hS2 ?_
          refine wpAnyH_take (i := 8) (v := .pointer (some ⟨b', 0, none⟩)) rfl (by kernel_rfl) (by kernel_rfl) (by kernel_rfl) (fun _ _ _ h => h) (yields_val rfl (fun w' _ => by (try dsimp only [SV]); go_simp)) hS2 ?_
          refine wpAnyH_take (i := 9) (v := .agg (c'.rcells L ⟨pb, off, pcap⟩)) rfl (by kernel_rfl) (by kernel_rfl) (by kernel_rfl) (fun _ _ _ h => h) (yields_val rfl (fun w' _ => by (try dsimp only [SV]); go_simp)) hS2 ?_
          refine wpAnyH_take (i := 10) (v := .bool true) rfl (by kernel_rfl) (by kernel_rfl) (by kernel_rfl) (fun _ _ _ h => h) (yields_val rfl (fun w' _ => by (try dsimp only [SV]); go_simp)) hS2 ?_
          refine wpAnyH_only (i := 11) (by kernel_rfl) rfl (by rfl) ?_
          intro K hK
          unfold Oper.wp
          go_simp
          have l1 : b' < V.heap.size := (Array.getElem?_eq_some_iff.1 hM.clk).1
          have l2 : L.cb < V.heap.size := (Array.getElem?_eq_some_iff.1 hM.ctl.ctl).1
          have l3 := ctl_pb hM.ctl (by have := hM.inv.pa; omega)
          have l4 : mb < V.heap.size := (Array.getElem?_eq_some_iff.1 hM.mod).1
          have l5 := hM.below.size
          have hM2 := hM.grow (grown_alloc (grown_refl V none) (.cells zeros 37 (0, 0)))
          have hS3 : HeldA mb (.cells (c.rcells L ⟨pb, off, pcap⟩) 37 (0, 0)) ab aoff j (what, now, sd, tm) (V.alloc (.cells zeros 37 (0, 0))) := ⟨hM2.mod, hact0.out.below hM2.below⟩
          refine hK.out _ (V.alloc (.cells zeros 37 (0, 0))) hS3 ?_
          clear hK hS2
          refine wpAnyH_take (i := 12) (v := .pointer (some ⟨b', 0, none⟩)) rfl (by kernel_rfl) (by kernel_rfl) (by kernel_rfl) (fun _ _ _ h => h) (yields_val rfl (fun w' _ => by (try dsimp only [SV]); go_simp)) hS3 ?_
          have hF := hM2.fin (m2 := V.heap.size) (blk_new rfl _) (by omega) (by omega) (by omega) (by omega) (by omega)
          have hS4 : HeldA mb (.cells (c.rcells L ⟨pb, off, pcap⟩) 37 (0, 0)) ab aoff j (what, now, sd, tm) ((V.alloc (.cells zeros 37 (0, 0))).setCells V.heap.size 0 (c'.rcells L ⟨pb, off, pcap⟩).toList) := ⟨hF.2.1, hact0.out.below hF.1.below⟩
          refine wpAnyH_store (i := 13) 37 (.tmp 10) (.tmp 49) (by kernel_rfl) (by rfl) (c'.rcells L ⟨pb, off, pcap⟩) (by go_simp) (by go_simp) zeros (blk_new rfl _) rfl size37 (one37 _ _ _) hS4 ?_
          have hF := Lib.hid hF
          clear hM2 hS3
          generalize (V.alloc (.cells zeros 37 (0, 0))).setCells V.heap.size 0 (c'.rcells L ⟨pb, off, pcap⟩).toList = V3 at *
          refine wpAnyH_take (i := 14) (v := .bool true) rfl (by kernel_rfl) (by kernel_rfl) (by kernel_rfl) (fun _ _ _ h => h) (yields_val rfl (fun w' _ => by (try dsimp only [SV]); go_simp)) hS4 ?_
          refine wpAnyH_done (by kernel_rfl) ?_ _
          go_simp
          clear hS4 hM
          go_wp2_with fail
          go_meet
          case rel => exact ⟨b', c', _, rfl, rfl, rfl, hF.out⟩
        · intro K hK
          unfold Oper.wp
          go_simp
          have hp1 : Pair w (wr.alloc (.cells zeros 37 (0, 0))).drew b mb L ⟨pb, off, pcap⟩ c := hp.out.grow (grown_drew (grown_alloc (grown_refl wr none) _))
          have hz1 : (wr.alloc (.cells zeros 37 (0, 0))).drew.heap[wr.heap.size]? = some (.cells zeros 37 (0, 0)) := blk_drew (blk_new rfl _)
          have l1 : b < wr.heap.size := (Array.getElem?_eq_some_iff.1 hp.out.clk).1
          have l2 : L.cb < wr.heap.size := (Array.getElem?_eq_some_iff.1 hp.out.ctl.ctl).1
          have l3 := ctl_pb hp.out.ctl (by have := hp.out.inv.pa; omega)
          have l4 : mb < wr.heap.size := (Array.getElem?_eq_some_iff.1 hp.out.mod).1
          have l5 := hp.out.below.size
          have l6 : wr.heap.size < (wr.alloc (.cells zeros 37 (0, 0))).drew.heap.size := (Array.getElem?_eq_some_iff.1 hz1).1
          have hS2 : HeldA mb (.cells (c.rcells L ⟨pb, off, pcap⟩) 37 (0, 0)) ab aoff j (what, now, sd, tm) (wr.alloc (.cells zeros 37 (0, 0))).drew := ⟨hp1.mod, hact0.out.below hp1.below⟩
          refine hK.out _ (wr.alloc (.cells zeros 37 (0, 0))).drew hS2 ?_
          clear hK hS
          refine wpAnyH_only (i := 6) (by kernel_rfl) rfl (by rfl) ?_
          intro K hK
          unfold Oper.wp
          go_simp
          refine (step_c ⟨pb, off, pcap⟩ what now sd tm hp1.clk hp1.ctl (by rw [p1.out]; exact hP.out.below hp1.below) hp1.inv gL hp1.bc hp1.bp).mono ?_
          rintro e V ⟨b', c', rfl, hC', hI', hb', hg⟩
          have hM := Mid.of_step hp1 hC' hI' hb' hg
          have hz2 := (hg.block wr.heap.size l6 (by simp; omega)).trans hz1
          have hS3 : HeldA mb (.cells (c.rcells L ⟨pb, off, pcap⟩) 37 (0, 0)) ab aoff j (what, now, sd, tm) V := ⟨hM.mod, hact0.out.below hM.below⟩
          refine hK.out _ _ hS3 ?_
          clear hK hS2
          have hne : wr.heap.size ≠ b' := by rcases hb' with h | h <;> omega
          refine wpAnyH_take (i := 7) (v := SV L ⟨pb, off, pcap⟩ b' c') rfl (by kernel_rfl) (by kernel_rfl) (by kernel_rfl) (fun _ _ _ h => h) (yields_val rfl (fun w' _ => by (try dsimp only [SV]); go_simp)) hS3 ?_
          refine wpAnyH_take (i := 8) (v := .pointer (some ⟨b', 0, none⟩)) rfl (by kernel_rfl) (by kernel_rfl) (by kernel_rfl) (fun _ _ _ h => h) (yields_val rfl (fun w' _ => by (try dsimp only [SV]); go_simp)) hS3 ?_
          refine wpAnyH_take (i := 9) (v := .agg (c'.rcells L ⟨pb, off, pcap⟩)) rfl (by kernel_rfl) (by kernel_rfl) (by kernel_rfl) (fun _ _ _ h => h) (yields_val rfl (fun w' _ => by (try dsimp only [SV]); go_simp)) hS3 ?_
          refine wpAnyH_take (i := 10) (v := .bool true) rfl (by kernel_rfl) (by kernel_rfl) (by kernel_rfl) (fun _ _ _ h => h) (yields_val rfl (fun w' _ => by (try dsimp only [SV]); go_simp)) hS3 ?_
          refine wpAnyH_take (i := 12) (v := .pointer (some ⟨b', 0, none⟩)) rfl (by kernel_rfl) (by kernel_rfl) (by kernel_rfl) (fun _ _ _ h => h) (yields_val rfl (fun w' _ => by (try dsimp only [SV]); go_simp)) hS3 ?_
          have hF := hM.fin (m2 := wr.heap.size) hz2 hne (by omega) (by omega) (by omega) (by omega)
          have hS4 : HeldA mb (.cells (c.rcells L ⟨pb, off, pcap⟩) 37 (0, 0)) ab aoff j (what, now, sd, tm) (V.setCells wr.heap.size 0 (c'.rcells L ⟨pb, off, pcap⟩).toList) := ⟨hF.2.1, hact0.out.below hF.1.below⟩
          refine wpAnyH_store (i := 13) 37 (.tmp 10) (.tmp 49) (by kernel_rfl) (by rfl) (c'.rcells L ⟨pb, off, pcap⟩) (by go_simp) (by go_simp) zeros hz2 rfl size37 (one37 _ _ _) hS4 ?_
          have hF := Lib.hid hF
          clear hS3 hM hz2 hz1 hp1
          generalize V.setCells wr.heap.size 0 (c'.rcells L ⟨pb, off, pcap⟩).toList = V3 at *
          refine wpAnyH_take (i := 14) (v := .bool true) rfl (by kernel_rfl) (by kernel_rfl) (by kernel_rfl) (fun _ _ _ h => h) (yields_val rfl (fun w' _ => by (try dsimp only [SV]); go_simp)) hS4 ?_
          refine wpAnyH_done (by kernel_rfl) ?_ _
          go_simp
          clear hS4
          go_wp2_with fail
          go_meet
          case rel => exact ⟨b', c', _, rfl, rfl, rfl, hF.out⟩
      case rest =>
        have hmbs := hp.out.lo.2.2.2
        have hmbn := hp.out.ne
        obtain ⟨b', c', m2, rfl, rfl, rfl, hp2, hold, hn1, hn2⟩ := hcut
        have hnow := (hact0.out.below hp2.below).now
        dsimp only at hnow
        have hC1 := fun (t : Int) (q : Ext wc.heap.size wc) => Lib.hid (same_c (w := q.1) ⟨pb, off, pcap⟩ t (hp2.clk.grown (grown_of_below q.2 (Nat.le_refl _)) (by simp)) (hp2.ctl.grown (grown_of_below q.2 (Nat.le_refl _)) (by simp) (by simp)) (by rw [p1.out]; exact hP.out.below (hp2.below.trans (q.2.mono hp2.below.size))) hp2.inv)
        have hlm : m2 < wc.heap.size := (Array.getElem?_eq_some_iff.1 hp2.mod).1
        have hp2' := Lib.hid hp2
        have hold' := Lib.hid hold
        have ya := fun x : Ext wc.heap.size wc => rcells_all ((x.2.block _ hlm).trans hp2.mod)
        have an := fun x : Ext wc.heap.size wc => below_at x.2 hnow
        clear hp2 hold hnow hp hact
        obtain ⟨⟨sa, ma, pa, da⟩, ⟨sb, mb2, pb2, db⟩, sd2, used, since, last, runs⟩ := c'
        have y0 := fun x => (ya x).1
        have y1 := fun x => (ya x).2.1
        have y2 := fun x => (ya x).2.2.1
        have y3 := fun x => (ya x).2.2.2.1
        have y4 := fun x => (ya x).2.2.2.2.1
        have y5 := fun x => (ya x).2.2.2.2.2.1
        have y6 := fun x => (ya x).2.2.2.2.2.2.1
        have y7 := fun x => (ya x).2.2.2.2.2.2.2.1
        have y8 := fun x => (ya x).2.2.2.2.2.2.2.2.1
        have y9 := fun x => (ya x).2.2.2.2.2.2.2.2.2.1
        have y10 := fun x => (ya x).2.2.2.2.2.2.2.2.2.2.1
        have y11 := fun x => (ya x).2.2.2.2.2.2.2.2.2.2.2.1
        have y12 := fun x => (ya x).2.2.2.2.2.2.2.2.2.2.2.2.1
        have y13 := fun x => (ya x).2.2.2.2.2.2.2.2.2.2.2.2.2.1
        have y14 := fun x => (ya x).2.2.2.2.2.2.2.2.2.2.2.2.2.2
        clear ya
        dsimp only [Ck.rcells] at hC1 y0 y1 y2 y3 y4 y5 y6 y7 y8 y9 y10 y11 y12 y13 y14
        go_wp2_with fail
        refine ext_region (by kernel_rfl) (by kernel_rfl) ?_
        repeat (go_big_quiet_step ((go_at_call 12; exact Pure.ext (Nat.le_refl _) (Hid.out (hC1 _ _)))))
        refine wpQuiet_nil ?_
        rintro V ⟨x, hx⟩
        have hV : Below wc.heap.size wc V := hx ▸ x.2
        clear hx x
        clear y0 y1 y2 y3 y4 y5 y6 y7 y8 y9 y10 y11 y12 y13 y14 an hC1
        have hp3 := Lib.hid (hp2'.out.grow (below_grown2 hV))
        have hold3 := Lib.hid (below_blk hV hold'.out)
        clear hp2' hold' hV hlm
        go_wp2_with fail
        have hl2 : m2 < V.heap.size := (Array.getElem?_eq_some_iff.1 hp3.out.mod).1
        have hS : Held1 m2 (.cells (Ck.rcells ⟨⟨sa, ma, pa, da⟩, ⟨sb, mb2, pb2, db⟩, sd2, used, since, last, runs⟩ L ⟨pb, off, pcap⟩) 37 (0, 0)) V.drew := blk_drew hp3.out.mod
        refine wp_region_held_drew (S := Held1 m2 (.cells (Ck.rcells ⟨⟨sa, ma, pa, da⟩, ⟨sb, mb2, pb2, db⟩, sd2, used, since, last, runs⟩ L ⟨pb, off, pcap⟩) 37 (0, 0))) (by kernel_rfl) hS ?_
        clear hS
        intro hS
        refine wpAnyH_take (i := 0) (v := .pointer (some ⟨b', 0, none⟩)) rfl (by kernel_rfl) (by kernel_rfl) (by kernel_rfl) (fun _ _ _ h => h) (.inl ⟨by rfl, fun w' _ => by go_simp⟩) hS ?_
        refine wpAnyH_take (i := 1) rfl (by kernel_rfl) (by kernel_rfl) (by kernel_rfl) (fun _ _ _ h => h) (yields_row 37 (.tmp 10) rfl rfl m2 (by go_simp) 37 (Ck.rcells ⟨⟨sa, ma, pa, da⟩, ⟨sb, mb2, pb2, db⟩, sd2, used, since, last, runs⟩ L ⟨pb, off, pcap⟩) (0, 0) _ (fun _ h => h) Try.underlying37 rfl size37) hS ?_
        refine wpAnyH_take (i := 2) (v := .pointer (some ⟨b', 0, none⟩)) rfl (by kernel_rfl) (by kernel_rfl) (by kernel_rfl) (fun _ _ _ h => h) (.inl ⟨by rfl, fun w' _ => by go_simp⟩) hS ?_
        refine wpAnyH_store (i := 3) 37 (.tmp 7) (.tmp 77) (by kernel_rfl) (by rfl) (Ck.rcells ⟨⟨sa, ma, pa, da⟩, ⟨sb, mb2, pb2, db⟩, sd2, used, since, last, runs⟩ L ⟨pb, off, pcap⟩) (by go_simp) (by go_simp) (c.rcells L ⟨pb, off, pcap⟩) (blk_drew hold3.out) rfl size37 (one37 _ _ _) ((setCells_other (Ne.symm hn2) _ _ _).trans hS) ?_
        refine wpAnyH_done (by kernel_rfl) ?_ _
        have hF := Lib.hid (hp3.out.drew.copy (blk_drew hold3.out) hn1 hmbn.2.1 hmbn.2.2 hmbs)
        generalize V.drew.setCells mb 0 (Ck.rcells ⟨⟨sa, ma, pa, da⟩, ⟨sb, mb2, pb2, db⟩, sd2, used, since, last, runs⟩ L ⟨pb, off, pcap⟩).toList = V3 at *
        go_simp
        clear hS hold3 hp3 hl2
        go_wp2_with fail
        go_roundw
        case rel =>
          first
            | (exact ⟨j + 1, b', _, rfl, by simp, by omega, hF.out⟩)
            | ((repeat apply Exists.intro); refine And.intro ?_ rfl; exact ⟨j + 1, b', _, rfl, by simp, by omega, hF.out⟩)
        case measure =>
          simp [intOf] <;> omega
end Go.Proofs.Ytgigehlflgcdpaa
