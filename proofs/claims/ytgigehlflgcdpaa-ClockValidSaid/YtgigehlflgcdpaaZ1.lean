/- The law on valid controls and new clocks: its walk. Conditions: the arguments lie in memory. -/
import Derived.Test.YtgigehlflgcdpaaO
import Derived.Test.YtgigehlflgcdpaaU
import Derived.Test.YtgigehlflgcdpaaK2
import Derived.Deep.RegionLawGrows
import Derived.Deep.DeepCutAuto

set_option linter.unusedVariables false
set_option linter.unusedSimpArgs false
namespace Go.Proofs.Ytgigehlflgcdpaa
open Go.RowKit
set_option maxHeartbeats 400000 in
theorem new_bad {w : World} (k : Int) (ps : List Per) (pb off cap : Nat) (hP : PerAt w ps pb off) (hv : vld k ps = false) :
    Calls Try.prog 9 #[.agg #[.int .i64 k, .slice (some ⟨pb, off, none⟩) ps.length cap]] w fun e w' => e = .returned (.tuple #[.pointer none, .int .i64 2]) ∧ Below w.heap.size w w' := by
  have hval := fun w' (hp : PerAt w' ps pb off) => Lib.hid (valid_c (w := w') k ps pb off cap hp)
  rw [hv] at hval
  have hPh := Lib.hid hP
  clear hv hP
  generalize hn : ps.length = n at *
  go_enter Try.func9, Try.ntmps9
  go_wp2_with fail
  refine (hval _ ?_).out.mono ?_
  · exact hPh.out.below ((Below.refl _ _).alloc (Nat.le_refl _) _)
  rintro e V ⟨rfl, hV⟩
  go_wp2
  go_ret2
  exact ⟨rfl, below_of_alloc hV⟩
set_option maxHeartbeats 400000 in
theorem new_nil {w : World} (k : Int) (o : Option Addr) (cap : Nat) :
    Calls Try.prog 9 #[.agg #[.int .i64 k, .slice o 0 cap]] w fun e w' => e = .returned (.tuple #[.pointer none, .int .i64 2]) ∧ Below w.heap.size w w' := by
  have hval : ∀ w', Hid (Pure 10 #[.agg #[.int .i64 k, .slice o 0 cap]] w' (.bool false)) := by
    intro w'
    have h := valid_nil (w := w') k o cap
    rw [show vld k [] = false by simp [vld, hdr]] at h
    exact Lib.hid h
  go_enter Try.func9, Try.ntmps9
  go_wp2_with fail
  refine (hval _).out.mono ?_
  rintro e V ⟨rfl, hV⟩
  go_wp2
  go_ret2
  exact ⟨rfl, below_of_alloc hV⟩
set_option maxHeartbeats 1000000 in
theorem valid_many {w : World} (k : Int) (po : Option Addr) (pn pcap : Nat) (now : Int) (hn : 9 < pn) :
    Calls Try.prog 3 #[.agg #[.int .i64 k, .slice po pn pcap], .int .i64 now] w fun e w' => e = .returned (.bool true) ∧ Below w.heap.size w w' := by
  go_enter Try.func3, Try.ntmps3
  go_wp2_with fail
  refine (known_c _).mono ?_
  rintro e W ⟨rfl, hk⟩
  go_wp2
  go_ret
  exact ⟨rfl, below_of_alloc hk⟩
theorem cell_drew {w : World} {a : Addr} {v : Value} (h : w.cell? a = some v) : w.drew.cell? a = some v := h
theorem own_some {w : World} {base : Nat} {E : TypeId} {size : Nat} {v : Value} {n : Nat} {xs : List Value} (h : w.ownsRow base E size v n xs) (hn : 0 < n) :
    ∃ g ncap cur, v = .slice (some ⟨g, 0, none⟩) n ncap ∧ base ≤ g ∧ w.heap[g]? = some (.cells cur E (0, 0)) ∧ cur.toList.take (n * size) = xs := by
  obtain ⟨_, ⟨_, h0⟩ | ⟨g, ncap, cur, rfl, hg, hcur, _, _, _, htk⟩⟩ := h
  · omega
  · exact ⟨g, ncap, cur, rfl, hg, hcur, htk⟩
/-- a copy of a control's periods, in memory of the call's own -/
structure Copied (w W : World) (ob nb ncap : Nat) (k : Int) (ps : List Per) (n : Nat) : Prop where
  below : Below w.heap.size w W
  own : W.heap[ob]? = some (.cells #[.int .i64 k, .slice (some ⟨nb, 0, none⟩) n ncap] 25 (0, 0))
  blk : ∃ cur, W.heap[nb]? = some (.cells cur 33 (0, 0)) ∧ cur.toList.take (n * 3) = pcells ps
  ne : ob ≠ nb
  lo : w.heap.size ≤ ob ∧ w.heap.size ≤ nb
theorem grown_undrew {a w : World} {row : Option Nat} (h : a.drew.grownBy w row) : a.grownBy w row := ⟨h.os, h.tape, h.output, h.size, h.block⟩
theorem copied_a {w W0 w1 : World} {X : Obj} {g ncap n : Nat} {k : Int} {ps : List Per} {cur : Array Value} (hB : Below w.heap.size w W0) (hs : W0.heap.size = w.heap.size + 1) (hX : W0.heap[w.heap.size]? = some X) (hg1 : W0.grownBy w1 none)
    (hg : W0.heap.size ≤ g) (hcur : w1.heap[g]? = some (.cells cur 33 (0, 0))) (htk : cur.toList.take (n * 3) = pcells ps) (hl : ps.length = n) :
    Copied w (w1.alloc (.cells #[.int .i64 k, .slice (some ⟨g, 0, none⟩) n ncap] 25 (0, 0))) w1.heap.size g ncap k ps n ∧ (w1.alloc (.cells #[.int .i64 k, .slice (some ⟨g, 0, none⟩) n ncap] 25 (0, 0))).heap[w.heap.size]? = some X ∧ w.heap.size < w1.heap.size ∧ w.heap.size < g := by
  have hlt : g < w1.heap.size := (Array.getElem?_eq_some_iff.1 hcur).1
  have hsz := hg1.size
  subst hl
  refine ⟨⟨?_, blk_new rfl _, ⟨_, blk_alloc hcur _, htk⟩, by omega, by omega, by omega⟩, ?_, by omega, by omega⟩
  · exact (hB.trans ((below_grown hg1).mono (by omega))).alloc (by omega) _
  · exact blk_alloc ((hg1.block _ (by omega) (by simp)).trans hX) _
theorem copied_b {w W0 w1 : World} {X Z : Obj} {g ncap n : Nat} {k : Int} {ps : List Per} {cur : Array Value} (hB : Below w.heap.size w W0) (hs : W0.heap.size = w.heap.size + 1) (hX : W0.heap[w.heap.size]? = some X) (hg1 : (W0.alloc Z).grownBy w1 none)
    (hZ : w1.heap[W0.heap.size]? = some (.cells #[.int .i64 0, .slice none 0 0] 25 (0, 0)))
    (hg : (W0.alloc Z).heap.size ≤ g) (hcur : w1.heap[g]? = some (.cells cur 33 (0, 0))) (htk : cur.toList.take (n * 3) = pcells ps) (hl : ps.length = n) :
    Copied w ((w1.setCell ⟨W0.heap.size, 0, none⟩ (.int .i64 k)).setCell ⟨W0.heap.size, 1, none⟩ (.slice (some ⟨g, 0, none⟩) n ncap)) W0.heap.size g ncap k ps n ∧
      ((w1.setCell ⟨W0.heap.size, 0, none⟩ (.int .i64 k)).setCell ⟨W0.heap.size, 1, none⟩ (.slice (some ⟨g, 0, none⟩) n ncap)).heap[w.heap.size]? = some X ∧ w.heap.size < W0.heap.size ∧ w.heap.size < g := by
  have hlt : g < w1.heap.size := (Array.getElem?_eq_some_iff.1 hcur).1
  have hsz := hg1.size
  simp at hsz hg
  subst hl
  refine ⟨⟨?_, ?_, ⟨_, blk_other (blk_other hcur (by dsimp only; omega) _) (by dsimp only; omega) _, htk⟩, by omega, by omega, by omega⟩, ?_, by omega, by omega⟩
  · exact (((hB.alloc (by omega) _).trans ((below_grown hg1).mono (by simp; omega))).setCell (by dsimp only; omega) _).setCell (by dsimp only; omega) _
  · exact blk_at (blk_set (blk_set hZ _ _) _ _) (by simp)
  · exact blk_other (blk_other ((hg1.block _ (by simp; omega) (by simp)).trans ((blk_alloc hX _))) (by dsimp only; omega) _) (by dsimp only; omega) _
/-- what is left of a copy whose first periods are struck -/
def Left' (W : World) (nb n j : Nat) (ps : List Per) : Prop := ∃ cur, W.heap[nb]? = some (.cells cur 33 (0, 0)) ∧ n * 3 ≤ cur.size ∧ ∀ i, j * 3 ≤ i → i < n * 3 → cur[i]? = (pcells ps)[i]?
theorem take_size {cur : Array Value} {ps : List Per} (h : cur.toList.take (ps.length * 3) = pcells ps) : ps.length * 3 ≤ cur.size := by
  have := congrArg List.length h
  rw [List.length_take, pcells_length] at this
  simp at this
  omega
theorem take_get {cur : Array Value} {m i : Nat} (hi : i < m) : cur[i]? = (cur.toList.take m)[i]? := by
  rw [List.getElem?_take_of_lt hi]
  simp
theorem Left'.at {W : World} {nb n j : Nat} {ps : List Per} (h : Left' W nb n j ps) (hl : ps.length = n) (hj : j < n) :
    W.cell? ⟨nb, j * 3, none⟩ = some (.int .i64 (ps.getD j ⟨0, 0, 0⟩).moves) ∧ W.cell? ⟨nb, j * 3 + 1, none⟩ = some (.int .i64 (ps.getD j ⟨0, 0, 0⟩).time) ∧ W.cell? ⟨nb, j * 3 + 2, none⟩ = some (.int .i64 (ps.getD j ⟨0, 0, 0⟩).bonus) ∧
      W.frozen? ⟨nb, j * 3, none⟩ = false ∧ W.frozen? ⟨nb, j * 3 + 1, none⟩ = false ∧ W.frozen? ⟨nb, j * 3 + 2, none⟩ = false := by
  obtain ⟨cur, hc, hs, hg⟩ := h
  have e : ps[j]? = some (ps.getD j ⟨0, 0, 0⟩) := by simp [List.getD, List.getElem?_eq_getElem (show j < ps.length by omega)]
  obtain ⟨x, y, z⟩ := pcells_get ps j
  rw [e] at x y z
  exact ⟨cell_of hc _ _ ((hg _ (by omega) (by omega)).trans x), cell_of hc _ _ ((hg _ (by omega) (by omega)).trans y), cell_of hc _ _ ((hg _ (by omega) (by omega)).trans z), free_of hc _, free_of hc _, free_of hc _⟩
theorem Left'.strike {W : World} {nb n j : Nat} {ps : List Per} (h : Left' W nb n j ps) (u v x : Value) :
    Left' (((W.setCell ⟨nb, j * 3, none⟩ u).setCell ⟨nb, j * 3 + 1, none⟩ v).setCell ⟨nb, j * 3 + 2, none⟩ x) nb n (j + 1) ps := by
  obtain ⟨cur, hc, hs, hg⟩ := h
  refine ⟨_, blk_set (blk_set (blk_set hc _ _) _ _) _ _, by simpa using hs, fun i h1 h2 => ?_⟩
  rw [← hg i (by omega) h2]
  rw [Array.getElem?_setIfInBounds_ne (by omega), Array.getElem?_setIfInBounds_ne (by omega), Array.getElem?_setIfInBounds_ne (by omega)]
theorem wp_forget_calls2 {f : FuncId} {args : Array Value} {w : World} {Q : Ending → World → Prop} (F : World → Prop) (hF : F w) (h : ∀ W, F W → Calls Try.prog f args W Q) : Calls Try.prog f args w Q := h w hF
theorem grown_setCells2 {a : World} {g : Nat} : ∀ (vs : List Value) (o : Nat) (w : World), a.grownBy w (some g) → a.grownBy (w.setCells g o vs) (some g)
  | [], _, _, h => h
  | v :: vs, o, w, h => grown_setCells2 vs (o + 1) _ (grown_set h (p := ⟨g, o, none⟩) (.inl rfl) v)
theorem wpl_forget {ops : Array Oper} {rest : List Oper} {a : Act} {w : World} {Q : Exit → Act → World → Prop} (F : World → Prop) (hF : F w) (h : ∀ W, F W → wpList Try.prog ops Q rest a W) : wpList Try.prog ops Q rest a w := h w hF
theorem rsize2 (c c' : Ck) (L L' : Ctl) (r r' : Rf) : (c.rcells L r).size = (c'.rcells L' r').size := rfl
set_option maxHeartbeats 4000000 in
set_option maxRecDepth 100000 in
theorem valid_some {w : World} (k : Int) (ps : List Per) (pb off pcap n : Nat) (now : Int) (hP : PerAt w ps pb off) (hl : ps.length = n) (hn1 : 1 ≤ n) (hn9 : n ≤ 9) :
    Calls Try.prog 3 #[.agg #[.int .i64 k, .slice (some ⟨pb, off, none⟩) n pcap], .int .i64 now] w fun e w' => e = .returned (.bool true) ∧ Below w.heap.size w w' := by
  have hP' := Lib.hid hP
  have hl' := Lib.hid hl
  have hpw := cell_lt_of hP (by omega)
  have hnn : ¬ 9 < n := by omega
  obtain ⟨i0, hi, hz0, hz1, hz2⟩ := info_parts Try.info33
  clear hP hl
  go_enter Try.func3, Try.ntmps3
  go_upto_region 3 with (fail)
  go_cut [5] (fun p wx => ∃ ob nb ncap, p = .pointer (some ⟨ob, 0, none⟩) ∧ Copied w wx ob nb ncap k ps n ∧ wx.heap[w.heap.size]? = some (.cells #[.int .i64 k, .slice (some ⟨pb, off, none⟩) n pcap] 25 (0, 0)) ∧ w.heap.size < ob ∧ w.heap.size < nb)
  case first =>
    obtain ⟨W0, hW0⟩ : ∃ W0, W0 = w.alloc (Obj.cells #[.int .i64 k, .slice (some ⟨pb, off, none⟩) n pcap] 25 (0, 0)) := ⟨_, rfl⟩
    rw [← hW0]
    have hX0 : W0.heap[w.heap.size]? = some (.cells #[.int .i64 k, .slice (some ⟨pb, off, none⟩) n pcap] 25 (0, 0)) := by rw [hW0]; exact blk_new rfl _
    have hB0 : Below w.heap.size w W0 := by rw [hW0]; exact (Below.refl _ _).alloc (Nat.le_refl _) _
    have hs0 : W0.heap.size = w.heap.size + 1 := by rw [hW0]; simp
    clear hW0
    have y0 := cell_of hX0 0 (.int .i64 k) rfl
    have y1 := cell_of hX0 1 (.slice (some ⟨pb, off, none⟩) n pcap) rfl
    have hlt : w.heap.size < W0.heap.size := by omega
    have hs0' := Lib.hid hs0
    clear hs0
    have hc0 : ∀ j u, (pcells ps)[j]? = some u → W0.cell? ⟨pb, off + j, none⟩ = some u := fun j u hu => (hP'.out.below hB0).cells j u hu
    have hc0' := Lib.hid hc0
    clear hc0
    go_region_law ((refine step_append_grows rfl (.const (.slice none 0 0)) (.tmp 20) 23 rfl 33 i0 (.agg #[.int .i64 0, .int .i64 0, .int .i64 0]) 3 24 Try.underlying23 hi hz0 hz1 hz2 rfl (by decide) none 0 0 [] rfl (fun _ => ⟨rfl, rfl⟩) rfl (by intro _ h; cases h) ⟨pb, off, none⟩ n pcap (pcells ps) rfl ((pcells_length ps).trans (by rw [hl'.out])) (by intro j u hu; rw [Addr.add_lit]; repeat (first | exact hc0'.out j u hu | apply cell_drew | apply cell_past)) (pcells_one ps) (by omega) (by unfold maxLen; omega) (by omega) ?_; intro v' w1 hown hgrow; simp only [Nat.zero_add, List.nil_append] at hown; obtain ⟨g, ncap, cur, rfl, hg, hcur, htk⟩ := own_some hown (by omega); have u0 : w1.cell? ⟨w.heap.size, 0, none⟩ = some (.int .i64 k) := hgrow.cell (by repeat (first | exact y0 | apply cell_drew | apply cell_past)) (by simp); have u1 : w1.cell? ⟨w.heap.size, 1, none⟩ = some (.slice (some ⟨pb, off, none⟩) n pcap) := hgrow.cell (by repeat (first | exact y1 | apply cell_drew | apply cell_past)) (by simp); have ul := lt_of_cell u0; (try (have tb : w1.heap[W0.heap.size]? = some (.cells #[.int .i64 0, .slice none 0 0] 25 (0, 0)) := (hgrow.block _ (by simp) (by simp)).trans (blk_drew (blk_new rfl _)); have t0 := cell_of tb 0 _ rfl; have t1 := cell_of tb 1 _ rfl; have tf0 := free_of tb 0; have tf1 := free_of tb 1))))
    all_goals
      go_wp2_with fail
      go_meet
      first
        | exact ⟨_, _, _, rfl, copied_a hB0 hs0'.out hX0 (grown_undrew hgrow) hg hcur htk hl'.out⟩
        | exact ⟨_, _, _, rfl, copied_b hB0 hs0'.out hX0 (grown_undrew hgrow) tb hg hcur htk hl'.out⟩
  case rest =>
    obtain ⟨ob, nb, ncap, rfl, hC, hX, ho, hnb⟩ := hcut
    obtain ⟨cur, hcur, htk⟩ := hC.blk
    have hPn : PerAt wc ps nb 0 := PerAt.of_block hcur (by rw [hl'.out]; exact htk)
    have hPc : PerAt wc ps pb off := hP'.out.below hC.below
    have hwc : w.heap.size < wc.heap.size := (Array.getElem?_eq_some_iff.1 hX).1
    have c0 := cell_of hC.own 0 (.int .i64 k) rfl
    have c1 := cell_of hC.own 1 (.slice (some ⟨nb, 0, none⟩) n ncap) rfl
    cases hv : vld k ps
    · as_aux_lemma =>
      have hnew := new_bad k ps nb 0 ncap hPn hv
      rw [hl'.out] at hnew
      have hnew' := Lib.hid hnew
      clear hnew
      go_wp2_with fail
      refine hnew'.out.mono ?_
      rintro e W ⟨rfl, hW⟩
      have hX' := below_blk hW hX
      have hO' := below_blk hW hC.own
      have hPn' := hPn.below hW
      have hPc' := hPc.below hW
      have hB' := hC.below.trans (hW.mono hC.below.size)
      clear c0 c1 hnew' hcur htk
      go_wp2_with fail
      have hl0 : w.heap.size < W.heap.size := (Array.getElem?_eq_some_iff.1 hX').1
      have hlo : ob < W.heap.size := (Array.getElem?_eq_some_iff.1 hO').1
      have y0 := fun x : Ext W.heap.size W => cell_of ((x.2.block _ hl0).trans hX') 0 (.int .i64 k) rfl
      have y1 := fun x : Ext W.heap.size W => cell_of ((x.2.block _ hl0).trans hX') 1 (.slice (some ⟨pb, off, none⟩) n pcap) rfl
      have o0 := fun x : Ext W.heap.size W => cell_of ((x.2.block _ hlo).trans hO') 0 (.int .i64 k) rfl
      have o1 := fun x : Ext W.heap.size W => cell_of ((x.2.block _ hlo).trans hO') 1 (.slice (some ⟨nb, 0, none⟩) n ncap) rfl
      have hval2 := fun W (hp : PerAt W ps nb 0) => valid_c (w := W) k ps nb 0 ncap hp
      have hval3 := fun W (hp : PerAt W ps pb off) => lvalid_c (w := W) k ps pb off pcap hp
      rw [hv, hl'.out] at hval2 hval3
      have hval2 := fun W hp => Lib.hid (hval2 W hp)
      have hval3 := fun W hp => Lib.hid (hval3 W hp)
      have hC2 := fun (q : Ext W.heap.size W) => hval2 q.1 (hPn'.below q.2)
      have hC3 := fun (q : Ext W.heap.size W) => hval3 q.1 (hPc'.below q.2)
      refine ext_region (by kernel_rfl) (by kernel_rfl) ?_
      repeat (go_big_quiet_step (first | (go_at_call 10; exact Pure.ext (Nat.le_refl _) (Hid.out (hC2 _))) | (go_at_call 11; exact Pure.ext (Nat.le_refl _) (Hid.out (hC3 _)))))
      refine wpQuiet_nil ?_
      rintro _ ⟨⟨V, hV⟩, rfl⟩
      clear y0 y1 o0 o1 hval2 hC2 hC3
      have hX2 := below_blk hV hX'
      have hO2 := below_blk hV hO'
      have hPn2 := hPn'.below hV
      have hPc2 := hPc'.below hV
      have hB2 := hB'.trans (hV.mono hB'.size)
      have z0 := cell_of hX2 0 (.int .i64 k) rfl
      have z1 := cell_of hX2 1 (.slice (some ⟨pb, off, none⟩) n pcap) rfl
      · go_wp2_with fail
        refine (hval3 _ hPc2).out.mono ?_
        rintro e W3 ⟨rfl, hW3⟩
        go_wp2_with fail
        refine (known_c _).mono ?_
        rintro e W4 ⟨rfl, hk⟩
        go_wp2
        go_ret
        exact ⟨rfl, hB2.trans ((hW3.trans (hk.mono hW3.size)).mono hB2.size)⟩
    · as_aux_lemma =>
      have hnew := new_c k ps nb 0 ncap hPn hv
      rw [hl'.out] at hnew
      obtain ⟨T, hT⟩ : ∃ T, (ps.getD 0 ⟨0, 0, 0⟩).time = T := ⟨_, rfl⟩
      rw [hT] at hnew
      have hT' := Lib.hid hT
      have hnew' := Lib.hid hnew
      clear hnew hT
      go_wp2_with fail
      refine hnew'.out.mono ?_
      rintro e W ⟨bx, L, rfl, k1, p1, hOw, hW⟩
      have hX' := below_blk hW hX
      have hO' := below_blk hW hC.own
      have hPn' := hPn.below hW
      have hPc' := hPc.below hW
      have hB' := hC.below.trans (hW.mono hC.below.size)
      have hcur' := below_blk hW hcur
      have hlo1 : nb < wc.heap.size := (Array.getElem?_eq_some_iff.1 hcur).1
      have hob1 : ob < wc.heap.size := (Array.getElem?_eq_some_iff.1 hC.own).1
      obtain ⟨lo, hi2, hOw, hlo⟩ : ∃ lo hi, Own lo hi W bx L (Ck.new T) ∧ wc.heap.size = lo := ⟨_, _, hOw, rfl⟩
      have gL : Good L := by unfold Good; rw [k1, p1]; exact hv
      have iL := inv_new gL
      rw [p1, hT'.out] at iL
      have k1' := Lib.hid k1
      have p1' := Lib.hid p1
      clear c0 c1 hnew' k1 p1 hi hz0 hz1 hz2
      go_wp2_with fail
      have hl0 : w.heap.size < W.heap.size := (Array.getElem?_eq_some_iff.1 hX').1
      have hlo : ob < W.heap.size := (Array.getElem?_eq_some_iff.1 hO').1
      have y0 := fun x : Ext W.heap.size W => cell_of ((x.2.block _ hl0).trans hX') 0 (.int .i64 k) rfl
      have y1 := fun x : Ext W.heap.size W => cell_of ((x.2.block _ hl0).trans hX') 1 (.slice (some ⟨pb, off, none⟩) n pcap) rfl
      have o0 := fun x : Ext W.heap.size W => cell_of ((x.2.block _ hlo).trans hO') 0 (.int .i64 k) rfl
      have o1 := fun x : Ext W.heap.size W => cell_of ((x.2.block _ hlo).trans hO') 1 (.slice (some ⟨nb, 0, none⟩) n ncap) rfl
      have hval2 := fun W (hp : PerAt W ps nb 0) => valid_c (w := W) k ps nb 0 ncap hp
      have hval3 := fun W (hp : PerAt W ps pb off) => lvalid_c (w := W) k ps pb off pcap hp
      rw [hv, hl'.out] at hval2 hval3
      have hval2 := fun W hp => Lib.hid (hval2 W hp)
      have hval3 := fun W hp => Lib.hid (hval3 W hp)
      have hC2 := fun (q : Ext W.heap.size W) => hval2 q.1 (hPn'.below q.2)
      have hC3 := fun (q : Ext W.heap.size W) => hval3 q.1 (hPc'.below q.2)
      refine ext_region (by kernel_rfl) (by kernel_rfl) ?_
      repeat (go_big_quiet_step (first | (go_at_call 10; exact Pure.ext (Nat.le_refl _) (Hid.out (hC2 _))) | (go_at_call 11; exact Pure.ext (Nat.le_refl _) (Hid.out (hC3 _)))))
      refine wpQuiet_nil ?_
      rintro _ ⟨⟨V, hV⟩, rfl⟩
      clear y0 y1 o0 o1 hval2 hC2 hC3
      have hX2 := below_blk hV hX'
      have hO2 := below_blk hV hO'
      have hPn2 := hPn'.below hV
      have hPc2 := hPc'.below hV
      have hB2 := hB'.trans (hV.mono hB'.size)
      have z0 := cell_of hX2 0 (.int .i64 k) rfl
      have z1 := cell_of hX2 1 (.slice (some ⟨pb, off, none⟩) n pcap) rfl
      go_wp2_with fail
      refine (hval3 _ hPc2).out.mono ?_
      rintro e W3 ⟨rfl, hW3⟩
      have hX3 := below_blk hW3 hX2
      have hO3 := below_blk hW3 hO2
      have hB3 := hB2.trans (hW3.mono hB2.size)
      have hOw3 := (hOw.past hV).past hW3
      have hcur3 := below_blk hW3 (below_blk hV hcur')
      have hR3 : Left' W3 nb n 0 ps := ⟨cur, hcur3, by have := htk; rw [← hl'.out] at this ⊢; exact take_size this, fun i _ hi => by rw [← htk]; exact take_get hi⟩
      have hne := hC.ne
      clear hX2 hO2 hPn2 hPc2 hB2 hval3 hX' hO' hPn' hPc' hB' hcur' hOw hW hV hW3 hX hcur hC z0 z1 hcur3 hPn hPc hl0 hlo
      have hlw : w.heap.size < W3.heap.size := (Array.getElem?_eq_some_iff.1 hX3).1
      go_wp2_with fail
      go_loopw [8] (fun i wr => ∃ j : Nat, i = .int .i64 j ∧ j ≤ n ∧ Own lo hi2 wr bx L (Ck.new T) ∧ Below w.heap.size w wr ∧ wr.heap[w.heap.size]? = some (.cells #[.int .i64 k, .slice (some ⟨pb, off, none⟩) n pcap] 25 (0, 0)) ∧
        wr.heap[ob]? = some (.cells #[.int .i64 k, .slice (some ⟨nb, 0, none⟩) n ncap] 25 (0, 0)) ∧ Left' wr nb n j ps) (fun i _ => n - (intOf i).toNat)
      case atStart => exact ⟨0, rfl, by omega, hOw3, hB3, hX3, hO3, hR3⟩
      case round =>
        obtain ⟨j, rfl, hj, hOw, hB, hX, hO, hR⟩ := hrel
        have hPc := hP'.out.below hB
        have y1 := cell_of hX 1 (.slice (some ⟨pb, off, none⟩) n pcap) rfl
        have o1 := cell_of hO 1 (.slice (some ⟨nb, 0, none⟩) n ncap) rfl
        clear hOw3 hB3 hX3 hO3 hR3
        by_cases hjn : j = n
        · subst hjn
          clear hO hR
          have hlw2 : w.heap.size < wr.heap.size := lt_of_cell y1
          have h0 := cell_of hX 0 (.int .i64 k) rfl
          have hmade : ∀ W, PerAt W ps pb off → Hid (Pure 13 #[.agg #[.int .i64 k, .slice (some ⟨pb, off, none⟩) j pcap]] W (.agg ((Ck.new T).rcells L ⟨pb, off, pcap⟩))) := by
            intro W hp
            have h := made_r (w := W) (L := L) ⟨pb, off, pcap⟩ (p := L.ps.getD 0 ⟨0, 0, 0⟩) (by rw [p1'.out]; exact hp) gL.first gL.hdr.2.1
            rw [k1'.out, p1'.out, hl'.out, hT'.out] at h
            exact Lib.hid h
          have hsame : ∀ (c : Ck) (t : Int) W, Own lo hi2 W bx L c → PerAt W ps pb off → Inv L c → Hid (Pure 12 #[.pointer (some ⟨bx, 0, none⟩), .agg (c.rcells L ⟨pb, off, pcap⟩), .int .i64 t] W (.bool true)) := by
            intro c t W hO hp hI
            exact Lib.hid (same_c ⟨pb, off, pcap⟩ t hO.clk hO.ctl (by rw [p1'.out]; exact hp) hI)
          have hsr : ∀ W, PerAt W ps pb off → Hid (Pure 14 #[.agg ((Ck.new T).rcells L ⟨pb, off, pcap⟩), .int .i64 5] W (RV L ⟨pb, off, pcap⟩ ((Ck.new T).start L 5))) := by
            intro W hp
            exact Lib.hid (start_r ⟨pb, off, pcap⟩ 5 (by rw [p1'.out]; exact hp) iL)
          have hpr : ∀ W, PerAt W ps pb off → Hid (Pure 15 #[.agg (((Ck.new T).start L 5).1.rcells L ⟨pb, off, pcap⟩), .int .i64 5] W (RV L ⟨pb, off, pcap⟩ (((Ck.new T).start L 5).1.press L 5))) := by
            intro W hp
            exact Lib.hid (press_r ⟨pb, off, pcap⟩ 5 (by rw [p1'.out]; exact hp) (inv_start iL 5) gL)
          have i1 := inv_start iL 5
          have i2 := inv_press gL i1 5
          have hst : ∀ W, Own lo hi2 W bx L (Ck.new T) → Hid (Acts 16 #[.pointer (some ⟨bx, 0, none⟩), .int .i64 5] lo hi2 W bx L ((Ck.new T).start L 5)) := fun W hO => Lib.hid (start_o 5 hO iL)
          have hpo : ∀ W, Own lo hi2 W bx L ((Ck.new T).start L 5).1 → Hid (Acts 17 #[.pointer (some ⟨bx, 0, none⟩), .int .i64 5] lo hi2 W bx L (((Ck.new T).start L 5).1.press L 5)) := fun W hO => Lib.hid (press_o 5 hO i1 gL)
          obtain ⟨R2, hR2⟩ : ∃ R2, (((Ck.new T).start L 5).1.press L 5) = R2 := ⟨_, rfl⟩
          rw [hR2] at hpr hpo i2
          clear hR2
          generalize (Ck.new T).start L 5 = R1 at *
          obtain ⟨c1, a1⟩ := R1
          obtain ⟨c2, a2⟩ := R2
          dsimp only at hpr hpo i1 i2
          go_wp2_with fail
          clear o1
          refine (hmade wr hPc).out.mono ?_
          rintro e V1 ⟨rfl, hV1⟩
          replace hX := below_blk hV1 hX
          replace hB := hB.trans (hV1.mono hB.size)
          replace hOw := hOw.past hV1
          replace hPc := hPc.below hV1
          clear hV1
          go_wp2_with fail
          refine (hsame (Ck.new T) now V1 hOw hPc iL).out.mono ?_
          rintro e V2 ⟨rfl, hV2⟩
          replace hX := below_blk hV2 hX
          replace hB := hB.trans (hV2.mono hB.size)
          replace hOw := hOw.past hV2
          replace hPc := hPc.below hV2
          clear hV2
          clear h0 y1
          have h0 := cell_of hX 0 (.int .i64 k) rfl
          have y1 := cell_of hX 1 (.slice (some ⟨pb, off, none⟩) j pcap) rfl
          go_wp2_with fail
          refine (hmade V2 hPc).out.mono ?_
          rintro e V3 ⟨rfl, hV3⟩
          replace hX := below_blk hV3 hX
          replace hB := hB.trans (hV3.mono hB.size)
          replace hOw := hOw.past hV3
          replace hPc := hPc.below hV3
          clear hV3
          clear h0 y1
          go_wp2_with fail
          refine (hsr V3 hPc).out.mono ?_
          rintro e V4 ⟨rfl, hV4⟩
          replace hX := below_blk hV4 hX
          replace hB := hB.trans (hV4.mono hB.size)
          replace hOw := hOw.past hV4
          replace hPc := hPc.below hV4
          clear hV4
          dsimp only [RV]
          obtain ⟨⟨sa, ma, pa, da⟩, ⟨sb, mb, pb', db⟩, sd, used, since, last, runs⟩ := c1
          dsimp only [Ck.rcells] at hpr ⊢
          clear hmade hsr
          go_wp2_with fail
          refine wp_forget_calls2 (fun W => Below w.heap.size w W ∧ Own lo hi2 W bx L (Ck.new T) ∧ PerAt W ps pb off ∧ W.heap[V4.heap.size]? = some (.cells (Ck.rcells ⟨⟨sa, ma, pa, da⟩, ⟨sb, mb, pb', db⟩, sd, used, since, last, runs⟩ L ⟨pb, off, pcap⟩) 37 (0, 0)) ∧ w.heap.size < V4.heap.size ∧ hi2 ≤ V4.heap.size) ⟨?_, ?_, ?_, ?_, ?_, ?_⟩ ?_
          · exact hB.alloc hB.size _
          · exact hOw.past ((Below.refl _ _).alloc (Nat.le_refl _) _)
          · exact hPc.below ((Below.refl _ _).alloc (Nat.le_refl _) _)
          · exact blk_new rfl _
          · exact (Array.getElem?_eq_some_iff.1 hX).1
          · exact hOw.bnd.2.2.2.2.2.2
          clear hB hOw hPc hX
          generalize V4.heap.size = cb
          rintro W5 ⟨hB, hOw, hPc, hN, hcb, hcb2⟩
          refine (hpr W5 hPc).out.mono ?_
          rintro e V6 ⟨rfl, hV6⟩
          replace hN := below_blk hV6 hN
          replace hB := hB.trans (hV6.mono hB.size)
          replace hOw := hOw.past hV6
          replace hPc := hPc.below hV6
          clear hV6 hpr
          dsimp only [RV]
          have HN := Lib.hid hN
          clear hN
          have hF : Hid (Below w.heap.size w (V6.setCells cb 0 (c2.rcells L ⟨pb, off, pcap⟩).toList) ∧ Own lo hi2 (V6.setCells cb 0 (c2.rcells L ⟨pb, off, pcap⟩).toList) bx L (Ck.new T) ∧ PerAt (V6.setCells cb 0 (c2.rcells L ⟨pb, off, pcap⟩).toList) ps pb off ∧ (V6.setCells cb 0 (c2.rcells L ⟨pb, off, pcap⟩).toList).heap[cb]? = some (.cells (c2.rcells L ⟨pb, off, pcap⟩) 37 (0, 0))) := by
            refine Lib.hid ⟨setCells_below (by omega) _ _ _ hB, hOw.far (grown_setCells2 _ _ _ (grown_refl _ _)) (.inr hcb2), hP'.out.below (setCells_below (by omega) _ _ _ hB), setCells_same HN.out (rsize2 _ _ _ _ _ _)⟩
          clear hB hOw hPc
          go_wp2_with (refine store_row 37 (.tmp 9) (.tmp 91) rfl rfl _ rfl rfl _ HN.out (rsize2 _ _ _ _ _ _) size37 (one37 _ _ _) ?_; refine wpl_forget (fun W2 => Below w.heap.size w W2 ∧ Own lo hi2 W2 bx L (Ck.new T) ∧ PerAt W2 ps pb off ∧ W2.heap[cb]? = some (.cells (c2.rcells L ⟨pb, off, pcap⟩) 37 (0, 0))) hF.out ?_; clear HN hF; rintro W7 ⟨hB, hOw, hPc, hN⟩)
          refine (hst W7 hOw).out.mono ?_
          rintro e W8 ⟨rfl, hO8, hg⟩
          have hB8 := hB.trans (hOw.below hg (by omega))
          have hN8 := (hg.block cb (Array.getElem?_eq_some_iff.1 hN).1 (by have := hOw.bnd; simp; omega)).trans hN
          clear hB hOw hPc hN hg hst
          go_wp2_with fail
          refine (hpo W8 hO8).out.mono ?_
          rintro e W9 ⟨rfl, hO9, hg⟩
          have hB9 := hB8.trans ((hO8.below hg (by omega)))
          have hN9 := (hg.block cb (Array.getElem?_eq_some_iff.1 hN8).1 (by have := hO8.bnd; simp; omega)).trans hN8
          have hP9 := hP'.out.below hB9
          clear hB8 hO8 hN8 hg hpo
          have hs2 := hsame c2 6 W9 hO9 hP9 i2
          clear hsame
          obtain ⟨⟨sa2, ma2, pa2, da2⟩, ⟨sb2, mb2, pb2, db2⟩, sd2, used2, since2, last2, runs2⟩ := c2
          obtain ⟨y0, y1, y2, y3, y4, y5, y6, y7, y8, y9, y10, y11, y12, y13, y14⟩ := rcells_all hN9
          dsimp only [Ck.rcells] at hs2 y0 y1 y2 y3 y4 y5 y6 y7 y8 y9 y10 y11 y12 y13 y14
          go_wp2_with fail
          refine hs2.out.mono ?_
          rintro e W10 ⟨rfl, hW⟩
          go_wp2_with fail
          refine (known_c _).mono ?_
          rintro e W11 ⟨rfl, hk⟩
          go_wp2
          go_ret
          exact ⟨rfl, hB9.trans ((hW.trans (hk.mono hW.size)).mono hB9.size)⟩
        · have hjl : j < n := by omega
          obtain ⟨q0, q1, q2, f0, f1, f2⟩ := hR.at hl'.out hjl
          obtain ⟨a0, a1, a2⟩ := hPc.at j (by rw [hl'.out]; exact hjl)
          have hRh := Lib.hid hR
          have hXh := Lib.hid hX
          have hOh := Lib.hid hO
          generalize (ps.getD j ⟨0, 0, 0⟩).moves = m0 at *
          generalize (ps.getD j ⟨0, 0, 0⟩).time = t0 at *
          generalize (ps.getD j ⟨0, 0, 0⟩).bonus = b0 at *
          clear hR hX hO hPc
          go_wp2_with fail
          go_quiet (fail)
          go_wp2_with fail
          have hg := grown_drewN (grown_set (grown_set (grown_set (grown_refl wr (some nb)) (p := ⟨nb, j * 3, none⟩) (.inl rfl) (.int .i64 0)) (p := ⟨nb, j * 3 + 1, none⟩) (.inl rfl) (.int .i64 0)) (p := ⟨nb, j * 3 + 2, none⟩) (.inl rfl) (.int .i64 0)) nq
          have hlt : n - (j + 1) < n - j := by omega
          clear q0 q1 q2 f0 f1 f2 a0 a1 a2 y1 o1
          go_roundw
          case rel =>
            refine ⟨j + 1, by simp, by omega, hOw.far hg (.inl (by omega)), ?_, ?_, ?_, ?_⟩
            · exact below_drewN (((hB.setCell (by dsimp only; omega) _).setCell (by dsimp only; omega) _).setCell (by dsimp only; omega) _) _
            · exact blk_drewN (blk_other (blk_other (blk_other hXh.out (by dsimp only; omega) _) (by dsimp only; omega) _) (by dsimp only; omega) _) _
            · exact blk_drewN (blk_other (blk_other (blk_other hOh.out (by dsimp only; omega) _) (by dsimp only; omega) _) (by dsimp only; omega) _) _
            · exact hRh.out.strike _ _ _
          case measure =>
            simp [intOf]
            omega
end Go.Proofs.Ytgigehlflgcdpaa
