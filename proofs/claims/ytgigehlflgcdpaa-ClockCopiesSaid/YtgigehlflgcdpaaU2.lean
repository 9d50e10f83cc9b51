/- One call on a clock and on the reference: the contract of step. Conditions: the numbers are within bounds. -/
import Derived.Test.YtgigehlflgcdpaaU
set_option linter.unusedVariables false
set_option linter.unusedSimpArgs false
namespace Go.Proofs.Ytgigehlflgcdpaa
open Go.RowKit
theorem results_mid {fn : Func} {a p u : Tmp} {ty : TypeId} (h : fn.results = #[.tmp a, .cell p ty, .tmp u]) (tmps : Array Value) (P : Program) (w : World) :
    (results fn tmps).run P w =
      ((asAddr (tmps.getD p undef)).run P w).andThen fun b w₁ => ((loadVar ty b).run P w₁).andThen fun v w₂ => .ok (.tuple #[tmps.getD a undef, v, tmps.getD u undef]) w₂ := by
  simp only [results, h]
  simp [Sem.run_bind, Result.andThen]
theorem results_row3 {P : Program} {fn : Func} {a p u : Tmp} {ty t : TypeId} (h : fn.results = #[.tmp a, .cell p ty, .tmp u]) (tmps : Array Value) (w : World) (g : Nat) (cs : Array Value) (d : TypeDesc)
    (hp : tmps.getD p undef = .pointer (some ⟨g, 0, none⟩)) (hg : w.heap[g]? = some (.cells cs t (0, 0)))
    (hu : P.underlying ty = some d) (hd : (match d with | .struct _ | .array _ _ => true | _ => false) = true) (hi : (P.info? ty).map (·.size) = some cs.size) :
    (results fn tmps).run P w = .ok (.tuple #[tmps.getD a undef, .agg cs, tmps.getD u undef]) w := by
  rw [results_mid h]
  have hp' : tmps[p]?.getD undef = .pointer (some ⟨g, 0, none⟩) := by simpa using hp
  simp [hp', asAddr, run_loadVar_row w g t ty cs (0, 0) d hg hu hd hi]
theorem zeros_set (v0 v1 v2 v3 v4 v5 v6 v7 v8 v9 v10 v11 v12 v13 v14 : Value) : (((((((((((((((zeros.setIfInBounds 0 v0).setIfInBounds 1 v1).setIfInBounds 2 v2).setIfInBounds 3 v3).setIfInBounds 4 v4).setIfInBounds 5 v5).setIfInBounds 6 v6).setIfInBounds 7 v7).setIfInBounds 8 v8).setIfInBounds 9 v9).setIfInBounds 10 v10).setIfInBounds 11 v11).setIfInBounds 12 v12).setIfInBounds 13 v13).setIfInBounds 14 v14) = #[v0, v1, v2, v3, v4, v5, v6, v7, v8, v9, v10, v11, v12, v13, v14] := by simp [zeros]
/-- what step gives back -/
def SV (L : Ctl) (r : Rf) (b : Nat) (c : Ck) : Value := .tuple #[.pointer (some ⟨b, 0, none⟩), .agg (c.rcells L r), .bool true]
theorem clk_setCells {w : World} {b g : Nat} {L : Ctl} {c : Ck} (h : ClkAt w b L c) (hne : b ≠ g) (vs : List Value) (o : Nat) : ClkAt (w.setCells g o vs) b L c := (setCells_other hne vs o w).trans h
theorem grown_setCells {a : World} {row : Option Nat} {g : Nat} (hg : a.heap.size ≤ g) : ∀ (vs : List Value) (o : Nat) (w : World), a.grownBy w row → a.grownBy (w.setCells g o vs) row
  | [], _, _, h => h
  | v :: vs, o, w, h => grown_setCells hg vs (o + 1) _ (grown_setN h (p := ⟨g, o, none⟩) hg v)
theorem grown_trans {a v w : World} {row : Option Nat} (h : a.grownBy v row) (h2 : v.grownBy w row) : a.grownBy w row :=
  ⟨h2.os.trans h.os, h2.tape.trans h.tape, h2.output.trans h.output, Nat.le_trans h.size h2.size, fun k hk hne => (h2.block k (Nat.lt_of_lt_of_le hk h.size) hne).trans (h.block k hk hne)⟩
theorem wp_forget_calls {f : FuncId} {args : Array Value} {w : World} {Q : Ending → World → Prop} (F : World → Prop) (hF : F w) (h : ∀ W, F W → Calls Try.prog f args W Q) : Calls Try.prog f args w Q := h w hF
theorem below_grown2 {w w' : World} {row : Option Nat} (h : Below w.heap.size w w') : w.grownBy w' row := ⟨h.os, h.tape, h.output, h.size, fun k hk _ => h.block k hk⟩
theorem wpl_forget {ops : Array Oper} {rest : List Oper} {a : Act} {w : World} {Q : Exit → Act → World → Prop} (F : World → Prop) (hF : F w) (h : ∀ W, F W → wpList Try.prog ops Q rest a W) : wpList Try.prog ops Q rest a w := h w hF
theorem rsize2 (c c' : Ck) (L L' : Ctl) (r r' : Rf) : (c.rcells L r).size = (c'.rcells L' r').size := rfl
/-- behind the store of the reference's new clock -/
structure Stored (w W : World) (A : Obj) (cs : Array Value) : Prop where
  grown : w.grownBy W none
  act : W.heap[w.heap.size + 1]? = some A
  zero : W.heap[w.heap.size + 1 + 1]? = some (.cells zeros 37 (0, 0))
  new : W.heap[w.heap.size + 1 + 1 + 1]? = some (.cells cs 37 (0, 0))
theorem Stored.set {w V : World} {A : Obj} {c c' : Ck} {L : Ctl} {r : Rf} (h : Stored w V A (c.rcells L r)) : Stored w (V.setCells (w.heap.size + 1 + 1 + 1) 0 (c'.rcells L r).toList) A (c'.rcells L r) :=
  ⟨grown_setCells (by omega) _ _ _ h.grown, (setCells_other (by omega) _ _ _).trans h.act, (setCells_other (by omega) _ _ _).trans h.zero, setCells_same h.new (rsize2 _ _ _ _ _ _)⟩
theorem Stored.row {w W V : World} {A : Obj} {cs : Array Value} {b : Nat} (h : Stored w W A cs) (hb : b < w.heap.size) (hg : W.grownBy V (some b)) :
    V.heap[w.heap.size + 1 + 1]? = some (.cells zeros 37 (0, 0)) ∧ V.heap[w.heap.size + 1 + 1 + 1]? = some (.cells cs 37 (0, 0)) :=
  ⟨(hg.block _ (Array.getElem?_eq_some_iff.1 h.zero).1 (by simp; omega)).trans h.zero, (hg.block _ (Array.getElem?_eq_some_iff.1 h.new).1 (by simp; omega)).trans h.new⟩
set_option maxHeartbeats 4000000 in
set_option maxRecDepth 100000 in
theorem step_0 {w : World} {b : Nat} {L : Ctl} {c : Ck} (r : Rf) (now side time : Int) (h : ClkAt w b L c) (hL : CtlAt w L) (hP : PerAt w L.ps r.pb r.off) (hI : Inv L c) (hG : Good L) (hbc : b ≠ L.cb) (hbp : b ≠ L.pb) :
    Calls Try.prog 22 #[.pointer (some ⟨b, 0, none⟩), .agg (c.rcells L r), .agg #[.int .i64 0, .int .i64 now, .int .i64 side, .int .i64 time]] w fun e w' =>
      e = .returned (SV L r b (c.start L now).1) ∧ ClkAt w' b L (c.start L now).1 ∧ w.grownBy w' (some b) := by
  have hr := fun W (hb : Below w.heap.size w W) => Lib.hid (start_r r now (hP.below hb) hI)
  have hx := fun W (hc : ClkAt W b L c) (hl : CtlAt W L) => Lib.hid (start_c now hc hl hI)
  have hb : b < w.heap.size := (Array.getElem?_eq_some_iff.1 h).1
  generalize c.start L now = R at *
  obtain ⟨c', er⟩ := R
  have hh := Lib.hid h
  have hLL := Lib.hid hL
  clear hP hI hG h hL
  have hrc : c.rcells L r = #[.int .i64 L.k, .slice (some ⟨r.pb, r.off, none⟩) L.ps.length r.cap, .int .i64 c.a.stock, .int .i64 c.b.stock, .int .i64 c.a.moves, .int .i64 c.b.moves, .int .i64 c.a.period, .int .i64 c.b.period, .int .i64 c.a.done, .int .i64 c.b.done, .int .i64 (sideI c.side), .int .i64 c.used, .bool c.runs, .int .i64 c.since, .int .i64 c.last] := rfl
  rw [hrc] at hr ⊢
  clear hrc
  go_enter Try.func22, Try.ntmps22
  go_wp2_with fail
  refine wp_forget_calls (fun W => w.grownBy W none ∧ W.heap.size = w.heap.size + 4 ∧ W.heap[w.heap.size + 1]? = some (.cells #[.int .i64 0, .int .i64 now, .int .i64 side, .int .i64 time] 56 (0, 0)) ∧
    W.heap[w.heap.size + 1 + 1]? = some (.cells zeros 37 (0, 0)) ∧ W.heap[w.heap.size + 1 + 1 + 1]? = some (.cells (Ck.rcells c L r) 37 (0, 0))) ⟨?_, ?_, ?_, ?_, ?_⟩ ?_
  · repeat (first | exact grown_refl _ _ | refine grown_alloc ?_ _)
  · simp
  · exact blk_alloc (blk_alloc (blk_new (by simp) _) _) _
  · exact blk_alloc (blk_new (by simp) _) _
  · exact blk_new (by simp) _
  rintro W ⟨hg, hs, hA, hZ, hN⟩
  refine (hr W ⟨hg.os, hg.tape, hg.output, hg.size, fun k hk => hg.block k hk (by simp)⟩).out.mono ?_
  rintro e V ⟨rfl, hV⟩
  dsimp only [RV]
  have hgV := grown_trans hg (below_grown2 hV)
  replace hA := below_blk hV hA
  replace hZ := below_blk hV hZ
  replace hN := below_blk hV hN
  have hs2 := hV.size
  clear hr hV hg
  have HN := Lib.hid (⟨hgV, hA, hZ, hN⟩ : Stored w V (.cells #[.int .i64 0, .int .i64 now, .int .i64 side, .int .i64 time] 56 (0, 0)) (c.rcells L r))
  clear hgV hA hZ hN hs2 hs
  go_wp2_with (refine store_row 37 (.tmp 9) (.tmp 41) rfl rfl _ rfl rfl _ HN.out.new (rsize2 _ _ _ _ _ _) size37 (one37 _ _ _) ?_; refine wpl_forget (fun W2 => Stored w W2 (.cells #[.int .i64 0, .int .i64 now, .int .i64 side, .int .i64 time] 56 (0, 0)) (c'.rcells L r)) HN.out.set ?_; clear HN; rintro W2 hS; have a1 := cell_of hS.act 1 _ rfl; have a2 := cell_of hS.act 2 _ rfl; have a3 := cell_of hS.act 3 _ rfl; have hS := Lib.hid hS)
  refine (hx W2 (hh.out.grown hS.out.grown (by simp)) (hLL.out.grown hS.out.grown (by simp) (by simp))).out.mono ?_
  rintro e W3 ⟨rfl, hC, hg3⟩
  have hS3 := hS.out.row hb hg3
  have hG3 := grown_trans (grown_row hS.out.grown) hg3
  clear hx hh hLL a1 a2 a3 hS
  go_wp2_with fail
  refine wp_forget (fun W => ClkAt W b L c' ∧ w.grownBy W (some b) ∧ W.heap[w.heap.size + 1 + 1]? = some (.cells zeros 37 (0, 0)) ∧ W.heap[w.heap.size + 1 + 1 + 1]? = some (.cells (c'.rcells L r) 37 (0, 0))) ⟨hC, hG3, hS3.1, hS3.2⟩ ?_
  clear hC hG3 hS3 hg3
  rintro W ⟨hC, hG, hZ, hX⟩
  have hl : w.heap.size + 1 + 1 + 1 < W.heap.size := (Array.getElem?_eq_some_iff.1 hX).1
  obtain ⟨⟨sa, ma, pa, da⟩, ⟨sb, mb, pb, db⟩, sd, used, since, last, runs⟩ := c'
  obtain ⟨y0, y1, y2, y3, y4, y5, y6, y7, y8, y9, y10, y11, y12, y13, y14⟩ := rcells_all hX
  obtain ⟨z0, z1, z2, z3, z4, z5, z6, z7, z8, z9, z10, z11, z12, z13, z14⟩ := cells15 hZ
  obtain ⟨f0, f1, f2, f3, f4, f5, f6, f7, f8, f9, f10, f11, f12, f13, f14⟩ := free15 hZ
  dsimp only at y0 y1 y2 y3 y4 y5 y6 y7 y8 y9 y10 y11 y12 y13 y14
  go_region
  clear y0 y1 y2 y3 y4 y5 y6 y7 y8 y9 y10 y11 y12 y13 y14 z0 z1 z2 z3 z4 z5 z6 z7 z8 z9 z10 z11 z12 z13 z14 f0 f1 f2 f3 f4 f5 f6 f7 f8 f9 f10 f11 f12 f13 f14
  have HZ := Lib.hid hZ
  have HC := Lib.hid (hblk hC)
  have HG := Lib.hid hG
  clear hZ hX hC hG
  go_wp2
  refine bodyPost_ret (results_row3 (t := 37) rfl _ _ (w.heap.size + 1 + 1) (Ck.rcells ⟨⟨sa, ma, pa, da⟩, ⟨sb, mb, pb, db⟩, sd, used, since, last, runs⟩ L r) _ rfl ?_ Try.underlying37 rfl size37) rfl ⟨rfl, ?_, ?_⟩
  · apply blk_at
    · repeat (with_reducible first | exact HZ.out | apply blk_drew | apply blk_set)
    · exact zeros_set _ _ _ _ _ _ _ _ _ _ _ _ _ _ _
  · unfold ClkAt
    repeat (with_reducible first | exact HC.out | apply blk_drew | (refine blk_other ?_ (by dsimp only; omega) _))
  · repeat (with_reducible first | exact HG.out | apply grown_drew | (refine grown_set ?_ (by dsimp only; omega) _))
set_option maxHeartbeats 4000000 in
set_option maxRecDepth 100000 in
theorem step_1 {w : World} {b : Nat} {L : Ctl} {c : Ck} (r : Rf) (now side time : Int) (h : ClkAt w b L c) (hL : CtlAt w L) (hP : PerAt w L.ps r.pb r.off) (hI : Inv L c) (hG : Good L) (hbc : b ≠ L.cb) (hbp : b ≠ L.pb) :
    Calls Try.prog 22 #[.pointer (some ⟨b, 0, none⟩), .agg (c.rcells L r), .agg #[.int .i64 1, .int .i64 now, .int .i64 side, .int .i64 time]] w fun e w' =>
      e = .returned (SV L r b (c.stop now).1) ∧ ClkAt w' b L (c.stop now).1 ∧ w.grownBy w' (some b) := by
  have hr := fun W (hb : Below w.heap.size w W) => Lib.hid (stop_r (w := W) r now hI)
  have hx := fun W (hc : ClkAt W b L c) (hl : CtlAt W L) => Lib.hid (stop_c now hc hI)
  have hb : b < w.heap.size := (Array.getElem?_eq_some_iff.1 h).1
  generalize c.stop now = R at *
  obtain ⟨c', er⟩ := R
  have hh := Lib.hid h
  have hLL := Lib.hid hL
  clear hP hI hG h hL
  have hrc : c.rcells L r = #[.int .i64 L.k, .slice (some ⟨r.pb, r.off, none⟩) L.ps.length r.cap, .int .i64 c.a.stock, .int .i64 c.b.stock, .int .i64 c.a.moves, .int .i64 c.b.moves, .int .i64 c.a.period, .int .i64 c.b.period, .int .i64 c.a.done, .int .i64 c.b.done, .int .i64 (sideI c.side), .int .i64 c.used, .bool c.runs, .int .i64 c.since, .int .i64 c.last] := rfl
  rw [hrc] at hr ⊢
  clear hrc
  go_enter Try.func22, Try.ntmps22
  go_wp2_with fail
  refine wp_forget_calls (fun W => w.grownBy W none ∧ W.heap.size = w.heap.size + 4 ∧ W.heap[w.heap.size + 1]? = some (.cells #[.int .i64 1, .int .i64 now, .int .i64 side, .int .i64 time] 56 (0, 0)) ∧
    W.heap[w.heap.size + 1 + 1]? = some (.cells zeros 37 (0, 0)) ∧ W.heap[w.heap.size + 1 + 1 + 1]? = some (.cells (Ck.rcells c L r) 37 (0, 0))) ⟨?_, ?_, ?_, ?_, ?_⟩ ?_
  · repeat (first | exact grown_refl _ _ | refine grown_alloc ?_ _)
  · simp
  · exact blk_alloc (blk_alloc (blk_new (by simp) _) _) _
  · exact blk_alloc (blk_new (by simp) _) _
  · exact blk_new (by simp) _
  rintro W ⟨hg, hs, hA, hZ, hN⟩
  refine (hr W ⟨hg.os, hg.tape, hg.output, hg.size, fun k hk => hg.block k hk (by simp)⟩).out.mono ?_
  rintro e V ⟨rfl, hV⟩
  dsimp only [RV]
  have hgV := grown_trans hg (below_grown2 hV)
  replace hA := below_blk hV hA
  replace hZ := below_blk hV hZ
  replace hN := below_blk hV hN
  have hs2 := hV.size
  clear hr hV hg
  have HN := Lib.hid (⟨hgV, hA, hZ, hN⟩ : Stored w V (.cells #[.int .i64 1, .int .i64 now, .int .i64 side, .int .i64 time] 56 (0, 0)) (c.rcells L r))
  clear hgV hA hZ hN hs2 hs
  go_wp2_with (refine store_row 37 (.tmp 9) (.tmp 54) rfl rfl _ rfl rfl _ HN.out.new (rsize2 _ _ _ _ _ _) size37 (one37 _ _ _) ?_; refine wpl_forget (fun W2 => Stored w W2 (.cells #[.int .i64 1, .int .i64 now, .int .i64 side, .int .i64 time] 56 (0, 0)) (c'.rcells L r)) HN.out.set ?_; clear HN; rintro W2 hS; have a1 := cell_of hS.act 1 _ rfl; have a2 := cell_of hS.act 2 _ rfl; have a3 := cell_of hS.act 3 _ rfl; have hS := Lib.hid hS)
  refine (hx W2 (hh.out.grown hS.out.grown (by simp)) (hLL.out.grown hS.out.grown (by simp) (by simp))).out.mono ?_
  rintro e W3 ⟨rfl, hC, hg3⟩
  have hS3 := hS.out.row hb hg3
  have hG3 := grown_trans (grown_row hS.out.grown) hg3
  clear hx hh hLL a1 a2 a3 hS
  go_wp2_with fail
  refine wp_forget (fun W => ClkAt W b L c' ∧ w.grownBy W (some b) ∧ W.heap[w.heap.size + 1 + 1]? = some (.cells zeros 37 (0, 0)) ∧ W.heap[w.heap.size + 1 + 1 + 1]? = some (.cells (c'.rcells L r) 37 (0, 0))) ⟨hC, hG3, hS3.1, hS3.2⟩ ?_
  clear hC hG3 hS3 hg3
  rintro W ⟨hC, hG, hZ, hX⟩
  have hl : w.heap.size + 1 + 1 + 1 < W.heap.size := (Array.getElem?_eq_some_iff.1 hX).1
  obtain ⟨⟨sa, ma, pa, da⟩, ⟨sb, mb, pb, db⟩, sd, used, since, last, runs⟩ := c'
  obtain ⟨y0, y1, y2, y3, y4, y5, y6, y7, y8, y9, y10, y11, y12, y13, y14⟩ := rcells_all hX
  obtain ⟨z0, z1, z2, z3, z4, z5, z6, z7, z8, z9, z10, z11, z12, z13, z14⟩ := cells15 hZ
  obtain ⟨f0, f1, f2, f3, f4, f5, f6, f7, f8, f9, f10, f11, f12, f13, f14⟩ := free15 hZ
  dsimp only at y0 y1 y2 y3 y4 y5 y6 y7 y8 y9 y10 y11 y12 y13 y14
  go_region
  clear y0 y1 y2 y3 y4 y5 y6 y7 y8 y9 y10 y11 y12 y13 y14 z0 z1 z2 z3 z4 z5 z6 z7 z8 z9 z10 z11 z12 z13 z14 f0 f1 f2 f3 f4 f5 f6 f7 f8 f9 f10 f11 f12 f13 f14
  have HZ := Lib.hid hZ
  have HC := Lib.hid (hblk hC)
  have HG := Lib.hid hG
  clear hZ hX hC hG
  go_wp2
  refine bodyPost_ret (results_row3 (t := 37) rfl _ _ (w.heap.size + 1 + 1) (Ck.rcells ⟨⟨sa, ma, pa, da⟩, ⟨sb, mb, pb, db⟩, sd, used, since, last, runs⟩ L r) _ rfl ?_ Try.underlying37 rfl size37) rfl ⟨rfl, ?_, ?_⟩
  · apply blk_at
    · repeat (with_reducible first | exact HZ.out | apply blk_drew | apply blk_set)
    · exact zeros_set _ _ _ _ _ _ _ _ _ _ _ _ _ _ _
  · unfold ClkAt
    repeat (with_reducible first | exact HC.out | apply blk_drew | (refine blk_other ?_ (by dsimp only; omega) _))
  · repeat (with_reducible first | exact HG.out | apply grown_drew | (refine grown_set ?_ (by dsimp only; omega) _))
end Go.Proofs.Ytgigehlflgcdpaa
