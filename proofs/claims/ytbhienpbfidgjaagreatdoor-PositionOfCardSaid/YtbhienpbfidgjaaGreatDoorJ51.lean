/- Positions: Start. Conditions: as for Parse. The examples of the chapter on stipulations. Conditions: the library as said; the tables lie in memory. What the library's contracts and the listed variables give the walks. Conditions: as in each theorem. What the listed variables give the walks, and the wrap of a law over them. Conditions: as in each theorem. The wrap of a law that returns true and leaves all as it lay, over the listed variables in a shaped world; the arguments opened. Conditions: as in each theorem. The arguments opened: a stipulation, a position. Conditions: the argument reads as data. The reference's small functions on squares and pieces. Conditions: numbers within bounds, as in each theorem. Worlds behind a box of the call's own: all that lay in it stands. Conditions: as in each theorem. A law on regions that draw their order: what each operation leaves, whatever came up before it. Conditions: as in each theorem. A drawn region that calls twice and lays the two structs in two new blocks. Conditions: as in each theorem. A drawn region that calls twice and lays the two structs in two new blocks: the law. Conditions: as in the theorem. The reference's functions on squares. Conditions: numbers within bounds, as in each theorem. The reference's functions that hand back lists of numbers. Conditions: numbers within bounds, as in each theorem. Appending any list to a row of the call's own; moves in a drawn region whose calls are forced. Conditions: as in each theorem. The reference's sets, and which boards are valid. Conditions: numbers within bounds, as in each theorem. The reference: which boards are valid and orthodox. Conditions: numbers within bounds, as in each theorem. The reference: the squares of all pieces. Conditions: numbers within bounds, as in each theorem. The reference: lines and rays. Conditions: numbers within bounds, as in each theorem. The reference: what lies between two squares, and which pieces reach. Conditions: numbers within bounds, as in each theorem. The reference: which pieces reach a square. Conditions: numbers within bounds, as in each theorem. The reference: what a pawn attacks. Conditions: numbers within bounds, as in each theorem. The reference: which pieces attack a square. Conditions: numbers within bounds, as in each theorem. The reference: the attackers of a square, the king, check. Conditions: numbers within bounds, as in each theorem. The reference: the king, check. Conditions: numbers within bounds, as in each theorem. Lists of pieces and boards compared. Conditions: at most 1000 pieces, which lie in memory. The reference: names of squares. Conditions: numbers within bounds, as in each theorem. The reference: squares by their names, rights to castle. Conditions: numbers within bounds, as in each theorem. The reference: rights to castle. Conditions: numbers within bounds, as in each theorem. -/
import Derived.Test.YtbhienpbfidgjaaGreatDoorF11
import Derived.Test.YtbhienpbfidgjaaGreatDoorT8
import Derived.Test.YtbhienpbfidgjaaGreatDoorT4
import Derived.Test.YtbhienpbfidgjaaGreatDoorS3
import Derived.Test.YtbhienpbfidgjaaGreatDoorU1
import Derived.Test.YtbhienpbfidgjaaGreatDoorW1
import Derived.Test.YtbhienpbfidgjaaGreatDoorShelf
import Derived.Lib.LaidU8
import Derived.Stop.LaidErr
import Derived.Lib.AtoiErrMem
import Derived.Carry
import Derived.JoinedOf
import Derived.SevenTiedAt
import Derived.Lib.SmallJoins
import Derived.Deep.Slices
import Derived.Deep.Fields
import Derived.Test.YtbhienpbfidgjaaGreatDoorV2
import Derived.BigGuardPart
import Derived.Test.YtbhienpbfidgjaaGreatDoorR
import Derived.Test.YtbhienpbfidgjaaGreatDoorT7
import Derived.Deep.AppendLies
import Derived.Deep.Upon
import Derived.Test.YtbhienpbfidgjaaGreatDoorB4
import Derived.Test.YtbhienpbfidgjaaGreatDoorF8
import Derived.Test.YtbhienpbfidgjaaGreatDoorV4
set_option linter.unusedVariables false
set_option linter.unusedSimpArgs false
namespace Go.Proofs.YtbhienpbfidgjaaGreatDoor
open Go.RowKit
section
def startT : ByteArray := ⟨#[56, 120, 56, 32, 114, 110, 98, 113, 107, 98, 110, 114, 47, 112, 112, 112, 112, 112, 112, 112, 112, 47, 56, 47, 56, 47, 56, 47, 56, 47, 80, 80, 80, 80, 80, 80, 80, 80, 47, 82, 78, 66, 81, 75, 66, 78, 82, 32, 119, 32, 75, 81, 107, 113, 32, 45, 32, 48, 32, 49]⟩
def startP : Pos := ⟨8, 8, [4, 2, 3, 5, 6, 3, 2, 4, 1, 1, 1, 1, 1, 1, 1, 1, 0, 0, 0, 0, 0, 0, 0, 0, 0, 0, 0, 0, 0, 0, 0, 0, 0, 0, 0, 0, 0, 0, 0, 0, 0, 0, 0, 0, 0, 0, 0, 0, (-1), (-1), (-1), (-1), (-1), (-1), (-1), (-1), (-4), (-2), (-3), (-5), (-6), (-3), (-2), (-4)], false, 15, -1, 0, 1⟩
set_option maxRecDepth 1000000 in
theorem start_o : posO startT = some startP := by kernel_rfl
set_option maxRecDepth 1000000 in
theorem start_v : startP.valid = true := by kernel_rfl
theorem PosIs.some {B : Nat} {t : ByteArray} {e : Ending} {W : World} {P : Pos} (h : PosIs B t e W) (hp : posO t = .some P) : ∃ po cap, e = .returned (.tuple #[.agg (P.cells po cap), .int .i64 0]) ∧ PosAt W P po cap := by
  unfold PosIs at h
  rw [hp] at h
  obtain ⟨po, cap, h1, h2, _⟩ := h
  exact ⟨po, cap, h1, h2⟩
end
section
structure Libs : Prop where
  split : SplitOK
  rev : RevOK
  join : JoinOK
  cont : ContOK
  itoa : ItoaOK
  cutp : CutPOK
  cuts : CutSOK
structure Env (w : World) : Prop where
  max : MaxAt w
  kinds : KindsAt w
  itoa : ItoaAt w
  atois : AtoiIs w
  atoi : AtoiAt w
  rays : Rays w
  full : w.cell? ⟨0, 0, none⟩ = some (.int .i64 8) ∧ w.cell? ⟨0, 1, none⟩ = some (.int .i64 8)
theorem Env.below {w V : World} (h : Env w) (hb : Below w.heap.size w V) : Env V :=
  ⟨h.max.below hb, h.kinds.below hb, h.itoa.below hb, fun W s hW => h.atois W s (hb.trans (hW.mono hb.size)), fun W s hW => h.atoi W s (hb.trans (hW.mono hb.size)), h.rays.below hb, ⟨below_at hb h.full.1, below_at hb h.full.2⟩⟩
def ofV (t : ByteArray) : Value := match parseO t with
  | some s => s.v
  | none => .agg #[.int .i64 0, .int .i64 0, .int .i64 0, .bool false]
end
section
open Go.ChangeShapes Go.WideShapes Go.ChangeAt Go.RowKit Go.Sort
theorem below_of_grow (w : World) (k : Nat) (os : Array Obj) : Below w.heap.size w (grow (w.drewN k) os) :=
  ⟨rfl, rfl, rfl, by simp [grow], fun i hi => by
    show (w.heap ++ os)[i]? = _
    rw [Array.getElem?_append_left hi]⟩
theorem var_below {W V : World} {n : String} {g : Nat} {cs : Array Value} (hb : Below W.heap.size W V) (hg : Tryz.prog.globalNamed n = some g) (hv : W.var? Tryz.prog n = some cs) : V.var? Tryz.prog n = some cs := by
  unfold World.var? at hv ⊢
  simp only [hg, Option.bind_some] at hv ⊢
  have hlt : g < W.heap.size := by
    rcases Nat.lt_or_ge g W.heap.size with h | h
    · exact h
    · rw [Array.getElem?_eq_none h] at hv
      cases hv
  rw [hb.block g hlt]
  exact hv
theorem setCells_front {g : Nat} {t : TypeId} : ∀ (vs : List Value) (o : Nat) (w : World) (old : Array Value), w.heap[g]? = some (.cells old t (0, 0)) → o + vs.length ≤ old.size →
    (w.setCells g o vs).heap[g]? = some (.cells (old.toList.take o ++ vs ++ old.toList.drop (o + vs.length)).toArray t (0, 0))
  | [], o, w, old, h, hs => by simpa [World.setCells] using h
  | v :: vs, o, w, old, h, hs => by
    have h1 := blk_set h o v
    have h2 := setCells_front vs (o + 1) (w.setCell ⟨g, o, none⟩ v) _ h1 (by simp at hs ⊢; omega)
    rw [show w.setCells g o (v :: vs) = (w.setCell ⟨g, o, none⟩ v).setCells g (o + 1) vs from rfl, h2]
    have hlt : o < old.toList.length := by simp at hs ⊢; omega
    congr 3
    simp only [Array.toList_setIfInBounds, List.length_cons]
    rw [List.take_succ_eq_append_getElem (by simpa using hlt), List.getElem_set_self, List.take_set_of_le (Nat.le_refl _), List.drop_set_of_lt (by omega), show o + 1 + vs.length = o + (vs.length + 1) by omega]
    simp
theorem setCells_grown {g : Nat} : ∀ (vs : List Value) (o : Nat) (a w : World), a.grownBy w (some g) → a.grownBy (w.setCells g o vs) (some g)
  | [], _, _, _, h => h
  | v :: vs, o, a, w, h => setCells_grown vs (o + 1) a _ (grown_set h (p := ⟨g, o, none⟩) (.inl rfl) v)
theorem revOK : RevOK := by
  intro B v xs w h hn
  rcases h.2 with ⟨rfl, h0⟩ | ⟨g, cap, cur, rfl, hb, hg, hnc, hcm, hcs, htake⟩
  · have hc := Tryz.slices_Reverse_string_empty none 0 w
    refine hc.mono ?_
    rintro e w' ⟨rfl, rfl⟩
    have : xs = [] := List.length_eq_zero_iff.1 h0
    subst this
    exact ⟨rfl, h, grown_refl _ _⟩
  · refine (Tryz.slices_Reverse_string_cells g 0 xs.length cap (fun i => xs.getD i ⟨#[]⟩) w (by omega) (fun i hi => ?_) (fun j hj => h.frozenAt _)).mono ?_
    · rw [Nat.zero_add, h.cellAt i (by omega)]
      simp [strV, hi]
    · rintro e w' ⟨rfl, q, rfl⟩
      have hs : (Lib.strsOf (fun i => xs.getD i ⟨#[]⟩) xs.length).reverse.map encStr = xs.reverse.map strV := by
        have e : Lib.strsOf (fun i => xs.getD i ⟨#[]⟩) xs.length = xs.map (·.data.toList) := by
          unfold Lib.strsOf
          apply List.ext_getElem?
          intro i
          by_cases hi : i < xs.length
          · simp [hi]
          · simp [hi]
        rw [e, ← List.map_reverse, List.map_map]
        refine List.map_congr_left fun s _ => ?_
        simp [encStr, strV]
      rw [hs]
      have hlen : cur.size = cap := by omega
      have hres := setCells_front (vs := xs.reverse.map strV) 0 (w.drewN q) cur hg (by simp; omega)
      refine ⟨rfl, ⟨by simp, .inr ⟨g, cap, _, rfl, hb, hres, hnc, hcm, ?_, ?_⟩⟩, ?_⟩
      · simp; omega
      · simp
      · exact setCells_grown _ _ _ _ (grown_drewN (grown_refl _ _) q)
theorem libs : Libs := by
  refine ⟨?_, revOK, ?_, ?_, ?_, ?_, ?_⟩
  · intro s sep w ⟨m, hm⟩ hs h1
    have h := Tryz.strings_Split s sep m w (by omega) hm h1
    have e : (splitS s sep).length = Lib.countB s sep + 1 := Lib.splitB_all sep h1 0 _ s rfl
    rw [e]
    exact h
  · intro bk o c xs sep w h1 h2 h3 h4 h5
    exact Tryz.strings_Join bk o c xs sep w h1 h2 (by omega) h4 (by omega)
  · intro s c W
    exact Same.pure ((Tryz.strings_Contains_one s c W).mono fun e w' ⟨h1, h2⟩ => ⟨h1, h2.symm⟩)
  · intro i w hi
    exact Same.pure ((Tryz.strconv_Itoa_small i hi w).mono fun e w' ⟨h1, h2⟩ => ⟨h1, h2.symm⟩)
  · intro s p w
    exact Same.pure ((Tryz.strings_CutPrefix s p w).mono fun e w' ⟨h1, h2⟩ => ⟨h1, h2.symm⟩)
  · intro s p w hs
    exact Same.pure ((Tryz.strings_CutSuffix s p w (by omega)).mono fun e w' ⟨h1, h2⟩ => ⟨h1, h2.symm⟩)
theorem itoaAt {W : World} (h : Lib.TabIs Tryz.prog W "internal/strconv.uint64pow10" .u64 Lib.pow10Tab) : ItoaAt W := by
  intro V n hV hn
  have ht : Lib.TabIs Tryz.prog V "internal/strconv.uint64pow10" .u64 Lib.pow10Tab := var_below hV (g := 5) (by kernel_rfl) h
  refine (Tryz.strconv_Itoa (n : Int) (by omega) (by omega) V ht).mono ?_
  rintro e w' ⟨rfl, k, os, rfl⟩
  refine ⟨?_, below_of_grow _ _ _⟩
  have : Lib.itoa (n : Int) = Lib.decDigits n := by unfold Lib.itoa; rw [if_neg (by omega)]; simp
  rw [this]
  rfl
theorem atoi_run {W : World} {t1 t2 : TypeId} {p1 p2 : Value} (h1 : W.var? Tryz.prog "strconv.ErrSyntax" = some #[.iface t1 p1]) (h2 : W.var? Tryz.prog "strconv.ErrRange" = some #[.iface t2 p2]) (s : ByteArray) (hs : s.size ≤ 281474976710656) :
    Calls Tryz.prog 83 #[.string s] W fun e w' => (∃ ev, e = .returned (.tuple #[.int .i64 (atoiI s), ev]) ∧
      ((Lib.atoiAll s.data.toList = .ok (atoiI s) ∧ ev = .nilIface) ∨ ((∀ n, Lib.atoiAll s.data.toList ≠ .ok n) ∧ ∃ t p, ev = .iface t p))) ∧ Below W.heap.size W w' := by
  unfold atoiI
  cases h : Lib.atoiAll s.data.toList with
  | ok v =>
    refine (Tryz.strconv_Atoi_ok s (by omega) v h W).mono ?_
    rintro e w' ⟨rfl, hw⟩
    refine ⟨⟨_, rfl, .inl ⟨rfl, rfl⟩⟩, ?_⟩
    rcases hw with rfl | ⟨t, rfl⟩
    · exact Below.refl _ _
    · exact Lib.bytesWorld_below _ _ _
  | range =>
    refine (Tryz.strconv_Atoi_range_var s hs h t2 p2 W h2).mono ?_
    rintro e w' ⟨N, rfl, -, -, hb⟩
    exact ⟨⟨_, rfl, .inr ⟨fun n e => (by cases e), _, _, rfl⟩⟩, hb⟩
  | _ =>
    refine (Any.strconv_Atoi_syntax_var Tryz.laysC172 s hs h t1 p1 W h1).mono ?_
    rintro e w' ⟨N, rfl, -, -, hb⟩
    exact ⟨⟨_, rfl, .inr ⟨fun n e => (by cases e), _, _, rfl⟩⟩, hb⟩
end
section
open Go.ChangeShapes Go.WideShapes Go.ChangeAt Go.RowKit Go.Sort
theorem arr_elem {W : World} {n : String} {g len : Nat} {t e : TypeId} {ds : List (DataW Unit)} (h : Lib.VarReads Tryz.prog W n (.agg ds)) (hg : Tryz.prog.globalNamed n = some g) (ht : (Tryz.prog.globals[g]?).map (·.type) = some t)
    (hu : Tryz.prog.underlying t = some (.array len e)) : ∃ cs, W.var? Tryz.prog n = some cs ∧ ∀ i d, ds[i]? = some d → ∃ m q, DataW.trod (fun _ => ()) Tryz.prog W 0 (fun _ => true) false m e ((cs.toList.drop (i * Tryz.prog.cellsOf e)).take (Tryz.prog.cellsOf e)) = some (d, q) := by
  obtain ⟨g', t', cs, fuel, p, hg', ht', hv, hd⟩ := h
  obtain rfl := Option.some.inj (hg.symm.trans hg')
  obtain rfl := Option.some.inj (ht.symm.trans ht')
  obtain ⟨xs, m, rfl, hx, hl, hxl, hel⟩ := DataW.trod_array hu hd
  refine ⟨cs, hv, fun i d hid => ?_⟩
  have hx1 : ds = xs.map (·.1) := by simpa using congrArg Prod.fst hx
  rw [hx1, List.getElem?_map] at hid
  cases hxi : xs[i]? with
  | none => rw [hxi] at hid; cases hid
  | some y =>
    rw [hxi] at hid
    have hi : i < len := by rw [← hxl]; exact (List.getElem?_eq_some_iff.1 hxi).1
    have := hel i hi
    rw [hxi] at this
    obtain ⟨d', q⟩ := y
    cases hid
    exact ⟨m, q, this⟩
def stepD (L : List (Int × Int)) : DataW Unit := .agg (L.map fun d => .agg ([d.1, d.2].map fun z => .lit (.int .i64 z)))
theorem steps_of {W : World} {n : String} {g len : Nat} {t : TypeId} {L : List (Int × Int)} {fs : Array Field} (h : Lib.VarReads Tryz.prog W n (stepD L)) (hg : Tryz.prog.globalNamed n = some g) (ht : (Tryz.prog.globals[g]?).map (·.type) = some t)
    (hu : Tryz.prog.underlying t = some (.array len 237)) (hs : Tryz.prog.underlying 237 = some (.struct fs)) (hc : Tryz.prog.cellsOf 237 = 2) (hfs : fs.size = 2)
    (hf : ∀ (i : Nat) (f : Field), fs[i]? = some f → Tryz.prog.underlying f.type = some (.int .i64) ∧ f.offset = i ∧ Tryz.prog.cellsOf f.type = 1) : StepsAt W g 0 L := by
  obtain ⟨cs, hv, hel⟩ := arr_elem h hg ht hu
  intro i d hid
  obtain ⟨m, q, hd⟩ := hel i _ (by rw [List.getElem?_map, hid]; rfl)
  rw [hc] at hd
  have hcs := Lib.ints_of_struct hs hf (by rw [hc, hfs]) hd
  have c0 : cs.toList[i * 2]? = some (.int .i64 d.1) := by
    have := congrArg (·[0]?) hcs
    simpa [List.getElem?_take, List.getElem?_drop] using this
  have c1 : cs.toList[i * 2 + 1]? = some (.int .i64 d.2) := by
    have := congrArg (·[1]?) hcs
    simpa [List.getElem?_take, List.getElem?_drop] using this
  have e0 := World.var?_cell hg hv (i * 2)
  have e1 := World.var?_cell hg hv (i * 2 + 1)
  rw [Nat.zero_add]
  exact ⟨e0.trans (by simpa using c0), e1.trans (by simpa using c1)⟩
theorem step_fields : ∃ fs, Tryz.prog.underlying 237 = some (.struct fs) ∧ fs.size = 2 ∧ ∀ (i : Nat) (f : Field), fs[i]? = some f → Tryz.prog.underlying f.type = some (.int .i64) ∧ f.offset = i ∧ Tryz.prog.cellsOf f.type = 1 := by
  refine ⟨_, Tryz.underlying237, rfl, fun i f h => ?_⟩
  rcases (by omega : i = 0 ∨ i = 1 ∨ 2 ≤ i) with rfl | rfl | h2
  · simp at h; subst h; exact ⟨Tryz.underlying3, rfl, by kernel_rfl⟩
  · simp at h; subst h; exact ⟨Tryz.underlying3, rfl, by kernel_rfl⟩
  · rw [Array.getElem?_eq_none (by simpa using h2)] at h; cases h
def kindD (l : Int) (v : Int) (s : List UInt8) : DataW Unit := .agg [.lit (.int .u8 l), .lit (.int .i64 v), .lit (.string s)]
theorem kinds_of {W : World} {ds : List (DataW Unit)} (h : Lib.VarReads Tryz.prog W "caissa/piece.kinds" (.agg ds)) (hd : ∀ k < 15, ∃ v s, ds[k]? = some (kindD (letN k) v s)) : KindsAt W := by
  obtain ⟨cs, hv, hel⟩ := arr_elem h (g := 1) (by kernel_rfl) (t := 180) (by kernel_rfl) Tryz.underlying180
  intro k hk
  obtain ⟨v, s, hks⟩ := hd k hk
  obtain ⟨m, q, hd⟩ := hel k _ hks
  have hc : Tryz.prog.cellsOf 179 = 3 := by kernel_rfl
  rw [hc] at hd
  obtain ⟨xs, m2, rfl, hx, hl, hxl, hall⟩ := DataW.trod_struct Tryz.underlying179 hd
  have h0 := hall 0 _ rfl
  have hx0 : xs[0]? = some (.lit (.int .u8 (letN k)), (xs[0]?.map (·.2)).getD []) := by
    have h3 : [DataW.lit (.int .u8 (letN k)), .lit (.int .i64 v), .lit (.string s)] = xs.map (·.1) := by simpa [kindD] using congrArg Prod.fst hx
    cases xs with
    | nil => simp at h3
    | cons y r =>
      simp only [List.map_cons, List.cons.injEq] at h3
      obtain ⟨d, q⟩ := y
      simp at h3 ⊢
      exact h3.1.symm
  rw [hx0] at h0
  obtain ⟨z, hcz, hz, -⟩ := DataW.trod_int Tryz.underlying5 h0
  have hz2 : z = letN k := by simpa using (congrArg Prod.fst hz).symm
  subst hz2
  have c0 : cs.toList[k * 3]? = some (.int .u8 (letN k)) := by
    have c1 : Tryz.prog.cellsOf 5 = 1 := by kernel_rfl
    have hcz2 : (((cs.toList.drop (k * 3)).take 3).drop 0).take (Tryz.prog.cellsOf 5) = [Value.int .u8 (letN k)] := hcz
    rw [c1] at hcz2
    have := congrArg (·[0]?) hcz2
    simpa [List.getElem?_take, List.getElem?_drop] using this
  have e0 := World.var?_cell (show Tryz.prog.globalNamed "caissa/piece.kinds" = some 1 by kernel_rfl) hv (k * 3)
  exact e0.trans (by simpa using c0)
theorem env_of {W : World} (h : laidMetH Tryz.prog laidL W) (hsh : W.ShapedOpen Tryz.prog) : Env W := by
  rw [MakeChecks.laidMetH_plain _ _ _ (by kernel_rfl)] at h
  have r := fun (i : Nat) n d (e : laidL[i]? = some (n, d)) => Lib.laidMet.reads h (List.mem_of_getElem? e)
  have hp : Lib.TabIs Tryz.prog W "internal/strconv.uint64pow10" .u64 Lib.pow10Tab := by
    obtain ⟨g', t', cs, fuel, p, hg', ht', hv, hd⟩ := r 3 _ (Lib.tabData .u64 Lib.pow10Tab) (by kernel_rfl)
    obtain rfl := Option.some.inj ((show Tryz.prog.globalNamed "internal/strconv.uint64pow10" = some 5 by kernel_rfl).symm.trans hg')
    obtain rfl := Option.some.inj ((show (Tryz.prog.globals[5]?).map (·.type) = some 221 by kernel_rfl).symm.trans ht')
    unfold Lib.TabIs
    rw [hv, ← Lib.cells_of_tab Tryz.underlying221 Tryz.underlying129 (by kernel_rfl) (by kernel_rfl) hd]
  obtain ⟨fs, f1, f2, f3⟩ := step_fields
  have hc : Tryz.prog.cellsOf 237 = 2 := by kernel_rfl
  have hfull : W.cell? ⟨0, 0, none⟩ = some (.int .i64 8) ∧ W.cell? ⟨0, 1, none⟩ = some (.int .i64 8) := by
    obtain ⟨g', t', cs, fuel, p, hg', ht', hv, hd⟩ := r 10 _ (.agg ([8, 8].map fun z => .lit (.int .i64 z))) (by kernel_rfl)
    obtain rfl := Option.some.inj ((show Tryz.prog.globalNamed "caissa/position.full" = some 0 by kernel_rfl).symm.trans hg')
    obtain rfl := Option.some.inj ((show (Tryz.prog.globals[0]?).map (·.type) = some 23 by kernel_rfl).symm.trans ht')
    have hcs := Lib.ints_of_struct Tryz.underlying23 (fun i f hf => by
      rcases (by omega : i = 0 ∨ i = 1 ∨ 2 ≤ i) with rfl | rfl | h2
      · simp at hf; subst hf; exact ⟨Tryz.underlying3, rfl, by kernel_rfl⟩
      · simp at hf; subst hf; exact ⟨Tryz.underlying3, rfl, by kernel_rfl⟩
      · rw [Array.getElem?_eq_none (by simpa using h2)] at hf; cases hf) (by kernel_rfl) hd
    have e0 := World.var?_cell hg' hv 0
    have e1 := World.var?_cell hg' hv 1
    obtain ⟨l⟩ := cs
    simp only [] at hcs
    subst hcs
    exact ⟨e0, e1⟩
  obtain ⟨a8, _, hr, -⟩ := laid_sentinel (g := 4) (ti := 104) (tp := 231) (te := 233) (ts := 9) (h.tail.tail.tail.tail.tail.tail.tail.tail) (by kernel_rfl) (by kernel_rfl) Tryz.underlying104 (fun u hu => typeName_ptr_named (nm := "errors.errorString") (by kernel_rfl) (by kernel_rfl) (by decide) u (by exact hu)) Tryz.underlying231 Tryz.underlying233 rfl rfl Tryz.underlying9 (by kernel_rfl) (by kernel_rfl)
  obtain ⟨a9, _, hs, -⟩ := laid_sentinel (g := 3) (ti := 104) (tp := 231) (te := 233) (ts := 9) (h.tail.tail.tail.tail.tail.tail.tail.tail.tail) (by kernel_rfl) (by kernel_rfl) Tryz.underlying104 (fun u hu => typeName_ptr_named (nm := "errors.errorString") (by kernel_rfl) (by kernel_rfl) (by decide) u (by exact hu)) Tryz.underlying231 Tryz.underlying233 rfl rfl Tryz.underlying9 (by kernel_rfl) (by kernel_rfl)
  have hat : ∀ (V : World) (s : ByteArray), Below W.heap.size W V → s.size ≤ 281474976710656 → _ := fun V s hV hz => atoi_run (var_below hV (g := 3) (by kernel_rfl) hs) (var_below hV (g := 4) (by kernel_rfl) hr) s hz
  refine ⟨Tryz.laysM146.s1_3 W hsh, ?_, itoaAt hp, ?_, ?_, ⟨?_, ?_, ?_⟩, hfull⟩
  · refine kinds_of (r 0 "caissa/piece.kinds" _ rfl) fun k hk => ?_
    rcases (by omega : k = 0 ∨ k = 1 ∨ k = 2 ∨ k = 3 ∨ k = 4 ∨ k = 5 ∨ k = 6 ∨ k = 7 ∨ k = 8 ∨ k = 9 ∨ k = 10 ∨ k = 11 ∨ k = 12 ∨ k = 13 ∨ k = 14) with rfl | rfl | rfl | rfl | rfl | rfl | rfl | rfl | rfl | rfl | rfl | rfl | rfl | rfl | rfl <;> exact ⟨_, _, rfl⟩
  · intro V s hV hz
    exact (hat V s hV (by omega)).mono fun e w' ⟨⟨ev, he, _⟩, hb⟩ => ⟨⟨ev, he⟩, hb⟩
  · intro V s hV hz
    exact ⟨_, hat V s hV hz⟩
  · exact steps_of (r 7 "caissa/ray.leaps" (stepD leapsL) (by kernel_rfl)) (by kernel_rfl) (by kernel_rfl) Tryz.underlying240 f1 hc f2 f3
  · exact steps_of (r 6 "caissa/ray.diagonal" (stepD diagL) (by kernel_rfl)) (by kernel_rfl) (by kernel_rfl) Tryz.underlying242 f1 hc f2 f3
  · exact steps_of (r 5 "caissa/ray.straight" (stepD strL) (by kernel_rfl)) (by kernel_rfl) (by kernel_rfl) Tryz.underlying242 f1 hc f2 f3
end
section
open Go.ChangeShapes Go.WideShapes Go.ChangeAt Go.RowKit Go.Joins
section
variable {H : Type} {enc : TypeId × Value → H}
theorem returns_laid {a : Assume} {C : Checked} {os : Os} {f : FuncId} {fn : Func} {s : ChangeSpec} {conds : List PathCond} {apart fresh handsOn again : Bool} {X : World → Array Value → Prop}
    (hX : ∀ (w w' : World) (args : Array Value), w.heap = w'.heap → X w args → X w' args)
    (own : ownKnob C.prog.godebug = none) (started : os.Started) (noInit : C.prog.inits.idxOf? f = none) (hfn : C.prog.funcs[f]? = some fn)
    (witness : ∃ (w : World) (tape : Tape) (i : Input), w.os = os ∧ (w.forCall tape i).Shaped C.prog ∧ i.vars = [] ∧ Input.okWide C.prog (w.forCall tape i) .any w.heap.size f i ∧
      ((s.pre enc C.prog fn conds apart (w.forCall tape i).memory i.args ∧ X (w.forCall tape i).memory i.args) ∧ sizedMet enc C.prog fn (OpenSpec.ofChange s) apart (w.forCall tape i).memory i.args) ∧ a.holds C.prog (lone (Frame.enter C.prog f i.args .normal) [] (w.forCall tape i)))
    (contract : ∀ (W : World) (base : Nat) (args : Array Value) (ds gs : List (DataW H)) (before : List MemPlace),
      (∀ (j : Nat) t v, fn.params[j]? = some t → args[j]? = some v → Value.okWide C.prog W .any base t v) →
      DataW.Whole enc C.prog fn.params.toList s.vars apart W args.toList ds gs before → X W args → W.ShapedOpen C.prog →
      Calls C.prog f args W fun e W' => ∃ v, e = .returned v ∧ s.post enc C.prog fn apart fresh handsOn again W args v W') :
    ReturnsInHanded a C os f .any (fun w args => (s.pre enc C.prog fn conds apart w args ∧ X w args) ∧ sizedMet enc C.prog fn (OpenSpec.ofChange s) apart w args) (s.post enc C.prog fn apart fresh handsOn again) := by
  refine returnsInHanded_of_calls own started noInit witness ?_
  intro w tape i _ hsh _ hok hpre _
  obtain ⟨_, _, _, fn', hfn', _, _, _, _, hval⟩ := hok
  have e : fn' = fn := Option.some.inj (hfn'.symm.trans hfn)
  subst e
  obtain ⟨⟨⟨ds, gs, before, hw, hc⟩, hx⟩, hz⟩ := hpre
  have hw' := DataW.Whole.of_heap (w' := w.forCall tape i) (by rfl) hw
  refine (contract (w.forCall tape i) w.heap.size i.args ds gs before hval hw' (hX _ _ _ (by rfl) hx) hsh).mono fun e W' ⟨v, he, hp⟩ => ?_
  subst he
  exact ChangeSpec.post_blind hp
theorem trodAll_below {P : Program} (hl : laidOutB P = true) {W W' : World} (hb : Below W.heap.size W W') : ∀ {ts : List TypeId} {vs : List Value} {ds : List (DataW H)} {ps : List MemPlace},
    (∀ t ∈ ts, P.readableRec t = true ∧ t < P.types.size) → DataW.TrodAll enc P W 0 (fun _ => true) true ts vs ds ps → (∀ x ∈ ps, x.block < W.heap.size) →
    DataW.TrodAll enc P W' 0 (fun b => decide (b < W.heap.size)) true ts vs ds ps
  | [], [], [], _, _, h, _ => h
  | t :: ts, v :: vs, d :: ds, _, ht, ⟨p, q, h1, h2, e⟩, hlt => by
    subst e
    exact ⟨p, q, Below.trod hl (ht t (.head _)).1 (ht t (.head _)).2 h1 hb (fun x hx => hlt x (List.mem_append_left _ hx)),
      trodAll_below hl hb (fun t' h' => ht t' (.tail _ h')) h2 (fun x hx => hlt x (List.mem_append_right _ hx)), rfl⟩
  | [], [], _ :: _, _, _, h, _ => h.elim
  | [], _ :: _, _, _, _, h, _ => h.elim
  | _ :: _, [], _, _, _, h, _ => h.elim
  | _ :: _, _ :: _, [], _, _, h, _ => h.elim
theorem laidOut : laidOutB Tryz.prog = true := by kernel_rfl
set_option maxRecDepth 100000 in
theorem law_lifted {f : FuncId} {fn : Func} {s : ChangeSpec} (hfn : Tryz.prog.funcs[f]? = some fn) (noInit : Tryz.prog.inits.idxOf? f = none)
    (hres : ∃ tb, fn.resultTypes = #[tb] ∧ Tryz.prog.underlying tb = some .bool) (hpar : ∀ t ∈ fn.params.toList, Tryz.prog.readableRec t = true ∧ t < Tryz.prog.types.size) (hv : s.vars = [])
    (hs : ∀ (ds : List (DataW H)), ds.length = fn.params.size → s.fn H ds = { results := [.lit (.bool true)], args := ds }) (os : Os) (started : os.Started)
    (witness : ∃ (w : World) (tape : Tape) (i : Input), w.os = os ∧ (w.forCall tape i).Shaped Tryz.checked.prog ∧ i.vars = [] ∧ Input.okWide Tryz.checked.prog (w.forCall tape i) .any w.heap.size f i ∧
      ((s.pre enc Tryz.checked.prog fn [] false (w.forCall tape i).memory i.args ∧ laidMetH Tryz.prog laidL (w.forCall tape i).memory) ∧ sizedMet enc Tryz.checked.prog fn (OpenSpec.ofChange s) false (w.forCall tape i).memory i.args) ∧ ({} : Assume).holds Tryz.checked.prog (lone (Frame.enter Tryz.checked.prog f i.args .normal) [] (w.forCall tape i)))
    (law : ∀ (W : World) (base : Nat) (args : Array Value) (ds : List (DataW H)) (p : List MemPlace), Env W →
      (∀ (j : Nat) t v, fn.params[j]? = some t → args[j]? = some v → Value.okWide Tryz.prog W .any base t v) →
      DataW.TrodAll enc Tryz.prog W 0 (fun _ => true) true fn.params.toList args.toList ds p → Pure f args W (.bool true)) :
    ReturnsInHanded {} Tryz.checked os f .any (fun w args => (s.pre enc Tryz.prog fn [] false w args ∧ laidMetH Tryz.prog laidL w) ∧ sizedMet enc Tryz.prog fn (OpenSpec.ofChange s) false w args)
      (s.post enc Tryz.prog fn false true false false) := by
  refine returns_laid (C := Tryz.checked) (X := fun w _ => laidMetH Tryz.prog laidL w) (fun _ _ _ hh h => h.of_heap hh) Tryz.own started noInit hfn witness ?_
  intro W base args ds gs before hval hW hX hsh
  have hW' := hW
  obtain ⟨p, q, hA, hV, rfl, hfz, hnd⟩ := hW
  have hlt : ∀ x ∈ p, x.block < W.heap.size := fun x hx => hW'.lt x (List.mem_append_left _ hx)
  rw [hv] at hV
  obtain ⟨rfl, rfl⟩ := trodVars_none hV
  have hlen : ds.length = fn.params.size := by
    have : ∀ {ts : List TypeId} {vs : List Value} {ds : List (DataW H)} {ps : List MemPlace}, DataW.TrodAll enc Tryz.prog W 0 (fun _ => true) true ts vs ds ps → ds.length = ts.length := by
      intro ts
      induction ts with
      | nil => intro vs ds ps h; cases vs <;> cases ds <;> first | rfl | exact h.elim
      | cons t ts ih =>
        intro vs ds ps h
        cases vs <;> cases ds <;> first | exact h.elim | skip
        obtain ⟨p, q, h1, h2, e⟩ := h
        simp [ih h2]
    simpa using this hA
  refine (law W base args ds p (env_of hX hsh) hval hA).mono fun e W' ⟨he, hb⟩ => ?_
  subst he
  obtain ⟨tb, hr, hbl⟩ := hres
  refine ⟨_, rfl, ds, [], _, [], p, [], hW', ?_, ?_, ?_, hb.frame _, fun h => by cases h⟩
  · rw [List.append_nil, hs ds hlen, hr]
    exact trodAll_mk1 (shut_bool hbl true)
  · rw [List.append_nil, hs ds hlen]
    exact trodAll_below laidOut hb hpar hA hlt
  · rw [List.append_nil, hs ds hlen, hv]
    rfl
end
end
section
set_option maxRecDepth 100000
open Go.ChangeShapes Go.WideShapes Go.ChangeAt Go.RowKit Go.Joins Go.Deep
section
variable {H : Type} {enc : TypeId × Value → H} {W : World}
theorem addr_of {w : World} {a : Addr} {v : Value} (h : w.cell? a = some v) : a = ⟨a.block, a.off, none⟩ := by
  obtain ⟨b, o, s⟩ := a
  cases s with
  | none => rfl
  | some x =>
    simp only [World.cell?] at h
    split at h
    · simp at h
    · cases h
theorem add_at (b o i : Nat) : (⟨b, o, none⟩ : Addr).add i = ⟨b, o + i, none⟩ := by
  unfold Addr.add
  split
  · rename_i h
    subst h
    rfl
  · rfl
theorem pieces_open {base : Nat} {fuel : Nat} {cs : List Value} {x : DataW H × List MemPlace} (h : DataW.trod enc Tryz.prog W 0 (fun _ => true) true fuel 24 cs = some x) :
    ∃ (ps : List Int) (po : Option Addr) (cap : Nat), cs = [.slice po ps.length cap] ∧ SlcAt W po ps ∧ ps.length ≤ cap ∧ cap ≤ 9223372036854775807 ∧ ∀ q ∈ ps, -128 ≤ q ∧ q ≤ 127 := by
  rcases open_ints Tryz.underlying24 Tryz.underlying48 (by kernel_rfl) h with ⟨hcs, _⟩ | ⟨a, len, cap, zs, hcs, _, hl, hm, hz, _, hcell, hwz⟩
  · exact ⟨[], none, 0, hcs, .inl rfl, by simp, by omega, by simp⟩
  · simp only [if_true] at hz
    unfold maxLen at hm
    refine ⟨zs.take len, some a, cap, by rw [hcs, List.length_take]; congr 3; omega, ?_, by rw [List.length_take]; omega, by omega, fun q hq => bounds_i8 (hwz q (List.mem_of_mem_take hq))⟩
    rcases Nat.eq_zero_or_pos len with h0 | hpos
    · exact .inl (by simp [h0])
    · have c0 := hcell 0 (by omega)
      have ha := addr_of (show W.cell? a = some _ by simpa [Addr.add] using c0)
      obtain ⟨b, o, s⟩ := a
      simp only [Addr.mk.injEq, true_and] at ha
      subst ha
      refine .inr ⟨b, o, rfl, fun i q hi => ?_⟩
      have hi1 : i < zs.length ∧ zs[i]? = some q := by
        rw [List.getElem?_take] at hi
        split at hi
        · exact ⟨(List.getElem?_eq_some_iff.1 hi).1, hi⟩
        · cases hi
      have := hcell i hi1.1
      rw [add_at, List.getD_eq_getElem?_getD, hi1.2] at this
      exact this
theorem pos_open {base : Nat} {r : Reach} {v : Value} {d : DataW H} {p : List MemPlace} (hv : Value.okWide Tryz.prog W r base 26 v) (h : DataW.Trod enc Tryz.prog W 0 (fun _ => true) true 26 v d p) :
    ∃ (q : Pos) (po : Option Addr) (cap : Nat), v = .agg (q.cells po cap) ∧ SlcAt W po q.ps ∧ q.ps.length ≤ cap ∧ cap ≤ 9223372036854775807 ∧ (0 ≤ q.castle ∧ q.castle ≤ 255) := by
  obtain ⟨cs, rfl, hsz⟩ := okWide_struct Tryz.underlying26 hv
  obtain ⟨fuel, hf⟩ := h
  obtain ⟨ys, m, hm, hx, hl, hyl, hall⟩ := DataW.trod_struct Tryz.underlying26 hf
  have hc8 : Tryz.prog.cellsOf 26 = 8 := by kernel_rfl
  rw [hc8] at hsz
  obtain ⟨l⟩ := cs
  obtain ⟨c0, c1, c2, c3, c4, c5, c6, c7, rfl⟩ : ∃ c0 c1 c2 c3 c4 c5 c6 c7, l = [c0, c1, c2, c3, c4, c5, c6, c7] := by
    match l, hsz with
    | [c0, c1, c2, c3, c4, c5, c6, c7], _ => exact ⟨_, _, _, _, _, _, _, _, rfl⟩
  obtain ⟨y0, y1, y2, y3, y4, y5, y6, rfl⟩ : ∃ y0 y1 y2 y3 y4 y5 y6, ys = [y0, y1, y2, y3, y4, y5, y6] := by
    match ys, hyl with
    | [y0, y1, y2, y3, y4, y5, y6], _ => exact ⟨_, _, _, _, _, _, _, rfl⟩
  have z0 := hall 0 _ rfl
  have z1 := hall 1 _ rfl
  have z2 := hall 2 _ rfl
  have z3 := hall 3 _ rfl
  have z4 := hall 4 _ rfl
  have z5 := hall 5 _ rfl
  have z6 := hall 6 _ rfl
  have k1 : Tryz.prog.cellsOf 23 = 2 := by kernel_rfl
  have k2 : Tryz.prog.cellsOf 24 = 1 := by kernel_rfl
  have k3 : Tryz.prog.cellsOf 4 = 1 := by kernel_rfl
  have k4 : Tryz.prog.cellsOf 5 = 1 := by kernel_rfl
  have k5 : Tryz.prog.cellsOf 3 = 1 := by kernel_rfl
  clear hall hm hx hl hyl hsz hc8 hf hv
  simp only [k1, k2, k3, k4, k5, Value.cells, List.drop_succ_cons, List.drop_zero, List.take_succ_cons, List.take_zero, List.getElem?_cons_zero, List.getElem?_cons_succ] at z0 z1 z2 z3 z4 z5 z6
  obtain ⟨xs, m2, _, _, _, hxl, hxa⟩ := DataW.trod_struct Tryz.underlying23 z0
  obtain ⟨x0, x1, rfl⟩ : ∃ x0 x1, xs = [x0, x1] := by
    match xs, hxl with
    | [x0, x1], _ => exact ⟨_, _, rfl⟩
  have u0 := hxa 0 _ rfl
  have u1 := hxa 1 _ rfl
  clear hxa hxl
  simp only [k5, List.drop_succ_cons, List.drop_zero, List.take_succ_cons, List.take_zero, List.getElem?_cons_zero, List.getElem?_cons_succ] at u0 u1
  obtain ⟨f, hf, _, _⟩ := DataW.trod_int Tryz.underlying3 u0
  obtain ⟨g, hg, _, _⟩ := DataW.trod_int Tryz.underlying3 u1
  obtain ⟨ps, po, cap, hp, hS, hl1, hl2, _⟩ := pieces_open (base := 0) z1
  obtain ⟨b, hb, _⟩ := DataW.trod_bool Tryz.underlying4 z2
  obtain ⟨k, hk, _, wk⟩ := DataW.trod_int Tryz.underlying5 z3
  obtain ⟨x, hx, _, _⟩ := DataW.trod_int Tryz.underlying3 z4
  obtain ⟨y, hy, _, _⟩ := DataW.trod_int Tryz.underlying3 z5
  obtain ⟨z, hz, _, _⟩ := DataW.trod_int Tryz.underlying3 z6
  cases hf
  cases hg
  cases hp
  cases hb
  cases hk
  cases hx
  cases hy
  cases hz
  exact ⟨⟨f, g, ps, b, k, x, y, z⟩, po, cap, rfl, hS, hl1, hl2, bounds_u8 wk⟩
end
end
section
theorem rpvalid_c (w : World) (p : Int) : Same 142 #[.int .i8 p] w (.bool (!badB p)) := by
  unfold Same
  go_enter Tryz.func142, Tryz.ntmps142
  go_wp2
  all_goals (go_ret; exact ⟨by first | (simp_all [badB]; done) | (simp_all [badB]; omega) | (simp [badB]; omega), rfl⟩)
def rorthP (p : Int) : Bool := p != 0 && decide (-6 ≤ p) && decide (p ≤ 6)
theorem rporth_c (w : World) (p : Int) : Same 111 #[.int .i8 p] w (.bool (rorthP p)) := by
  unfold Same
  go_enter Tryz.func111, Tryz.ntmps111
  go_wp2
  all_goals (go_ret; exact ⟨by first | (simp_all [rorthP]; done) | (simp_all [rorthP]; omega) | (simp [rorthP]; omega), rfl⟩)
def kindI (p : Int) : Int := if p < 0 then -p else p
theorem rkind_c (w : World) (p : Int) (h1 : -127 ≤ p) (h2 : p ≤ 127) : Same 66 #[.int .i8 p] w (.int .i8 (kindI p)) := by
  unfold Same
  go_enter Tryz.func66, Tryz.ntmps66
  go_wp2
  all_goals (go_ret; exact ⟨by first | (simp_all [kindI]; done) | (simp_all [kindI]; omega) | (simp [kindI]; omega), rfl⟩)
def sgnI (p : Int) : Int := if p < 0 then -1 else if 0 < p then 1 else 0
theorem rside_c (w : World) (p : Int) : Same 169 #[.int .i8 p] w (.int .i64 (sgnI p)) := by
  unfold Same
  go_enter Tryz.func169, Tryz.ntmps169
  go_wp2
  all_goals (go_ret; exact ⟨by first | (simp_all [sgnI]; done) | (simp_all [sgnI]; omega) | (simp [sgnI]; omega), rfl⟩)
theorem rsign_c (w : World) (p : Int) : Same 219 #[.int .i64 p] w (.int .i64 (sgnI p)) := by
  unfold Same
  go_enter Tryz.func219, Tryz.ntmps219
  go_wp2
  all_goals (go_ret; exact ⟨by first | (simp_all [sgnI]; done) | (simp_all [sgnI]; omega) | (simp [sgnI]; omega), rfl⟩)
theorem rabs_c (w : World) (p : Int) (h1 : -10000 ≤ p) (h2 : p ≤ 10000) : Same 218 #[.int .i64 p] w (.int .i64 (kindI p)) := by
  unfold Same
  go_enter Tryz.func218, Tryz.ntmps218
  go_wp2
  all_goals (go_ret; exact ⟨by first | (simp_all [kindI]; done) | (simp_all [kindI]; omega) | (simp [kindI]; omega), rfl⟩)
theorem rfwd_c (w : World) (b : Bool) : Same 194 #[.bool b] w (.int .i64 (fwd b)) := by
  unfold Same
  go_enter Tryz.func194, Tryz.ntmps194
  go_wp2
  all_goals (go_ret; exact ⟨by first | (simp_all [fwd]; done) | (simp_all [fwd]; omega) | (simp [fwd]; omega), rfl⟩)
theorem rsd_c (w : World) (b : Bool) : Same 113 #[.bool b] w (.int .i64 (fwd (b))) := by
  unfold Same
  go_enter Tryz.func113, Tryz.ntmps113
  go_wp2
  all_goals (go_ret; exact ⟨by first | (simp_all [fwd]; done) | (simp_all [fwd]; omega) | (simp [fwd]; omega), rfl⟩)
theorem rpiece_c (w : World) (k : Int) (b : Bool) (h1 : -15 ≤ k) (h2 : k ≤ 15) : Same 119 #[.int .i8 k, .bool b] w (.int .i8 (pofI k b)) := by
  unfold Same
  go_enter Tryz.func119, Tryz.ntmps119
  go_wp2
  all_goals (go_ret; exact ⟨by first | (simp_all [pofI]; done) | (simp_all [pofI]; omega) | (simp [pofI]; omega), rfl⟩)
theorem rsize_c (w : World) (f r : Int) : Pure 141 #[.agg #[.int .i64 f, .int .i64 r]] w (.bool (vsize f r)) := by
  unfold Pure
  go_enter Tryz.func141, Tryz.ntmps141
  go_wp2
  all_goals (go_ret; refine ⟨by first | (simp_all [vsize, sideB]; done) | (simp_all [vsize, sideB]; omega) | (simp [vsize, sideB]; omega), ?_⟩)
  all_goals
    repeat (first | (with_reducible assumption) | (with_reducible exact Below.refl _ _) | (with_reducible apply below_drewN) | (with_reducible apply Below.drew) | (with_reducible apply Below.alloc) | (with_reducible apply Below.setCell))
    all_goals first | omega | (dsimp only; omega) | (simp; done) | (simp; omega)
theorem rlast_c (w : World) (f r : Int) (b : Bool) (h1 : -10000 ≤ r) (h2 : r ≤ 10000) : Pure 68 #[.agg #[.int .i64 f, .int .i64 r], .bool b] w (.int .i64 (if b then 0 else r - 1)) := by
  unfold Pure
  go_enter Tryz.func68, Tryz.ntmps68
  go_wp2
  all_goals (go_ret; refine ⟨by first | (simp_all [fwd]; done) | (simp_all [fwd]; omega) | (simp [fwd]; omega), ?_⟩)
  all_goals
    repeat (first | (with_reducible assumption) | (with_reducible exact Below.refl _ _) | (with_reducible apply below_drewN) | (with_reducible apply Below.drew) | (with_reducible apply Below.alloc) | (with_reducible apply Below.setCell))
    all_goals first | omega | (dsimp only; omega) | (simp; done) | (simp; omega)
theorem rrank_c (w : World) (f r n : Int) (b : Bool) (h1 : -10000 ≤ r) (h2 : r ≤ 10000) (h3 : 0 ≤ n) (h4 : n ≤ 10000) : Pure 117 #[.agg #[.int .i64 f, .int .i64 r], .bool b, .int .i64 n] w (.int .i64 (if b then r - n else n - 1)) := by
  unfold Pure
  go_enter Tryz.func117, Tryz.ntmps117
  go_wp2
  all_goals (go_ret; refine ⟨by first | (simp_all [fwd]; done) | (simp_all [fwd]; omega) | (simp [fwd]; omega), ?_⟩)
  all_goals
    repeat (first | (with_reducible assumption) | (with_reducible exact Below.refl _ _) | (with_reducible apply below_drewN) | (with_reducible apply Below.drew) | (with_reducible apply Below.alloc) | (with_reducible apply Below.setCell))
    all_goals first | omega | (dsimp only; omega) | (simp; done) | (simp; omega)
def numI (f r x y : Int) : Int := if onB f r x y then y * f + x else -1
end
section
theorem Pure.st {f : FuncId} {args : Array Value} {w : World} {v : Value} {x : Ext w.heap.size w} (h : Pure f args x.1 v) :
    Calls Tryz.prog f args x.1 fun e w'' => e = .returned v ∧ ∃ y : Ext w.heap.size w, w'' = y.1 := h.ext (Nat.le_refl _)
theorem Same.st {f : FuncId} {args : Array Value} {B : Nat} {w : World} {v : Value} {x : Ext B w} (h : Same f args x.1 v) :
    Calls Tryz.prog f args x.1 fun e w'' => e = .returned v ∧ ∃ y : Ext B w, w'' = y.1 := h.mono fun _ _ ⟨he, hw⟩ => ⟨he, x, hw.symm⟩
theorem start0r {c : Code} {Q : Exit → Act → World → Prop} {a : Act} {V : World} (h : ∀ x : Ext V.heap.size V, c.wp Tryz.prog Q a x.1) : c.wp Tryz.prog Q a V := h ⟨V, Below.refl _ _⟩
theorem ext_end {w V : World} (hB : Below w.heap.size w V) (x : Ext V.heap.size V) : Below w.heap.size w x.1 := hB.trans (x.2.mono hB.size)
theorem start1 {f : FuncId} {args : Array Value} {Q : Ending → World → Prop} {w : World} {o : Obj}
    (h : ∀ V : World, Hid (Below w.heap.size w V) → Hid (V.heap[w.heap.size]? = some o) → ∀ x : Ext V.heap.size V, Calls Tryz.prog f args x.1 Q) : Calls Tryz.prog f args (w.alloc o) Q :=
  h (w.alloc o) (Lib.hid ((Below.refl _ _).alloc (Nat.le_refl _) o)) (Lib.hid (blk_new rfl o)) ⟨_, Below.refl _ _⟩
theorem start1r {c : Code} {Q : Exit → Act → World → Prop} {a : Act} {w : World} {o : Obj}
    (h : ∀ V : World, Hid (Below w.heap.size w V) → Hid (V.heap[w.heap.size]? = some o) → ∀ x : Ext V.heap.size V, c.wp Tryz.prog Q a x.1) : c.wp Tryz.prog Q a (w.alloc o) :=
  h (w.alloc o) (Lib.hid ((Below.refl _ _).alloc (Nat.le_refl _) o)) (Lib.hid (blk_new rfl o)) ⟨_, Below.refl _ _⟩
theorem start2r {c : Code} {Q : Exit → Act → World → Prop} {a : Act} {w : World} {o o2 : Obj}
    (h : ∀ V : World, Hid (Below w.heap.size w V) → Hid (V.heap[w.heap.size]? = some o) → Hid (V.heap[w.heap.size + 1]? = some o2) → ∀ x : Ext V.heap.size V, c.wp Tryz.prog Q a x.1) : c.wp Tryz.prog Q a ((w.alloc o).alloc o2) :=
  h _ (Lib.hid (((Below.refl _ _).alloc (Nat.le_refl _) o).alloc (by simp) o2)) (Lib.hid (blk_alloc (blk_new rfl o) o2)) (Lib.hid (blk_new (by simp) o2)) ⟨_, Below.refl _ _⟩
theorem start1B {c : Code} {Q : Exit → Act → World → Prop} {a : Act} {w : World} {o : Obj} {B : Nat} (hB : w.heap.size = B)
    (h : ∀ V : World, Hid (V.heap[B]? = some o) → Hid (∀ x : Ext V.heap.size V, Below B w x.1 ∧ B < x.1.heap.size ∧ Below w.heap.size w x.1) → ∀ x : Ext V.heap.size V, c.wp Tryz.prog Q a x.1) : c.wp Tryz.prog Q a (w.alloc o) := by
  subst hB
  refine h (w.alloc o) (Lib.hid (blk_new rfl o)) (Lib.hid fun x => ?_) ⟨_, Below.refl _ _⟩
  have h1 : Below w.heap.size w x.1 := ((Below.refl w.heap.size w).alloc (Nat.le_refl _) o).trans (x.2.mono (by simp))
  exact ⟨h1, Nat.lt_of_lt_of_le (by simp) x.2.size, h1⟩
theorem start1Bc {f : FuncId} {args : Array Value} {Q : Ending → World → Prop} {w : World} {o : Obj} {B : Nat} (hB : w.heap.size = B)
    (h : ∀ V : World, Hid (V.heap[B]? = some o) → Hid (∀ x : Ext V.heap.size V, Below B w x.1 ∧ B < x.1.heap.size ∧ Below w.heap.size w x.1) → ∀ x : Ext V.heap.size V, Calls Tryz.prog f args x.1 Q) : Calls Tryz.prog f args (w.alloc o) Q := by
  subst hB
  refine h (w.alloc o) (Lib.hid (blk_new rfl o)) (Lib.hid fun x => ?_) ⟨_, Below.refl _ _⟩
  have h1 : Below w.heap.size w x.1 := ((Below.refl w.heap.size w).alloc (Nat.le_refl _) o).trans (x.2.mono (by simp))
  exact ⟨h1, Nat.lt_of_lt_of_le (by simp) x.2.size, h1⟩
theorem laid_row {c : Code} {Q : Exit → Act → World → Prop} {a : Act} {V : World} {x : Ext V.heap.size V} {z : Array Value} {t : TypeId} {vs : List Value} (cs : Array Value) (hcs : cs.toList = vs) (hz : z.size = cs.size)
    (h : ∀ (G : Nat) (W : World), x.1.heap.size = G → V.heap.size ≤ G → Below V.heap.size V W → W.heap[G]? = some (.cells cs t (0, 0)) → c.wp Tryz.prog Q a W) : c.wp Tryz.prog Q a ((x.1.alloc (.cells z t)).setCells x.1.heap.size 0 vs) := by
  subst hcs
  exact h x.1.heap.size _ rfl x.2.size (setCells_below x.2.size _ _ _ (x.2.alloc x.2.size _)) (setCells_arr (blk_new rfl _) hz)
theorem ext_region' {id B : Nat} {Q : Exit → Act → World → Prop} {a : Act} {w : World} {x : Ext B w} {l : List Oper} (hm : Tryz.prog.follows .mixedOrders = true) (hB : Region.lexB .any l.toArray = true)
    (h : wpQuiet Tryz.prog l.toArray (fun w' => ∃ x : Ext B w, w' = x.1) (fun a' => ∀ x : Ext B w, Q .normal a' x.1) l a) : (Code.region id l.toArray true).wp Tryz.prog Q a x.1 := by
  refine wp_region_quiet (C := fun w' => ∃ x : Ext B w, w' = x.1) hm hB ⟨⟨_, x.2.drew⟩, rfl⟩ ?_
  have h2 : (fun a' => ∀ x : Ext B w, Q .normal a' x.1) = (fun a' => ∀ w', (∃ x : Ext B w, w' = x.1) → Q .normal a' w') := by
    funext a'
    exact propext ⟨fun h w' ⟨x, hx⟩ => hx ▸ h x, fun h x => h _ ⟨x, rfl⟩⟩
  rw [h2] at h
  simpa using h
theorem ext_tail' {id B : Nat} {Q : Exit → Act → World → Prop} {a : Act} {w : World} {x : Ext B w} {l : List Oper} (n : Nat) (hm : Tryz.prog.follows .mixedOrders = true) (hB : Region.lexTailB .any l.toArray n = true)
    (h : wpQuiet Tryz.prog l.toArray (fun w' => ∃ x : Ext B w, w' = x.1) (fun a' => ∀ x : Ext B w, wpList Tryz.prog l.toArray Q (l.drop n) a' x.1) (l.take n) a) : (Code.region id l.toArray true).wp Tryz.prog Q a x.1 := by
  refine wp_region_quiet_tail (fun w' => ∃ x : Ext B w, w' = x.1) n hm hB ⟨⟨_, x.2.drew⟩, rfl⟩ ?_
  have h2 : (fun a' => ∀ x : Ext B w, wpList Tryz.prog l.toArray Q (l.drop n) a' x.1) = (fun a' => ∀ w', (∃ x : Ext B w, w' = x.1) → wpList Tryz.prog l.toArray Q (l.drop n) a' w') := by
    funext a'
    exact propext ⟨fun h w' ⟨x, hx⟩ => hx ▸ h x, fun h x => h _ ⟨x, rfl⟩⟩
  rw [h2] at h
  exact h
end
section
section
variable {P : Program} {ops : Array Oper} {Q : Exit → Act → World → Prop}
def topoB (ops : Array Oper) : Bool := (List.range ops.size).all fun i => ((ops[i]?).map fun o => o.after.toList.all fun e => !Region.binds .any e || decide (e.on < i)).getD true
theorem getD_lt {l : Array Bool} {i : Nat} (h : i < l.size) (a b : Bool) : l.getD i a = l.getD i b := by simp [Array.getD, h]
theorem ready_topo (ht : topoB ops = true) (listed : Array Bool) (hs : listed.size = ops.size) (hr : Region.ready .any ops listed = []) : ∀ i, i < ops.size → listed.getD i false = true := by
  intro i
  induction i using Nat.strongRecOn with
  | _ i ih =>
    intro hi
    cases hl : listed.getD i false with
    | true => rfl
    | false =>
      exfalso
      have hm : i ∈ Region.ready .any ops listed := by
        rw [mem_ready]
        refine ⟨by rw [getD_lt (by omega) true false]; exact hl, ops[i], Array.getElem?_eq_getElem hi, fun e he hb => ?_⟩
        have h1 := List.all_eq_true.1 ht i (List.mem_range.2 hi)
        rw [Array.getElem?_eq_getElem hi] at h1
        simp only [Option.map_some, Option.getD_some] at h1
        have h2 := List.all_eq_true.1 h1 e (by simpa using he)
        rw [hb] at h2
        have h3 : e.on < i := by simpa using h2
        exact ih e.on h3 (by omega)
      rw [hr] at hm
      cases hm
def unl (listed : Array Bool) : Nat := listed.toList.count false
theorem unl_set {listed : Array Bool} {i : Nat} (hi : i < listed.size) (h : listed.getD i false = false) : unl (listed.setIfInBounds i true) + 1 = unl listed := by
  unfold unl
  have hg : listed.toList[i]'(by simpa using hi) = false := by simpa [Array.getD, hi] using h
  rw [Array.toList_setIfInBounds, List.count_set (by simpa using hi), hg]
  have h0 : 0 < listed.toList.count false := List.count_pos_iff.2 (hg ▸ List.getElem_mem _)
  rw [if_pos (by rfl), if_neg (by decide)]
  omega
theorem unl_zero {listed : Array Bool} (h : unl listed = 0) (i : Nat) (hi : i < listed.size) : listed.getD i false = true := by
  cases hl : listed.getD i false with
  | true => rfl
  | false =>
    have := unl_set hi hl
    omega
theorem wpAny_inv (ht : topoB ops = true) (I : Array Bool → Act → World → Prop)
    (hstep : ∀ listed a w i, listed.size = ops.size → I listed a w → i ∈ Region.ready .any ops listed → wpOp P ops Q i (I (listed.setIfInBounds i true)) a w)
    (hfin : ∀ listed a w, listed.size = ops.size → (∀ i, i < ops.size → listed.getD i false = true) → I listed a w → Q .normal a w) :
    ∀ fuel listed a w, listed.size = ops.size → unl listed ≤ fuel → I listed a w → wpAny P .any ops Q fuel listed a w := by
  intro fuel
  induction fuel with
  | zero =>
    intro listed a w hs hu hI
    have hall := unl_zero (Nat.le_zero.1 hu)
    refine ⟨?_, hfin listed a w hs (fun i hi => hall i (by omega)) hI⟩
    rw [List.eq_nil_iff_forall_not_mem]
    intro j hj
    obtain ⟨h1, o, ho, _⟩ := mem_ready.1 hj
    have hlt : j < listed.size := by rw [hs]; exact (Array.getElem?_eq_some_iff.1 ho).1
    rw [getD_lt hlt true false, hall j hlt] at h1
    cases h1
  | succ fuel ih =>
    intro listed a w hs hu hI
    refine ⟨fun h0 => hfin listed a w hs (ready_topo ht listed hs h0) hI, fun i hi => ?_⟩
    obtain ⟨h1, o, ho, _⟩ := mem_ready.1 hi
    have hlt : i < listed.size := by rw [hs]; exact (Array.getElem?_eq_some_iff.1 ho).1
    have h2 := unl_set hlt (by rw [getD_lt hlt false true]; exact h1)
    exact wpOp_mono (fun a' w' h' => ih _ a' w' (by simpa using hs) (by omega) h') (hstep listed a w i hs hI hi)
def waitsB (ops : Array Oper) (i j : Nat) : Bool := ((ops[i]?).map fun o => o.after.toList.any fun e => Region.binds .any e && e.on == j).getD false
theorem waits_J {i j : Nat} {o : Oper} {J : Nat → Prop} (h : waitsB ops i j = true) (ho : ops[i]? = some o) (hd : ∀ e ∈ o.after, Region.binds .any e = true → J e.on) : J j := by
  unfold waitsB at h
  rw [ho] at h
  simp only [Option.map_some, Option.getD_some] at h
  obtain ⟨e, he, h2⟩ := List.any_eq_true.1 h
  simp only [Bool.and_eq_true, beq_iff_eq] at h2
  exact h2.2 ▸ hd e (by simpa using he) h2.1
theorem waits_no {i j : Nat} {o : Oper} (ho : ops[i]? = some o) (hd : ∀ e ∈ o.after, Region.binds .any e = true → e.on ≠ j) : waitsB ops i j = false := by
  cases h : waitsB ops i j with
  | false => rfl
  | true => exact absurd rfl (waits_J (J := fun k => k ≠ j) h ho hd)
theorem wp_region_J {id : Nat} {a : Act} {w : World} (hm : P.follows .mixedOrders = true) (ht : topoB ops = true) (S : Act → World → Prop) (J : Nat → Act → World → Prop)
    (h0 : S a { w with drawn := w.drawn + 1 })
    (step : ∀ i o, ops[i]? = some o → ∀ a w, S a w → (∀ e ∈ o.after, Region.binds .any e = true → J e.on a w) → wpOp P ops Q i (fun a' w' => S a' w' ∧ J i a' w' ∧ ∀ j, j < ops.size → j ≠ i → waitsB ops j i = false → J j a w → J j a' w') a w)
    (fin : ∀ a w, S a w → (∀ i, i < ops.size → J i a w) → Q .normal a w) : (Code.region id ops true).wp P Q a w := by
  refine wp_region_any hm (wpAny_inv ht (fun listed a w => S a w ∧ (∀ j o, ops[j]? = some o → listed.getD j false = true → ∀ e ∈ o.after, Region.binds .any e = true → listed.getD e.on false = true) ∧ ∀ j, j < ops.size → listed.getD j false = true → J j a w) ?_ ?_ _ _ _ _ (by simp) ?_ ⟨h0, fun j o ho h => ?_, fun j hj h => ?_⟩)
  · intro listed a w i hs ⟨hS, hL, hJ⟩ hi
    obtain ⟨h1, o, ho, hd⟩ := mem_ready.1 hi
    have hio : i < ops.size := (Array.getElem?_eq_some_iff.1 ho).1
    have ht1 := List.all_eq_true.1 ht i (List.mem_range.2 hio)
    rw [ho] at ht1
    simp only [Option.map_some, Option.getD_some] at ht1
    have hlo : ∀ e ∈ o.after, Region.binds .any e = true → e.on < ops.size := fun e he hb => by
      have h2 := List.all_eq_true.1 ht1 e (by simpa using he)
      rw [hb] at h2
      have h3 : e.on < i := by simpa using h2
      omega
    have hli : listed.getD i false = false := by rw [getD_lt (by omega) false true]; exact h1
    refine wpOp_mono (fun a' w' g => ⟨g.1, fun j oj hoj hl e he hb => ?_, fun j hj hl => ?_⟩) (step i o ho a w hS (fun e he hb => hJ e.on (hlo e he hb) (hd e he hb)))
    · by_cases hji : j = i
      · subst hji
        obtain rfl : oj = o := Option.some.inj (hoj.symm.trans ho)
        exact getD_set_true (hd e he hb)
      · rw [getD_set_ne false (Ne.symm hji)] at hl
        exact getD_set_true (hL j oj hoj hl e he hb)
    · by_cases hji : j = i
      · subst hji; exact g.2.1
      · rw [getD_set_ne false (Ne.symm hji)] at hl
        refine g.2.2 j hj hji (waits_no (Array.getElem?_eq_getElem hj) fun e he hb heq => ?_) (hJ j hj hl)
        have := hL j _ (Array.getElem?_eq_getElem hj) hl e he hb
        rw [heq, hli] at this
        cases this
  · intro listed a w hs hall ⟨hS, _, hJ⟩
    exact fin a w hS (fun i hi => hJ i hi (hall i hi))
  · unfold unl
    exact Nat.le_trans List.count_le_length (by simp)
  · have hj := (Array.getElem?_eq_some_iff.1 ho).1
    rw [Array.getD_eq_getD_getElem?] at h
    simp [Array.getElem?_replicate, hj] at h
  · rw [Array.getD_eq_getD_getElem?] at h
    simp [Array.getElem?_replicate, hj] at h
end
end
section
section
variable {P : Program} {ops : Array Oper} {Q : Exit → Act → World → Prop}
theorem wpOp_value {i : Nat} {o : Oper} {a : Act} {w w' : World} {v : Value} {K : Act → World → Prop} (hi : ops[i]? = some o) (hg : o.guard = none) (hrun : (execOp a.eval o).run P w = .ok (.value v) w') (h : K (a.put o.dst v) w') : wpOp P ops Q i K a w := by
  unfold wpOp
  simp only [hi]
  rw [if_pos (by simp [Region.wanted, hg])]
  refine .inl ?_
  unfold Oper.wp
  rw [hrun, Oper.upon_value]
  exact h
theorem wpOp_enter {i : Nat} {o : Oper} {a : Act} {w : World} {f : FuncId} {args : Array Value} {K : Act → World → Prop} (hi : ops[i]? = some o) (hg : o.guard = none) (hrun : (execOp a.eval o).run P w = .ok (.enter f args) w)
    (h : Calls P f args w fun e w' => ∃ v, e = .returned v ∧ K (a.put o.dst v) w') : wpOp P ops Q i K a w := by
  unfold wpOp
  simp only [hi]
  rw [if_pos (by simp [Region.wanted, hg])]
  refine .inl ?_
  unfold Oper.wp
  rw [hrun, Oper.upon_enter]
  refine h.mono fun e w' h2 => ?_
  obtain ⟨v, rfl, hv⟩ := h2
  exact hv
theorem wpOp_store {i : Nat} {o : Oper} {a : Act} {w : World} {K : Act → World → Prop} (hi : ops[i]? = some o) (hgd : o.guard = none) {g : Nat} {t : TypeId} (ty : TypeId) (x y : Operand) (ho : o.op = .store ty x y)
    (cells : Array Value) (hx : a.eval x = .pointer (some ⟨g, 0, none⟩)) (hy : a.eval y = .agg cells) (old : Array Value) (hg : w.heap[g]? = some (.cells old t (0, 0))) (hs : old.size = cells.size)
    (hif : (P.info? ty).map (·.size) = some cells.size) (h1 : cells.all (·.oneCell') = true) (h : K (a.put o.dst undef) (w.setCells g 0 cells.toList)) : wpOp P ops Q i K a w := by
  unfold wpOp
  simp only [hi]
  rw [if_pos (by simp [Region.wanted, hgd])]
  exact .inl (wp_store_all ty x y ho cells hx hy old hg hs hif h1 h)
theorem ev_put {a : Act} {d t : Nat} {v : Value} (h : d ≠ t) : (a.put (some d) v).tmps.getD t undef = a.tmps.getD t undef := by
  simp [Act.put, Array.getElem?_setIfInBounds, h]
theorem ev_put_same {a : Act} {d : Nat} {v : Value} (h : d < a.tmps.size) : (a.put (some d) v).tmps.getD d undef = v := by
  simp [Act.put, Array.getElem?_setIfInBounds, h]
theorem size_put {a : Act} {d : Option Nat} {v : Value} : (a.put d v).tmps.size = a.tmps.size := by
  cases d <;> simp [Act.put]
theorem defers_put {a : Act} {d : Option Nat} {v : Value} : (a.put d v).defers = a.defers := by
  cases d <;> rfl
def OwnS (B0 n s : Nat) (tP : TypeId) (a : Act) (w : World) : Prop := ∃ b cs, a.tmps.getD s undef = .pointer (some ⟨b, 0, none⟩) ∧ B0 ≤ b ∧ w.heap[b]? = some (.cells cs tP (0, 0)) ∧ cs.size = n
def LaidS (B0 s : Nat) (r : Array Value) (tP : TypeId) (a : Act) (w : World) : Prop := ∃ b, a.tmps.getD s undef = .pointer (some ⟨b, 0, none⟩) ∧ B0 ≤ b ∧ w.heap[b]? = some (.cells r tP (0, 0))
theorem OwnS.keep {B0 n s d : Nat} {tP : TypeId} {a : Act} {w w' : World} {v : Value} (h : OwnS B0 n s tP a w) (hd : d ≠ s) (hb : Below w.heap.size w w') : OwnS B0 n s tP (a.put (some d) v) w' := by
  obtain ⟨b, cs, h1, h2, h3, h4⟩ := h
  exact ⟨b, cs, by rw [ev_put hd]; exact h1, h2, below_blk hb h3, h4⟩
theorem LaidS.keep {B0 s d : Nat} {r : Array Value} {tP : TypeId} {a : Act} {w w' : World} {v : Value} (h : LaidS B0 s r tP a w) (hd : d ≠ s) (hb : Below w.heap.size w w') : LaidS B0 s r tP (a.put (some d) v) w' := by
  obtain ⟨b, h1, h2, h3⟩ := h
  exact ⟨b, by rw [ev_put hd]; exact h1, h2, below_blk hb h3⟩
def TwoJ (B0 : Nat) (d0 d1 d2 d3 d4 d5 p q : Nat) (tP : TypeId) (sz r1 r2 : Array Value) (va vb : Value) (i : Nat) (a : Act) (w : World) : Prop := match i with
  | 0 => a.tmps.getD d0 undef = .agg sz
  | 1 => a.tmps.getD d1 undef = va
  | 2 => a.tmps.getD d2 undef = .agg r1
  | 3 => a.tmps.getD d3 undef = .agg sz
  | 4 => a.tmps.getD d4 undef = vb
  | 5 => a.tmps.getD d5 undef = .agg r2
  | 6 => OwnS B0 r1.size p tP a w
  | 7 => OwnS B0 r1.size q tP a w
  | 8 => LaidS B0 p r1 tP a w
  | _ => LaidS B0 q r2 tP a w
structure TwoS (B0 : Nat) (D : List Nat) (p q : Nat) (a0 : Act) (w0 : World) (a : Act) (w : World) : Prop where
  below : Below B0 w0 w
  defers : a.defers = a0.defers
  size : a.tmps.size = a0.tmps.size
  rest : ∀ t, t ∉ D → a.tmps.getD t undef = a0.tmps.getD t undef
  newp : ∀ b, a.tmps.getD p undef = .pointer (some ⟨b, 0, none⟩) → B0 ≤ b → b < w.heap.size
  newq : ∀ b, a.tmps.getD q undef = .pointer (some ⟨b, 0, none⟩) → B0 ≤ b → b < w.heap.size
  apart : ∀ b c, a.tmps.getD p undef = .pointer (some ⟨b, 0, none⟩) → a.tmps.getD q undef = .pointer (some ⟨c, 0, none⟩) → B0 ≤ b → B0 ≤ c → b ≠ c
theorem TwoS.put {B0 : Nat} {D : List Nat} {p q d : Nat} {a0 a : Act} {w0 w w' : World} {v : Value} (h : TwoS B0 D p q a0 w0 a w) (hd : d ∈ D) (hp : d ≠ p) (hq : d ≠ q) (hB : B0 ≤ w.heap.size) (hb : Below w.heap.size w w') : TwoS B0 D p q a0 w0 (a.put (some d) v) w' := by
  refine ⟨h.below.trans (hb.mono hB), by rw [defers_put]; exact h.defers, by rw [size_put]; exact h.size, fun t ht => ?_, fun b hb' h2 => ?_, fun b hb' h2 => ?_, fun b c h1 h2 => ?_⟩
  · rw [ev_put (show d ≠ t from fun e => ht (e ▸ hd))]
    exact h.rest t ht
  · rw [ev_put hp] at hb'
    exact Nat.lt_of_lt_of_le (h.newp b hb' h2) hb.size
  · rw [ev_put hq] at hb'
    exact Nat.lt_of_lt_of_le (h.newq b hb' h2) hb.size
  · rw [ev_put hp] at h1
    rw [ev_put hq] at h2
    exact h.apart b c h1 h2
def twoOps (bx xa xb d0 d1 d2 d3 d4 d5 p q : Nat) (tS tI tP : TypeId) (fid : FuncId) : List (Op × Option Tmp × Option (Nat × Bool)) :=
  [(.load tS (.tmp bx), some d0, none), (.move (.tmp xa), some d1, none), (.call { callee := .value (.func fid), args := #[.tmp d0, .tmp d1], argTypes := #[tS, tI] }, some d2, none),
   (.load tS (.tmp bx), some d3, none), (.move (.tmp xb), some d4, none), (.call { callee := .value (.func fid), args := #[.tmp d3, .tmp d4], argTypes := #[tS, tI] }, some d5, none),
   (.alloc tP, some p, none), (.alloc tP, some q, none), (.store tP (.tmp p) (.tmp d2), none, none), (.store tP (.tmp q) (.tmp d5), none, none)]
end
end
section
section
variable {P : Program} {ops : Array Oper} {Q : Exit → Act → World → Prop}
theorem op_at {l : List (Op × Option Tmp × Option (Nat × Bool))} (hops : ops.toList.map (fun o => (o.op, o.dst, o.guard)) = l) {i : Nat} {o : Oper} (ho : ops[i]? = some o) : l[i]? = some (o.op, o.dst, o.guard) := by
  rw [← hops, List.getElem?_map, Array.getElem?_toList, ho]
  rfl
theorem nodup_ne {l : List Nat} (h : l.Nodup) (i j : Nat) {x y : Nat} (hi : l[i]? = some x) (hj : l[j]? = some y) (hij : i ≠ j) : x ≠ y := by
  intro e
  subst e
  obtain ⟨h1, h2⟩ := List.getElem?_eq_some_iff.1 hi
  obtain ⟨h3, h4⟩ := List.getElem?_eq_some_iff.1 hj
  rcases Nat.lt_or_gt_of_ne hij with hl | hl
  · exact List.pairwise_iff_getElem.1 h i j h1 h3 hl (h2.trans h4.symm)
  · exact List.pairwise_iff_getElem.1 h j i h3 h1 hl (h4.trans h2.symm)
theorem lt_all {l : List Nat} {n m : Nat} (e : m = n) (h : (l.all fun d => decide (d < n)) = true) (i : Nat) {x : Nat} (hi : l[i]? = some x) : x < m := by
  have := List.all_eq_true.1 h x (List.mem_of_getElem? hi)
  rw [e]
  exact of_decide_eq_true this
set_option maxHeartbeats 1000000 in
theorem two_agg {id : Nat} {a0 : Act} {w0 : World} {B0 : Nat} (hB0 : w0.heap.size = B0) (hm : P.follows .mixedOrders = true) (ht : topoB ops = true)
    {bx xa xb d0 d1 d2 d3 d4 d5 p q : Nat} {tS tI tP : TypeId} {fid : FuncId}
    (hops : ops.toList.map (fun o => (o.op, o.dst, o.guard)) = twoOps bx xa xb d0 d1 d2 d3 d4 d5 p q tS tI tP fid)
    (hw : ([(2, 0), (2, 1), (5, 3), (5, 4), (8, 6), (8, 2), (9, 7), (9, 5)].all fun x => waitsB ops x.1 x.2) = true)
    (hnd : [d0, d1, d2, d3, d4, d5, p, q].Nodup) (hlt : ([d0, d1, d2, d3, d4, d5, p, q].all fun d => decide (d < a0.tmps.size)) = true) (hx : ([bx, xa, xb].all fun x => ![d0, d1, d2, d3, d4, d5, p, q].contains x) = true)
    {g : Nat} {tg : TypeId} {fr : Nat × Nat} {sz r1 r2 z : Array Value} {dS : TypeDesc}
    (ebx : a0.tmps.getD bx undef = .pointer (some ⟨g, 0, none⟩)) (hg : w0.heap[g]? = some (.cells sz tg fr)) (huS : P.underlying tS = some dS) (hdS : (match dS with | .struct _ | .array _ _ => true | _ => false) = true) (hiS : (P.info? tS).map (·.size) = some sz.size)
    (hp0 : ∀ b, a0.tmps.getD p undef = .pointer (some ⟨b, 0, none⟩) → b < B0) (hq0 : ∀ b, a0.tmps.getD q undef = .pointer (some ⟨b, 0, none⟩) → b < B0)
    {va vb : Value} (hva : a0.tmps.getD xa undef = va) (hvb : a0.tmps.getD xb undef = vb)
    (hc1 : ∀ W, Below B0 w0 W → Calls P fid #[.agg sz, va] W fun e w' => e = .returned (.agg r1) ∧ Below W.heap.size W w')
    (hc2 : ∀ W, Below B0 w0 W → Calls P fid #[.agg sz, vb] W fun e w' => e = .returned (.agg r2) ∧ Below W.heap.size W w')
    (hal : ∀ (a : Act) (o : Oper) (W : World), o.op = .alloc tP → (execOp a.eval o).run P W = .ok (.value (.pointer (some ⟨W.heap.size, 0, none⟩))) (W.alloc (.cells z tP)))
    (hcall : ∀ (a : Act) (o : Oper) (W : World) (x y : Operand), o.op = .call { callee := .value (.func fid), args := #[x, y], argTypes := #[tS, tI] } → (execOp a.eval o).run P W = .ok (.enter fid #[a.eval x, a.eval y]) W)
    (hz : z.size = r1.size) (h12 : r2.size = r1.size) (hiP : (P.info? tP).map (·.size) = some r1.size) (ho1 : r1.all (·.oneCell') = true) (ho2 : r2.all (·.oneCell') = true)
    (fin : ∀ b c W, B0 ≤ b → B0 ≤ c → b ≠ c → W.heap[b]? = some (.cells r1 tP (0, 0)) → W.heap[c]? = some (.cells r2 tP (0, 0)) → Below B0 w0 W →
      Q .normal ((((((((a0.put (some d0) (.agg sz)).put (some d1) va).put (some d2) (.agg r1)).put (some d3) (.agg sz)).put (some d4) vb).put (some d5) (.agg r2)).put (some p) (.pointer (some ⟨b, 0, none⟩))).put (some q) (.pointer (some ⟨c, 0, none⟩))) W) :
    (Code.region id ops true).wp P Q a0 w0 := by
  have hsz : ops.size = 10 := by
    have := congrArg List.length hops
    simpa [twoOps] using this
  have hwt : ∀ i j, (i, j) ∈ [(2, 0), (2, 1), (5, 3), (5, 4), (8, 6), (8, 2), (9, 7), (9, 5)] → waitsB ops i j = true := fun i j h => List.all_eq_true.1 hw (i, j) h
  simp only [List.all_cons, List.all_nil, Bool.and_true, Bool.and_eq_true, Bool.not_eq_true', List.contains_eq_mem, decide_eq_false_iff_not] at hx
  obtain ⟨hxb1, hxa1, hxb2⟩ := hx
  have hgB : g < B0 := by rw [← hB0]; exact lt_of_blk hg
  refine wp_region_J hm ht (TwoS B0 [d0, d1, d2, d3, d4, d5, p, q] p q a0 w0) (TwoJ B0 d0 d1 d2 d3 d4 d5 p q tP sz r1 r2 va vb) ?_ ?_ ?_
  · exact ⟨(Below.refl _ _).drew, rfl, rfl, fun _ _ => rfl, fun b hb h => absurd (hp0 b hb) (by omega), fun b hb h => absurd (hq0 b hb) (by omega), fun b c hb hc h1 h2 => absurd (hp0 b hb) (by omega)⟩
  · intro i o ho a w hS hd
    have hi : i < 10 := by rw [← hsz]; exact (Array.getElem?_eq_some_iff.1 ho).1
    have hsp := op_at hops ho
    have hBw : B0 ≤ w.heap.size := by have := hS.below.size; omega
    have hsa := hS.size
    rcases (by omega : i = 0 ∨ i = 1 ∨ i = 2 ∨ i = 3 ∨ i = 4 ∨ i = 5 ∨ i = 6 ∨ i = 7 ∨ i = 8 ∨ i = 9) with rfl | rfl | rfl | rfl | rfl | rfl | rfl | rfl | rfl | rfl
    all_goals (simp only [twoOps, List.getElem?_cons_zero, List.getElem?_cons_succ, Option.some.injEq, Prod.mk.injEq] at hsp; obtain ⟨hop, hdst, hgd⟩ := hsp)
    · have hWb : Below w.heap.size w w := Below.refl _ _
      refine wpOp_value ho hgd.symm (v := .agg sz) (w' := w) ?_ ?_
      · have hx0 : a.eval (.tmp bx) = .pointer (some ⟨g, 0, none⟩) := (hS.rest bx (by simpa using hxb1)).trans ebx
        have hg2 : w.heap[g]? = some (.cells sz tg fr) := (hS.below.block g hgB).trans hg
        unfold execOp
        simp only [← hop, hx0, Instr.loadAt, Instr.sureAddr, Sem.run_bind, Sem.run_pure, Result.andThen_ok, run_loadVar_row w g tg tS sz fr dS hg2 huS hdS hiS]
      rw [← hdst]
      refine ⟨hS.put (by simp) (nodup_ne hnd 0 6 rfl rfl (by decide)) (nodup_ne hnd 0 7 rfl rfl (by decide)) hBw hWb, ev_put_same (lt_all hsa hlt 0 rfl), ?_⟩
      intro j hj hji hnw hJ
      rcases (by omega : j = 1 ∨ j = 2 ∨ j = 3 ∨ j = 4 ∨ j = 5 ∨ j = 6 ∨ j = 7 ∨ j = 8 ∨ j = 9) with rfl | rfl | rfl | rfl | rfl | rfl | rfl | rfl | rfl
      · exact (ev_put (nodup_ne hnd 0 1 rfl rfl (by decide))).trans hJ
      · exact (ev_put (nodup_ne hnd 0 2 rfl rfl (by decide))).trans hJ
      · exact (ev_put (nodup_ne hnd 0 3 rfl rfl (by decide))).trans hJ
      · exact (ev_put (nodup_ne hnd 0 4 rfl rfl (by decide))).trans hJ
      · exact (ev_put (nodup_ne hnd 0 5 rfl rfl (by decide))).trans hJ
      · exact OwnS.keep hJ (nodup_ne hnd 0 6 rfl rfl (by decide)) hWb
      · exact OwnS.keep hJ (nodup_ne hnd 0 7 rfl rfl (by decide)) hWb
      · exact LaidS.keep hJ (nodup_ne hnd 0 6 rfl rfl (by decide)) hWb
      · exact LaidS.keep hJ (nodup_ne hnd 0 7 rfl rfl (by decide)) hWb
    · have hWb : Below w.heap.size w w := Below.refl _ _
      refine wpOp_value ho hgd.symm (v := va) (w' := w) ?_ ?_
      · have hx0 : a.eval (.tmp xa) = va := (hS.rest xa (by simpa using hxa1)).trans hva
        unfold execOp
        simp only [← hop, hx0, Sem.run_pure]
      rw [← hdst]
      refine ⟨hS.put (by simp) (nodup_ne hnd 1 6 rfl rfl (by decide)) (nodup_ne hnd 1 7 rfl rfl (by decide)) hBw hWb, ev_put_same (lt_all hsa hlt 1 rfl), ?_⟩
      intro j hj hji hnw hJ
      rcases (by omega : j = 0 ∨ j = 2 ∨ j = 3 ∨ j = 4 ∨ j = 5 ∨ j = 6 ∨ j = 7 ∨ j = 8 ∨ j = 9) with rfl | rfl | rfl | rfl | rfl | rfl | rfl | rfl | rfl
      · exact (ev_put (nodup_ne hnd 1 0 rfl rfl (by decide))).trans hJ
      · exact (ev_put (nodup_ne hnd 1 2 rfl rfl (by decide))).trans hJ
      · exact (ev_put (nodup_ne hnd 1 3 rfl rfl (by decide))).trans hJ
      · exact (ev_put (nodup_ne hnd 1 4 rfl rfl (by decide))).trans hJ
      · exact (ev_put (nodup_ne hnd 1 5 rfl rfl (by decide))).trans hJ
      · exact OwnS.keep hJ (nodup_ne hnd 1 6 rfl rfl (by decide)) hWb
      · exact OwnS.keep hJ (nodup_ne hnd 1 7 rfl rfl (by decide)) hWb
      · exact LaidS.keep hJ (nodup_ne hnd 1 6 rfl rfl (by decide)) hWb
      · exact LaidS.keep hJ (nodup_ne hnd 1 7 rfl rfl (by decide)) hWb
    · have j1 : TwoJ B0 d0 d1 d2 d3 d4 d5 p q tP sz r1 r2 va vb 0 a w := waits_J (J := fun j => TwoJ B0 d0 d1 d2 d3 d4 d5 p q tP sz r1 r2 va vb j a w) (hwt 2 0 (by simp)) ho hd
      have j2 : TwoJ B0 d0 d1 d2 d3 d4 d5 p q tP sz r1 r2 va vb 1 a w := waits_J (J := fun j => TwoJ B0 d0 d1 d2 d3 d4 d5 p q tP sz r1 r2 va vb j a w) (hwt 2 1 (by simp)) ho hd
      have e1 : a.eval (.tmp d0) = .agg sz := j1
      have e2 : a.eval (.tmp d1) = va := j2
      refine wpOp_enter ho hgd.symm (hcall a o w _ _ hop.symm) ?_
      rw [e1, e2]
      refine (hc1 w hS.below).mono fun e w' h => ?_
      obtain ⟨rfl, hWb⟩ := h
      refine ⟨_, rfl, ?_⟩
      rw [← hdst]
      refine ⟨hS.put (by simp) (nodup_ne hnd 2 6 rfl rfl (by decide)) (nodup_ne hnd 2 7 rfl rfl (by decide)) hBw hWb, ev_put_same (lt_all hsa hlt 2 rfl), ?_⟩
      intro j hj hji hnw hJ
      rcases (by omega : j = 0 ∨ j = 1 ∨ j = 3 ∨ j = 4 ∨ j = 5 ∨ j = 6 ∨ j = 7 ∨ j = 8 ∨ j = 9) with rfl | rfl | rfl | rfl | rfl | rfl | rfl | rfl | rfl
      · exact (ev_put (nodup_ne hnd 2 0 rfl rfl (by decide))).trans hJ
      · exact (ev_put (nodup_ne hnd 2 1 rfl rfl (by decide))).trans hJ
      · exact (ev_put (nodup_ne hnd 2 3 rfl rfl (by decide))).trans hJ
      · exact (ev_put (nodup_ne hnd 2 4 rfl rfl (by decide))).trans hJ
      · exact (ev_put (nodup_ne hnd 2 5 rfl rfl (by decide))).trans hJ
      · exact OwnS.keep hJ (nodup_ne hnd 2 6 rfl rfl (by decide)) hWb
      · exact OwnS.keep hJ (nodup_ne hnd 2 7 rfl rfl (by decide)) hWb
      · exact LaidS.keep hJ (nodup_ne hnd 2 6 rfl rfl (by decide)) hWb
      · exact LaidS.keep hJ (nodup_ne hnd 2 7 rfl rfl (by decide)) hWb
    · have hWb : Below w.heap.size w w := Below.refl _ _
      refine wpOp_value ho hgd.symm (v := .agg sz) (w' := w) ?_ ?_
      · have hx0 : a.eval (.tmp bx) = .pointer (some ⟨g, 0, none⟩) := (hS.rest bx (by simpa using hxb1)).trans ebx
        have hg2 : w.heap[g]? = some (.cells sz tg fr) := (hS.below.block g hgB).trans hg
        unfold execOp
        simp only [← hop, hx0, Instr.loadAt, Instr.sureAddr, Sem.run_bind, Sem.run_pure, Result.andThen_ok, run_loadVar_row w g tg tS sz fr dS hg2 huS hdS hiS]
      rw [← hdst]
      refine ⟨hS.put (by simp) (nodup_ne hnd 3 6 rfl rfl (by decide)) (nodup_ne hnd 3 7 rfl rfl (by decide)) hBw hWb, ev_put_same (lt_all hsa hlt 3 rfl), ?_⟩
      intro j hj hji hnw hJ
      rcases (by omega : j = 0 ∨ j = 1 ∨ j = 2 ∨ j = 4 ∨ j = 5 ∨ j = 6 ∨ j = 7 ∨ j = 8 ∨ j = 9) with rfl | rfl | rfl | rfl | rfl | rfl | rfl | rfl | rfl
      · exact (ev_put (nodup_ne hnd 3 0 rfl rfl (by decide))).trans hJ
      · exact (ev_put (nodup_ne hnd 3 1 rfl rfl (by decide))).trans hJ
      · exact (ev_put (nodup_ne hnd 3 2 rfl rfl (by decide))).trans hJ
      · exact (ev_put (nodup_ne hnd 3 4 rfl rfl (by decide))).trans hJ
      · exact (ev_put (nodup_ne hnd 3 5 rfl rfl (by decide))).trans hJ
      · exact OwnS.keep hJ (nodup_ne hnd 3 6 rfl rfl (by decide)) hWb
      · exact OwnS.keep hJ (nodup_ne hnd 3 7 rfl rfl (by decide)) hWb
      · exact LaidS.keep hJ (nodup_ne hnd 3 6 rfl rfl (by decide)) hWb
      · exact LaidS.keep hJ (nodup_ne hnd 3 7 rfl rfl (by decide)) hWb
    · have hWb : Below w.heap.size w w := Below.refl _ _
      refine wpOp_value ho hgd.symm (v := vb) (w' := w) ?_ ?_
      · have hx0 : a.eval (.tmp xb) = vb := (hS.rest xb (by simpa using hxb2)).trans hvb
        unfold execOp
        simp only [← hop, hx0, Sem.run_pure]
      rw [← hdst]
      refine ⟨hS.put (by simp) (nodup_ne hnd 4 6 rfl rfl (by decide)) (nodup_ne hnd 4 7 rfl rfl (by decide)) hBw hWb, ev_put_same (lt_all hsa hlt 4 rfl), ?_⟩
      intro j hj hji hnw hJ
      rcases (by omega : j = 0 ∨ j = 1 ∨ j = 2 ∨ j = 3 ∨ j = 5 ∨ j = 6 ∨ j = 7 ∨ j = 8 ∨ j = 9) with rfl | rfl | rfl | rfl | rfl | rfl | rfl | rfl | rfl
      · exact (ev_put (nodup_ne hnd 4 0 rfl rfl (by decide))).trans hJ
      · exact (ev_put (nodup_ne hnd 4 1 rfl rfl (by decide))).trans hJ
      · exact (ev_put (nodup_ne hnd 4 2 rfl rfl (by decide))).trans hJ
      · exact (ev_put (nodup_ne hnd 4 3 rfl rfl (by decide))).trans hJ
      · exact (ev_put (nodup_ne hnd 4 5 rfl rfl (by decide))).trans hJ
      · exact OwnS.keep hJ (nodup_ne hnd 4 6 rfl rfl (by decide)) hWb
      · exact OwnS.keep hJ (nodup_ne hnd 4 7 rfl rfl (by decide)) hWb
      · exact LaidS.keep hJ (nodup_ne hnd 4 6 rfl rfl (by decide)) hWb
      · exact LaidS.keep hJ (nodup_ne hnd 4 7 rfl rfl (by decide)) hWb
    · have j1 : TwoJ B0 d0 d1 d2 d3 d4 d5 p q tP sz r1 r2 va vb 3 a w := waits_J (J := fun j => TwoJ B0 d0 d1 d2 d3 d4 d5 p q tP sz r1 r2 va vb j a w) (hwt 5 3 (by simp)) ho hd
      have j2 : TwoJ B0 d0 d1 d2 d3 d4 d5 p q tP sz r1 r2 va vb 4 a w := waits_J (J := fun j => TwoJ B0 d0 d1 d2 d3 d4 d5 p q tP sz r1 r2 va vb j a w) (hwt 5 4 (by simp)) ho hd
      have e1 : a.eval (.tmp d3) = .agg sz := j1
      have e2 : a.eval (.tmp d4) = vb := j2
      refine wpOp_enter ho hgd.symm (hcall a o w _ _ hop.symm) ?_
      rw [e1, e2]
      refine (hc2 w hS.below).mono fun e w' h => ?_
      obtain ⟨rfl, hWb⟩ := h
      refine ⟨_, rfl, ?_⟩
      rw [← hdst]
      refine ⟨hS.put (by simp) (nodup_ne hnd 5 6 rfl rfl (by decide)) (nodup_ne hnd 5 7 rfl rfl (by decide)) hBw hWb, ev_put_same (lt_all hsa hlt 5 rfl), ?_⟩
      intro j hj hji hnw hJ
      rcases (by omega : j = 0 ∨ j = 1 ∨ j = 2 ∨ j = 3 ∨ j = 4 ∨ j = 6 ∨ j = 7 ∨ j = 8 ∨ j = 9) with rfl | rfl | rfl | rfl | rfl | rfl | rfl | rfl | rfl
      · exact (ev_put (nodup_ne hnd 5 0 rfl rfl (by decide))).trans hJ
      · exact (ev_put (nodup_ne hnd 5 1 rfl rfl (by decide))).trans hJ
      · exact (ev_put (nodup_ne hnd 5 2 rfl rfl (by decide))).trans hJ
      · exact (ev_put (nodup_ne hnd 5 3 rfl rfl (by decide))).trans hJ
      · exact (ev_put (nodup_ne hnd 5 4 rfl rfl (by decide))).trans hJ
      · exact OwnS.keep hJ (nodup_ne hnd 5 6 rfl rfl (by decide)) hWb
      · exact OwnS.keep hJ (nodup_ne hnd 5 7 rfl rfl (by decide)) hWb
      · exact LaidS.keep hJ (nodup_ne hnd 5 6 rfl rfl (by decide)) hWb
      · exact LaidS.keep hJ (nodup_ne hnd 5 7 rfl rfl (by decide)) hWb
    · have hWb : Below w.heap.size w (w.alloc (.cells z tP)) := (Below.refl _ _).alloc (Nat.le_refl _) _
      refine wpOp_value ho hgd.symm (hal a o w hop.symm) ?_
      rw [← hdst]
      refine ⟨⟨hS.below.alloc hBw _, by rw [defers_put]; exact hS.defers, by rw [size_put]; exact hsa, fun t ht => (ev_put (show p ≠ t from fun e => ht (by rw [← e]; simp))).trans (hS.rest t ht), ?_, ?_, ?_⟩, ?_, ?_⟩
      · intro b hb h
        rw [ev_put_same (lt_all hsa hlt 6 rfl)] at hb
        simp at hb; simp; omega
      · intro b hb h
        rw [ev_put (nodup_ne hnd 6 7 rfl rfl (by decide))] at hb
        have := hS.newq b hb h; simp; omega
      · intro b c hb hc h1 h2
        rw [ev_put_same (lt_all hsa hlt 6 rfl)] at hb; rw [ev_put (nodup_ne hnd 6 7 rfl rfl (by decide))] at hc; have := hS.newq c hc h2; simp at hb; omega
      · exact ⟨w.heap.size, z, ev_put_same (lt_all hsa hlt 6 rfl), hBw, blk_new rfl _, hz⟩
      intro j hj hji hnw hJ
      rcases (by omega : j = 0 ∨ j = 1 ∨ j = 2 ∨ j = 3 ∨ j = 4 ∨ j = 5 ∨ j = 7 ∨ j = 8 ∨ j = 9) with rfl | rfl | rfl | rfl | rfl | rfl | rfl | rfl | rfl
      · exact (ev_put (nodup_ne hnd 6 0 rfl rfl (by decide))).trans hJ
      · exact (ev_put (nodup_ne hnd 6 1 rfl rfl (by decide))).trans hJ
      · exact (ev_put (nodup_ne hnd 6 2 rfl rfl (by decide))).trans hJ
      · exact (ev_put (nodup_ne hnd 6 3 rfl rfl (by decide))).trans hJ
      · exact (ev_put (nodup_ne hnd 6 4 rfl rfl (by decide))).trans hJ
      · exact (ev_put (nodup_ne hnd 6 5 rfl rfl (by decide))).trans hJ
      · exact OwnS.keep hJ (nodup_ne hnd 6 7 rfl rfl (by decide)) hWb
      · rw [hwt 8 6 (by simp)] at hnw; cases hnw
      · exact LaidS.keep hJ (nodup_ne hnd 6 7 rfl rfl (by decide)) hWb
    · have hWb : Below w.heap.size w (w.alloc (.cells z tP)) := (Below.refl _ _).alloc (Nat.le_refl _) _
      refine wpOp_value ho hgd.symm (hal a o w hop.symm) ?_
      rw [← hdst]
      refine ⟨⟨hS.below.alloc hBw _, by rw [defers_put]; exact hS.defers, by rw [size_put]; exact hsa, fun t ht => (ev_put (show q ≠ t from fun e => ht (by rw [← e]; simp))).trans (hS.rest t ht), ?_, ?_, ?_⟩, ?_, ?_⟩
      · intro b hb h
        rw [ev_put (nodup_ne hnd 7 6 rfl rfl (by decide))] at hb
        have := hS.newp b hb h; simp; omega
      · intro b hb h
        rw [ev_put_same (lt_all hsa hlt 7 rfl)] at hb
        simp at hb; simp; omega
      · intro b c hb hc h1 h2
        rw [ev_put (nodup_ne hnd 7 6 rfl rfl (by decide))] at hb; rw [ev_put_same (lt_all hsa hlt 7 rfl)] at hc; have := hS.newp b hb h1; simp at hc; omega
      · exact ⟨w.heap.size, z, ev_put_same (lt_all hsa hlt 7 rfl), hBw, blk_new rfl _, hz⟩
      intro j hj hji hnw hJ
      rcases (by omega : j = 0 ∨ j = 1 ∨ j = 2 ∨ j = 3 ∨ j = 4 ∨ j = 5 ∨ j = 6 ∨ j = 8 ∨ j = 9) with rfl | rfl | rfl | rfl | rfl | rfl | rfl | rfl | rfl
      · exact (ev_put (nodup_ne hnd 7 0 rfl rfl (by decide))).trans hJ
      · exact (ev_put (nodup_ne hnd 7 1 rfl rfl (by decide))).trans hJ
      · exact (ev_put (nodup_ne hnd 7 2 rfl rfl (by decide))).trans hJ
      · exact (ev_put (nodup_ne hnd 7 3 rfl rfl (by decide))).trans hJ
      · exact (ev_put (nodup_ne hnd 7 4 rfl rfl (by decide))).trans hJ
      · exact (ev_put (nodup_ne hnd 7 5 rfl rfl (by decide))).trans hJ
      · exact OwnS.keep hJ (nodup_ne hnd 7 6 rfl rfl (by decide)) hWb
      · exact LaidS.keep hJ (nodup_ne hnd 7 6 rfl rfl (by decide)) hWb
      · rw [hwt 9 7 (by simp)] at hnw; cases hnw
    · obtain ⟨b, cs, hb, hBb, hcs, hn⟩ : OwnS B0 r1.size p tP a w := waits_J (J := fun j => TwoJ B0 d0 d1 d2 d3 d4 d5 p q tP sz r1 r2 va vb j a w) (hwt 8 6 (by simp)) ho hd
      have e2 : a.eval (.tmp d2) = .agg r1 := waits_J (J := fun j => TwoJ B0 d0 d1 d2 d3 d4 d5 p q tP sz r1 r2 va vb j a w) (hwt 8 2 (by simp)) ho hd
      have hsame : (w.setCells b 0 r1.toList).heap[b]? = some (.cells r1 tP (0, 0)) := setCells_arr hcs hn
      have hoth : ∀ k, k ≠ b → (w.setCells b 0 r1.toList).heap[k]? = w.heap[k]? := fun k hk => setCells_other hk _ _ _
      have hsz2 : (w.setCells b 0 r1.toList).heap.size = w.heap.size := setCells_size _ _ _
      refine wpOp_store ho hgd.symm tP _ _ hop.symm r1 hb e2 cs hcs hn hiP ho1 ?_
      rw [← hdst]
      refine ⟨⟨setCells_below hBb _ _ _ hS.below, hS.defers, hsa, hS.rest, fun k hk h => by rw [hsz2]; exact hS.newp k hk h, fun k hk h => by rw [hsz2]; exact hS.newq k hk h, hS.apart⟩, ⟨b, hb, hBb, hsame⟩, ?_⟩
      intro j hj hji hnw hJ
      rcases (by omega : j = 0 ∨ j = 1 ∨ j = 2 ∨ j = 3 ∨ j = 4 ∨ j = 5 ∨ j = 6 ∨ j = 7 ∨ j = 9) with rfl | rfl | rfl | rfl | rfl | rfl | rfl | rfl | rfl
      · exact hJ
      · exact hJ
      · exact hJ
      · exact hJ
      · exact hJ
      · exact hJ
      · obtain ⟨k, ks, k1, k2, k3, k4⟩ := hJ
        by_cases hkb : k = b
        · subst hkb
          exact ⟨k, r1, k1, k2, hsame, rfl⟩
        · exact ⟨k, ks, k1, k2, (hoth k hkb).trans k3, k4⟩
      · obtain ⟨k, ks, k1, k2, k3, k4⟩ := hJ
        by_cases hkb : k = b
        · subst hkb
          exact ⟨k, r1, k1, k2, hsame, rfl⟩
        · exact ⟨k, ks, k1, k2, (hoth k hkb).trans k3, k4⟩
      · obtain ⟨k, k1, k2, k3⟩ := hJ
        exact ⟨k, k1, k2, (hoth k ((hS.apart _ _ hb k1 hBb k2).symm)).trans k3⟩
    · obtain ⟨b, cs, hb, hBb, hcs, hn⟩ : OwnS B0 r1.size q tP a w := waits_J (J := fun j => TwoJ B0 d0 d1 d2 d3 d4 d5 p q tP sz r1 r2 va vb j a w) (hwt 9 7 (by simp)) ho hd
      have e2 : a.eval (.tmp d5) = .agg r2 := waits_J (J := fun j => TwoJ B0 d0 d1 d2 d3 d4 d5 p q tP sz r1 r2 va vb j a w) (hwt 9 5 (by simp)) ho hd
      have hsame : (w.setCells b 0 r2.toList).heap[b]? = some (.cells r2 tP (0, 0)) := setCells_arr hcs (hn.trans h12.symm)
      have hoth : ∀ k, k ≠ b → (w.setCells b 0 r2.toList).heap[k]? = w.heap[k]? := fun k hk => setCells_other hk _ _ _
      have hsz2 : (w.setCells b 0 r2.toList).heap.size = w.heap.size := setCells_size _ _ _
      refine wpOp_store ho hgd.symm tP _ _ hop.symm r2 hb e2 cs hcs (hn.trans h12.symm) (by rw [h12]; exact hiP) ho2 ?_
      rw [← hdst]
      refine ⟨⟨setCells_below hBb _ _ _ hS.below, hS.defers, hsa, hS.rest, fun k hk h => by rw [hsz2]; exact hS.newp k hk h, fun k hk h => by rw [hsz2]; exact hS.newq k hk h, hS.apart⟩, ⟨b, hb, hBb, hsame⟩, ?_⟩
      intro j hj hji hnw hJ
      rcases (by omega : j = 0 ∨ j = 1 ∨ j = 2 ∨ j = 3 ∨ j = 4 ∨ j = 5 ∨ j = 6 ∨ j = 7 ∨ j = 8) with rfl | rfl | rfl | rfl | rfl | rfl | rfl | rfl | rfl
      · exact hJ
      · exact hJ
      · exact hJ
      · exact hJ
      · exact hJ
      · exact hJ
      · obtain ⟨k, ks, k1, k2, k3, k4⟩ := hJ
        by_cases hkb : k = b
        · subst hkb
          exact ⟨k, r2, k1, k2, hsame, h12⟩
        · exact ⟨k, ks, k1, k2, (hoth k hkb).trans k3, k4⟩
      · obtain ⟨k, ks, k1, k2, k3, k4⟩ := hJ
        by_cases hkb : k = b
        · subst hkb
          exact ⟨k, r2, k1, k2, hsame, h12⟩
        · exact ⟨k, ks, k1, k2, (hoth k hkb).trans k3, k4⟩
      · obtain ⟨k, k1, k2, k3⟩ := hJ
        exact ⟨k, k1, k2, (hoth k (hS.apart _ _ k1 hb k2 hBb)).trans k3⟩
  · intro a w hS hJ
    have hsa := hS.size
    obtain ⟨b, hb, hBb, hbk⟩ : LaidS B0 p r1 tP a w := hJ 8 (by omega)
    obtain ⟨c, hc, hBc, hck⟩ : LaidS B0 q r2 tP a w := hJ 9 (by omega)
    have key : ∀ t, a.tmps.getD t undef = ((((((((a0.put (some d0) (.agg sz)).put (some d1) va).put (some d2) (.agg r1)).put (some d3) (.agg sz)).put (some d4) vb).put (some d5) (.agg r2)).put (some p) (.pointer (some ⟨b, 0, none⟩))).put (some q) (.pointer (some ⟨c, 0, none⟩))).tmps.getD t undef := by
      intro t
      by_cases e0 : t = d0
      · rw [e0]
        rw [ev_put (nodup_ne hnd 7 0 rfl rfl (by decide)), ev_put (nodup_ne hnd 6 0 rfl rfl (by decide)), ev_put (nodup_ne hnd 5 0 rfl rfl (by decide)), ev_put (nodup_ne hnd 4 0 rfl rfl (by decide)), ev_put (nodup_ne hnd 3 0 rfl rfl (by decide)), ev_put (nodup_ne hnd 2 0 rfl rfl (by decide)), ev_put (nodup_ne hnd 1 0 rfl rfl (by decide))]
        rw [ev_put_same (by (try simp only [size_put]); exact lt_all rfl hlt 0 rfl)]
        exact hJ 0 (by omega)
      by_cases e1 : t = d1
      · rw [e1]
        rw [ev_put (nodup_ne hnd 7 1 rfl rfl (by decide)), ev_put (nodup_ne hnd 6 1 rfl rfl (by decide)), ev_put (nodup_ne hnd 5 1 rfl rfl (by decide)), ev_put (nodup_ne hnd 4 1 rfl rfl (by decide)), ev_put (nodup_ne hnd 3 1 rfl rfl (by decide)), ev_put (nodup_ne hnd 2 1 rfl rfl (by decide))]
        rw [ev_put_same (by (try simp only [size_put]); exact lt_all rfl hlt 1 rfl)]
        exact hJ 1 (by omega)
      by_cases e2 : t = d2
      · rw [e2]
        rw [ev_put (nodup_ne hnd 7 2 rfl rfl (by decide)), ev_put (nodup_ne hnd 6 2 rfl rfl (by decide)), ev_put (nodup_ne hnd 5 2 rfl rfl (by decide)), ev_put (nodup_ne hnd 4 2 rfl rfl (by decide)), ev_put (nodup_ne hnd 3 2 rfl rfl (by decide))]
        rw [ev_put_same (by (try simp only [size_put]); exact lt_all rfl hlt 2 rfl)]
        exact hJ 2 (by omega)
      by_cases e3 : t = d3
      · rw [e3]
        rw [ev_put (nodup_ne hnd 7 3 rfl rfl (by decide)), ev_put (nodup_ne hnd 6 3 rfl rfl (by decide)), ev_put (nodup_ne hnd 5 3 rfl rfl (by decide)), ev_put (nodup_ne hnd 4 3 rfl rfl (by decide))]
        rw [ev_put_same (by (try simp only [size_put]); exact lt_all rfl hlt 3 rfl)]
        exact hJ 3 (by omega)
      by_cases e4 : t = d4
      · rw [e4]
        rw [ev_put (nodup_ne hnd 7 4 rfl rfl (by decide)), ev_put (nodup_ne hnd 6 4 rfl rfl (by decide)), ev_put (nodup_ne hnd 5 4 rfl rfl (by decide))]
        rw [ev_put_same (by (try simp only [size_put]); exact lt_all rfl hlt 4 rfl)]
        exact hJ 4 (by omega)
      by_cases e5 : t = d5
      · rw [e5]
        rw [ev_put (nodup_ne hnd 7 5 rfl rfl (by decide)), ev_put (nodup_ne hnd 6 5 rfl rfl (by decide))]
        rw [ev_put_same (by (try simp only [size_put]); exact lt_all rfl hlt 5 rfl)]
        exact hJ 5 (by omega)
      by_cases e6 : t = p
      · rw [e6]
        rw [ev_put (nodup_ne hnd 7 6 rfl rfl (by decide))]
        rw [ev_put_same (by (try simp only [size_put]); exact lt_all rfl hlt 6 rfl)]
        exact hb
      by_cases e7 : t = q
      · rw [e7]
        rw [ev_put_same (by (try simp only [size_put]); exact lt_all rfl hlt 7 rfl)]
        exact hc
      rw [ev_put (Ne.symm e7), ev_put (Ne.symm e6), ev_put (Ne.symm e5), ev_put (Ne.symm e4), ev_put (Ne.symm e3), ev_put (Ne.symm e2), ev_put (Ne.symm e1), ev_put (Ne.symm e0)]
      exact hS.rest t (by simp [e0, e1, e2, e3, e4, e5, e6, e7])
    have hsz2 : ((((((((a0.put (some d0) (.agg sz)).put (some d1) va).put (some d2) (.agg r1)).put (some d3) (.agg sz)).put (some d4) vb).put (some d5) (.agg r2)).put (some p) (.pointer (some ⟨b, 0, none⟩))).put (some q) (.pointer (some ⟨c, 0, none⟩))).tmps.size = a0.tmps.size := by simp only [size_put]
    have hdf2 : ((((((((a0.put (some d0) (.agg sz)).put (some d1) va).put (some d2) (.agg r1)).put (some d3) (.agg sz)).put (some d4) vb).put (some d5) (.agg r2)).put (some p) (.pointer (some ⟨b, 0, none⟩))).put (some q) (.pointer (some ⟨c, 0, none⟩))).defers = a0.defers := by simp only [defers_put]
    have fin2 := fin b c w hBb hBc (hS.apart b c hb hc hBb hBc) hbk hck hS.below
    generalize ((((((((a0.put (some d0) (.agg sz)).put (some d1) va).put (some d2) (.agg r1)).put (some d3) (.agg sz)).put (some d4) vb).put (some d5) (.agg r2)).put (some p) (.pointer (some ⟨b, 0, none⟩))).put (some q) (.pointer (some ⟨c, 0, none⟩))) = C at key hsz2 hdf2 fin2
    obtain ⟨ta, da⟩ := a
    obtain ⟨tc, dc⟩ := C
    dsimp only at *
    have e1 : ta = tc := by
      refine Array.ext (by rw [hsa, hsz2]) fun i h1 h2 => ?_
      have := key i
      rw [Array.getD_eq_getD_getElem?, Array.getD_eq_getD_getElem?, Array.getElem?_eq_getElem h1, Array.getElem?_eq_getElem h2] at this
      exact this
    have e2 : da = dc := hS.defers.trans hdf2.symm
    rw [e1, e2]
    exact fin2
end
end
section
theorem rsq_c (w : World) (f r a : Int) : Pure 116 #[.agg #[.int .i64 f, .int .i64 r], .int .i64 a] w (.bool (vsq f r a)) := by
  have h1 := fun W => Lib.hid (rsize_c W f r)
  unfold vsq
  cases hv : vsize f r
  · rw [hv] at h1
    replace hv := Lib.hid hv
    unfold Pure
    go_enter Tryz.func116, Tryz.ntmps116
    go_wp2_with fail
    refine start1 ?_
    intro V hB hN x
    have y0 := fun z : Ext V.heap.size V => cell_of (below_blk z.2 (hN).out) 0 _ rfl
    have y1 := fun z : Ext V.heap.size V => cell_of (below_blk z.2 (hN).out) 1 _ rfl
    refine (Pure.st (h1 _).out).mono ?_
    rintro e _ ⟨rfl, x, rfl⟩
    go_wp2_with fail
    all_goals (go_ret; exact ⟨by first | rfl | (simp_all; done) | (simp_all; omega), ext_end hB.out _⟩)
  · rw [hv] at h1
    obtain ⟨m1, m2⟩ := vsize_mul hv
    replace hv := Lib.hid hv
    unfold Pure
    go_enter Tryz.func116, Tryz.ntmps116
    go_wp2_with fail
    refine start1 ?_
    intro V hB hN x
    have y0 := fun z : Ext V.heap.size V => cell_of (below_blk z.2 (hN).out) 0 _ rfl
    have y1 := fun z : Ext V.heap.size V => cell_of (below_blk z.2 (hN).out) 1 _ rfl
    refine (Pure.st (h1 _).out).mono ?_
    rintro e _ ⟨rfl, x, rfl⟩
    go_wp2_with fail
    all_goals (go_ret; exact ⟨by first | rfl | (simp_all; done) | (simp_all; omega), ext_end hB.out _⟩)
theorem rnum_c (w : World) (f r x y : Int) (hv : vsize f r = true) (x1 : -1000 ≤ x) (x2 : x ≤ 1000) (y1 : -1000 ≤ y) (y2 : y ≤ 1000) : Pure 118 #[.agg #[.int .i64 f, .int .i64 r], .int .i64 x, .int .i64 y] w (.int .i64 (numI f r x y)) := by
  obtain ⟨b1, b2, b3, b4⟩ := vsize_bd hv
  have hm : onB f r x y = true → 0 ≤ y * f ∧ y * f ≤ 61 := fun h => ⟨(on_mul hv h).1, (on_mul hv h).2.1⟩
  unfold numI
  cases ho : onB f r x y
  · have ho2 : x < 0 ∨ f ≤ x ∨ y < 0 ∨ r ≤ y := by
      unfold onB at ho
      simp at ho
      omega
    clear hm hv ho
    unfold Pure
    go_enter Tryz.func118, Tryz.ntmps118
    go_wp2
    all_goals first | (exfalso; simp_all; omega; done) | skip
    all_goals (go_ret; refine ⟨by first | (simp_all; done) | (exfalso; simp_all; omega), ?_⟩)
    all_goals
      repeat (first | (with_reducible assumption) | (with_reducible exact Below.refl _ _) | (with_reducible apply below_drewN) | (with_reducible apply Below.drew) | (with_reducible apply Below.alloc) | (with_reducible apply Below.setCell))
      all_goals first | omega | (dsimp only; omega) | (simp; done) | (simp; omega)
  · obtain ⟨m1, m2⟩ := hm ho
    obtain ⟨c1, c2, c3, c4⟩ := onB_bd ho
    clear hm hv ho
    unfold Pure
    go_enter Tryz.func118, Tryz.ntmps118
    go_wp2
    all_goals (go_ret; refine ⟨by first | (simp_all; done) | (exfalso; simp_all; omega), ?_⟩)
    all_goals
      repeat (first | (with_reducible assumption) | (with_reducible exact Below.refl _ _) | (with_reducible apply below_drewN) | (with_reducible apply Below.drew) | (with_reducible apply Below.alloc) | (with_reducible apply Below.setCell))
      all_goals first | omega | (dsimp only; omega) | (simp; done) | (simp; omega)
theorem test_rem (S n : Nat) : (((S : Int) / 2 ^ n).tmod 2 == 1) = S.testBit n := by
  rw [Int.tmod_eq_emod_of_nonneg (Int.ediv_nonneg (by omega) (by exact_mod_cast Nat.zero_le _)), Nat.testBit_eq_decide_div_mod_eq]
  rw [Bool.eq_iff_iff]
  simp only [beq_iff_eq, decide_eq_true_eq]
  constructor
  · intro h
    exact_mod_cast h
  · intro h
    exact_mod_cast h
theorem rhas_c (w : World) (S : Nat) (hS : S < 18446744073709551616) (a : Int) : Same 193 #[.int .u64 S, .int .i64 a] w (.bool (decide (0 ≤ a) && decide (a < 64) && S.testBit a.toNat)) := by
  by_cases h0 : 0 ≤ a
  · by_cases h1 : a < 64
    · obtain ⟨n, rfl⟩ : ∃ n : Nat, a = n := ⟨a.toNat, by omega⟩
      unfold Same
      go_enter Tryz.func193, Tryz.ntmps193
      go_wp2
      go_ret
      refine ⟨ret_bool ?_, rfl⟩
      rw [test_rem]
      simp
      omega
    · unfold Same
      go_enter Tryz.func193, Tryz.ntmps193
      go_wp2
      all_goals (go_ret; exact ⟨by first | (simp_all [h0, h1]; done) | (simp_all [h0, h1]; omega) | (simp [h0, h1]; omega), rfl⟩)
  · unfold Same
    go_enter Tryz.func193, Tryz.ntmps193
    go_wp2
    all_goals (go_ret; exact ⟨by first | (simp_all [h0]; done) | (simp_all [h0]; omega) | (simp [h0]; omega), rfl⟩)
def pointV (f a : Int) : Value := .agg #[.int .i64 (a % f), .int .i64 (a / f)]
theorem sizePt : (Tryz.prog.info? 85).map (·.size) = some 2 := by kernel_rfl
theorem rplace_c (w : World) (f r a : Int) (hv : vsize f r = true) (a0 : 0 ≤ a) (a1 : a ≤ 1000000) : Pure 67 #[.agg #[.int .i64 f, .int .i64 r], .int .i64 a] w (pointV f a) := by
  obtain ⟨b1, b2, b3, b4⟩ := vsize_bd hv
  have hq : (f = 0) = False := by simp; omega
  have q1 : a / f ≤ a := Int.ediv_le_self _ a0
  have q2 : 0 ≤ a / f := Int.ediv_nonneg a0 (by omega)
  have q3 : IntKind.i64.wrap (a.tdiv f) = a / f := IntWalk.i64_quo _ _ ⟨a0, by omega, by omega⟩
  have q4 : a.tmod f = a % f := Int.tmod_eq_emod_of_nonneg a0
  clear hv
  unfold Pure
  go_enter Tryz.func67, Tryz.ntmps67
  go_wp2_with fail
  refine start2r ?_
  intro V hB hN hZ x
  have y0 := fun z : Ext V.heap.size V => cell_of (below_blk z.2 (hN).out) 0 _ rfl
  have y1 := fun z : Ext V.heap.size V => cell_of (below_blk z.2 (hN).out) 1 _ rfl
  refine ext_tail' 9 (by kernel_rfl) (by kernel_rfl) ?_
  repeat (first | (go_big_quiet_step (fail)) | ((refine wpQuiet_step (fun K hK => ?_)); go_simp; (refine ⟨_, fun _ => rfl, hK _ ?_⟩); clear hK K))
  refine wpQuiet_nil ?_
  intro x
  refine store_row 85 (.tmp 4) (.tmp 13) rfl rfl #[.int .i64 (a % f), .int .i64 (a / f)] rfl (by rfl) _ (below_blk x.2 hZ.out) rfl sizePt (by simp [Value.oneCell']) ?_
  go_wp2
  refine bodyPost_ret (results_cell_row rfl _ _ _ 85 #[.int .i64 (a % f), .int .i64 (a / f)] (0, 0) _ rfl (setCells_arr (below_blk x.2 hZ.out) rfl) Tryz.underlying85 rfl sizePt) rfl ⟨rfl, ?_⟩
  exact setCells_below (by omega) _ _ _ (ext_end hB.out x)
def distI (f a b : Int) : Int := max (kindI (a % f - b % f)) (kindI (a / f - b / f))
theorem allocPt_run (W : World) : (Instr.alloc 85 true (.tuple #[])).run Tryz.prog W = .ok (.pointer (some ⟨W.heap.size, 0, none⟩)) (W.alloc (.cells #[.int .i64 0, .int .i64 0] 85)) := by kernel_rfl
theorem alloc_pt (a : Act) (o : Oper) (W : World) (h : o.op = .alloc 85) : (execOp a.eval o).run Tryz.prog W = .ok (.value (.pointer (some ⟨W.heap.size, 0, none⟩))) (W.alloc (.cells #[.int .i64 0, .int .i64 0] 85)) := by
  unfold execOp
  simp only [h, Sem.run_bind, allocPt_run, Result.andThen_ok, Sem.run_pure]
theorem callPlace_run (args : Array Value) (W : World) : (callFunc 67 args).run Tryz.prog W = .ok (.enter 67 args) W := by kernel_rfl
theorem call_place (a : Act) (o : Oper) (W : World) (x y : Operand) (h : o.op = .call { callee := .value (.func 67), args := #[x, y], argTypes := #[23, 3] }) : (execOp a.eval o).run Tryz.prog W = .ok (.enter 67 #[a.eval x, a.eval y]) W := by
  unfold execOp
  have h1 : (resolve a.eval { callee := .value (.func 67), args := #[x, y], argTypes := #[23, 3] } o.type).run Tryz.prog W = .ok { target := .fn (.func 67) #[], args := #[a.eval x, a.eval y] } W := by kernel_rfl
  simp only [h, Sem.run_bind, Result.andThen_ok, Sem.run_pure, h1]
  exact callPlace_run _ W
theorem rdist_c (w : World) (f r a b : Int) (hv : vsize f r = true) (a0 : 0 ≤ a) (a1 : a ≤ 1000) (b0 : 0 ≤ b) (b1 : b ≤ 1000) : Pure 195 #[.agg #[.int .i64 f, .int .i64 r], .int .i64 a, .int .i64 b] w (.int .i64 (distI f a b)) := by
  obtain ⟨f1, f2, _, _⟩ := vsize_bd hv
  have m1 := Int.emod_nonneg a (show f ≠ 0 by omega)
  have m2 := Int.emod_lt_of_pos a (show 0 < f by omega)
  have m3 := Int.emod_nonneg b (show f ≠ 0 by omega)
  have m4 := Int.emod_lt_of_pos b (show 0 < f by omega)
  have m5 := Int.ediv_nonneg a0 (show 0 ≤ f by omega)
  have m6 := Int.ediv_le_self f a0
  have m7 := Int.ediv_nonneg b0 (show 0 ≤ f by omega)
  have m8 := Int.ediv_le_self f b0
  unfold distI
  have c1 := fun W => rplace_c W f r a hv a0 (by omega)
  have c2 := fun W => rplace_c W f r b hv b0 (by omega)
  unfold pointV at c1 c2
  obtain ⟨af, haf⟩ : ∃ x, a % f = x := ⟨_, rfl⟩
  obtain ⟨bf, hbf⟩ : ∃ x, b % f = x := ⟨_, rfl⟩
  obtain ⟨ar, har⟩ : ∃ x, a / f = x := ⟨_, rfl⟩
  obtain ⟨br, hbr⟩ : ∃ x, b / f = x := ⟨_, rfl⟩
  simp only [haf, hbf, har, hbr] at *
  clear haf hbf har hbr
  unfold Pure
  go_enter Tryz.func195, Tryz.ntmps195
  go_wp2_with fail
  refine start1r ?_
  intro V hB hN x
  refine two_agg (B0 := (x).1.heap.size) rfl (by kernel_rfl) (by kernel_rfl) (tS := 23) (tI := 3) (tP := 85) (fid := 67) (va := .int .i64 a) (vb := .int .i64 b) (bx := 3) (xa := 1) (xb := 2) (d0 := 9) (d1 := 10) (d2 := 11) (d3 := 12) (d4 := 13) (d5 := 14) (p := 7) (q := 8) (by kernel_rfl) (by kernel_rfl) (by decide) (by rfl) (by decide) rfl (below_blk (x).2 (hN).out) Tryz.underlying23 rfl (by kernel_rfl) (by intro b h; cases h) (by intro b h; cases h) rfl rfl (fun W _ => c1 W) (fun W _ => c2 W) alloc_pt call_place rfl rfl (by kernel_rfl) (by simp [Value.oneCell']) (by simp [Value.oneCell']) ?_
  intro p q V2 hp hq hpq hP hQ hW
  clear hp hq hpq
  replace hP := Lib.hid hP
  replace hQ := Lib.hid hQ
  replace hN := Lib.hid (below_blk hW (below_blk x.2 hN.out))
  replace hB := Lib.hid (hB.out.trans ((x.2.trans (hW.mono x.2.size)).mono hB.out.size))
  clear hW x
  obtain ⟨V, hVe⟩ : ∃ V, V = V2 := ⟨_, rfl⟩
  subst hVe
  go_frame
  go_wp2_with fail
  clear c1 c2
  have e1 : IntKind.i64.wrap (af - bf) = af - bf := IntWalk.i64_in _ (by omega)
  have e2 : IntKind.i64.wrap (ar - br) = ar - br := IntWalk.i64_in _ (by omega)
  have c1 := fun W => Lib.hid (rabs_c W (af - bf) (by omega) (by omega))
  have c2 := fun W => Lib.hid (rabs_c W (ar - br) (by omega) (by omega))
  refine start0r ?_
  intro x
  have y0 := fun z : Ext V.heap.size V => cell_of (below_blk z.2 (hN).out) 0 _ rfl
  have y1 := fun z : Ext V.heap.size V => cell_of (below_blk z.2 (hN).out) 1 _ rfl
  have u0 := fun z : Ext V.heap.size V => cell_of (below_blk z.2 (hP).out) 0 _ rfl
  have u1 := fun z : Ext V.heap.size V => cell_of (below_blk z.2 (hP).out) 1 _ rfl
  have v0 := fun z : Ext V.heap.size V => cell_of (below_blk z.2 (hQ).out) 0 _ rfl
  have v1 := fun z : Ext V.heap.size V => cell_of (below_blk z.2 (hQ).out) 1 _ rfl
  refine ext_region' (by kernel_rfl) (by kernel_rfl) ?_
  repeat (first | (go_big_quiet_step ((go_at_call 218; exact Same.st (rabs_c _ _ (by omega) (by omega))))) | ((refine wpQuiet_step (fun K hK => ?_)); go_simp; (refine ⟨_, fun _ => rfl, hK _ ?_⟩); clear hK K))
  refine wpQuiet_nil ?_
  intro x
  go_wp2_with fail
  all_goals
    refine (rabs_c _ _ (by omega) (by omega)).mono ?_
    rintro e _ ⟨rfl, rfl⟩
    go_wp2
    go_ret
    exact ⟨ret_int (by omega), ext_end hB.out _⟩
end
section
def intV (x : Int) : Value := .int .i64 x
theorem Tryz.infoInt : (Tryz.prog.info? 3).map (fun i => (i.zero, i.size, i.bytes)) = some (some (.int .i64 0), 1, 8) := by kernel_rfl
def Ints (f : FuncId) (args : Array Value) (w : World) (L : List Int) : Prop :=
  Calls Tryz.prog f args w fun e w' => ∃ v, e = .returned v ∧ w'.ownsRow w.heap.size 3 1 v L.length (L.map intV) ∧ Below w.heap.size w w'
def IntAt (w : World) (po : Option Addr) (L : List Int) : Prop := L = [] ∨ ∃ b off, po = some ⟨b, off, none⟩ ∧ ∀ (i : Nat) (x : Int), L[i]? = some x → w.cell? ⟨b, off + i, none⟩ = some (.int .i64 x)
theorem IntAt.below {w V : World} {po : Option Addr} {L : List Int} (h : IntAt w po L) (hb : Below w.heap.size w V) : IntAt V po L := by
  rcases h with h | ⟨b, off, h1, h2⟩
  · exact .inl h
  · exact .inr ⟨b, off, h1, fun i x hx => below_at hb (h2 i x hx)⟩
theorem own_ints {w : World} {B : Nat} {v : Value} {L : List Int} (h : w.ownsRow B 3 1 v L.length (L.map intV)) : ∃ po cap, v = .slice po L.length cap ∧ IntAt w po L ∧ L.length ≤ cap ∧ cap ≤ 9223372036854775807 := by
  rcases h.2 with ⟨rfl, h0⟩ | ⟨g, cap, cur, rfl, hb, hg, hn, hc, hs, ht⟩
  · exact ⟨none, 0, by rw [h0], .inl (List.length_eq_zero_iff.1 h0), by omega, by omega⟩
  · refine ⟨_, cap, rfl, .inr ⟨g, 0, rfl, fun i x hx => ?_⟩, hn, by unfold maxLen at hc; omega⟩
    rw [Nat.zero_add]
    have hi := (List.getElem?_eq_some_iff.1 hx).1
    rw [h.cellAt i (by omega)]
    simp [hx, intV]
def idxL (P : Int → Bool) (ps : List Int) (k : Nat) : List Int := ((List.range k).filter fun i => P (ps.getD i 0)).map fun i : Nat => (i : Int)
theorem idxL_snoc (P : Int → Bool) (ps : List Int) (k : Nat) : idxL P ps (k + 1) = if P (ps.getD k 0) then idxL P ps k ++ [(k : Int)] else idxL P ps k := by
  unfold idxL
  rw [List.range_succ, List.filter_append, List.map_append]
  cases h : P (ps.getD k 0)
  · rw [if_neg (by simp), List.filter_cons, if_neg (by rw [h]; simp)]; simp
  · rw [if_pos rfl, List.filter_cons, if_pos h]; simp
theorem idxL_len (P : Int → Bool) (ps : List Int) (k : Nat) : (idxL P ps k).length ≤ k := by
  unfold idxL
  rw [List.length_map]
  exact Nat.le_trans (List.length_filter_le _ _) (by simp)
set_option maxHeartbeats 1000000 in
theorem rlist_c (w : World) (f r : Int) (ps : List Int) (po : Option Addr) (cap : Nat) (hS : SlcAt w po ps) (hn : ps.length ≤ 1000) (p : Int) :
    Ints 112 #[bdV f r po ps.length cap, .int .i8 p] w (idxL (fun q => q == p) ps ps.length) := by
  obtain ⟨i0, hi, hz0, hz1, hz2⟩ := info_parts Tryz.infoInt
  have hsn := fun k => Lib.hid (idxL_snoc (fun q => q == p) ps k)
  have hln := fun k => idxL_len (fun q => q == p) ps k
  have hzero : Hid (idxL (fun q => q == p) ps 0 = []) := Lib.hid rfl
  obtain ⟨F, hF⟩ : ∃ F, idxL (fun q => q == p) ps = F := ⟨_, rfl⟩
  rw [hF] at hzero ⊢
  simp only [hF] at hsn hln
  unfold bdV Ints
  obtain ⟨n, hnl⟩ : ∃ n, ps.length = n := ⟨_, rfl⟩
  obtain ⟨B, hBe⟩ : ∃ B, w.heap.size = B := ⟨_, rfl⟩
  rw [hnl] at hn ⊢
  rw [hBe]
  replace hF := Lib.hid hF
  replace hnl := Lib.hid hnl
  replace hS := Lib.hid hS
  go_enter Tryz.func112, Tryz.ntmps112
  go_wp2_with fail
  refine start1B hBe ?_
  intro V hN hX x
  have y0 := fun z : Ext V.heap.size V => cell_of (below_blk z.2 (hN).out) 0 _ rfl
  have y1 := fun z : Ext V.heap.size V => cell_of (below_blk z.2 (hN).out) 1 _ rfl
  have y2 := fun z : Ext V.heap.size V => cell_of (below_blk z.2 (hN).out) 2 _ rfl
  go_loopw [5, 6] (fun v i wr => ∃ (k : Nat) (u : Value) (x : Ext V.heap.size V), wr = x.1 ∧ u = v ∧ k ≤ n ∧ i = .int .i64 k ∧ x.1.ownsRow V.heap.size 3 1 u (F k).length ((F k).map intV)) (fun _ i _ => n - (intOf i).toNat)
  case atStart => exact ⟨0, _, x, rfl, rfl, by omega, rfl, by rw [hzero.out]; exact World.ownsRow_nil _ _ _ _⟩
  case round =>
    clear x
    obtain ⟨k, u, x, rfl, rfl, hk, rfl, hown⟩ := hrel
    by_cases hkn : k = n
    · subst hkn
      go_wp2
      go_ret
      exact ⟨u, rfl, own_mono hown (by have := (hX.out ⟨V, Below.refl _ _⟩).2.1; exact Nat.le_of_lt this), (hX.out x).1⟩
    · have hkl : k < n := by omega
      obtain ⟨q, hq⟩ : ∃ q, ps[k]? = some q := ⟨_, List.getElem?_eq_getElem (by rw [hnl.out]; exact hkl)⟩
      obtain ⟨b, off, rfl, hP⟩ := hS.out.resolve_left (by intro e; rw [e] at hq; cases hq)
      have z0 := fun z : Ext V.heap.size V => below_at (hX.out z).2.2 (hP k q hq)
      have hgd : ps.getD k 0 = q := by rw [List.getD_eq_getElem?_getD, hq]; rfl
      have hs := hsn k
      rw [hgd] at hs
      have hl := hln k
      have hBx := x.2.size
      obtain ⟨L, hL⟩ : ∃ L, F k = L := ⟨_, rfl⟩
      rw [hL] at hs hl hown
      replace hown := Lib.hid hown
      replace hP := Lib.hid hP
      replace hq := Lib.hid hq
      replace hgd := Lib.hid hgd
      replace hL := Lib.hid hL
      clear hsn hln hkn
      cases ht : (q == p)
      · rw [ht] at hs
        go_wp2_with fail
        go_roundw
        case rel => exact ⟨k + 1, u, x, rfl, rfl, by omega, by go_num, by rw [hs.out]; exact hown.out⟩
        case measure => simp [intOf]; omega
      · rw [ht] at hs
        go_wp2_with (at_builtin; refine wpList_append_lies _ rfl _ _ 136 rfl V.heap.size 3 i0 (.int .i64 0) 1 8 Tryz.underlying136 hi hz0 hz1 hz2 rfl (by decide) _ _ _ rfl ((hown).out.alloc _) ⟨x.1.heap.size, 0, none⟩ 1 1 [.int .i64 k] rfl rfl (World.news_of_block (blk_new rfl _)) (by intro u hu; simp at hu; subst hu; rfl) (by omega) (by unfold maxLen; omega) (by omega) (by simp; omega) _ rfl ?_; intro g cap w1 hown' hgrow hat hlt)
        go_roundw
        case rel => exact ⟨k + 1, _, ⟨w1, below_row (x.2.alloc hBx _) (by simp; omega) (hown.out.alloc _) hgrow⟩, rfl, rfl, by omega, by go_num, by rw [hs.out]; simpa [intV] using hown'⟩
        case measure => simp [intOf]; omega
set_option maxHeartbeats 1000000 in
theorem rside3_c (w : World) (f r : Int) (ps : List Int) (po : Option Addr) (cap : Nat) (hS : SlcAt w po ps) (hn : ps.length ≤ 1000) (sd : Int) :
    Ints 143 #[bdV f r po ps.length cap, .int .i64 sd] w (idxL (fun q => sgnI q == sd) ps ps.length) := by
  obtain ⟨i0, hi, hz0, hz1, hz2⟩ := info_parts Tryz.infoInt
  have hsn := fun k => Lib.hid (idxL_snoc (fun q => sgnI q == sd) ps k)
  have hln := fun k => idxL_len (fun q => sgnI q == sd) ps k
  have hzero : Hid (idxL (fun q => sgnI q == sd) ps 0 = []) := Lib.hid rfl
  obtain ⟨F, hF⟩ : ∃ F, idxL (fun q => sgnI q == sd) ps = F := ⟨_, rfl⟩
  rw [hF] at hzero ⊢
  simp only [hF] at hsn hln
  unfold bdV Ints
  obtain ⟨n, hnl⟩ : ∃ n, ps.length = n := ⟨_, rfl⟩
  obtain ⟨B, hBe⟩ : ∃ B, w.heap.size = B := ⟨_, rfl⟩
  rw [hnl] at hn ⊢
  rw [hBe]
  replace hF := Lib.hid hF
  replace hnl := Lib.hid hnl
  replace hS := Lib.hid hS
  go_enter Tryz.func143, Tryz.ntmps143
  go_wp2_with fail
  refine start1B hBe ?_
  intro V hN hX x
  have y0 := fun z : Ext V.heap.size V => cell_of (below_blk z.2 (hN).out) 0 _ rfl
  have y1 := fun z : Ext V.heap.size V => cell_of (below_blk z.2 (hN).out) 1 _ rfl
  have y2 := fun z : Ext V.heap.size V => cell_of (below_blk z.2 (hN).out) 2 _ rfl
  go_loopw [5, 6] (fun v i wr => ∃ (k : Nat) (u : Value) (x : Ext V.heap.size V), wr = x.1 ∧ u = v ∧ k ≤ n ∧ i = .int .i64 k ∧ x.1.ownsRow V.heap.size 3 1 u (F k).length ((F k).map intV)) (fun _ i _ => n - (intOf i).toNat)
  case atStart => exact ⟨0, _, x, rfl, rfl, by omega, rfl, by rw [hzero.out]; exact World.ownsRow_nil _ _ _ _⟩
  case round =>
    clear x
    obtain ⟨k, u, x, rfl, rfl, hk, rfl, hown⟩ := hrel
    by_cases hkn : k = n
    · subst hkn
      go_wp2
      go_ret
      exact ⟨u, rfl, own_mono hown (by have := (hX.out ⟨V, Below.refl _ _⟩).2.1; exact Nat.le_of_lt this), (hX.out x).1⟩
    · have hkl : k < n := by omega
      obtain ⟨q, hq⟩ : ∃ q, ps[k]? = some q := ⟨_, List.getElem?_eq_getElem (by rw [hnl.out]; exact hkl)⟩
      obtain ⟨b, off, rfl, hP⟩ := hS.out.resolve_left (by intro e; rw [e] at hq; cases hq)
      have z0 := fun z : Ext V.heap.size V => below_at (hX.out z).2.2 (hP k q hq)
      have hgd : ps.getD k 0 = q := by rw [List.getD_eq_getElem?_getD, hq]; rfl
      have hs := hsn k
      rw [hgd] at hs
      have hl := hln k
      have hBx := x.2.size
      obtain ⟨L, hL⟩ : ∃ L, F k = L := ⟨_, rfl⟩
      rw [hL] at hs hl hown
      have c1 := fun W => Lib.hid (rside_c W q)
      obtain ⟨sq, hsq⟩ : ∃ s, sgnI q = s := ⟨_, rfl⟩
      simp only [hsq] at hs c1
      replace hown := Lib.hid hown
      replace hP := Lib.hid hP
      replace hq := Lib.hid hq
      replace hgd := Lib.hid hgd
      replace hsq := Lib.hid hsq
      replace hL := Lib.hid hL
      clear hsn hln hkn
      cases ht : (sq == sd)
      · rw [ht] at hs
        go_wp2_with fail
        refine (c1 _).out.mono ?_
        rintro e _ ⟨rfl, rfl⟩
        go_wp2_with fail
        go_roundw
        case rel => exact ⟨k + 1, u, x, rfl, rfl, by omega, by go_num, by rw [hs.out]; exact hown.out⟩
        case measure => simp [intOf]; omega
      · rw [ht] at hs
        go_wp2_with fail
        refine (c1 _).out.mono ?_
        rintro e _ ⟨rfl, rfl⟩
        go_wp2_with (at_builtin; refine wpList_append_lies _ rfl _ _ 136 rfl V.heap.size 3 i0 (.int .i64 0) 1 8 Tryz.underlying136 hi hz0 hz1 hz2 rfl (by decide) _ _ _ rfl ((hown).out.alloc _) ⟨x.1.heap.size, 0, none⟩ 1 1 [.int .i64 k] rfl rfl (World.news_of_block (blk_new rfl _)) (by intro u hu; simp at hu; subst hu; rfl) (by omega) (by unfold maxLen; omega) (by omega) (by simp; omega) _ rfl ?_; intro g cap w1 hown' hgrow hat hlt)
        go_roundw
        case rel => exact ⟨k + 1, _, ⟨w1, below_row (x.2.alloc hBx _) (by simp; omega) (hown.out.alloc _) hgrow⟩, rfl, rfl, by omega, by go_num, by rw [hs.out]; simpa [intV] using hown'⟩
        case measure => simp [intOf]; omega
theorem rhas5_c (w : World) (L : List Int) (po : Option Addr) (cap : Nat) (hS : IntAt w po L) (hn : L.length ≤ 100000) (q : Int) : Same 171 #[.slice po L.length cap, .int .i64 q] w (.bool (L.contains q)) := by
  obtain ⟨n, hnl⟩ : ∃ n, L.length = n := ⟨_, rfl⟩
  rw [hnl] at hn ⊢
  have hmiss : (∀ j x, j < n → L[j]? = some x → (x == q) = false) → L.contains q = false := fun h => by
    rw [← Bool.not_eq_true, List.contains_iff_mem]
    intro hm
    obtain ⟨j, hj⟩ := List.getElem?_of_mem hm
    have := h j q (by rw [← hnl]; exact (List.getElem?_eq_some_iff.1 hj).1) hj
    simp at this
  have hhit : ∀ k : Nat, L[k]? = some q → L.contains q = true := fun k h => List.contains_iff_mem.2 (List.mem_of_getElem? h)
  obtain ⟨R, hR⟩ : ∃ R, L.contains q = R := ⟨_, rfl⟩
  rw [hR] at hmiss hhit ⊢
  replace hR := Lib.hid hR
  replace hnl := Lib.hid hnl
  replace hS := Lib.hid hS
  replace hmiss := Lib.hid hmiss
  replace hhit := Lib.hid hhit
  unfold Same
  go_enter Tryz.func171, Tryz.ntmps171
  go_wp2
  go_loop [5] (fun i => ∃ k : Nat, k ≤ n ∧ i = .int .i64 k ∧ ∀ j x, j < k → L[j]? = some x → (x == q) = false) (fun i => n - (intOf i).toNat)
  case atStart => exact ⟨0, by omega, rfl, fun j x h => absurd h (by omega)⟩
  case round =>
    obtain ⟨k, hk, rfl, hpre⟩ := hrel
    replace hpre := Lib.hid hpre
    by_cases hkn : k = n
    · have hf := hmiss.out (by rw [← hkn]; exact hpre.out)
      subst hkn
      subst hf
      go_wp2
      go_ret
      exact ⟨rfl, rfl⟩
    · have hkl : k < n := by omega
      obtain ⟨p, hp⟩ : ∃ p, L[k]? = some p := ⟨_, List.getElem?_eq_getElem (by rw [hnl.out]; exact hkl)⟩
      obtain ⟨b, off, rfl, hP⟩ := hS.out.resolve_left (by intro e; rw [e] at hp; cases hp)
      have y := hP k p hp
      replace hp := Lib.hid hp
      replace hP := Lib.hid hP
      clear hkn
      cases ht : (p == q)
      · replace ht2 := Lib.hid ht
        go_wp2
        go_round
        case rel => exact ⟨k + 1, by omega, by go_num, fun j x hj hx => by
          rcases Nat.lt_or_ge j k with h | h
          · exact hpre.out j x h hx
          · obtain rfl : j = k := by omega
            rw [hp.out] at hx; cases hx; exact ht2.out⟩
        case measure => simp [intOf]; omega
      · have hf := hhit.out k (by rw [hp.out]; simpa using ht)
        subst hf
        go_wp2
        go_ret
        exact ⟨rfl, rfl⟩
theorem rfree_c (w : World) (L : List Int) (po : Option Addr) (cap : Nat) (hS : IntAt w po L) (hn : L.length ≤ 100000) (occ : Nat) (hocc : occ < 18446744073709551616) : Same 197 #[.slice po L.length cap, .int .u64 occ] w (.bool (L.all fun x => !(decide (0 ≤ x) && decide (x < 64) && occ.testBit x.toNat))) := by
  obtain ⟨n, hnl⟩ : ∃ n, L.length = n := ⟨_, rfl⟩
  rw [hnl] at hn ⊢
  obtain ⟨H, hH⟩ : ∃ H : Int → Bool, (fun x : Int => decide (0 ≤ x) && decide (x < 64) && occ.testBit x.toNat) = H := ⟨_, rfl⟩
  have c := fun W x => Lib.hid (rhas_c W occ hocc x)
  have hHx : ∀ x : Int, (decide (0 ≤ x) && decide (x < 64) && occ.testBit x.toNat) = H x := fun x => congrFun hH x
  simp only [hHx] at c ⊢
  have hmiss : (∀ j x, j < n → L[j]? = some x → H x = false) → (L.all fun x => !H x) = true := fun h => by
    rw [List.all_eq_true]
    intro x hm
    obtain ⟨j, hj⟩ := List.getElem?_of_mem hm
    rw [h j x (by rw [← hnl]; exact (List.getElem?_eq_some_iff.1 hj).1) hj]
    rfl
  have hhit : ∀ (k : Nat) (x : Int), L[k]? = some x → H x = true → (L.all fun x => !H x) = false := fun k x h hx => by
    rw [← Bool.not_eq_true, List.all_eq_true]
    intro ha
    have := ha x (List.mem_of_getElem? h)
    rw [hx] at this
    cases this
  obtain ⟨R, hR⟩ : ∃ R, (L.all fun x => !H x) = R := ⟨_, rfl⟩
  rw [hR] at hmiss hhit ⊢
  replace hR := Lib.hid hR
  replace hnl := Lib.hid hnl
  replace hS := Lib.hid hS
  replace hmiss := Lib.hid hmiss
  replace hhit := Lib.hid hhit
  replace hH := Lib.hid hH
  clear hHx hocc
  unfold Same
  go_enter Tryz.func197, Tryz.ntmps197
  go_wp2
  go_loop [5] (fun i => ∃ k : Nat, k ≤ n ∧ i = .int .i64 k ∧ ∀ j x, j < k → L[j]? = some x → H x = false) (fun i => n - (intOf i).toNat)
  case atStart => exact ⟨0, by omega, rfl, fun j x h => absurd h (by omega)⟩
  case round =>
    obtain ⟨k, hk, rfl, hpre⟩ := hrel
    replace hpre := Lib.hid hpre
    by_cases hkn : k = n
    · have hf := hmiss.out (by rw [← hkn]; exact hpre.out)
      subst hkn
      subst hf
      clear c
      go_wp2
      go_ret
      exact ⟨rfl, rfl⟩
    · have hkl : k < n := by omega
      obtain ⟨p, hp⟩ : ∃ p, L[k]? = some p := ⟨_, List.getElem?_eq_getElem (by rw [hnl.out]; exact hkl)⟩
      obtain ⟨b, off, rfl, hP⟩ := hS.out.resolve_left (by intro e; rw [e] at hp; cases hp)
      have y := hP k p hp
      replace c := fun W => c W p
      replace hp := Lib.hid hp
      replace hP := Lib.hid hP
      clear hkn
      cases ht : H p
      · rw [ht] at c
        replace ht := Lib.hid ht
        go_wp2_with fail
        refine (c _).out.mono ?_
        rintro e _ ⟨rfl, rfl⟩
        go_wp2_with fail
        go_round
        case rel => exact ⟨k + 1, by omega, by go_num, fun j x hj hx => by
          rcases Nat.lt_or_ge j k with h | h
          · exact hpre.out j x h hx
          · obtain rfl : j = k := by omega
            rw [hp.out] at hx; cases hx; exact ht.out⟩
        case measure => simp [intOf]; omega
      · rw [ht] at c
        have hf := hhit.out k p hp.out ht
        subst hf
        replace ht := Lib.hid ht
        go_wp2_with fail
        refine (c _).out.mono ?_
        rintro e _ ⟨rfl, rfl⟩
        go_wp2_with fail
        go_ret
        exact ⟨rfl, rfl⟩
end
section
section
variable {P : Program} {ops : Array Oper} {Q : Exit → Act → World → Prop} {md : Region.Mode} {S : World → Prop}
theorem anyH_value {i : Nat} {o : Oper} {fuel : Nat} {listed : Array Bool} {a : Act} {w w' : World} {v : Value} (hr : Region.ready md ops listed = [i]) (ho : ops[i]? = some o) (hg : o.guard = none)
    (hrun : (execOp a.eval o).run P w = .ok (.value v) w') (hS : S w') (h : wpAnyH P md ops Q S fuel (listed.setIfInBounds i true) (a.put o.dst v) w') : wpAnyH P md ops Q S (fuel + 1) listed a w := by
  refine wpAnyH_only hr ho hg fun K hK => ?_
  unfold Oper.wp
  rw [hrun, Oper.upon_value]
  exact hK _ _ hS h
theorem anyH_append {i : Nat} {o : Oper} {fuel : Nat} {listed : Array Bool} {a : Act} {w w' : World} {v' u1 u2 : Value} (s x : Operand) (t : TypeId) (hr : Region.ready md ops listed = [i]) (ho : ops[i]? = some o) (hg : o.guard = none)
    (hop : o.op = .call { callee := .builtin .append, args := #[s, x], argTypes := #[t, t] }) (h1 : a.eval s = u1) (h2 : a.eval x = u2) (hrun : (Builtin.append_ #[t, t] o.type #[u1, u2]).run P w = .ok v' w')
    (hS : S w') (h : wpAnyH P md ops Q S fuel (listed.setIfInBounds i true) (a.put o.dst v') w') : wpAnyH P md ops Q S (fuel + 1) listed a w := by
  refine anyH_value hr ho hg ?_ hS h
  unfold execOp
  simp only [hop, resolve, invoke, builtin, Sem.run_bind, Sem.run_pure, Result.andThen_ok, List.map_toArray, List.map_cons, List.map_nil, h1, h2, hrun]
theorem run_append_any {T E ty : TypeId} {i : TypeInfo} {z : Value} {bytes base : Nat} {w : World} {v : Value} {xs news : List Value} {po : Option Addr} {c : Nat}
    (ht : P.underlying T = some (.slice E)) (hi : P.info? E = some i) (hz : i.zero = some z) (hsize : i.size = 1) (hby : i.bytes = bytes) (hzs : z.cells.size = 1)
    (hown : w.ownsRow base E 1 v xs.length xs) (hsrc : news = [] ∨ ∃ b off, po = some ⟨b, off, none⟩ ∧ ∀ j u, news[j]? = some u → w.cell? ⟨b, off + j, none⟩ = some u) (h1 : ∀ u ∈ news, u.oneCell' = true)
    (hpo : ∀ a, po = some a → ∃ b off, a = ⟨b, off, none⟩)
    (h63 : xs.length + news.length ≤ 1000000) (hbytes : bytes ≤ 1000) (hbase : base ≤ w.heap.size) :
    ∃ v' w', (Builtin.append_ #[T, T] ty #[v, .slice po news.length c]).run P w = .ok v' w' ∧ w'.ownsRow base E 1 v' (xs ++ news).length (xs ++ news) ∧ w.grownBy w' v.ownBlock := by
  have hmul : (xs.length + news.length) * bytes ≤ 1000000 * 1000 := Nat.mul_le_mul h63 hbytes
  cases news with
  | nil =>
    have hform : ∃ b0 cap0, v = .slice b0 xs.length cap0 ∧ xs.length ≤ cap0 := by
      rcases hown.2 with ⟨rfl, h0⟩ | ⟨g, cap, cur, rfl, _, _, hn, _⟩
      · exact ⟨none, 0, by rw [h0], by omega⟩
      · exact ⟨_, cap, rfl, hn⟩
    obtain ⟨b0, cap0, rfl, hle⟩ := hform
    have hs : Src P i.size T (.slice po 0 c) 0 [] w := by
      cases po with
      | none => exact Src.ofNil _ ht c
      | some a => exact Src.ofSlice _ ht a 0 c [] (by simp) (by simp) (by simp)
    refine ⟨_, _, run_append_nothing w T T ty E i ht hi b0 xs.length cap0 hle _ hs, ?_, grown_refl _ _⟩
    simpa using hown
  | cons y ys =>
    obtain ⟨b, off, rfl, hcell⟩ := hsrc.resolve_left (by simp)
    obtain ⟨v', w', h2, h3, h4, _⟩ := run_append_own_at (P := P) w base T ty E i z 1 bytes ht hi hz hsize hby hzs (by omega) v xs.length xs hown ⟨b, off, none⟩ (y :: ys).length c (y :: ys) (by simp)
      (fun j u hu => by
        have hadd : (⟨b, off, none⟩ : Addr).add j = ⟨b, off + j, none⟩ := by
          unfold Addr.add
          split
          · rename_i h
            subst h
            rfl
          · rfl
        rw [hadd]
        exact hcell j u hu) h1 (by unfold maxLen; omega) (by omega) hbase
    refine ⟨v', w', h2, ?_, h4⟩
    rw [List.length_append]
    exact h3
end
end
section
theorem add_bit {S x : Nat} (h : S.testBit x = false) : S + 2 ^ x = S ||| 2 ^ x := by
  have hp : 0 < 2 ^ x := Nat.two_pow_pos x
  have e1 : S = 2 ^ (x + 1) * (S / 2 ^ (x + 1)) + S % 2 ^ (x + 1) := (Nat.div_add_mod _ _).symm
  have hlo : S % 2 ^ (x + 1) < 2 ^ x := by
    have h2 : S % 2 ^ (x + 1) = S % 2 ^ x + 2 ^ x * (S / 2 ^ x % 2) := by rw [Nat.pow_succ, Nat.mod_mul]
    have h3 : S / 2 ^ x % 2 = 0 := by
      rw [Nat.testBit_eq_decide_div_mod_eq] at h
      have := of_decide_eq_false h
      omega
    rw [h2, h3]
    have := Nat.mod_lt S hp
    omega
  generalize S / 2 ^ (x + 1) = hi at e1
  generalize S % 2 ^ (x + 1) = lo at e1 hlo
  have e2 : S = 2 ^ (x + 1) * hi ||| lo := by rw [e1]; exact Nat.two_pow_add_eq_or_of_lt (Nat.lt_of_lt_of_le hlo (Nat.pow_le_pow_right (by omega) (by omega))) hi
  have e3 : 2 ^ x + lo = 2 ^ x ||| lo := by simpa using Nat.two_pow_add_eq_or_of_lt hlo 1
  have e4 : 2 ^ x + lo < 2 ^ (x + 1) := by rw [Nat.pow_succ]; omega
  have e5 := Nat.two_pow_add_eq_or_of_lt e4 hi
  rw [e2, Nat.or_assoc, Nat.or_comm lo, ← e3, ← e5, ← e2, e1]
  omega
theorem or_same {S x : Nat} (h : S.testBit x = true) : S ||| 2 ^ x = S := by
  apply Nat.eq_of_testBit_eq
  intro i
  rw [Nat.testBit_or, Nat.testBit_two_pow]
  by_cases e : x = i
  · subst e; simp [h]
  · simp [e]
theorem orL_take (L : List Nat) (k x : Nat) (h : L[k]? = some x) : orL 0 (L.take (k + 1)) = orL 0 (L.take k) ||| 2 ^ x := by
  have hk := (List.getElem?_eq_some_iff.1 h)
  obtain ⟨h1, h2⟩ := hk
  rw [List.take_succ_eq_append_getElem h1, h2]
  simp [orL]
set_option maxHeartbeats 1000000 in
theorem rof_c (w : World) (L : List Nat) (po : Option Addr) (cap : Nat) (hS : IntAt w po (L.map fun i : Nat => (i : Int))) (hn : L.length ≤ 1000) (h64 : ∀ x ∈ L, x < 64) : Same 170 #[.slice po L.length cap] w (.int .u64 (orL 0 L)) := by
  obtain ⟨n, hnl⟩ : ∃ n, L.length = n := ⟨_, rfl⟩
  have hfin : orL 0 (L.take n) = orL 0 L := by rw [← hnl, List.take_length]
  have hsn := fun k x h => Lib.hid (orL_take L k x h)
  have hlt := fun k => orL_lt (L.take k) 0 (by omega) (fun s hs => h64 s (List.mem_of_mem_take hs))
  have hzero : orL 0 (L.take 0) = 0 := rfl
  obtain ⟨F, hF⟩ : ∃ F : Nat → Nat, (fun k => orL 0 (L.take k)) = F := ⟨_, rfl⟩
  have hFx : ∀ k, orL 0 (L.take k) = F k := fun k => congrFun hF k
  simp only [hFx] at hfin hsn hlt hzero
  rw [hnl] at hn ⊢
  rw [← hfin]
  replace hnl := Lib.hid hnl
  replace hS := Lib.hid hS
  replace hfin := Lib.hid hfin
  replace hF := Lib.hid hF
  replace hzero := Lib.hid hzero
  replace h64 := Lib.hid h64
  clear hFx
  unfold Same
  go_enter Tryz.func170, Tryz.ntmps170
  go_wp2
  go_loop [3, 4] (fun s i => ∃ k : Nat, k ≤ n ∧ i = .int .i64 k ∧ s = .int .u64 (F k)) (fun _ i => n - (intOf i).toNat)
  case atStart => exact ⟨0, by omega, rfl, by rw [hzero.out]; rfl⟩
  case round =>
    obtain ⟨k, hk, rfl, rfl⟩ := hrel
    by_cases hkn : k = n
    · subst hkn
      clear hsn hlt
      go_wp2
      go_ret
      exact ⟨rfl, rfl⟩
    · have hkl : k < n := by omega
      obtain ⟨p, hp⟩ : ∃ p, L[k]? = some p := ⟨_, List.getElem?_eq_getElem (by rw [hnl.out]; exact hkl)⟩
      obtain ⟨b, off, rfl, hP⟩ := hS.out.resolve_left (by intro e; rw [List.map_eq_nil_iff] at e; rw [e] at hp; cases hp)
      have y := hP k p (by rw [List.getElem?_map, hp]; rfl)
      have p64 := h64.out p (List.mem_of_getElem? hp)
      have hs := hsn k p hp
      have hl := hlt k
      have c := fun W => Lib.hid (rhas_c W (F k) (hlt k) p)
      simp only [show (decide (0 ≤ (p : Int)) && decide ((p : Int) < 64) && (F k).testBit (p : Int).toNat) = (F k).testBit p by simp; omega] at c
      obtain ⟨S, hSk⟩ : ∃ S, F k = S := ⟨_, rfl⟩
      rw [hSk] at hs hl c ⊢
      replace hp := Lib.hid hp
      replace hP := Lib.hid hP
      replace hSk := Lib.hid hSk
      have hpw := wrap_pow p64
      clear hkn hsn hlt
      cases ht : S.testBit p
      · rw [ht] at c
        have e1 : IntKind.u64.wrap ((S : Int) + ((2 ^ p : Nat) : Int)) = ((S ||| 2 ^ p : Nat) : Int) := by
          rw [← add_bit ht]
          have h2 := or64 hl (pow64 p64)
          rw [← add_bit ht] at h2
          generalize 2 ^ p = T at h2 ⊢
          rw [← Int.natCast_add]
          exact IntWalk.u64_in _ ⟨by omega, by omega⟩
        replace ht := Lib.hid ht
        replace e1 := Lib.hid e1
        replace hpw := Lib.hid hpw
        go_wp2_with fail
        refine (c _).out.mono ?_
        rintro e _ ⟨rfl, rfl⟩
        go_wp2_with fail
        go_round
        case rel => exact ⟨k + 1, by omega, by go_num, by rw [hs.out, ← e1.out, ← hpw.out]⟩
        case measure => simp [intOf]; omega
      · rw [ht] at c
        have e1 := Lib.hid (or_same ht)
        replace ht := Lib.hid ht
        replace hpw := Lib.hid hpw
        go_wp2_with fail
        refine (c _).out.mono ?_
        rintro e _ ⟨rfl, rfl⟩
        go_wp2_with fail
        go_round
        case rel => exact ⟨k + 1, by omega, by go_num, by rw [hs.out, e1.out]⟩
        case measure => simp [intOf]; omega
end
section
theorem any_miss {P : Int → Bool} {ps : List Int} {n : Nat} (hn : ps.length = n) (h : ∀ j x, j < n → ps[j]? = some x → P x = false) : ps.any P = false := by
  rw [← Bool.not_eq_true, List.any_eq_true]
  rintro ⟨x, hx, hp⟩
  obtain ⟨j, hj⟩ := List.getElem?_of_mem hx
  rw [h j x (by rw [← hn]; exact (List.getElem?_eq_some_iff.1 hj).1) hj] at hp
  cases hp
theorem any_hit {P : Int → Bool} {ps : List Int} {k : Nat} {x : Int} (h : ps[k]? = some x) (hp : P x = true) : ps.any P = true := List.any_eq_true.2 ⟨x, List.mem_of_getElem? h, hp⟩
set_option maxHeartbeats 1000000 in
theorem rbvalid_c (w : World) (f r : Int) (ps : List Int) (po : Option Addr) (cap : Nat) (hS : SlcAt w po ps) (hn : ps.length ≤ 1000) : Pure 110 #[bdV f r po ps.length cap] w (.bool (bvalid f r ps)) := by
  have c1 := fun W => Lib.hid (rsize_c W f r)
  have c2 := fun W p => Lib.hid (rpvalid_c W p)
  obtain ⟨n, hnl⟩ : ∃ n, ps.length = n := ⟨_, rfl⟩
  obtain ⟨B, hBe⟩ : ∃ B, w.heap.size = B := ⟨_, rfl⟩
  unfold bdV bvalid
  rw [hnl] at hn ⊢
  have hmiss := fun h => Lib.hid (any_miss (P := badB) hnl h)
  have hhit := fun k x h1 h2 => Lib.hid (any_hit (P := badB) (ps := ps) (k := k) (x := x) h1 h2)
  obtain ⟨R, hR⟩ : ∃ R, ps.any badB = R := ⟨_, rfl⟩
  rw [hR] at hmiss ⊢
  simp only [hR] at hhit
  replace hR := Lib.hid hR
  replace hnl := Lib.hid hnl
  replace hS := Lib.hid hS
  unfold Pure
  rw [hBe]
  cases hv : vsize f r
  · rw [hv] at c1
    replace hv := Lib.hid hv
    go_enter Tryz.func110, Tryz.ntmps110
    go_wp2_with fail
    refine start1Bc hBe ?_
    intro V hN hX x
    have y0 := fun z : Ext V.heap.size V => cell_of (below_blk z.2 (hN).out) 0 _ rfl
    have y1 := fun z : Ext V.heap.size V => cell_of (below_blk z.2 (hN).out) 1 _ rfl
    have y2 := fun z : Ext V.heap.size V => cell_of (below_blk z.2 (hN).out) 2 _ rfl
    refine (Pure.st (c1 _).out).mono ?_
    rintro e _ ⟨rfl, x, rfl⟩
    go_wp2_with fail
    go_ret
    exact ⟨rfl, (hX.out x).1⟩
  · rw [hv] at c1
    obtain ⟨m1, m2⟩ := vsize_mul hv
    replace hv := Lib.hid hv
    by_cases he : (n : Int) = f * r
    · have he2 : ((n : Int) == f * r) = true := by simpa using he
      have he3 : ((n : Int) != f * r) = false := by simpa using he
      rw [he2]
      replace he := Lib.hid he
      replace he2 := Lib.hid he2
      go_enter Tryz.func110, Tryz.ntmps110
      go_wp2_with fail
      refine start1Bc hBe ?_
      intro V hN hX x
      have y0 := fun z : Ext V.heap.size V => cell_of (below_blk z.2 (hN).out) 0 _ rfl
      have y1 := fun z : Ext V.heap.size V => cell_of (below_blk z.2 (hN).out) 1 _ rfl
      have y2 := fun z : Ext V.heap.size V => cell_of (below_blk z.2 (hN).out) 2 _ rfl
      refine (Pure.st (c1 _).out).mono ?_
      rintro e _ ⟨rfl, x, rfl⟩
      go_wp2_with fail
      go_loopw [3] (fun i wr => ∃ (k : Nat) (x : Ext V.heap.size V), wr = x.1 ∧ k ≤ n ∧ i = .int .i64 k ∧ ∀ j x, j < k → ps[j]? = some x → badB x = false) (fun i _ => n - (intOf i).toNat)
      case atStart => exact ⟨0, x, rfl, by omega, rfl, fun j x h => absurd h (by omega)⟩
      case round =>
        clear x
        obtain ⟨k, x, rfl, hk, rfl, hpre⟩ := hrel
        by_cases hkn : k = n
        · have hf := hmiss (by rw [← hkn]; exact hpre)
          replace hf := hf.out
          subst hf
          subst hkn
          clear hhit hpre hmiss c1 c2
          go_wp2
          go_ret
          exact ⟨rfl, (hX.out x).1⟩
        · have hkl : k < n := by omega
          obtain ⟨q, hq⟩ : ∃ q, ps[k]? = some q := ⟨_, List.getElem?_eq_getElem (by rw [hnl.out]; exact hkl)⟩
          obtain ⟨b, off, rfl, hP⟩ := hS.out.resolve_left (by intro e; rw [e] at hq; cases hq)
          have z0 := fun z : Ext V.heap.size V => below_at (hX.out z).2.2 (hP k q hq)
          replace c2 := fun W => c2 W q
          replace hq := Lib.hid hq
          replace hP := Lib.hid hP
          replace hpre := Lib.hid hpre
          clear hmiss hkn c1
          cases ht : badB q
          · rw [ht] at c2
            replace ht := Lib.hid ht
            clear hhit
            go_wp2_with fail
            refine (c2 _).out.mono ?_
            rintro e _ ⟨rfl, rfl⟩
            go_wp2_with fail
            go_roundw
            case rel => exact ⟨k + 1, x, rfl, by omega, by go_num, fun j x hj hx => by
              rcases Nat.lt_or_ge j k with h | h
              · exact hpre.out j x h hx
              · obtain rfl : j = k := by omega
                rw [hq.out] at hx; cases hx; exact ht.out⟩
            case measure => simp [intOf]; omega
          · rw [ht] at c2
            have hf := (hhit k q hq.out ht).out
            subst hf
            replace ht := Lib.hid ht
            clear hhit
            go_wp2_with fail
            refine (c2 _).out.mono ?_
            rintro e _ ⟨rfl, rfl⟩
            go_wp2_with fail
            go_ret
            exact ⟨rfl, (hX.out x).1⟩
    · have he2 : ((n : Int) == f * r) = false := by simpa using he
      have he3 : ((n : Int) != f * r) = true := by simpa using he
      rw [he2]
      replace he := Lib.hid he
      replace he2 := Lib.hid he2
      go_enter Tryz.func110, Tryz.ntmps110
      go_wp2_with fail
      refine start1Bc hBe ?_
      intro V hN hX x
      have y0 := fun z : Ext V.heap.size V => cell_of (below_blk z.2 (hN).out) 0 _ rfl
      have y1 := fun z : Ext V.heap.size V => cell_of (below_blk z.2 (hN).out) 1 _ rfl
      have y2 := fun z : Ext V.heap.size V => cell_of (below_blk z.2 (hN).out) 2 _ rfl
      refine (Pure.st (c1 _).out).mono ?_
      rintro e _ ⟨rfl, x, rfl⟩
      go_wp2_with fail
      go_ret
      exact ⟨rfl, (hX.out x).1⟩
set_option maxHeartbeats 1000000 in
theorem rorth_c (w : World) (f r : Int) (ps : List Int) (po : Option Addr) (cap : Nat) (hS : SlcAt w po ps) (hn : ps.length ≤ 1000) : Pure 63 #[bdV f r po ps.length cap] w (.bool (orthB f r ps)) := by
  obtain ⟨B, hBe⟩ : ∃ B, w.heap.size = B := ⟨_, rfl⟩
  have c1 := Lib.hid (fun W (hW : Below w.heap.size w W) => rbvalid_c W f r ps po cap (hS.below hW) hn)
  have c2 := fun W p => Lib.hid (rporth_c W p)
  obtain ⟨n, hnl⟩ : ∃ n, ps.length = n := ⟨_, rfl⟩
  unfold bdV at c1 ⊢
  unfold orthB
  rw [hnl] at hn c1 ⊢
  have hmiss := fun h => Lib.hid (any_miss (P := unorthB) hnl h)
  have hhit := fun k x h1 h2 => Lib.hid (any_hit (P := unorthB) (ps := ps) (k := k) (x := x) h1 h2)
  obtain ⟨R, hR⟩ : ∃ R, ps.any unorthB = R := ⟨_, rfl⟩
  rw [hR] at hmiss ⊢
  simp only [hR] at hhit
  replace hR := Lib.hid hR
  replace hnl := Lib.hid hnl
  replace hS := Lib.hid hS
  unfold Pure
  rw [hBe]
  cases hv : bvalid f r ps
  · rw [hv] at c1
    replace hv := Lib.hid hv
    go_enter Tryz.func63, Tryz.ntmps63
    go_wp2_with fail
    refine start1Bc hBe ?_
    intro V hN hX x
    have y0 := fun z : Ext V.heap.size V => cell_of (below_blk z.2 (hN).out) 0 _ rfl
    have y1 := fun z : Ext V.heap.size V => cell_of (below_blk z.2 (hN).out) 1 _ rfl
    have y2 := fun z : Ext V.heap.size V => cell_of (below_blk z.2 (hN).out) 2 _ rfl
    refine (Pure.st (c1.out _ (hX.out x).2.2)).mono ?_
    rintro e _ ⟨rfl, x, rfl⟩
    go_wp2_with fail
    go_ret
    exact ⟨rfl, (hX.out x).1⟩
  · rw [hv] at c1
    replace hv := Lib.hid hv
    go_enter Tryz.func63, Tryz.ntmps63
    go_wp2_with fail
    refine start1Bc hBe ?_
    intro V hN hX x
    have y0 := fun z : Ext V.heap.size V => cell_of (below_blk z.2 (hN).out) 0 _ rfl
    have y1 := fun z : Ext V.heap.size V => cell_of (below_blk z.2 (hN).out) 1 _ rfl
    have y2 := fun z : Ext V.heap.size V => cell_of (below_blk z.2 (hN).out) 2 _ rfl
    refine (Pure.st (c1.out _ (hX.out x).2.2)).mono ?_
    rintro e _ ⟨rfl, x, rfl⟩
    go_wp2_with fail
    go_loopw [3] (fun i wr => ∃ (k : Nat) (x : Ext V.heap.size V), wr = x.1 ∧ k ≤ n ∧ i = .int .i64 k ∧ ∀ j x, j < k → ps[j]? = some x → unorthB x = false) (fun i _ => n - (intOf i).toNat)
    case atStart => exact ⟨0, x, rfl, by omega, rfl, fun j x h => absurd h (by omega)⟩
    case round =>
      clear x
      obtain ⟨k, x, rfl, hk, rfl, hpre⟩ := hrel
      by_cases hkn : k = n
      · have hf := hmiss (by rw [← hkn]; exact hpre)
        replace hf := hf.out
        subst hf
        subst hkn
        clear hhit hpre hmiss c1 c2
        go_wp2
        go_ret
        exact ⟨rfl, (hX.out x).1⟩
      · have hkl : k < n := by omega
        obtain ⟨q, hq⟩ : ∃ q, ps[k]? = some q := ⟨_, List.getElem?_eq_getElem (by rw [hnl.out]; exact hkl)⟩
        obtain ⟨b, off, rfl, hP⟩ := hS.out.resolve_left (by intro e; rw [e] at hq; cases hq)
        have z0 := fun z : Ext V.heap.size V => below_at (hX.out z).2.2 (hP k q hq)
        replace c2 := fun W => c2 W q
        replace hpre := Lib.hid hpre
        clear hmiss hkn c1
        by_cases hq0 : q = 0
        · subst hq0
          replace hq := Lib.hid hq
          replace hP := Lib.hid hP
          clear hhit c2
          go_wp2_with fail
          go_roundw
          case rel => exact ⟨k + 1, x, rfl, by omega, by go_num, fun j x hj hx => by
            rcases Nat.lt_or_ge j k with h | h
            · exact hpre.out j x h hx
            · obtain rfl : j = k := by omega
              rw [hq.out] at hx; cases hx; rfl⟩
          case measure => simp [intOf]; omega
        · have hu : unorthB q = !rorthP q := by unfold unorthB rorthP; simp [hq0]
          have hqn : (q != 0) = true := by simpa using hq0
          have hqe : (q == 0) = false := by simpa using hq0
          replace hq := Lib.hid hq
          replace hP := Lib.hid hP
          replace hu := Lib.hid hu
          clear hq0
          cases ht : rorthP q
          · rw [ht] at c2
            have hf := (hhit k q hq.out (by rw [hu.out, ht]; rfl)).out
            subst hf
            replace ht := Lib.hid ht
            clear hhit
            go_wp2_with fail
            refine (c2 _).out.mono ?_
            rintro e _ ⟨rfl, rfl⟩
            go_wp2_with fail
            go_ret
            exact ⟨rfl, (hX.out x).1⟩
          · rw [ht] at c2
            replace ht := Lib.hid ht
            clear hhit
            go_wp2_with fail
            refine (c2 _).out.mono ?_
            rintro e _ ⟨rfl, rfl⟩
            go_wp2_with fail
            go_roundw
            case rel => exact ⟨k + 1, x, rfl, by omega, by go_num, fun j x hj hx => by
              rcases Nat.lt_or_ge j k with h | h
              · exact hpre.out j x h hx
              · obtain rfl : j = k := by omega
                rw [hq.out] at hx; cases hx; rw [hu.out, ht.out]; rfl⟩
            case measure => simp [intOf]; omega
end
section
def idxN (P : Int → Bool) (ps : List Int) (k : Nat) : List Nat := (List.range k).filter fun i => P (ps.getD i 0)
theorem idxL_N (P : Int → Bool) (ps : List Int) (k : Nat) : idxL P ps k = (idxN P ps k).map fun i : Nat => (i : Int) := rfl
theorem orL_or (l : List Nat) : ∀ S, orL S l = S ||| orL 0 l := by
  induction l with
  | nil => intro S; simp [orL]
  | cons a l ih =>
    intro S
    have e : ∀ T, orL T (a :: l) = orL (T ||| 2 ^ a) l := fun T => rfl
    rw [e, e, ih, ih (0 ||| 2 ^ a), Nat.zero_or, Nat.or_assoc]
theorem orL_app (a b : List Nat) : orL 0 (a ++ b) = orL 0 a ||| orL 0 b := by
  have : orL 0 (a ++ b) = orL (orL 0 a) b := by simp [orL]
  rw [this, orL_or]
theorem orL_where (P : Int → Bool) (ps : List Int) (k : Nat) : orL 0 (idxN P ps k) = whereS P ps k := by
  induction k with
  | zero => rfl
  | succ k ih =>
    rw [whereS_snoc, ← ih]
    unfold idxN
    rw [List.range_succ, List.filter_append, orL_app]
    cases h : P (ps.getD k 0)
    · rw [List.filter_cons, if_neg (by rw [h]; simp)]
      simp [orL]
    · rw [List.filter_cons, if_pos h]
      simp [orL]
theorem sgn_white : (fun q => sgnI q == 1) = whiteB := by
  funext q
  unfold sgnI whiteB
  rw [Bool.eq_iff_iff]
  simp
  split <;> (try split) <;> omega
theorem sgn_black : (fun q => sgnI q == -1) = blackB := by
  funext q
  unfold sgnI blackB
  rw [Bool.eq_iff_iff]
  simp
  split <;> (try split) <;> omega
theorem idxN_lt {P : Int → Bool} {ps : List Int} {k i : Nat} (h : i ∈ idxN P ps k) : i < k := by
  unfold idxN at h
  exact List.mem_range.1 (List.mem_filter.1 h).1
theorem idxN_len (P : Int → Bool) (ps : List Int) (k : Nat) : (idxN P ps k).length ≤ k := by
  unfold idxN
  exact Nat.le_trans (List.length_filter_le _ _) (by simp)
theorem run_append_ints {ty : TypeId} {base b2 : Nat} {w : World} {v x : Value} {A L : List Int} (hown : w.ownsRow base 3 1 v A.length (A.map intV)) (hx : w.ownsRow b2 3 1 x L.length (L.map intV)) (h63 : A.length + L.length ≤ 1000000) (hbase : base ≤ w.heap.size) :
    ∃ v' w', (Builtin.append_ #[136, 136] ty #[v, x]).run Tryz.prog w = .ok v' w' ∧ w'.ownsRow base 3 1 v' (A ++ L).length ((A ++ L).map intV) ∧ w.grownBy w' v.ownBlock := by
  obtain ⟨i0, hi, hz0, hz1, hz2⟩ := info_parts Tryz.infoInt
  obtain ⟨po, cap, rfl, hI, _, _⟩ := own_ints hx
  have h := run_append_any (P := Tryz.prog) (ty := ty) (po := po) (c := cap) (xs := A.map intV) (news := L.map intV) Tryz.underlying136 hi hz0 hz1 hz2 rfl (by rw [List.length_map]; exact hown)
    (by
      rcases hI with h | ⟨b, off, h1, h2⟩
      · exact .inl (by rw [h]; rfl)
      · exact .inr ⟨b, off, h1, fun j u hu => by
          rw [List.getElem?_map] at hu
          cases hq : L[j]? with
          | none => rw [hq] at hu; cases hu
          | some q => rw [hq] at hu; cases hu; exact h2 j q hq⟩)
    (by intro u hu; obtain ⟨q, _, rfl⟩ := List.mem_map.1 hu; rfl)
    (by
      intro a ha
      rcases hx.2 with ⟨h, _⟩ | ⟨g, c, cur, h, _⟩
      · simp only [Value.slice.injEq] at h
        rw [h.1] at ha
        cases ha
      · simp only [Value.slice.injEq] at h
        rw [h.1] at ha
        cases ha
        exact ⟨_, _, rfl⟩)
    (by simpa using h63) (by omega) hbase
  simpa using h
set_option maxHeartbeats 1000000 in
theorem rocc_c (w : World) (f r : Int) (ps : List Int) (po : Option Addr) (cap : Nat) (hS : SlcAt w po ps) (hn : ps.length ≤ 64) : Pure 144 #[bdV f r po ps.length cap] w (.int .u64 (occS ps)) := by
  obtain ⟨i0, hi, hz0, hz1, hz2⟩ := info_parts Tryz.infoInt
  obtain ⟨B, hBe⟩ : ∃ B, w.heap.size = B := ⟨_, rfl⟩
  have c1 := Lib.hid (fun W (hW : Below w.heap.size w W) => rside3_c W f r ps po cap (hS.below hW) (by omega) 1)
  have c2 := Lib.hid (fun W (hW : Below w.heap.size w W) => rside3_c W f r ps po cap (hS.below hW) (by omega) (-1))
  have hocc : occS ps = orL 0 (idxN whiteB ps ps.length ++ idxN blackB ps ps.length) := by rw [orL_app, orL_where, orL_where]; rfl
  rw [hocc]
  rw [sgn_white, idxL_N] at c1
  rw [sgn_black, idxL_N] at c2
  have h64 : ∀ x ∈ idxN whiteB ps ps.length ++ idxN blackB ps ps.length, x < 64 := fun x hx => by
    rcases List.mem_append.1 hx with h | h
    · have := idxN_lt h; omega
    · have := idxN_lt h; omega
  have hl1 := idxN_len whiteB ps ps.length
  have hl2 := idxN_len blackB ps ps.length
  generalize idxN whiteB ps ps.length = L1 at *
  generalize idxN blackB ps ps.length = L2 at *
  obtain ⟨L, hL⟩ : ∃ L, L1 ++ L2 = L := ⟨_, rfl⟩
  obtain ⟨m, hm⟩ : ∃ m, L.length = m := ⟨_, rfl⟩
  have hm2 : m ≤ 2 * ps.length := by rw [← hm, ← hL, List.length_append]; omega
  rw [hL] at h64 ⊢
  replace hL := Lib.hid hL
  replace hm := Lib.hid hm
  obtain ⟨n, hnl⟩ : ∃ n, ps.length = n := ⟨_, rfl⟩
  unfold bdV at c1 c2 ⊢
  rw [hnl] at hn c1 c2 hl1 hl2 hm2 ⊢
  unfold Pure
  rw [hBe]
  clear hocc hnl hS
  go_enter Tryz.func144, Tryz.ntmps144
  go_wp2_with fail
  refine start1B hBe ?_
  intro V hN hX x
  have hS : ∃ y : Ext V.heap.size V, x.1.drew = y.1 := ⟨⟨_, x.2.drew⟩, rfl⟩
  have hld : ∀ w' : World, (∃ y : Ext V.heap.size V, w' = y.1) → w'.heap[B]? = some (.cells #[.int .i64 f, .int .i64 r, .slice po n cap] 40 (0, 0)) := fun w' ⟨y, hy⟩ => hy ▸ below_blk y.2 hN.out
  refine wp_region_held (S := fun w' => ∃ y : Ext V.heap.size V, w' = y.1) (by kernel_rfl) ?_
  refine wpAnyH_take (i := 0) rfl (by kernel_rfl) (by kernel_rfl) (by kernel_rfl) (fun _ _ _ h => h) (yields_row 40 (.tmp 1) rfl rfl B (by go_simp) 40 #[.int .i64 f, .int .i64 r, .slice po n cap] (0, 0) _ hld Tryz.underlying40 rfl (by kernel_rfl)) hS ?_
  refine wpAnyH_take (i := 3) rfl (by kernel_rfl) (by kernel_rfl) (by kernel_rfl) (fun _ _ _ h => h) (yields_row 40 (.tmp 1) rfl rfl B (by go_simp) 40 #[.int .i64 f, .int .i64 r, .slice po n cap] (0, 0) _ hld Tryz.underlying40 rfl (by kernel_rfl)) hS ?_
  clear hld
  refine wpAnyH_only (i := 1) (by kernel_rfl) rfl (by rfl) ?_
  intro K hK
  unfold Oper.wp
  go_simp
  refine (c1.out _ ((hX.out x).2.2.drew)).mono ?_
  rintro e V1 ⟨v1, rfl, hown1, hV1⟩
  have hx1 : Below V.heap.size V V1 := x.2.trans ((below_undrew hV1).mono x.2.size)
  refine hK _ _ ⟨⟨V1, hx1⟩, rfl⟩ ?_
  clear hK K c1
  replace hown1 := own_mono hown1 (show V.heap.size ≤ x.1.drew.heap.size from x.2.size)
  clear hV1 hS x
  have hs1 := hx1.size
  obtain ⟨v2, V2, hr, hown2, hg⟩ := run_append_ints (ty := 136) (A := []) (World.ownsRow_nil V1 V.heap.size _ 1) hown1 (by simp; omega) hs1
  have hx2 : Below V.heap.size V V2 := below_row hx1 hs1 (World.ownsRow_nil V1 V.heap.size 3 1) hg
  refine anyH_append (i := 2) _ _ 136 (by kernel_rfl) rfl (by rfl) rfl rfl rfl hr ⟨⟨V2, hx2⟩, rfl⟩ ?_
  clear hr hg hown1 hx1 hs1 V1
  have hs2 := hx2.size
  refine wpAnyH_only (i := 4) (by kernel_rfl) rfl (by rfl) ?_
  intro K hK
  unfold Oper.wp
  go_simp
  refine (c2.out _ ((hX.out ⟨V2, hx2⟩).2.2)).mono ?_
  rintro e V3 ⟨v3, rfl, hown3, hV3⟩
  have hx3 : Below V.heap.size V V3 := hx2.trans (hV3.mono hs2)
  refine hK _ _ ⟨⟨V3, hx3⟩, rfl⟩ ?_
  clear hK K c2
  replace hown2 := own_below hown2 hV3
  replace hown3 := own_mono hown3 (show V.heap.size ≤ V2.heap.size from hs2)
  clear hV3 hx2 hs2
  have hs3 := hx3.size
  obtain ⟨v4, V4, hr, hown4, hg⟩ := run_append_ints (ty := 136) hown2 hown3 (by simp; omega) hs3
  have hx4 : Below V.heap.size V V4 := below_row hx3 hs3 hown2 hg
  refine anyH_append (i := 5) _ _ 136 (by kernel_rfl) rfl (by rfl) rfl rfl rfl hr ⟨⟨V4, hx4⟩, rfl⟩ ?_
  clear hr hg hown2 hown3 hx3 hs3 V3 V2
  obtain ⟨po4, cap4, rfl, hI4, _, _⟩ := own_ints hown4
  rw [List.nil_append, ← List.map_append, hL.out] at hI4
  rw [List.nil_append, ← List.map_append, List.length_map, hL.out, hm.out]
  have c6 := rof_c V4 L po4 cap4 hI4 (by rw [hm.out]; omega) h64
  rw [hm.out] at c6
  refine wpAnyH_only (i := 6) (by kernel_rfl) rfl (by rfl) ?_
  intro K hK
  unfold Oper.wp
  go_simp
  refine c6.mono ?_
  rintro e _ ⟨rfl, rfl⟩
  refine hK _ _ ⟨⟨V4, hx4⟩, rfl⟩ ?_
  clear hK K hI4 hown4 c6
  refine wpAnyH_only (i := 7) (by kernel_rfl) rfl (by rfl) ?_
  intro K hK
  unfold Oper.wp
  go_simp
  refine hK _ _ ⟨⟨V4, hx4⟩, rfl⟩ ?_
  clear hK K
  refine wpAnyH_done (by kernel_rfl) ?_ _
  go_simp
  go_wp2
  go_ret
  exact ⟨rfl, (hX.out ⟨V4, hx4⟩).1⟩
end
section
def lineB (f a b : Int) : Bool := !(a == b) && (b % f - a % f == 0 || b / f - a / f == 0 || b % f - a % f == b / f - a / f || b % f - a % f + (b / f - a / f) == 0)
def lineV (f a b : Int) : Value := if lineB f a b then .tuple #[.int .i64 (sgnI (b % f - a % f)), .int .i64 (sgnI (b / f - a / f)), .bool true] else .tuple #[.int .i64 0, .int .i64 0, .bool false]
set_option maxHeartbeats 1000000 in
theorem rline_c (w : World) (f r a b : Int) (hv : vsize f r = true) (a0 : 0 ≤ a) (a1 : a ≤ 1000) (b0 : 0 ≤ b) (b1 : b ≤ 1000) : Pure 196 #[.agg #[.int .i64 f, .int .i64 r], .int .i64 a, .int .i64 b] w (lineV f a b) := by
  obtain ⟨f1, f2, _, _⟩ := vsize_bd hv
  have m1 := Int.emod_nonneg a (show f ≠ 0 by omega)
  have m2 := Int.emod_lt_of_pos a (show 0 < f by omega)
  have m3 := Int.emod_nonneg b (show f ≠ 0 by omega)
  have m4 := Int.emod_lt_of_pos b (show 0 < f by omega)
  have m5 := Int.ediv_nonneg a0 (show 0 ≤ f by omega)
  have m6 := Int.ediv_le_self f a0
  have m7 := Int.ediv_nonneg b0 (show 0 ≤ f by omega)
  have m8 := Int.ediv_le_self f b0
  have c1 := fun W => rplace_c W f r a hv a0 (by omega)
  have c2 := fun W => rplace_c W f r b hv b0 (by omega)
  unfold pointV at c1 c2
  have hT : (a ≠ b ∧ (b % f - a % f = 0 ∨ b / f - a / f = 0 ∨ b % f - a % f = b / f - a / f ∨ b % f - a % f + (b / f - a / f) = 0)) → lineV f a b = .tuple #[.int .i64 (sgnI (b % f - a % f)), .int .i64 (sgnI (b / f - a / f)), .bool true] := fun h => by unfold lineV; rw [if_pos (by simpa [lineB, or_assoc] using h)]
  have hF : ¬ (a ≠ b ∧ (b % f - a % f = 0 ∨ b / f - a / f = 0 ∨ b % f - a % f = b / f - a / f ∨ b % f - a % f + (b / f - a / f) = 0)) → lineV f a b = .tuple #[.int .i64 0, .int .i64 0, .bool false] := fun h => by unfold lineV; rw [if_neg (by intro h2; exact h (by simpa [lineB, or_assoc] using h2))]
  obtain ⟨Rv, hRv⟩ : ∃ R, lineV f a b = R := ⟨_, rfl⟩
  rw [hRv] at hT hF ⊢
  clear hRv
  obtain ⟨af, haf⟩ : ∃ x, a % f = x := ⟨_, rfl⟩
  obtain ⟨bf, hbf⟩ : ∃ x, b % f = x := ⟨_, rfl⟩
  obtain ⟨ar, har⟩ : ∃ x, a / f = x := ⟨_, rfl⟩
  obtain ⟨br, hbr⟩ : ∃ x, b / f = x := ⟨_, rfl⟩
  simp only [haf, hbf, har, hbr] at *
  clear haf hbf har hbr
  replace hT := Lib.hid hT
  replace hF := Lib.hid hF
  unfold Pure
  go_enter Tryz.func196, Tryz.ntmps196
  go_wp2_with fail
  refine start1r ?_
  intro V hB hN x
  refine two_agg (B0 := (x).1.heap.size) rfl (by kernel_rfl) (by kernel_rfl) (tS := 23) (tI := 3) (tP := 85) (fid := 67) (va := .int .i64 a) (vb := .int .i64 b) (bx := 3) (xa := 1) (xb := 2) (d0 := 13) (d1 := 14) (d2 := 15) (d3 := 16) (d4 := 17) (d5 := 18) (p := 9) (q := 10) (by kernel_rfl) (by kernel_rfl) (by decide) (by rfl) (by decide) rfl (below_blk (x).2 (hN).out) Tryz.underlying23 rfl (by kernel_rfl) (by intro b h; cases h) (by intro b h; cases h) rfl rfl (fun W _ => c1 W) (fun W _ => c2 W) alloc_pt call_place rfl rfl (by kernel_rfl) (by simp [Value.oneCell']) (by simp [Value.oneCell']) ?_
  intro p q V2 hp hq hpq hP hQ hW
  clear hp hq hpq
  replace hP := Lib.hid hP
  replace hQ := Lib.hid hQ
  replace hN := Lib.hid (below_blk hW (below_blk x.2 hN.out))
  replace hB := Lib.hid (hB.out.trans ((x.2.trans (hW.mono x.2.size)).mono hB.out.size))
  clear hW x
  obtain ⟨V, hVe⟩ : ∃ V, V = V2 := ⟨_, rfl⟩
  subst hVe
  go_frame
  go_wp2_with fail
  clear c1 c2
  have e1 : IntKind.i64.wrap (bf - af) = bf - af := IntWalk.i64_in _ (by omega)
  have e2 : IntKind.i64.wrap (br - ar) = br - ar := IntWalk.i64_in _ (by omega)
  refine start0r ?_
  intro x
  have u0 := fun z : Ext V.heap.size V => cell_of (below_blk z.2 (hP).out) 0 _ rfl
  have u1 := fun z : Ext V.heap.size V => cell_of (below_blk z.2 (hP).out) 1 _ rfl
  have v0 := fun z : Ext V.heap.size V => cell_of (below_blk z.2 (hQ).out) 0 _ rfl
  have v1 := fun z : Ext V.heap.size V => cell_of (below_blk z.2 (hQ).out) 1 _ rfl
  refine ext_region' (by kernel_rfl) (by kernel_rfl) ?_
  repeat (first | (go_big_quiet_step ((fail))) | ((refine wpQuiet_step (fun K hK => ?_)); go_simp; (refine ⟨_, fun _ => rfl, hK _ ?_⟩); clear hK K))
  refine wpQuiet_nil ?_
  intro x
  clear e1 e2 u0 u1 v0 v1
  obtain ⟨df, hdf⟩ : ∃ d, bf - af = d := ⟨_, rfl⟩
  obtain ⟨dr, hdr⟩ : ∃ d, br - ar = d := ⟨_, rfl⟩
  replace hT := hT.out
  replace hF := hF.out
  rw [hdf, hdr] at hT hF ⊢
  replace hT := Lib.hid hT
  replace hF := Lib.hid hF
  have d1 : -1000 ≤ df ∧ df ≤ 1000 := by omega
  have d2 : -1000 ≤ dr ∧ dr ≤ 1000 := by omega
  obtain ⟨d1, d1'⟩ := d1
  obtain ⟨d2, d2'⟩ := d2
  clear m1 m2 m3 m4 m5 m6 m7 m8 hdf hdr
  go_wp2_with fail
  all_goals first
    | (go_ret3; exact ⟨by first | exact congrArg Ending.returned (hT.out (by first | omega | (simp only [bne_iff_ne, bne_eq_false_iff_eq, ne_eq] at *; omega))).symm | (rw [hT.out (by first | omega | (simp only [bne_iff_ne, bne_eq_false_iff_eq, ne_eq] at *; omega))]; simp [*]; done) | exact congrArg Ending.returned (hF.out (by first | omega | (simp only [bne_iff_ne, bne_eq_false_iff_eq, ne_eq] at *; omega))).symm, ext_end hB.out _⟩)
    | (refine (rsign_c _ _).mono ?_
       rintro e _ ⟨rfl, rfl⟩
       go_wp2_with fail
       refine (rsign_c _ _).mono ?_
       rintro e _ ⟨rfl, rfl⟩
       go_wp2
       go_ret3
       exact ⟨by first | exact congrArg Ending.returned (hT.out (by first | omega | (simp only [bne_iff_ne, bne_eq_false_iff_eq, ne_eq] at *; omega))).symm | (rw [hT.out (by first | omega | (simp only [bne_iff_ne, bne_eq_false_iff_eq, ne_eq] at *; omega))]; simp [*]; done) | exact congrArg Ending.returned (hF.out (by first | omega | (simp only [bne_iff_ne, bne_eq_false_iff_eq, ne_eq] at *; omega))).symm, ext_end hB.out _⟩)
def rayI (f r a dx dy : Int) : List Int := (rayL f r a dx dy).map fun i : Nat => (i : Int)
theorem numI_on {f r x y : Int} (hv : vsize f r = true) (h : onB f r x y = true) : numI f r x y = ((sqn f x y : Nat) : Int) := by
  unfold numI
  rw [if_pos h, (sqn_lt hv h).2]
  omega
theorem numI_off {f r x y : Int} (h : onB f r x y = false) : numI f r x y = -1 := by
  unfold numI
  rw [if_neg (by rw [h]; simp)]
theorem small_mul (j : Nat) (d : Int) (hj : j ≤ 7) (h1 : -1 ≤ d) (h2 : d ≤ 1) : -8 ≤ ((j : Int) + 1) * d ∧ ((j : Int) + 1) * d ≤ 8 := by
  obtain rfl | rfl | rfl : d = -1 ∨ d = 0 ∨ d = 1 := by omega
  · omega
  · omega
  · omega
set_option maxHeartbeats 1000000 in
theorem rray_c (w : World) (f r a dx dy : Int) (hq : vsq f r a = true) (d1 : -1 ≤ dx) (d2 : dx ≤ 1) (d3 : -1 ≤ dy) (d4 : dy ≤ 1) (d0 : dx ≠ 0 ∨ dy ≠ 0) :
    Ints 220 #[.agg #[.int .i64 f, .int .i64 r], .int .i64 a, .int .i64 dx, .int .i64 dy] w (rayI f r a dx dy) := by
  obtain ⟨i0, hi, hz0, hz1, hz2⟩ := info_parts Tryz.infoInt
  obtain ⟨hv, a0, a1⟩ := vsq_bd hq
  obtain ⟨f1, f2, r1, r2⟩ := vsize_bd hv
  obtain ⟨k1, k2⟩ := vsize_mul hv
  have m1 := Int.emod_nonneg a (show f ≠ 0 by omega)
  have m2 := Int.emod_lt_of_pos a (show 0 < f by omega)
  have m5 := Int.ediv_nonneg a0 (show 0 ≤ f by omega)
  have m6 := Int.ediv_le_self f a0
  obtain ⟨B, hBe⟩ : ∃ B, w.heap.size = B := ⟨_, rfl⟩
  have c1 := fun W => Lib.hid (rsq_c W f r a)
  rw [hq] at c1
  have c2 := fun W => Lib.hid (rplace_c W f r a hv a0 (by omega))
  have c3 := fun W x y => Lib.hid (fun h1 h2 h3 h4 => rnum_c W f r x y hv h1 h2 h3 h4)
  unfold pointV at c2
  unfold rayI rayL Ints
  rw [hBe]
  obtain ⟨af, haf⟩ : ∃ x, a % f = x := ⟨_, rfl⟩
  obtain ⟨ar, har⟩ : ∃ x, a / f = x := ⟨_, rfl⟩
  simp only [haf, har] at *
  obtain ⟨R, hR⟩ : ∃ R, rayN f r dx dy 8 af ar = R := ⟨_, rfl⟩
  rw [hR]
  have hand : ¬ (dx = 0 ∧ dy = 0) := by omega
  replace hR := Lib.hid hR
  replace hq := Lib.hid hq
  replace hv := Lib.hid hv
  replace m6 : ar ≤ 64 := by omega
  clear haf har a0 a1 d0
  by_cases hx0 : dx = 0
  · have hx0' : (dx == 0) = true := by simpa using hx0
    have hy0 : (dy == 0) = false := by simp; omega
    replace hx0 := Lib.hid hx0
    replace hand := Lib.hid hand
    go_enter Tryz.func220, Tryz.ntmps220
    go_wp2_with fail
    refine start1Bc hBe ?_
    intro V hN hX x
    have y0 := fun z : Ext V.heap.size V => cell_of (below_blk z.2 (hN).out) 0 _ rfl
    have y1 := fun z : Ext V.heap.size V => cell_of (below_blk z.2 (hN).out) 1 _ rfl
    refine (Pure.st (c1 _).out).mono ?_
    rintro e _ ⟨rfl, x, rfl⟩
    go_wp2_with fail
    refine (Pure.st (c2 _).out).mono ?_
    rintro e _ ⟨rfl, x, rfl⟩
    go_wp2_with (refine store_row 85 (.tmp 9) (.tmp 27) rfl rfl #[.int .i64 af, .int .i64 ar] rfl (by rfl) _ (blk_new rfl _) rfl sizePt (by simp [Value.oneCell']) ?_)
    refine laid_row #[.int .i64 af, .int .i64 ar] rfl rfl ?_
    intro G V2 hG hGV hV2 hP
    rw [hG]
    replace hX := Lib.hid (fun z : Ext V2.heap.size V2 => (show Below B w z.1 ∧ B < z.1.heap.size ∧ Below w.heap.size w z.1 from hX.out ⟨z.1, hV2.trans (z.2.mono hV2.size)⟩))
    replace hN := Lib.hid (below_blk hV2 hN.out)
    replace hP := Lib.hid hP
    clear y0 y1 hV2 hGV hG x c1 c2
    obtain ⟨V, hVe⟩ : ∃ V, V = V2 := ⟨_, rfl⟩
    subst hVe
    refine start0r ?_
    intro x
    have y0 := fun z : Ext V.heap.size V => cell_of (below_blk z.2 (hN).out) 0 _ rfl
    have y1 := fun z : Ext V.heap.size V => cell_of (below_blk z.2 (hN).out) 1 _ rfl
    have u0 := fun z : Ext V.heap.size V => cell_of (below_blk z.2 (hP).out) 0 _ rfl
    have u1 := fun z : Ext V.heap.size V => cell_of (below_blk z.2 (hP).out) 1 _ rfl
    go_loopw [10, 11] (fun v i wr => ∃ (j : Nat) (u : Value) (pre : List Nat) (x : Ext V.heap.size V), wr = x.1 ∧ u = v ∧ j ≤ 8 ∧ i = .int .i64 ((j : Int) + 1) ∧ pre.length = j ∧ R = pre ++ rayN f r dx dy (8 - j) (af + j * dx) (ar + j * dy) ∧ x.1.ownsRow V.heap.size 3 1 u (pre.map fun i : Nat => (i : Int)).length ((pre.map fun i : Nat => (i : Int)).map intV)) (fun _ i _ => 9 - (intOf i).toNat)
    case atStart => exact ⟨0, _, [], x, rfl, rfl, by omega, rfl, rfl, by rw [← hR.out]; simp, World.ownsRow_nil _ _ _ _⟩
    case round =>
      clear x
      obtain ⟨j, u, pre, x, rfl, rfl, hj, rfl, hlen, hpre, hown⟩ := hrel
      by_cases hj8 : j = 8
      · subst hj8
        have hfin : R = pre := by rw [hpre]; simp [rayN]
        replace hpre := Lib.hid hpre
        replace hlen := Lib.hid hlen
        go_wp2_with fail
        go_ret
        refine ⟨u, rfl, ?_, (hX.out x).1⟩
        rw [hfin]
        exact own_mono hown (by have := (hX.out ⟨V, Below.refl _ _⟩).2.1; exact Nat.le_of_lt this)
      · have hj7 : j ≤ 7 := by omega
        obtain ⟨p1, p2⟩ := small_mul j dx hj7 d1 d2
        obtain ⟨p3, p4⟩ := small_mul j dy hj7 d3 d4
        have hd : decide ((j : Int) + 1 ≤ 8) = true := by simp; omega
        have ex : af + (j : Int) * dx + dx = af + ((j : Int) + 1) * dx := by rw [Int.add_mul]; omega
        have ey : ar + (j : Int) * dy + dy = ar + ((j : Int) + 1) * dy := by rw [Int.add_mul]; omega
        have hstep : rayN f r dx dy (8 - j) (af + j * dx) (ar + j * dy) = if onB f r (af + ((j : Int) + 1) * dx) (ar + ((j : Int) + 1) * dy) then sqn f (af + ((j : Int) + 1) * dx) (ar + ((j : Int) + 1) * dy) :: rayN f r dx dy (8 - (j + 1)) (af + ((j : Int) + 1) * dx) (ar + ((j : Int) + 1) * dy) else [] := by
          rw [show 8 - j = (8 - (j + 1)) + 1 by omega, rayN, ex, ey]
        have c := fun W => (c3 W (af + ((j : Int) + 1) * dx) (ar + ((j : Int) + 1) * dy)).out (by omega) (by omega) (by omega) (by omega)
        have hon := @numI_on f r (af + ((j : Int) + 1) * dx) (ar + ((j : Int) + 1) * dy) hv.out
        have hoff := @numI_off f r (af + ((j : Int) + 1) * dx) (ar + ((j : Int) + 1) * dy)
        replace c := fun W => Lib.hid (c W)
        rw [hstep] at hpre
        have hBx := x.2.size
        clear ex ey hstep c3 hj8
        replace hown := Lib.hid hown
        replace hlen := Lib.hid hlen
        cases ho : onB f r (af + ((j : Int) + 1) * dx) (ar + ((j : Int) + 1) * dy)
        · rw [ho] at hpre
          replace hoff := hoff ho
          rw [hoff] at c
          have hfin : R = pre := by rw [hpre]; simp
          replace hpre := Lib.hid hpre
          replace ho := Lib.hid ho
          clear hon hoff
          go_wp2_with fail
          refine (c _).out.mono ?_
          rintro e W2 ⟨rfl, hW⟩
          replace hown := Lib.hid (own_below hown.out hW)
          obtain ⟨z, rfl⟩ : ∃ z : Ext V.heap.size V, z.1 = W2 := ⟨⟨W2, x.2.trans (hW.mono x.2.size)⟩, rfl⟩
          clear hW
          have hBz := z.2.size
          go_wp2_with fail
          go_ret
          refine ⟨u, rfl, ?_, (hX.out z).1⟩
          rw [hfin]
          exact own_mono hown.out (by have := (hX.out ⟨V, Below.refl _ _⟩).2.1; exact Nat.le_of_lt this)
        · rw [ho] at hpre
          replace hon := hon ho
          rw [hon] at c
          clear hoff hon
          obtain ⟨sq, hsq⟩ : ∃ sq, sqn f (af + ((j : Int) + 1) * dx) (ar + ((j : Int) + 1) * dy) = sq := ⟨_, rfl⟩
          rw [hsq] at c hpre
          simp only [if_true] at hpre
          have hneg : (((sq : Nat) : Int) < 0) = False := by simp
          replace hpre := Lib.hid hpre
          replace ho := Lib.hid ho
          replace hsq := Lib.hid hsq
          go_wp2_with fail
          refine (c _).out.mono ?_
          rintro e W2 ⟨rfl, hW⟩
          replace hown := Lib.hid (own_below hown.out hW)
          obtain ⟨z, rfl⟩ : ∃ z : Ext V.heap.size V, z.1 = W2 := ⟨⟨W2, x.2.trans (hW.mono x.2.size)⟩, rfl⟩
          clear hW
          have hBz := z.2.size
          have hl7 : (pre.map fun i : Nat => (i : Int)).length ≤ 8 := by rw [List.length_map, hlen.out]; omega
          go_wp2_with (at_builtin; refine wpList_append_lies _ rfl _ _ 136 rfl V.heap.size 3 i0 (.int .i64 0) 1 8 Tryz.underlying136 hi hz0 hz1 hz2 rfl (by decide) _ _ _ rfl ((hown).out.alloc _) ⟨z.1.heap.size, 0, none⟩ 1 1 [.int .i64 sq] rfl rfl (World.news_of_block (blk_new rfl _)) (by intro u hu; simp at hu; subst hu; rfl) (by omega) (by unfold maxLen; omega) (by omega) (by simp; omega) _ rfl ?_; intro g cap w1 hown' hgrow hat hlt)
          go_roundw
          case rel => exact ⟨j + 1, _, pre ++ [sq], ⟨w1, below_row (z.2.alloc hBz _) (by simp; omega) (hown.out.alloc _) hgrow⟩, rfl, rfl, by omega, by simp, by rw [List.length_append, hlen.out]; rfl, by rw [hpre.out, List.append_assoc]; rfl, by simpa [intV] using hown'⟩
          case measure => simp [intOf]; omega
  · have hx0' : (dx == 0) = false := by simpa using hx0
    replace hx0 := Lib.hid hx0
    replace hand := Lib.hid hand
    go_enter Tryz.func220, Tryz.ntmps220
    go_wp2_with fail
    refine start1Bc hBe ?_
    intro V hN hX x
    have y0 := fun z : Ext V.heap.size V => cell_of (below_blk z.2 (hN).out) 0 _ rfl
    have y1 := fun z : Ext V.heap.size V => cell_of (below_blk z.2 (hN).out) 1 _ rfl
    refine (Pure.st (c1 _).out).mono ?_
    rintro e _ ⟨rfl, x, rfl⟩
    go_wp2_with fail
    refine (Pure.st (c2 _).out).mono ?_
    rintro e _ ⟨rfl, x, rfl⟩
    go_wp2_with (refine store_row 85 (.tmp 9) (.tmp 27) rfl rfl #[.int .i64 af, .int .i64 ar] rfl (by rfl) _ (blk_new rfl _) rfl sizePt (by simp [Value.oneCell']) ?_)
    refine laid_row #[.int .i64 af, .int .i64 ar] rfl rfl ?_
    intro G V2 hG hGV hV2 hP
    rw [hG]
    replace hX := Lib.hid (fun z : Ext V2.heap.size V2 => (show Below B w z.1 ∧ B < z.1.heap.size ∧ Below w.heap.size w z.1 from hX.out ⟨z.1, hV2.trans (z.2.mono hV2.size)⟩))
    replace hN := Lib.hid (below_blk hV2 hN.out)
    replace hP := Lib.hid hP
    clear y0 y1 hV2 hGV hG x c1 c2
    obtain ⟨V, hVe⟩ : ∃ V, V = V2 := ⟨_, rfl⟩
    subst hVe
    refine start0r ?_
    intro x
    have y0 := fun z : Ext V.heap.size V => cell_of (below_blk z.2 (hN).out) 0 _ rfl
    have y1 := fun z : Ext V.heap.size V => cell_of (below_blk z.2 (hN).out) 1 _ rfl
    have u0 := fun z : Ext V.heap.size V => cell_of (below_blk z.2 (hP).out) 0 _ rfl
    have u1 := fun z : Ext V.heap.size V => cell_of (below_blk z.2 (hP).out) 1 _ rfl
    go_loopw [10, 11] (fun v i wr => ∃ (j : Nat) (u : Value) (pre : List Nat) (x : Ext V.heap.size V), wr = x.1 ∧ u = v ∧ j ≤ 8 ∧ i = .int .i64 ((j : Int) + 1) ∧ pre.length = j ∧ R = pre ++ rayN f r dx dy (8 - j) (af + j * dx) (ar + j * dy) ∧ x.1.ownsRow V.heap.size 3 1 u (pre.map fun i : Nat => (i : Int)).length ((pre.map fun i : Nat => (i : Int)).map intV)) (fun _ i _ => 9 - (intOf i).toNat)
    case atStart => exact ⟨0, _, [], x, rfl, rfl, by omega, rfl, rfl, by rw [← hR.out]; simp, World.ownsRow_nil _ _ _ _⟩
    case round =>
      clear x
      obtain ⟨j, u, pre, x, rfl, rfl, hj, rfl, hlen, hpre, hown⟩ := hrel
      by_cases hj8 : j = 8
      · subst hj8
        have hfin : R = pre := by rw [hpre]; simp [rayN]
        replace hpre := Lib.hid hpre
        replace hlen := Lib.hid hlen
        go_wp2_with fail
        go_ret
        refine ⟨u, rfl, ?_, (hX.out x).1⟩
        rw [hfin]
        exact own_mono hown (by have := (hX.out ⟨V, Below.refl _ _⟩).2.1; exact Nat.le_of_lt this)
      · have hj7 : j ≤ 7 := by omega
        obtain ⟨p1, p2⟩ := small_mul j dx hj7 d1 d2
        obtain ⟨p3, p4⟩ := small_mul j dy hj7 d3 d4
        have hd : decide ((j : Int) + 1 ≤ 8) = true := by simp; omega
        have ex : af + (j : Int) * dx + dx = af + ((j : Int) + 1) * dx := by rw [Int.add_mul]; omega
        have ey : ar + (j : Int) * dy + dy = ar + ((j : Int) + 1) * dy := by rw [Int.add_mul]; omega
        have hstep : rayN f r dx dy (8 - j) (af + j * dx) (ar + j * dy) = if onB f r (af + ((j : Int) + 1) * dx) (ar + ((j : Int) + 1) * dy) then sqn f (af + ((j : Int) + 1) * dx) (ar + ((j : Int) + 1) * dy) :: rayN f r dx dy (8 - (j + 1)) (af + ((j : Int) + 1) * dx) (ar + ((j : Int) + 1) * dy) else [] := by
          rw [show 8 - j = (8 - (j + 1)) + 1 by omega, rayN, ex, ey]
        have c := fun W => (c3 W (af + ((j : Int) + 1) * dx) (ar + ((j : Int) + 1) * dy)).out (by omega) (by omega) (by omega) (by omega)
        have hon := @numI_on f r (af + ((j : Int) + 1) * dx) (ar + ((j : Int) + 1) * dy) hv.out
        have hoff := @numI_off f r (af + ((j : Int) + 1) * dx) (ar + ((j : Int) + 1) * dy)
        replace c := fun W => Lib.hid (c W)
        rw [hstep] at hpre
        have hBx := x.2.size
        clear ex ey hstep c3 hj8
        replace hown := Lib.hid hown
        replace hlen := Lib.hid hlen
        cases ho : onB f r (af + ((j : Int) + 1) * dx) (ar + ((j : Int) + 1) * dy)
        · rw [ho] at hpre
          replace hoff := hoff ho
          rw [hoff] at c
          have hfin : R = pre := by rw [hpre]; simp
          replace hpre := Lib.hid hpre
          replace ho := Lib.hid ho
          clear hon hoff
          go_wp2_with fail
          refine (c _).out.mono ?_
          rintro e W2 ⟨rfl, hW⟩
          replace hown := Lib.hid (own_below hown.out hW)
          obtain ⟨z, rfl⟩ : ∃ z : Ext V.heap.size V, z.1 = W2 := ⟨⟨W2, x.2.trans (hW.mono x.2.size)⟩, rfl⟩
          clear hW
          have hBz := z.2.size
          go_wp2_with fail
          go_ret
          refine ⟨u, rfl, ?_, (hX.out z).1⟩
          rw [hfin]
          exact own_mono hown.out (by have := (hX.out ⟨V, Below.refl _ _⟩).2.1; exact Nat.le_of_lt this)
        · rw [ho] at hpre
          replace hon := hon ho
          rw [hon] at c
          clear hoff hon
          obtain ⟨sq, hsq⟩ : ∃ sq, sqn f (af + ((j : Int) + 1) * dx) (ar + ((j : Int) + 1) * dy) = sq := ⟨_, rfl⟩
          rw [hsq] at c hpre
          simp only [if_true] at hpre
          have hneg : (((sq : Nat) : Int) < 0) = False := by simp
          replace hpre := Lib.hid hpre
          replace ho := Lib.hid ho
          replace hsq := Lib.hid hsq
          go_wp2_with fail
          refine (c _).out.mono ?_
          rintro e W2 ⟨rfl, hW⟩
          replace hown := Lib.hid (own_below hown.out hW)
          obtain ⟨z, rfl⟩ : ∃ z : Ext V.heap.size V, z.1 = W2 := ⟨⟨W2, x.2.trans (hW.mono x.2.size)⟩, rfl⟩
          clear hW
          have hBz := z.2.size
          have hl7 : (pre.map fun i : Nat => (i : Int)).length ≤ 8 := by rw [List.length_map, hlen.out]; omega
          go_wp2_with (at_builtin; refine wpList_append_lies _ rfl _ _ 136 rfl V.heap.size 3 i0 (.int .i64 0) 1 8 Tryz.underlying136 hi hz0 hz1 hz2 rfl (by decide) _ _ _ rfl ((hown).out.alloc _) ⟨z.1.heap.size, 0, none⟩ 1 1 [.int .i64 sq] rfl rfl (World.news_of_block (blk_new rfl _)) (by intro u hu; simp at hu; subst hu; rfl) (by omega) (by unfold maxLen; omega) (by omega) (by simp; omega) _ rfl ?_; intro g cap w1 hown' hgrow hat hlt)
          go_roundw
          case rel => exact ⟨j + 1, _, pre ++ [sq], ⟨w1, below_row (z.2.alloc hBz _) (by simp; omega) (hown.out.alloc _) hgrow⟩, rfl, rfl, by omega, by simp, by rw [List.length_append, hlen.out]; rfl, by rw [hpre.out, List.append_assoc]; rfl, by simpa [intV] using hown'⟩
          case measure => simp [intOf]; omega
end
section
def betw (R : List Int) (b : Int) : List Int := if R.contains b then R.takeWhile (fun x => x != b) else []
theorem betw_hit {R : List Int} {b : Int} {k : Nat} (hk : R[k]? = some b) (h : ∀ j x, j < k → R[j]? = some x → (x == b) = false) : betw R b = R.take k := by
  unfold betw
  rw [if_pos (List.contains_iff_mem.2 (List.mem_of_getElem? hk))]
  induction R generalizing k with
  | nil => simp at hk
  | cons y R ih =>
    cases k with
    | zero =>
      simp at hk
      subst hk
      simp
    | succ k =>
      have h0 := h 0 y (by omega) rfl
      rw [List.takeWhile_cons, if_pos (by simp only [bne_iff_ne, ne_eq]; simpa using h0), List.take_succ_cons]
      rw [ih (k := k) (by simpa using hk) (fun j x hj hx => h (j + 1) x (by omega) (by simpa using hx))]
theorem betw_miss {R : List Int} {b : Int} {n : Nat} (hn : R.length = n) (h : ∀ j x, j < n → R[j]? = some x → (x == b) = false) : betw R b = [] := by
  unfold betw
  rw [if_neg]
  intro hc
  obtain ⟨j, hj⟩ := List.getElem?_of_mem (List.contains_iff_mem.1 hc)
  have := h j b (by rw [← hn]; exact (List.getElem?_eq_some_iff.1 hj).1) hj
  simp at this
theorem own_prefix {w : World} {B : Nat} {g cap n i : Nat} {L : List Int} (h : w.ownsRow B 3 1 (.slice (some ⟨g, 0, none⟩) n cap) n (L.map intV)) (hi : i ≤ n) :
    w.ownsRow B 3 1 (.slice (some ⟨g, 0, none⟩) i cap) (L.take i).length ((L.take i).map intV) := by
  rcases h.2 with ⟨h0, _⟩ | ⟨g', cap', cur, hv, hb, hg, hn, hc, hs, ht⟩
  · cases h0
  · cases hv
    have hl : L.length = n := by have := h.1; rw [List.length_map] at this; omega
    have hli : (L.take i).length = i := by rw [List.length_take]; omega
    refine ⟨by rw [List.length_map, hli]; omega, .inr ⟨g, cap, cur, by rw [hli], hb, hg, by omega, hc, hs, ?_⟩⟩
    rw [hli, Nat.mul_one, List.map_take, ← ht, List.take_take]
    congr 1
    omega
def betwI (f r a b : Int) : List Int := betw (rayI f r a (sgnI (b % f - a % f)) (sgnI (b / f - a / f))) b
theorem sgn_bd (x : Int) : -1 ≤ sgnI x ∧ sgnI x ≤ 1 ∧ (x ≠ 0 → sgnI x ≠ 0) := by
  unfold sgnI
  split
  · omega
  · split <;> omega
theorem pt_eq {f a b : Int} (h1 : a % f = b % f) (h2 : a / f = b / f) : a = b := by
  rw [← Int.mul_ediv_add_emod a f, ← Int.mul_ediv_add_emod b f, h1, h2]
theorem rayI_len (f r a dx dy : Int) : (rayI f r a dx dy).length ≤ 8 := by
  unfold rayI rayL
  rw [List.length_map]
  exact rayN_len f r dx dy 8 _ _
set_option maxHeartbeats 1000000 in
theorem rbetw_c (w : World) (f r a b : Int) (hq : vsq f r a = true) (b0 : 0 ≤ b) (b1 : b ≤ 1000) (hl : lineB f a b = true) :
    Ints 198 #[.agg #[.int .i64 f, .int .i64 r], .int .i64 a, .int .i64 b] w (betwI f r a b) := by
  obtain ⟨hv, a0, a1⟩ := vsq_bd hq
  obtain ⟨f1, f2, r1, r2⟩ := vsize_bd hv
  obtain ⟨k1, k2⟩ := vsize_mul hv
  obtain ⟨B, hBe⟩ : ∃ B, w.heap.size = B := ⟨_, rfl⟩
  have c1 := fun W => Lib.hid (rline_c W f r a b hv a0 (by omega) b0 b1)
  unfold lineV at c1
  rw [hl] at c1
  simp only [if_true] at c1
  have hne : b % f - a % f ≠ 0 ∨ b / f - a / f ≠ 0 := by
    have hab : a ≠ b := by
      intro e
      unfold lineB at hl
      simp [e] at hl
    rcases Decidable.em (b % f - a % f = 0) with h | h
    · right
      intro h2
      exact hab (pt_eq (f := f) (by omega) (by omega))
    · exact .inl h
  unfold betwI
  obtain ⟨s1, s2, s3⟩ := sgn_bd (b % f - a % f)
  obtain ⟨t1, t2, t3⟩ := sgn_bd (b / f - a / f)
  have h0 : sgnI (b % f - a % f) ≠ 0 ∨ sgnI (b / f - a / f) ≠ 0 := hne.imp s3 t3
  clear s3 t3 hne hl
  generalize sgnI (b % f - a % f) = dx at *
  generalize sgnI (b / f - a / f) = dy at *
  have c2 := fun W => Lib.hid (rray_c W f r a dx dy hq s1 s2 t1 t2 h0)
  have hlen := rayI_len f r a dx dy
  obtain ⟨R, hR⟩ : ∃ R, rayI f r a dx dy = R := ⟨_, rfl⟩
  simp only [hR] at c2 hlen ⊢
  have hhit := fun k h1 h2 => Lib.hid (betw_hit (R := R) (b := b) (k := k) h1 h2)
  have hmiss := fun h => Lib.hid (betw_miss (R := R) (b := b) rfl h)
  unfold Ints at c2 ⊢
  rw [hBe]
  generalize betw R b = T at *
  obtain ⟨n, hn⟩ : ∃ n, R.length = n := ⟨_, rfl⟩
  simp only [hn] at c2 hmiss hlen
  replace hn := Lib.hid hn
  replace hR := Lib.hid hR
  clear hq hv h0 k1 k2 a0 a1 s1 s2 t1 t2
  go_enter Tryz.func198, Tryz.ntmps198
  go_wp2_with fail
  refine start1Bc hBe ?_
  intro V hN hX x
  have y0 := fun z : Ext V.heap.size V => cell_of (below_blk z.2 (hN).out) 0 _ rfl
  have y1 := fun z : Ext V.heap.size V => cell_of (below_blk z.2 (hN).out) 1 _ rfl
  refine (Pure.st (c1 _).out).mono ?_
  rintro e _ ⟨rfl, x, rfl⟩
  go_wp2_with fail
  refine (c2 _).out.mono ?_
  rintro e W2 ⟨v, rfl, hown, hW⟩
  obtain ⟨z, rfl⟩ : ∃ z : Ext V.heap.size V, z.1 = W2 := ⟨⟨W2, x.2.trans (hW.mono x.2.size)⟩, rfl⟩
  replace hown := own_mono hown x.2.size
  clear hW x c1 c2
  obtain ⟨po, cap, rfl, hI, hc1, hc2⟩ : ∃ po cap, v = .slice po n cap ∧ IntAt z.1 po R ∧ n ≤ cap ∧ cap ≤ 9223372036854775807 := by
    obtain ⟨po, cap, h1, h2, h3, h4⟩ := own_ints (by rw [← hn.out] at hown; exact hown)
    rw [hn.out] at h1 h3
    exact ⟨po, cap, h1, h2, h3, h4⟩
  replace hown := Lib.hid hown
  replace hI := Lib.hid hI
  go_wp2_with fail
  go_loop [11] (fun i => ∃ k : Nat, k ≤ n ∧ i = .int .i64 k ∧ ∀ j x, j < k → R[j]? = some x → (x == b) = false) (fun i => n - (intOf i).toNat)
  case atStart => exact ⟨0, by omega, rfl, fun j x h => absurd h (by omega)⟩
  case round =>
    obtain ⟨k, hk, rfl, hpre⟩ := hrel
    replace hpre := Lib.hid hpre
    by_cases hkn : k = n
    · have hf := (hmiss (by rw [← hkn]; exact hpre.out)).out
      subst hkn
      subst hf
      clear hhit hmiss
      go_wp2
      go_ret
      exact ⟨_, rfl, World.ownsRow_nil _ _ _ _, (hX.out z).1⟩
    · have hkl : k < n := by omega
      obtain ⟨p, hp⟩ : ∃ p, R[k]? = some p := ⟨_, List.getElem?_eq_getElem (by rw [hn.out]; exact hkl)⟩
      obtain ⟨g, off, rfl, hP⟩ := hI.out.resolve_left (by intro e; rw [e] at hp; cases hp)
      have yk := hP k p hp
      replace hp := Lib.hid hp
      replace hP := Lib.hid hP
      clear hmiss hkn
      cases ht : (p == b)
      · replace ht2 := Lib.hid ht
        clear hhit
        go_wp2
        go_round
        case rel => exact ⟨k + 1, by omega, by go_num, fun j x hj hx => by
          rcases Nat.lt_or_ge j k with h | h
          · exact hpre.out j x h hx
          · obtain rfl : j = k := by omega
            rw [hp.out] at hx; cases hx; exact ht2.out⟩
        case measure => simp [intOf]; omega
      · have hf := hhit k (by rw [hp.out]; simpa using ht) hpre.out
        clear hhit
        obtain ⟨rfl⟩ : off = 0 := by
          rcases hown.out.2 with ⟨h, _⟩ | ⟨g', c', cur, h, _⟩
          · cases h
          · cases h; rfl
        rw [Nat.zero_add] at yk
        go_wp2
        go_ret
        refine ⟨_, rfl, ?_, (hX.out z).1⟩
        rw [hf.out]
        exact own_mono (own_prefix hown.out hk) (by have := (hX.out ⟨V, Below.refl _ _⟩).2.1; exact Nat.le_of_lt this)
end
section
def freeB (L : List Int) (occ : Nat) : Bool := L.all fun x => !(decide (0 ≤ x) && decide (x < 64) && occ.testBit x.toNat)
def reachB (f r k a b : Int) (occ : Nat) : Bool :=
  if k = 2 then (b % f - a % f) * (b % f - a % f) + (b / f - a / f) * (b / f - a / f) == 5 else if k = 6 then distI f a b == 1
  else lineB f a b && (k == 5 || ((b % f - a % f == 0 || b / f - a / f == 0) == (k == 4))) && freeB (betwI f r a b) occ
theorem beq_beq {x a y b : Int} : ((x == a) = (y == b)) ↔ (x = a ↔ y = b) := by
  rw [Bool.eq_iff_iff, beq_iff_eq, beq_iff_eq]
theorem sq_bd (x : Int) (h1 : -1000 ≤ x) (h2 : x ≤ 1000) : 0 ≤ x * x ∧ x * x ≤ 1000000 := by
  have h3 : x * x = (x.natAbs * x.natAbs : Nat) := Int.natAbs_mul_self.symm
  have h4 : x.natAbs ≤ 1000 := by omega
  have h5 : x.natAbs * x.natAbs ≤ 1000 * 1000 := Nat.mul_le_mul h4 h4
  omega
set_option maxHeartbeats 1000000 in
theorem rreach2 (w : World) (f r a b : Int) (occ : Nat) (hq : vsq f r a = true) (b0 : 0 ≤ b) (b1 : b ≤ 64) :
    Pure 173 #[.agg #[.int .i64 f, .int .i64 r], .int .i8 2, .int .i64 a, .int .i64 b, .int .u64 occ] w (.bool ((b % f - a % f) * (b % f - a % f) + (b / f - a / f) * (b / f - a / f) == 5)) := by
  obtain ⟨hv, a0, a1⟩ := vsq_bd hq
  obtain ⟨k1, k2⟩ := vsize_mul hv
  obtain ⟨f1, f2, _, _⟩ := vsize_bd hv
  have m1 := Int.emod_nonneg a (show f ≠ 0 by omega)
  have m2 := Int.emod_lt_of_pos a (show 0 < f by omega)
  have m3 := Int.emod_nonneg b (show f ≠ 0 by omega)
  have m4 := Int.emod_lt_of_pos b (show 0 < f by omega)
  have m5 := Int.ediv_nonneg a0 (show 0 ≤ f by omega)
  have m6 := Int.ediv_le_self f a0
  have m7 := Int.ediv_nonneg b0 (show 0 ≤ f by omega)
  have m8 := Int.ediv_le_self f b0
  have c1 := fun W => rplace_c W f r a hv a0 (by omega)
  have c2 := fun W => rplace_c W f r b hv b0 (by omega)
  unfold pointV at c1 c2
  have a64 : a ≤ 64 := by omega
  obtain ⟨B, hBe⟩ : ∃ B, w.heap.size = B := ⟨_, rfl⟩
  unfold Pure
  rw [hBe]
  obtain ⟨af, haf⟩ : ∃ x, a % f = x := ⟨_, rfl⟩
  obtain ⟨bf, hbf⟩ : ∃ x, b % f = x := ⟨_, rfl⟩
  obtain ⟨ar, har⟩ : ∃ x, a / f = x := ⟨_, rfl⟩
  obtain ⟨br, hbr⟩ : ∃ x, b / f = x := ⟨_, rfl⟩
  simp only [haf, hbf, har, hbr] at *
  clear haf hbf har hbr
  replace hq := Lib.hid hq
  replace hv := Lib.hid hv
  go_enter Tryz.func173, Tryz.ntmps173
  go_wp2_with fail
  refine start1B hBe ?_
  intro V hN hX x
  refine two_agg (B0 := (x).1.heap.size) rfl (by kernel_rfl) (by kernel_rfl) (tS := 23) (tI := 3) (tP := 85) (fid := 67) (va := .int .i64 a) (vb := .int .i64 b) (bx := 5) (xa := 2) (xb := 3) (d0 := 19) (d1 := 20) (d2 := 21) (d3 := 22) (d4 := 23) (d5 := 24) (p := 11) (q := 12) (by kernel_rfl) (by kernel_rfl) (by decide) (by rfl) (by decide) rfl (below_blk (x).2 (hN).out) Tryz.underlying23 rfl (by kernel_rfl) (by intro b h; cases h) (by intro b h; cases h) rfl rfl (fun W _ => c1 W) (fun W _ => c2 W) alloc_pt call_place rfl rfl (by kernel_rfl) (by simp [Value.oneCell']) (by simp [Value.oneCell']) ?_
  intro p q V2 hp hq hpq hP hQ hW
  clear hp hq hpq
  replace hP := Lib.hid hP
  replace hQ := Lib.hid hQ
  replace hN := Lib.hid (below_blk hW (below_blk x.2 hN.out))
  replace hX := Lib.hid (fun z : Ext V2.heap.size V2 => (show Below B w z.1 ∧ B < z.1.heap.size ∧ Below w.heap.size w z.1 from hX.out ⟨z.1, (x.2.trans (hW.mono x.2.size)).trans (z.2.mono (x.2.trans (hW.mono x.2.size)).size)⟩))
  clear hW x
  obtain ⟨V, hVe⟩ : ∃ V, V = V2 := ⟨_, rfl⟩
  subst hVe
  go_frame
  go_wp2_with fail
  clear c1 c2
  have e1 : IntKind.i64.wrap (bf - af) = bf - af := IntWalk.i64_in _ (by omega)
  have e2 : IntKind.i64.wrap (br - ar) = br - ar := IntWalk.i64_in _ (by omega)
  refine start0r ?_
  intro x
  have u0 := fun z : Ext V.heap.size V => cell_of (below_blk z.2 (hP).out) 0 _ rfl
  have u1 := fun z : Ext V.heap.size V => cell_of (below_blk z.2 (hP).out) 1 _ rfl
  have v0 := fun z : Ext V.heap.size V => cell_of (below_blk z.2 (hQ).out) 0 _ rfl
  have v1 := fun z : Ext V.heap.size V => cell_of (below_blk z.2 (hQ).out) 1 _ rfl
  refine ext_region' (by kernel_rfl) (by kernel_rfl) ?_
  repeat (first | (go_big_quiet_step ((fail))) | ((refine wpQuiet_step (fun K hK => ?_)); go_simp; (refine ⟨_, fun _ => rfl, hK _ ?_⟩); clear hK K))
  refine wpQuiet_nil ?_
  intro x
  clear e1 e2 u0 u1 v0 v1
  have y0 := fun z : Ext V.heap.size V => cell_of (below_blk z.2 (hN).out) 0 _ rfl
  have y1 := fun z : Ext V.heap.size V => cell_of (below_blk z.2 (hN).out) 1 _ rfl
  obtain ⟨df, hdf⟩ : ∃ d, bf - af = d := ⟨_, rfl⟩
  obtain ⟨dr, hdr⟩ : ∃ d, br - ar = d := ⟨_, rfl⟩
  have q1 := sq_bd df (by omega) (by omega)
  have q2 := sq_bd dr (by omega) (by omega)
  rw [hdf, hdr]
  obtain ⟨q1, q1'⟩ := q1
  obtain ⟨q2, q2'⟩ := q2
  replace hdf := Lib.hid hdf
  replace hdr := Lib.hid hdr
  clear m1 m2 m3 m4 m5 m6 m7 m8
  go_wp2
  go_ret
  exact ⟨by rw [hdf.out, hdr.out]; rfl, (hX.out x).1⟩
set_option maxHeartbeats 1000000 in
theorem rreach6 (w : World) (f r a b : Int) (occ : Nat) (hq : vsq f r a = true) (b0 : 0 ≤ b) (b1 : b ≤ 64) :
    Pure 173 #[.agg #[.int .i64 f, .int .i64 r], .int .i8 6, .int .i64 a, .int .i64 b, .int .u64 occ] w (.bool (distI f a b == 1)) := by
  obtain ⟨hv, a0, a1⟩ := vsq_bd hq
  obtain ⟨k1, k2⟩ := vsize_mul hv
  obtain ⟨f1, f2, _, _⟩ := vsize_bd hv
  have m1 := Int.emod_nonneg a (show f ≠ 0 by omega)
  have m2 := Int.emod_lt_of_pos a (show 0 < f by omega)
  have m3 := Int.emod_nonneg b (show f ≠ 0 by omega)
  have m4 := Int.emod_lt_of_pos b (show 0 < f by omega)
  have m5 := Int.ediv_nonneg a0 (show 0 ≤ f by omega)
  have m6 := Int.ediv_le_self f a0
  have m7 := Int.ediv_nonneg b0 (show 0 ≤ f by omega)
  have m8 := Int.ediv_le_self f b0
  have c1 := fun W => rplace_c W f r a hv a0 (by omega)
  have c2 := fun W => rplace_c W f r b hv b0 (by omega)
  unfold pointV at c1 c2
  have a64 : a ≤ 64 := by omega
  have c3 := fun W => Lib.hid (rdist_c W f r a b hv a0 (by omega) b0 (by omega))
  generalize distI f a b = D at *
  obtain ⟨B, hBe⟩ : ∃ B, w.heap.size = B := ⟨_, rfl⟩
  unfold Pure
  rw [hBe]
  obtain ⟨af, haf⟩ : ∃ x, a % f = x := ⟨_, rfl⟩
  obtain ⟨bf, hbf⟩ : ∃ x, b % f = x := ⟨_, rfl⟩
  obtain ⟨ar, har⟩ : ∃ x, a / f = x := ⟨_, rfl⟩
  obtain ⟨br, hbr⟩ : ∃ x, b / f = x := ⟨_, rfl⟩
  simp only [haf, hbf, har, hbr] at *
  clear haf hbf har hbr
  replace hq := Lib.hid hq
  replace hv := Lib.hid hv
  go_enter Tryz.func173, Tryz.ntmps173
  go_wp2_with fail
  refine start1B hBe ?_
  intro V hN hX x
  refine two_agg (B0 := (x).1.heap.size) rfl (by kernel_rfl) (by kernel_rfl) (tS := 23) (tI := 3) (tP := 85) (fid := 67) (va := .int .i64 a) (vb := .int .i64 b) (bx := 5) (xa := 2) (xb := 3) (d0 := 19) (d1 := 20) (d2 := 21) (d3 := 22) (d4 := 23) (d5 := 24) (p := 11) (q := 12) (by kernel_rfl) (by kernel_rfl) (by decide) (by rfl) (by decide) rfl (below_blk (x).2 (hN).out) Tryz.underlying23 rfl (by kernel_rfl) (by intro b h; cases h) (by intro b h; cases h) rfl rfl (fun W _ => c1 W) (fun W _ => c2 W) alloc_pt call_place rfl rfl (by kernel_rfl) (by simp [Value.oneCell']) (by simp [Value.oneCell']) ?_
  intro p q V2 hp hq hpq hP hQ hW
  clear hp hq hpq
  replace hP := Lib.hid hP
  replace hQ := Lib.hid hQ
  replace hN := Lib.hid (below_blk hW (below_blk x.2 hN.out))
  replace hX := Lib.hid (fun z : Ext V2.heap.size V2 => (show Below B w z.1 ∧ B < z.1.heap.size ∧ Below w.heap.size w z.1 from hX.out ⟨z.1, (x.2.trans (hW.mono x.2.size)).trans (z.2.mono (x.2.trans (hW.mono x.2.size)).size)⟩))
  clear hW x
  obtain ⟨V, hVe⟩ : ∃ V, V = V2 := ⟨_, rfl⟩
  subst hVe
  go_frame
  go_wp2_with fail
  clear c1 c2
  have e1 : IntKind.i64.wrap (bf - af) = bf - af := IntWalk.i64_in _ (by omega)
  have e2 : IntKind.i64.wrap (br - ar) = br - ar := IntWalk.i64_in _ (by omega)
  refine start0r ?_
  intro x
  have u0 := fun z : Ext V.heap.size V => cell_of (below_blk z.2 (hP).out) 0 _ rfl
  have u1 := fun z : Ext V.heap.size V => cell_of (below_blk z.2 (hP).out) 1 _ rfl
  have v0 := fun z : Ext V.heap.size V => cell_of (below_blk z.2 (hQ).out) 0 _ rfl
  have v1 := fun z : Ext V.heap.size V => cell_of (below_blk z.2 (hQ).out) 1 _ rfl
  refine ext_region' (by kernel_rfl) (by kernel_rfl) ?_
  repeat (first | (go_big_quiet_step ((fail))) | ((refine wpQuiet_step (fun K hK => ?_)); go_simp; (refine ⟨_, fun _ => rfl, hK _ ?_⟩); clear hK K))
  refine wpQuiet_nil ?_
  intro x
  clear e1 e2 u0 u1 v0 v1
  have y0 := fun z : Ext V.heap.size V => cell_of (below_blk z.2 (hN).out) 0 _ rfl
  have y1 := fun z : Ext V.heap.size V => cell_of (below_blk z.2 (hN).out) 1 _ rfl
  clear m1 m2 m3 m4 m5 m6 m7 m8
  go_wp2_with fail
  refine (Pure.st (c3 _).out).mono ?_
  rintro e _ ⟨rfl, x, rfl⟩
  go_wp2_with fail
  go_ret
  exact ⟨rfl, (hX.out x).1⟩
set_option maxRecDepth 100000 in
set_option maxHeartbeats 400000 in
theorem rreachS (w : World) (f r k a b : Int) (occ : Nat) (hq : vsq f r a = true) (b0 : 0 ≤ b) (b1 : b ≤ 64) (hk : k = 3 ∨ k = 4 ∨ k = 5) (hocc : occ < 18446744073709551616) :
    Pure 173 #[.agg #[.int .i64 f, .int .i64 r], .int .i8 k, .int .i64 a, .int .i64 b, .int .u64 occ] w
      (.bool (lineB f a b && (k == 5 || ((b % f - a % f == 0 || b / f - a / f == 0) == (k == 4))) && freeB (betwI f r a b) occ)) := by
  obtain ⟨hv, a0, a1⟩ := vsq_bd hq
  obtain ⟨k1, k2⟩ := vsize_mul hv
  obtain ⟨f1, f2, _, _⟩ := vsize_bd hv
  have m1 := Int.emod_nonneg a (show f ≠ 0 by omega)
  have m2 := Int.emod_lt_of_pos a (show 0 < f by omega)
  have m3 := Int.emod_nonneg b (show f ≠ 0 by omega)
  have m4 := Int.emod_lt_of_pos b (show 0 < f by omega)
  have m5 := Int.ediv_nonneg a0 (show 0 ≤ f by omega)
  have m6 := Int.ediv_le_self f a0
  have m7 := Int.ediv_nonneg b0 (show 0 ≤ f by omega)
  have m8 := Int.ediv_le_self f b0
  have c1 := fun W => rplace_c W f r a hv a0 (by omega)
  have c2 := fun W => rplace_c W f r b hv b0 (by omega)
  unfold pointV at c1 c2
  have a64 : a ≤ 64 := by omega
  have c3 := fun W => Lib.hid (rline_c W f r a b hv a0 (by omega) b0 (by omega))
  have c4 := fun hl W => Lib.hid (rbetw_c W f r a b hq b0 (by omega) hl)
  unfold lineV at c3
  have hLb : (betwI f r a b).length ≤ 100 := by
    unfold betwI betw
    split
    · exact Nat.le_trans (List.takeWhile_sublist _).length_le (Nat.le_trans (rayI_len _ _ _ _ _) (by omega))
    · simp
  generalize lineB f a b = lb at *
  generalize betwI f r a b = L at *
  obtain ⟨Rv, hRv⟩ : ∃ R, (lb && (k == 5 || ((b % f - a % f == 0 || b / f - a / f == 0) == (k == 4))) && freeB L occ) = R := ⟨_, rfl⟩
  have hT : lb = true → (k = 5 ∨ ((b % f - a % f = 0 ∨ b / f - a / f = 0) ↔ k = 4)) → Rv = freeB L occ := fun h1 h => by
    rw [← hRv, h1]
    rw [show (k == 5 || ((b % f - a % f == 0 || b / f - a / f == 0) == (k == 4))) = true by
      rw [Bool.or_eq_true, beq_iff_eq, beq_iff_eq, Bool.eq_iff_iff, Bool.or_eq_true, beq_iff_eq, beq_iff_eq, beq_iff_eq]; exact h]
    simp
  have hF : lb = false ∨ ¬ (k = 5 ∨ ((b % f - a % f = 0 ∨ b / f - a / f = 0) ↔ k = 4)) → Rv = false := fun h => by
    rw [← hRv]
    rcases h with h | h
    · rw [h]; simp
    · rw [show (k == 5 || ((b % f - a % f == 0 || b / f - a / f == 0) == (k == 4))) = false by
        rw [← Bool.not_eq_true, Bool.or_eq_true, beq_iff_eq, beq_iff_eq, Bool.eq_iff_iff, Bool.or_eq_true, beq_iff_eq, beq_iff_eq, beq_iff_eq]; exact h]
      simp
  rw [hRv]
  clear hRv
  obtain ⟨B, hBe⟩ : ∃ B, w.heap.size = B := ⟨_, rfl⟩
  unfold Pure
  rw [hBe]
  obtain ⟨af, haf⟩ : ∃ x, a % f = x := ⟨_, rfl⟩
  obtain ⟨bf, hbf⟩ : ∃ x, b % f = x := ⟨_, rfl⟩
  obtain ⟨ar, har⟩ : ∃ x, a / f = x := ⟨_, rfl⟩
  obtain ⟨br, hbr⟩ : ∃ x, b / f = x := ⟨_, rfl⟩
  simp only [haf, hbf, har, hbr] at *
  clear haf hbf har hbr
  unfold Ints at c4
  replace hq := Lib.hid hq
  replace hv := Lib.hid hv
  obtain ⟨n, hLn⟩ : ∃ n, L.length = n := ⟨_, rfl⟩
  replace hLn := Lib.hid hLn
  have hk2 : (k == 2) = false := by simp; omega
  have hk6 : (k == 6) = false := by simp; omega
  go_enter Tryz.func173, Tryz.ntmps173
  go_wp2_with fail
  refine start1B hBe ?_
  intro V hN hX x
  refine two_agg (B0 := (x).1.heap.size) rfl (by kernel_rfl) (by kernel_rfl) (tS := 23) (tI := 3) (tP := 85) (fid := 67) (va := .int .i64 a) (vb := .int .i64 b) (bx := 5) (xa := 2) (xb := 3) (d0 := 19) (d1 := 20) (d2 := 21) (d3 := 22) (d4 := 23) (d5 := 24) (p := 11) (q := 12) (by kernel_rfl) (by kernel_rfl) (by decide) (by rfl) (by decide) rfl (below_blk (x).2 (hN).out) Tryz.underlying23 rfl (by kernel_rfl) (by intro b h; cases h) (by intro b h; cases h) rfl rfl (fun W _ => c1 W) (fun W _ => c2 W) alloc_pt call_place rfl rfl (by kernel_rfl) (by simp [Value.oneCell']) (by simp [Value.oneCell']) ?_
  intro p q V2 hp hq hpq hP hQ hW
  clear hp hq hpq
  replace hP := Lib.hid hP
  replace hQ := Lib.hid hQ
  replace hN := Lib.hid (below_blk hW (below_blk x.2 hN.out))
  replace hX := Lib.hid (fun z : Ext V2.heap.size V2 => (show Below B w z.1 ∧ B < z.1.heap.size ∧ Below w.heap.size w z.1 from hX.out ⟨z.1, (x.2.trans (hW.mono x.2.size)).trans (z.2.mono (x.2.trans (hW.mono x.2.size)).size)⟩))
  clear hW x
  obtain ⟨V, hVe⟩ : ∃ V, V = V2 := ⟨_, rfl⟩
  subst hVe
  go_frame
  go_wp2_with fail
  clear c1 c2
  have e1 : IntKind.i64.wrap (bf - af) = bf - af := IntWalk.i64_in _ (by omega)
  have e2 : IntKind.i64.wrap (br - ar) = br - ar := IntWalk.i64_in _ (by omega)
  refine start0r ?_
  intro x
  have u0 := fun z : Ext V.heap.size V => cell_of (below_blk z.2 (hP).out) 0 _ rfl
  have u1 := fun z : Ext V.heap.size V => cell_of (below_blk z.2 (hP).out) 1 _ rfl
  have v0 := fun z : Ext V.heap.size V => cell_of (below_blk z.2 (hQ).out) 0 _ rfl
  have v1 := fun z : Ext V.heap.size V => cell_of (below_blk z.2 (hQ).out) 1 _ rfl
  refine ext_region' (by kernel_rfl) (by kernel_rfl) ?_
  repeat (first | (go_big_quiet_step ((fail))) | ((refine wpQuiet_step (fun K hK => ?_)); go_simp; (refine ⟨_, fun _ => rfl, hK _ ?_⟩); clear hK K))
  refine wpQuiet_nil ?_
  intro x
  clear e1 e2 u0 u1 v0 v1
  have y0 := fun z : Ext V.heap.size V => cell_of (below_blk z.2 (hN).out) 0 _ rfl
  have y1 := fun z : Ext V.heap.size V => cell_of (below_blk z.2 (hN).out) 1 _ rfl
  obtain ⟨df, hdf⟩ : ∃ d, bf - af = d := ⟨_, rfl⟩
  obtain ⟨dr, hdr⟩ : ∃ d, br - ar = d := ⟨_, rfl⟩
  rw [hdf, hdr]
  simp only [hdf, hdr] at c3 hT hF
  replace hT := Lib.hid hT
  replace hF := Lib.hid hF
  replace hdf := Lib.hid hdf
  replace hdr := Lib.hid hdr
  clear m1 m2 m3 m4 m5 m6 m7 m8 f1 f2 a0 a1 k1 k2 a64 hN hP hQ
  cases lb
  · simp only [Bool.false_eq_true, if_false] at c3
    clear c4
    go_wp2_with fail
    refine (Pure.st (c3 _).out).mono ?_
    rintro e _ ⟨rfl, x, rfl⟩
    go_wp2_with fail
    all_goals
      go_ret
      exact ⟨congrArg Ending.returned (congrArg Value.bool (hF.out (.inl (by simp)))).symm, (hX.out _).1⟩
  · simp only [if_true] at c3
    replace c4 := c4 rfl
    go_wp2_with fail
    refine (Pure.st (c3 _).out).mono ?_
    rintro e _ ⟨rfl, x, rfl⟩
    go_wp2_with fail
    all_goals first
      | refine (c4 _).out.mono ?_
      | (go_ret
         refine ⟨?_, (hX.out _).1⟩
         have := hF.out (.inr (by try simp only [beq_beq, bne_iff_ne, bne_eq_false_iff_eq, ne_eq, beq_iff_eq, beq_eq_false_iff_ne] at *
                                  omega))
         exact congrArg Ending.returned (congrArg Value.bool this).symm)
    all_goals
      rintro e W2 ⟨v, rfl, hown, hW⟩
      obtain ⟨z, rfl⟩ : ∃ z : Ext V.heap.size V, z.1 = W2 := ⟨⟨W2, x.2.trans (hW.mono x.2.size)⟩, rfl⟩
      obtain ⟨po, cap, rfl, hI, _, _⟩ := own_ints hown
      have c5 := fun W (hI : IntAt W po L) => Lib.hid (show Same 197 #[.slice po n cap, .int .u64 occ] W (.bool (freeB L occ)) from hLn.out ▸ rfree_c W L po cap hI (by omega) occ hocc)
      replace hI := Lib.hid hI
      clear hW hown c4
      rw [hLn.out]
      go_wp2_with fail
      refine (c5 _ hI.out).out.mono ?_
      rintro e _ ⟨rfl, rfl⟩
      go_wp2
      go_ret
      refine ⟨?_, (hX.out z).1⟩
      have := hT.out (by simp) (by
        try simp only [beq_beq, bne_iff_ne, bne_eq_false_iff_eq, ne_eq, beq_iff_eq, beq_eq_false_iff_ne] at *
        omega)
      exact congrArg Ending.returned (congrArg Value.bool this).symm
end
section
def pawnB (f : Int) (black : Bool) (a b : Int) : Bool := b / f - a / f == fwd black && (b % f - a % f == 1 || a % f - b % f == 1)
def cntN (P : Int → Bool) (k : Nat) : List Nat := (List.range k).filter fun i => P (i : Int)
theorem cntN_snoc (P : Int → Bool) (k : Nat) : cntN P (k + 1) = if P (k : Int) then cntN P k ++ [k] else cntN P k := by
  unfold cntN
  rw [List.range_succ, List.filter_append]
  cases h : P (k : Int)
  · rw [if_neg (by simp), List.filter_cons, if_neg (by rw [h]; simp)]; simp
  · rw [if_pos rfl, List.filter_cons, if_pos h]; simp
theorem cntN_len (P : Int → Bool) (k : Nat) : (cntN P k).length ≤ k := by
  unfold cntN
  exact Nat.le_trans (List.length_filter_le _ _) (by simp)
def castL (L : List Nat) : List Int := L.map fun i : Nat => (i : Int)
def pawnL (f r : Int) (black : Bool) (a : Int) : List Nat := cntN (pawnB f black a) (f * r).toNat
set_option maxHeartbeats 4000000 in
theorem rpawn_c (w : World) (f r a : Int) (black : Bool) (hq : vsq f r a = true) : Ints 172 #[.agg #[.int .i64 f, .int .i64 r], .bool black, .int .i64 a] w (castL (pawnL f r black a)) := by
  obtain ⟨i0, hi, hz0, hz1, hz2⟩ := info_parts Tryz.infoInt
  obtain ⟨hv, a0, a1⟩ := vsq_bd hq
  obtain ⟨f1, f2, r1, r2⟩ := vsize_bd hv
  obtain ⟨k1, k2⟩ := vsize_mul hv
  obtain ⟨B, hBe⟩ : ∃ B, w.heap.size = B := ⟨_, rfl⟩
  have m1 := Int.emod_nonneg a (show f ≠ 0 by omega)
  have m2 := Int.emod_lt_of_pos a (show 0 < f by omega)
  have m5 := Int.ediv_nonneg a0 (show 0 ≤ f by omega)
  have m6 : a / f ≤ 64 := by have := Int.ediv_le_self f a0; omega
  have c1 := fun W => rplace_c W f r a hv a0 (by omega)
  have c2 := fun (k : Nat) (hk : k ≤ 64) W => rplace_c W f r k hv (by omega) (by omega)
  have n1 := fun k : Nat => Int.emod_nonneg (k : Int) (show f ≠ 0 by omega)
  have n2 := fun k : Nat => Int.emod_lt_of_pos (k : Int) (show 0 < f by omega)
  have n5 := fun k : Nat => Int.ediv_nonneg (show (0 : Int) ≤ k by omega) (show 0 ≤ f by omega)
  have n6 := fun k : Nat => Int.ediv_le_self f (show (0 : Int) ≤ k by omega)
  have hsn := fun k => cntN_snoc (pawnB f black a) k
  have hln := fun k => cntN_len (pawnB f black a) k
  have hzero : cntN (pawnB f black a) 0 = [] := rfl
  unfold pawnB at hsn
  unfold pawnL Ints
  obtain ⟨F, hF⟩ : ∃ F, cntN (pawnB f black a) = F := ⟨_, rfl⟩
  rw [hBe]
  have hsn2 : ∀ k : Nat, F (k + 1) = if ((k : Int) / f - a / f == fwd black && ((k : Int) % f - a % f == 1 || a % f - (k : Int) % f == 1)) = true then F k ++ [k] else F k := by rw [← hF]; exact hsn
  rw [hF] at hln hzero ⊢
  clear hsn
  unfold pointV at c1 c2
  obtain ⟨af, haf⟩ : ∃ x, a % f = x := ⟨_, rfl⟩
  obtain ⟨ar, har⟩ : ∃ x, a / f = x := ⟨_, rfl⟩
  simp only [haf, har] at *
  obtain ⟨n, hn⟩ : ∃ n : Nat, f * r = n := ⟨(f * r).toNat, by omega⟩
  rw [hn] at k1 k2 a1 ⊢
  rw [Int.toNat_natCast]
  replace hn := Lib.hid hn
  replace hF := Lib.hid hF
  replace hq := Lib.hid hq
  replace hv := Lib.hid hv
  replace hzero := Lib.hid hzero
  replace hsn2 := Lib.hid hsn2
  replace n1 := Lib.hid n1
  replace n2 := Lib.hid n2
  replace n5 := Lib.hid n5
  replace n6 := Lib.hid n6
  replace c1 := Lib.hid c1
  replace c2 := Lib.hid c2
  have hfw : fwd black = 1 ∨ fwd black = -1 := by unfold fwd; cases black <;> simp
  obtain ⟨fw, hfwe⟩ : ∃ x, fwd black = x := ⟨_, rfl⟩
  have cf := fun W => Lib.hid (rfwd_c W black)
  simp only [hfwe] at cf hfw hsn2
  clear haf har
  go_enter Tryz.func172, Tryz.ntmps172
  go_wp2_with fail
  refine start1B hBe ?_
  intro V hN hX x
  have y0 := fun z : Ext V.heap.size V => cell_of (below_blk z.2 (hN).out) 0 _ rfl
  have y1 := fun z : Ext V.heap.size V => cell_of (below_blk z.2 (hN).out) 1 _ rfl
  go_loopw [7, 8, 9, 10] (fun v i u9 u10 wr => ∃ (k : Nat) (u : Value) (x : Ext V.heap.size V), wr = x.1 ∧ u = v ∧ k ≤ n ∧ i = .int .i64 k ∧ x.1.ownsRow V.heap.size 3 1 u (castL (F k)).length ((castL (F k)).map intV) ∧
    (∀ b, u9 = .pointer (some ⟨b, 0, none⟩) → b < x.1.heap.size) ∧ (∀ b, u10 = .pointer (some ⟨b, 0, none⟩) → b < x.1.heap.size)) (fun _ i _ _ _ => n - (intOf i).toNat)
  case atStart => exact ⟨0, _, x, rfl, rfl, by omega, rfl, by rw [hzero.out]; exact World.ownsRow_nil _ _ _ _, (fun b h => by cases h), (fun b h => by cases h)⟩
  case round =>
    clear x
    obtain ⟨k, u, x, rfl, rfl, hk, rfl, hown, h9, h10⟩ := hrel
    have hnf : wrap64 (f * r) = n := by rw [hn.out]; exact IntWalk.wrap64_in _ (by omega)
    by_cases hkn : k = n
    · subst hkn
      clear h9 h10
      go_wp2
      go_ret
      exact ⟨u, rfl, own_mono hown (by have := (hX.out ⟨V, Below.refl _ _⟩).2.1; exact Nat.le_of_lt this), (hX.out x).1⟩
    · have hkl : k < n := by omega
      have hs := hsn2.out k
      have hl := hln k
      have p1 := n1.out k
      have p2 := n2.out k
      have p5 := n5.out k
      have p6 := n6.out k
      have c3 := c2.out k (by omega)
      obtain ⟨kf, hkf⟩ : ∃ x, (k : Int) % f = x := ⟨_, rfl⟩
      obtain ⟨kr, hkr⟩ : ∃ x, (k : Int) / f = x := ⟨_, rfl⟩
      simp only [hkf, hkr] at hs p1 p2 p5 p6 c3
      obtain ⟨L, hL⟩ : ∃ L, F k = L := ⟨_, rfl⟩
      rw [hL] at hs hl hown
      have hcl : (castL L).length = L.length := by unfold castL; simp
      replace hcl := Lib.hid hcl
      replace hs := Lib.hid hs
      replace hown := Lib.hid hown
      replace hL := Lib.hid hL
      replace hkf := Lib.hid hkf
      replace hkr := Lib.hid hkr
      replace h9 := Lib.hid h9
      replace h10 := Lib.hid h10
      replace c3 := Lib.hid c3
      clear hln hkn
      go_wp2_with fail
      refine two_agg (B0 := x.1.heap.size) rfl (by kernel_rfl) (by kernel_rfl) (tS := 23) (tI := 3) (tP := 85) (fid := 67) (va := .int .i64 a) (vb := .int .i64 k) (bx := 3) (xa := 2) (xb := 8) (d0 := 20) (d1 := 21) (d2 := 22) (d3 := 23) (d4 := 24) (d5 := 25) (p := 9) (q := 10) (by kernel_rfl) (by kernel_rfl) (by decide) (by rfl) (by decide) rfl (below_blk x.2 hN.out) Tryz.underlying23 rfl (by kernel_rfl) h9.out h10.out rfl rfl (fun W _ => c1.out W) (fun W _ => c3.out W) alloc_pt call_place rfl rfl (by kernel_rfl) (by simp [Value.oneCell']) (by simp [Value.oneCell']) ?_
      intro p q W2 hp hq2 hpq hP hQ hW
      replace hown := Lib.hid (own_below hown.out hW)
      obtain ⟨z, rfl⟩ : ∃ z : Ext V.heap.size V, z.1 = W2 := ⟨⟨W2, x.2.trans (hW.mono x.2.size)⟩, rfl⟩
      have hpz := lt_of_blk hP
      have hqz := lt_of_blk hQ
      replace hP := Lib.hid hP
      replace hQ := Lib.hid hQ
      clear hp hq2 hpq hW x h9 h10 c3
      go_frame
      go_wp2_with fail
      have e1 : IntKind.i64.wrap (kr - ar) = kr - ar := IntWalk.i64_in _ (by omega)
      have e2 : IntKind.i64.wrap (kf - af) = kf - af := IntWalk.i64_in _ (by omega)
      have e3 : IntKind.i64.wrap (af - kf) = af - kf := IntWalk.i64_in _ (by omega)
      replace hs := hs.out
      cases t1 : (kr - ar == fw)
      · have t2 : True := trivial
        have t3 : True := trivial
        rw [if_neg (by simp [t1, t2, t3])] at hs
        replace hs := Lib.hid hs
        refine start0r ?_
        intro x2
        have y0 := fun z' : Ext z.1.heap.size z.1 => cell_of (below_blk z'.2 hP.out) 0 _ rfl
        have y1 := fun z' : Ext z.1.heap.size z.1 => cell_of (below_blk z'.2 hP.out) 1 _ rfl
        have v0 := fun z' : Ext z.1.heap.size z.1 => cell_of (below_blk z'.2 hQ.out) 0 _ rfl
        have v1 := fun z' : Ext z.1.heap.size z.1 => cell_of (below_blk z'.2 hQ.out) 1 _ rfl
        refine ext_region' (by kernel_rfl) (by kernel_rfl) ?_
        repeat (first | (go_big_quiet_step ((go_at_call 194; exact Same.st (cf _).out))) | ((refine wpQuiet_step (fun K hK => ?_)); go_simp; (refine ⟨_, fun _ => rfl, hK _ ?_⟩); clear hK K))
        refine wpQuiet_nil ?_
        intro x
        replace hown := Lib.hid (own_below hown.out x.2)
        replace hpz := Nat.lt_of_lt_of_le hpz x.2.size
        replace hqz := Nat.lt_of_lt_of_le hqz x.2.size
        clear y0 y1 v0 v1 hP hQ x2
        obtain ⟨z', hz'⟩ : ∃ z' : Ext V.heap.size V, z'.1 = x.1 := ⟨⟨x.1, z.2.trans (x.2.mono z.2.size)⟩, rfl⟩
        rw [← hz'] at hown hpz hqz ⊢
        clear hz' x
        clear z
        obtain ⟨z, hz'⟩ : ∃ z, z = z' := ⟨_, rfl⟩
        subst hz'
        have hBz := z.2.size
        go_wp2_with fail
        go_roundw
        case rel => exact ⟨k + 1, u, z, rfl, rfl, by omega, by go_num, by rw [hs.out]; exact hown.out, (fun b h => by cases h; exact hpz), (fun b h => by cases h; exact hqz)⟩
        case measure => simp [intOf]; omega
      · cases t2 : (kf - af == 1)
        · cases t3 : (af - kf == 1)
          · rw [if_neg (by simp [t1, t2, t3])] at hs
            replace hs := Lib.hid hs
            refine start0r ?_
            intro x2
            have y0 := fun z' : Ext z.1.heap.size z.1 => cell_of (below_blk z'.2 hP.out) 0 _ rfl
            have y1 := fun z' : Ext z.1.heap.size z.1 => cell_of (below_blk z'.2 hP.out) 1 _ rfl
            have v0 := fun z' : Ext z.1.heap.size z.1 => cell_of (below_blk z'.2 hQ.out) 0 _ rfl
            have v1 := fun z' : Ext z.1.heap.size z.1 => cell_of (below_blk z'.2 hQ.out) 1 _ rfl
            refine ext_region' (by kernel_rfl) (by kernel_rfl) ?_
            repeat (first | (go_big_quiet_step ((go_at_call 194; exact Same.st (cf _).out))) | ((refine wpQuiet_step (fun K hK => ?_)); go_simp; (refine ⟨_, fun _ => rfl, hK _ ?_⟩); clear hK K))
            refine wpQuiet_nil ?_
            intro x
            replace hown := Lib.hid (own_below hown.out x.2)
            replace hpz := Nat.lt_of_lt_of_le hpz x.2.size
            replace hqz := Nat.lt_of_lt_of_le hqz x.2.size
            clear y0 y1 v0 v1 hP hQ x2
            obtain ⟨z', hz'⟩ : ∃ z' : Ext V.heap.size V, z'.1 = x.1 := ⟨⟨x.1, z.2.trans (x.2.mono z.2.size)⟩, rfl⟩
            rw [← hz'] at hown hpz hqz ⊢
            clear hz' x
            clear z
            obtain ⟨z, hz'⟩ : ∃ z, z = z' := ⟨_, rfl⟩
            subst hz'
            have hBz := z.2.size
            go_wp2_with fail
            go_roundw
            case rel => exact ⟨k + 1, u, z, rfl, rfl, by omega, by go_num, by rw [hs.out]; exact hown.out, (fun b h => by cases h; exact hpz), (fun b h => by cases h; exact hqz)⟩
            case measure => simp [intOf]; omega
          · rw [if_pos (by simp [t1, t2, t3])] at hs
            replace hs := Lib.hid hs
            refine start0r ?_
            intro x2
            have y0 := fun z' : Ext z.1.heap.size z.1 => cell_of (below_blk z'.2 hP.out) 0 _ rfl
            have y1 := fun z' : Ext z.1.heap.size z.1 => cell_of (below_blk z'.2 hP.out) 1 _ rfl
            have v0 := fun z' : Ext z.1.heap.size z.1 => cell_of (below_blk z'.2 hQ.out) 0 _ rfl
            have v1 := fun z' : Ext z.1.heap.size z.1 => cell_of (below_blk z'.2 hQ.out) 1 _ rfl
            refine ext_region' (by kernel_rfl) (by kernel_rfl) ?_
            repeat (first | (go_big_quiet_step ((go_at_call 194; exact Same.st (cf _).out))) | ((refine wpQuiet_step (fun K hK => ?_)); go_simp; (refine ⟨_, fun _ => rfl, hK _ ?_⟩); clear hK K))
            refine wpQuiet_nil ?_
            intro x
            replace hown := Lib.hid (own_below hown.out x.2)
            replace hpz := Nat.lt_of_lt_of_le hpz x.2.size
            replace hqz := Nat.lt_of_lt_of_le hqz x.2.size
            clear y0 y1 v0 v1 hP hQ x2
            obtain ⟨z', hz'⟩ : ∃ z' : Ext V.heap.size V, z'.1 = x.1 := ⟨⟨x.1, z.2.trans (x.2.mono z.2.size)⟩, rfl⟩
            rw [← hz'] at hown hpz hqz ⊢
            clear hz' x
            clear z
            obtain ⟨z, hz'⟩ : ∃ z, z = z' := ⟨_, rfl⟩
            subst hz'
            have hBz := z.2.size
            have hcl2 : (castL L).length ≤ 64 := by rw [hcl.out]; omega
            go_wp2_with (at_builtin; refine wpList_append_lies _ rfl _ _ 136 rfl V.heap.size 3 i0 (.int .i64 0) 1 8 Tryz.underlying136 hi hz0 hz1 hz2 rfl (by decide) _ _ _ rfl ((hown).out.alloc _) ⟨z.1.heap.size, 0, none⟩ 1 1 [.int .i64 k] rfl rfl (World.news_of_block (blk_new rfl _)) (by intro u hu; simp at hu; subst hu; rfl) (by omega) (by unfold maxLen; omega) (by omega) (by simp; omega) _ rfl ?_; intro g cap w1 hown' hgrow hat hlt)
            go_roundw
            case rel => exact ⟨k + 1, _, ⟨w1, below_row (z.2.alloc hBz _) (by simp; omega) (hown.out.alloc _) hgrow⟩, rfl, rfl, by omega, by go_num, by rw [hs.out]; simpa [intV, castL] using hown', (fun b h => by cases h; have h5 := hgrow.size; simp at h5; show _ < w1.heap.size; omega), (fun b h => by cases h; have h5 := hgrow.size; simp at h5; show _ < w1.heap.size; omega)⟩
            case measure => simp [intOf]; omega
        · have t3 : True := trivial
          rw [if_pos (by simp [t1, t2, t3])] at hs
          replace hs := Lib.hid hs
          refine start0r ?_
          intro x2
          have y0 := fun z' : Ext z.1.heap.size z.1 => cell_of (below_blk z'.2 hP.out) 0 _ rfl
          have y1 := fun z' : Ext z.1.heap.size z.1 => cell_of (below_blk z'.2 hP.out) 1 _ rfl
          have v0 := fun z' : Ext z.1.heap.size z.1 => cell_of (below_blk z'.2 hQ.out) 0 _ rfl
          have v1 := fun z' : Ext z.1.heap.size z.1 => cell_of (below_blk z'.2 hQ.out) 1 _ rfl
          refine ext_region' (by kernel_rfl) (by kernel_rfl) ?_
          repeat (first | (go_big_quiet_step ((go_at_call 194; exact Same.st (cf _).out))) | ((refine wpQuiet_step (fun K hK => ?_)); go_simp; (refine ⟨_, fun _ => rfl, hK _ ?_⟩); clear hK K))
          refine wpQuiet_nil ?_
          intro x
          replace hown := Lib.hid (own_below hown.out x.2)
          replace hpz := Nat.lt_of_lt_of_le hpz x.2.size
          replace hqz := Nat.lt_of_lt_of_le hqz x.2.size
          clear y0 y1 v0 v1 hP hQ x2
          obtain ⟨z', hz'⟩ : ∃ z' : Ext V.heap.size V, z'.1 = x.1 := ⟨⟨x.1, z.2.trans (x.2.mono z.2.size)⟩, rfl⟩
          rw [← hz'] at hown hpz hqz ⊢
          clear hz' x
          clear z
          obtain ⟨z, hz'⟩ : ∃ z, z = z' := ⟨_, rfl⟩
          subst hz'
          have hBz := z.2.size
          have hcl2 : (castL L).length ≤ 64 := by rw [hcl.out]; omega
          go_wp2_with (at_builtin; refine wpList_append_lies _ rfl _ _ 136 rfl V.heap.size 3 i0 (.int .i64 0) 1 8 Tryz.underlying136 hi hz0 hz1 hz2 rfl (by decide) _ _ _ rfl ((hown).out.alloc _) ⟨z.1.heap.size, 0, none⟩ 1 1 [.int .i64 k] rfl rfl (World.news_of_block (blk_new rfl _)) (by intro u hu; simp at hu; subst hu; rfl) (by omega) (by unfold maxLen; omega) (by omega) (by simp; omega) _ rfl ?_; intro g cap w1 hown' hgrow hat hlt)
          go_roundw
          case rel => exact ⟨k + 1, _, ⟨w1, below_row (z.2.alloc hBz _) (by simp; omega) (hown.out.alloc _) hgrow⟩, rfl, rfl, by omega, by go_num, by rw [hs.out]; simpa [intV, castL] using hown', (fun b h => by cases h; have h5 := hgrow.size; simp at h5; show _ < w1.heap.size; omega), (fun b h => by cases h; have h5 := hgrow.size; simp at h5; show _ < w1.heap.size; omega)⟩
          case measure => simp [intOf]; omega
end
section
theorem rreach_c (w : World) (f r k a b : Int) (occ : Nat) (hq : vsq f r a = true) (b0 : 0 ≤ b) (b1 : b ≤ 64) (hk : 2 ≤ k ∧ k ≤ 6) (hocc : occ < 18446744073709551616) :
    Pure 173 #[.agg #[.int .i64 f, .int .i64 r], .int .i8 k, .int .i64 a, .int .i64 b, .int .u64 occ] w (.bool (reachB f r k a b occ)) := by
  rcases (by omega : k = 2 ∨ k = 6 ∨ (k = 3 ∨ k = 4 ∨ k = 5)) with rfl | rfl | h
  · exact rreach2 w f r a b occ hq b0 b1
  · exact rreach6 w f r a b occ hq b0 b1
  · unfold reachB
    rw [if_neg (by omega), if_neg (by omega)]
    exact rreachS w f r k a b occ hq b0 b1 h hocc
def attR (f r p i a : Int) (occ : Nat) : Bool := if kindI p = 1 then (castL (pawnL f r (decide (p < 0)) i)).contains a else i != a && reachB f r (kindI p) i a occ
theorem pawnL_len {f r : Int} (hv : vsize f r = true) (bl : Bool) (a : Int) : (pawnL f r bl a).length ≤ 64 := by
  obtain ⟨k1, k2⟩ := vsize_mul hv
  have := cntN_len (pawnB f bl a) (f * r).toNat
  unfold pawnL
  omega
set_option maxHeartbeats 1000000 in
theorem rattacks_c (w : World) (f r : Int) (ps : List Int) (b off cap i : Nat) (a p : Int) (occ : Nat) (hP : PcAt w b off ps) (hn : ps.length ≤ 64) (hp : ps[i]? = some p) (hq : vsq f r i = true) (a0 : 0 ≤ a) (a1 : a ≤ 64)
    (hk0 : p ≠ 0) (hk1 : -6 ≤ p) (hk2 : p ≤ 6) (hocc : occ < 18446744073709551616) :
    Pure 145 #[bdV f r (some ⟨b, off, none⟩) ps.length cap, .int .i64 i, .int .i64 a, .int .u64 occ] w (.bool (attR f r p i a occ)) := by
  obtain ⟨B, hBe⟩ : ∃ B, w.heap.size = B := ⟨_, rfl⟩
  have hv := (vsq_bd hq).1
  have hlt := (List.getElem?_eq_some_iff.1 hp).1
  have c1 := fun W => Lib.hid (rkind_c W p (by omega) (by omega))
  obtain ⟨n, hnl⟩ : ∃ n, ps.length = n := ⟨_, rfl⟩
  unfold bdV attR
  rw [hnl] at hn hlt ⊢
  unfold Pure
  rw [hBe]
  have hPp := hP i p hp
  by_cases hk : kindI p = 1
  · rw [if_pos hk]
    rw [hk] at c1
    have c2 := fun W => Lib.hid (rpawn_c W f r i (decide (p < 0)) hq)
    have hll := pawnL_len hv (decide (p < 0)) i
    obtain ⟨L, hL⟩ : ∃ L, castL (pawnL f r (decide (p < 0)) i) = L := ⟨_, rfl⟩
    have hLn : L.length ≤ 64 := by rw [← hL]; unfold castL; rw [List.length_map]; exact hll
    rw [hL]
    simp only [hL] at c2
    obtain ⟨R, hR⟩ : ∃ R, L.contains a = R := ⟨_, rfl⟩
    rw [hR]
    unfold Ints at c2
    replace hL := Lib.hid hL
    replace hR := Lib.hid hR
    clear hll hP hp hk
    replace hq := Lib.hid hq
    replace hv := Lib.hid hv
    replace hnl := Lib.hid hnl
    replace hocc := Lib.hid hocc
    have hPa := fun o => cell_past hPp o
    replace hPp := Lib.hid hPp
    go_enter Tryz.func145, Tryz.ntmps145
    go_wp2_with fail
    refine start1Bc hBe ?_
    intro V hN hX x
    clear hPa
    have y0 := fun z : Ext V.heap.size V => cell_of (below_blk z.2 (hN).out) 0 _ rfl
    have y1 := fun z : Ext V.heap.size V => cell_of (below_blk z.2 (hN).out) 1 _ rfl
    have y2 := fun z : Ext V.heap.size V => cell_of (below_blk z.2 (hN).out) 2 _ rfl
    refine (c1 _).out.mono ?_
    rintro e _ ⟨rfl, rfl⟩
    go_wp2_with fail
    refine (c2 _).out.mono ?_
    rintro e W2 ⟨v, rfl, hown, hW⟩
    obtain ⟨z, rfl⟩ : ∃ z : Ext V.heap.size V, z.1 = W2 := ⟨⟨W2, x.2.trans (hW.mono x.2.size)⟩, rfl⟩
    obtain ⟨po, cap, rfl, hI, _, _⟩ := own_ints hown
    have c5 := fun W (hI : IntAt W po L) => Lib.hid (show Same 171 #[.slice po L.length cap, .int .i64 a] W (.bool R) from hR.out ▸ rhas5_c W L po cap hI (by omega) a)
    obtain ⟨m, hm⟩ : ∃ m, L.length = m := ⟨_, rfl⟩
    rw [hm] at hLn ⊢
    simp only [hm] at c5
    replace hI := Lib.hid hI
    replace hm := Lib.hid hm
    clear hW hown c2 c1 y0 y1 y2
    go_wp2_with fail
    refine (c5 _ hI.out).out.mono ?_
    rintro e _ ⟨rfl, rfl⟩
    go_wp2
    go_ret
    exact ⟨rfl, (hX.out z).1⟩
  · rw [if_neg hk]
    have hkb : 2 ≤ kindI p ∧ kindI p ≤ 6 := by
      unfold kindI at hk ⊢
      split at hk
      · rw [if_pos (by assumption)]; omega
      · rw [if_neg (by assumption)]; omega
    have c2 := fun W => Lib.hid (rreach_c W f r (kindI p) i a occ hq a0 a1 hkb hocc)
    obtain ⟨k, hke⟩ : ∃ k, kindI p = k := ⟨_, rfl⟩
    rw [hke] at hk hkb ⊢
    simp only [hke] at c1 c2
    obtain ⟨R, hR⟩ : ∃ R, reachB f r k i a occ = R := ⟨_, rfl⟩
    rw [hR]
    simp only [hR] at c2
    have hk1' : (k == 1) = false := by simpa using hk
    replace hke := Lib.hid hke
    replace hR := Lib.hid hR
    clear hP hp hk
    replace hq := Lib.hid hq
    replace hv := Lib.hid hv
    replace hnl := Lib.hid hnl
    replace hocc := Lib.hid hocc
    have hPa := fun o => cell_past hPp o
    replace hPp := Lib.hid hPp
    go_enter Tryz.func145, Tryz.ntmps145
    go_wp2_with fail
    refine start1Bc hBe ?_
    intro V hN hX x
    clear hPa
    have y0 := fun z : Ext V.heap.size V => cell_of (below_blk z.2 (hN).out) 0 _ rfl
    have y1 := fun z : Ext V.heap.size V => cell_of (below_blk z.2 (hN).out) 1 _ rfl
    have y2 := fun z : Ext V.heap.size V => cell_of (below_blk z.2 (hN).out) 2 _ rfl
    refine (c1 _).out.mono ?_
    rintro e _ ⟨rfl, rfl⟩
    go_wp2_with fail
    by_cases hia : (i : Int) = a
    · have hia' : ((i : Int) != a) = false := by simpa using hia
      replace hia := Lib.hid hia
      refine ext_region' (by kernel_rfl) (by kernel_rfl) ?_
      repeat (first | (go_big_quiet_step ((fail))) | ((refine wpQuiet_step (fun K hK => ?_)); go_simp; (refine ⟨_, fun _ => rfl, hK _ ?_⟩); clear hK K))
      refine wpQuiet_nil ?_
      intro x
      go_wp2
      go_ret
      exact ⟨by simp [hia.out], (hX.out x).1⟩
    · have hia' : ((i : Int) != a) = true := by simpa using hia
      replace hia := Lib.hid hia
      refine ext_region' (by kernel_rfl) (by kernel_rfl) ?_
      repeat (first | (go_big_quiet_step ((first | (go_at_call 66; exact Same.st (c1 _).out) | (go_at_call 173; exact Pure.st (c2 _).out)))) | ((refine wpQuiet_step (fun K hK => ?_)); go_simp; (refine ⟨_, fun _ => rfl, hK _ ?_⟩); clear hK K))
      refine wpQuiet_nil ?_
      intro x
      go_wp2
      go_ret
      exact ⟨by simp [hia.out], (hX.out x).1⟩
end
section
def attR' (f r : Int) (ps : List Int) (a : Int) (i : Nat) : Bool := attR f r (ps.getD i 0) i a (occS ps)
def attL (f r : Int) (ps : List Int) (a : Int) (black : Bool) : List Nat := (idxN (fun q => sgnI q == fwd black) ps ps.length).filter (attR' f r ps a)
theorem filter_snoc (P : Nat → Bool) (L : List Nat) (k x : Nat) (h : L[k]? = some x) : (L.take (k + 1)).filter P = if P x then (L.take k).filter P ++ [x] else (L.take k).filter P := by
  obtain ⟨h1, h2⟩ := List.getElem?_eq_some_iff.1 h
  rw [List.take_succ_eq_append_getElem h1, h2, List.filter_append]
  cases hp : P x
  · rw [if_neg (by simp), List.filter_cons, if_neg (by rw [hp]; simp)]; simp
  · rw [if_pos rfl, List.filter_cons, if_pos hp]; simp
theorem idxN_at {P : Int → Bool} {ps : List Int} {k i : Nat} (h : i ∈ idxN P ps k) : i < k ∧ P (ps.getD i 0) = true := by
  unfold idxN at h
  exact ⟨List.mem_range.1 (List.mem_filter.1 h).1, (List.mem_filter.1 h).2⟩
set_option maxHeartbeats 4000000 in
theorem ratt_c (w : World) (f r : Int) (ps : List Int) (b off cap : Nat) (a : Int) (black : Bool) (hP : PcAt w b off ps) (ho : orthB f r ps = true) (a0 : 0 ≤ a) (a1 : a ≤ 64) :
    Ints 114 #[bdV f r (some ⟨b, off, none⟩) ps.length cap, .int .i64 a, .bool black] w (castL (attL f r ps a black)) := by
  obtain ⟨i0, hi, hz0, hz1, hz2⟩ := info_parts Tryz.infoInt
  obtain ⟨B, hBe⟩ : ∃ B, w.heap.size = B := ⟨_, rfl⟩
  have hbv : bvalid f r ps = true := by unfold orthB at ho; rw [Bool.and_eq_true] at ho; exact ho.1
  obtain ⟨hv, hlen, h64⟩ := bvalid_len hbv
  have hS0 : SlcAt w (some ⟨b, off, none⟩) ps := .inr ⟨b, off, rfl, hP⟩
  have c1 := fun W => Lib.hid (rsd_c W black)
  have c2 := Lib.hid (fun W (hW : Below w.heap.size w W) => rside3_c W f r ps _ cap (hS0.below hW) (by omega) (fwd black))
  have c3 := Lib.hid (fun W (hW : Below w.heap.size w W) => rocc_c W f r ps _ cap (hS0.below hW) h64)
  have hocc : occS ps < 18446744073709551616 := by
    have hz : 0 < ps.length := by have := (vsize_mul hv).1; omega
    exact (occ_on hbv (vsq_of hv hlen (i := 0) hz)).2
  have c4 := Lib.hid (fun W (hW : Below w.heap.size w W) (i : Nat) (h : i ∈ idxN (fun q => sgnI q == fwd black) ps ps.length) => by
    obtain ⟨h1, h2⟩ := idxN_at h
    have hpi : ps[i]? = some (ps.getD i 0) := by rw [List.getD_eq_getElem?_getD, List.getElem?_eq_getElem h1]; rfl
    obtain ⟨h3, h4⟩ := orthB_at ho hpi
    have h5 : ps.getD i 0 ≠ 0 := by
      intro e
      rw [e] at h2
      unfold sgnI fwd at h2
      cases black <;> simp at h2
    exact rattacks_c W f r ps b off cap i a (ps.getD i 0) (occS ps) (hP.below hW) h64 hpi (vsq_of hv hlen h1) a0 a1 h5 h3 h4 hocc)
  rw [idxL_N] at c2
  unfold attL
  have hmem : ∀ i ∈ idxN (fun q => sgnI q == fwd black) ps ps.length, i < ps.length := fun i h => (idxN_at h).1
  have hLl := idxN_len (fun q => sgnI q == fwd black) ps ps.length
  generalize idxN (fun q => sgnI q == fwd black) ps ps.length = L at *
  have hfs := fun k x h => filter_snoc (attR' f r ps a) L k x h
  have hfl : ∀ k, ((L.take k).filter (attR' f r ps a)).length ≤ 64 := fun k => Nat.le_trans (List.length_filter_le _ _) (by rw [List.length_take]; omega)
  have hfin : L.filter (attR' f r ps a) = (L.take L.length).filter (attR' f r ps a) := by rw [List.take_length]
  rw [hfin]
  have hzero : (L.take 0).filter (attR' f r ps a) = [] := rfl
  obtain ⟨F, hF⟩ : ∃ F : Nat → List Nat, (fun k => (L.take k).filter (attR' f r ps a)) = F := ⟨_, rfl⟩
  have hFx : ∀ k, (L.take k).filter (attR' f r ps a) = F k := fun k => congrFun hF k
  simp only [hFx] at hfs hfl hzero ⊢
  obtain ⟨occ, hoc⟩ : ∃ o, occS ps = o := ⟨_, rfl⟩
  have hatt : ∀ i : Nat, attR f r (ps.getD i 0) i a occ = attR' f r ps a i := fun i => by rw [← hoc]; rfl
  simp only [hoc, hatt] at c3 c4
  obtain ⟨m, hm⟩ : ∃ m, L.length = m := ⟨_, rfl⟩
  obtain ⟨n, hn⟩ : ∃ n, ps.length = n := ⟨_, rfl⟩
  obtain ⟨s, hs⟩ : ∃ s, fwd black = s := ⟨_, rfl⟩
  unfold bdV at c2 c3 c4 ⊢
  unfold Ints at c2 ⊢
  rw [hn] at c2 c3 c4 hmem hLl h64 hlen ⊢
  simp only [hs] at c1 c2
  rw [hm] at hLl ⊢
  rw [hBe]
  replace hm := Lib.hid hm
  replace hn := Lib.hid hn
  replace hs := Lib.hid hs
  replace hoc := Lib.hid hoc
  replace hF := Lib.hid hF
  replace hfs := Lib.hid hfs
  replace hmem := Lib.hid hmem
  replace hzero := Lib.hid hzero
  clear hatt hFx hfin hocc hS0 hbv hP ho hv hlen
  go_enter Tryz.func114, Tryz.ntmps114
  go_wp2_with fail
  refine start1B hBe ?_
  intro V hN hX x
  have hS : ∃ y : Ext V.heap.size V, x.1.drew = y.1 := ⟨⟨_, x.2.drew⟩, rfl⟩
  have hld : ∀ w' : World, (∃ y : Ext V.heap.size V, w' = y.1) → w'.heap[B]? = some (.cells #[.int .i64 f, .int .i64 r, .slice (some ⟨b, off, none⟩) n cap] 40 (0, 0)) := fun w' ⟨y, hy⟩ => hy ▸ below_blk y.2 hN.out
  refine wp_region_held (S := fun w' => ∃ y : Ext V.heap.size V, w' = y.1) (by kernel_rfl) ?_
  refine wpAnyH_take (i := 0) rfl (by kernel_rfl) (by kernel_rfl) (by kernel_rfl) (fun _ _ _ h => h) (yields_row 40 (.tmp 3) rfl rfl B (by go_simp) 40 #[.int .i64 f, .int .i64 r, .slice (some ⟨b, off, none⟩) n cap] (0, 0) _ hld Tryz.underlying40 rfl (by kernel_rfl)) hS ?_
  refine wpAnyH_take (i := 1) (v := .bool black) rfl (by kernel_rfl) (by kernel_rfl) (by kernel_rfl) (fun _ _ _ h => h) (.inl ⟨by rfl, fun w' _ => by go_simp⟩) hS ?_
  refine wpAnyH_take (i := 4) rfl (by kernel_rfl) (by kernel_rfl) (by kernel_rfl) (fun _ _ _ h => h) (yields_row 40 (.tmp 3) rfl rfl B (by go_simp) 40 #[.int .i64 f, .int .i64 r, .slice (some ⟨b, off, none⟩) n cap] (0, 0) _ hld Tryz.underlying40 rfl (by kernel_rfl)) hS ?_
  clear hld
  refine wpAnyH_only (i := 2) (by kernel_rfl) rfl (by rfl) ?_
  intro K hK
  unfold Oper.wp
  go_simp
  refine (c1 _).out.mono ?_
  rintro e _ ⟨rfl, rfl⟩
  refine hK _ _ hS ?_
  clear hK K
  refine wpAnyH_only (i := 3) (by kernel_rfl) rfl (by rfl) ?_
  intro K hK
  unfold Oper.wp
  go_simp
  refine (c2.out _ ((hX.out x).2.2.drew)).mono ?_
  rintro e V1 ⟨v1, rfl, hown, hV1⟩
  have hx1 : Below V.heap.size V V1 := x.2.trans ((below_undrew hV1).mono x.2.size)
  replace hown := own_mono hown (show V.heap.size ≤ x.1.drew.heap.size from x.2.size)
  refine hK _ _ ⟨⟨V1, hx1⟩, rfl⟩ ?_
  clear hK K hV1 hS x
  refine wpAnyH_only (i := 5) (by kernel_rfl) rfl (by rfl) ?_
  intro K hK
  unfold Oper.wp
  go_simp
  refine (c3.out _ ((hX.out ⟨V1, hx1⟩).2.2)).mono ?_
  rintro e V2 ⟨rfl, hV2⟩
  have hx2 : Below V.heap.size V V2 := hx1.trans (hV2.mono hx1.size)
  replace hown := own_below hown hV2
  have hS : ∃ y : Ext V.heap.size V, V2 = y.1 := ⟨⟨V2, hx2⟩, rfl⟩
  refine hK _ _ hS ?_
  clear hK K hV2 hx1
  refine wpAnyH_take (i := 6) (v := v1) rfl (by kernel_rfl) (by kernel_rfl) (by kernel_rfl) (fun _ _ _ h => h) (.inl ⟨by rfl, fun w' _ => by go_simp⟩) hS ?_
  refine wpAnyH_take (i := 7) (v := .int .u64 occ) rfl (by kernel_rfl) (by kernel_rfl) (by kernel_rfl) (fun _ _ _ h => h) (.inl ⟨by rfl, fun w' _ => by go_simp⟩) hS ?_
  refine wpAnyH_done (by kernel_rfl) ?_ _
  go_simp
  clear hS
  obtain ⟨po1, cap1, rfl, hI, _, _⟩ := own_ints hown
  replace hN := Lib.hid (below_blk hx2 hN.out)
  replace hX := Lib.hid (fun z : Ext V2.heap.size V2 => (show Below B w z.1 ∧ B < z.1.heap.size ∧ Below w.heap.size w z.1 from hX.out ⟨z.1, hx2.trans (z.2.mono hx2.size)⟩))
  clear hown hx2 c1 c2 c3
  rw [List.length_map, hm.out]
  go_wp2_with fail
  obtain ⟨V, hVe⟩ : ∃ V, V = V2 := ⟨_, rfl⟩
  subst hVe
  replace hI := Lib.hid hI
  refine start0r ?_
  intro x
  have hB2 := (hX.out ⟨V, Below.refl _ _⟩).2.1
  go_loopw [7, 10] (fun v i wr => ∃ (k : Nat) (u : Value) (x : Ext V.heap.size V), wr = x.1 ∧ u = v ∧ k ≤ m ∧ i = .int .i64 k ∧ x.1.ownsRow V.heap.size 3 1 u (castL (F k)).length ((castL (F k)).map intV)) (fun _ i _ => m - (intOf i).toNat)
  case atStart => exact ⟨0, _, x, rfl, rfl, by omega, rfl, by rw [hzero.out]; exact World.ownsRow_nil _ _ _ _⟩
  case round =>
    clear x
    obtain ⟨k, u, x, rfl, rfl, hk, rfl, hown⟩ := hrel
    by_cases hkm : k = m
    · subst hkm
      clear hfl
      go_wp2
      go_ret
      exact ⟨u, rfl, own_mono hown (Nat.le_of_lt hB2), (hX.out x).1⟩
    · have hkl : k < m := by omega
      obtain ⟨q, hq⟩ : ∃ q, L[k]? = some q := ⟨_, List.getElem?_eq_getElem (by rw [hm.out]; exact hkl)⟩
      have hqm := List.mem_of_getElem? hq
      obtain ⟨g, o1, rfl, hQ⟩ := hI.out.resolve_left (by intro e; rw [List.map_eq_nil_iff] at e; rw [e] at hq; cases hq)
      have hup := Lib.hid (fun z : Ext x.1.heap.size x.1 => (x.2.trans (z.2.mono x.2.size) : Below V.heap.size V z.1))
      have z0 := fun z : Ext x.1.heap.size x.1 => below_at (hup.out z) (hQ k q (by rw [List.getElem?_map, hq]; rfl))
      have y0 := fun z : Ext x.1.heap.size x.1 => cell_of (below_blk (hup.out z) hN.out) 0 _ rfl
      have y1 := fun z : Ext x.1.heap.size x.1 => cell_of (below_blk (hup.out z) hN.out) 1 _ rfl
      have y2 := fun z : Ext x.1.heap.size x.1 => cell_of (below_blk (hup.out z) hN.out) 2 _ rfl
      have hs2 := Lib.hid (hfs.out k q hq)
      have hl := hfl k
      have c5 := fun z : Ext x.1.heap.size x.1 => Lib.hid (c4.out z.1 (hX.out ⟨z.1, hup.out z⟩).2.2 q hqm)
      obtain ⟨M, hM⟩ : ∃ M, F k = M := ⟨_, rfl⟩
      rw [hM] at hs2 hl hown
      have hcl : (castL M).length = M.length := by unfold castL; simp
      have hcl2 : (castL M).length ≤ 64 := by rw [hcl]; exact hl
      obtain ⟨t, ht⟩ : ∃ t, attR' f r ps a q = t := ⟨_, rfl⟩
      rw [ht] at hs2
      simp only [ht] at c5
      replace hcl := Lib.hid hcl
      replace hown := Lib.hid hown
      replace hM := Lib.hid hM
      replace ht := Lib.hid ht
      replace hQ := Lib.hid hQ
      replace hq := Lib.hid hq
      clear hfl hkm hqm
      go_wp2_with fail
      refine start0r ?_
      intro x2
      refine ext_region' (by kernel_rfl) (by kernel_rfl) ?_
      clear x2
      repeat (first | (go_big_quiet_step ((go_at_call 145; exact Pure.st (c5 _).out))) | ((refine wpQuiet_step (fun K hK => ?_)); go_simp; (refine ⟨_, fun _ => rfl, hK _ ?_⟩); clear hK K))
      refine wpQuiet_nil ?_
      intro x2
      replace hown := Lib.hid (own_below hown.out x2.2)
      obtain ⟨z, hz⟩ : ∃ z : Ext V.heap.size V, z.1 = x2.1 := ⟨⟨x2.1, hup.out x2⟩, rfl⟩
      rw [← hz] at hown ⊢
      clear hz x2 y0 y1 y2 z0 hup c5
      have hBz := z.2.size
      cases t
      · go_wp2_with fail
        go_roundw
        case rel => exact ⟨k + 1, u, z, rfl, rfl, by omega, by go_num, by rw [hs2.out]; exact hown.out⟩
        case measure => simp [intOf]; omega
      · have zq := below_at z.2 (hQ.out k q (by rw [List.getElem?_map, hq.out]; rfl))
        go_wp2_with (at_builtin; refine wpList_append_lies _ rfl _ _ 136 rfl V.heap.size 3 i0 (.int .i64 0) 1 8 Tryz.underlying136 hi hz0 hz1 hz2 rfl (by decide) _ _ _ rfl ((hown).out.alloc _) ⟨z.1.heap.size, 0, none⟩ 1 1 [.int .i64 q] rfl rfl (World.news_of_block (blk_new rfl _)) (by intro u hu; simp at hu; subst hu; rfl) (by omega) (by unfold maxLen; omega) (by omega) (by simp; omega) _ rfl ?_; intro g cap w1 hown' hgrow hat hlt)
        go_roundw
        case rel => exact ⟨k + 1, _, ⟨w1, below_row (z.2.alloc hBz _) (by simp; omega) (hown.out.alloc _) hgrow⟩, rfl, rfl, by omega, by go_num, by rw [hs2.out]; simpa [intV, castL] using hown'⟩
        case measure => simp [intOf]; omega
end
section
def kingN (ps : List Int) (black : Bool) : List Nat := idxN (fun q => q == kingP black) ps ps.length
def kingR (ps : List Int) (black : Bool) : Int := match kingN ps black with
  | [a] => (a : Int)
  | _ => -1
theorem kingR_one {ps : List Int} {black : Bool} {L : List Nat} (h : kingN ps black = L) {a : Nat} (ha : L = [a]) : kingR ps black = a := by
  unfold kingR
  rw [h, ha]
theorem kingR_no {ps : List Int} {black : Bool} {L : List Nat} (h : kingN ps black = L) (hl : L.length ≠ 1) : kingR ps black = -1 := by
  unfold kingR
  rw [h]
  match L, hl with
  | [], _ => rfl
  | [a], h => exact absurd rfl h
  | a :: b :: l, _ => rfl
set_option maxHeartbeats 1000000 in
theorem rking_c (w : World) (f r : Int) (ps : List Int) (po : Option Addr) (cap : Nat) (black : Bool) (hS0 : SlcAt w po ps) (hn : ps.length ≤ 1000) : Pure 64 #[bdV f r po ps.length cap, .bool black] w (.int .i64 (kingR ps black)) := by
  obtain ⟨B, hBe⟩ : ∃ B, w.heap.size = B := ⟨_, rfl⟩
  have c1 := fun W => Lib.hid (rsd_c W black)
  have c2 := Lib.hid (fun W (hW : Below w.heap.size w W) => rlist_c W f r ps po cap (hS0.below hW) hn (kingP black))
  rw [idxL_N] at c2
  have hone := fun L (h : kingN ps black = L) a ha => kingR_one h (a := a) ha
  have hno := fun L (h : kingN ps black = L) hl => kingR_no h hl
  have hlen := idxN_len (fun q => q == kingP black) ps ps.length
  unfold kingN at hone hno
  generalize idxN (fun q => q == kingP black) ps ps.length = L at *
  generalize kingR ps black = R at *
  replace hone := hone L rfl
  replace hno := hno L rfl
  have hs : (fwd black = -1 ∧ kingP black = -6) ∨ (fwd black = 1 ∧ kingP black = 6) := by cases black <;> simp [fwd, kingP]
  obtain ⟨s, hse⟩ : ∃ s, fwd black = s := ⟨_, rfl⟩
  obtain ⟨kp, hkp⟩ : ∃ s, kingP black = s := ⟨_, rfl⟩
  rw [hse, hkp] at hs
  rw [hkp] at c2
  simp only [hse] at c1
  have hkb : IntKind.i8.wrap (6 * s) = kp := by rcases hs with ⟨h1, h2⟩ | ⟨h1, h2⟩ <;> subst h1 <;> subst h2 <;> rfl
  have hsb : -1 ≤ s ∧ s ≤ 1 := by omega
  obtain ⟨s1, s2⟩ := hsb
  have e6 : IntKind.i64.wrap (6 * s) = 6 * s := IntWalk.i64_in _ (by omega)
  obtain ⟨m, hm⟩ : ∃ m, L.length = m := ⟨_, rfl⟩
  obtain ⟨n, hn2⟩ : ∃ n, ps.length = n := ⟨_, rfl⟩
  unfold bdV at c2 ⊢
  unfold Ints at c2
  unfold Pure
  rw [hn2] at c2 hlen ⊢
  rw [hm] at hlen
  rw [hBe]
  replace hm := Lib.hid hm
  replace hn2 := Lib.hid hn2
  replace hse := Lib.hid hse
  replace hkp := Lib.hid hkp
  replace hone := Lib.hid hone
  replace hno := Lib.hid hno
  clear hs hS0 hn
  go_enter Tryz.func64, Tryz.ntmps64
  go_wp2_with fail
  refine start1B hBe ?_
  intro V hN hX x
  have hS : ∃ y : Ext V.heap.size V, x.1.drew = y.1 := ⟨⟨_, x.2.drew⟩, rfl⟩
  have hld : ∀ w' : World, (∃ y : Ext V.heap.size V, w' = y.1) → w'.heap[B]? = some (.cells #[.int .i64 f, .int .i64 r, .slice po n cap] 40 (0, 0)) := fun w' ⟨y, hy⟩ => hy ▸ below_blk y.2 hN.out
  refine wp_region_held (S := fun w' => ∃ y : Ext V.heap.size V, w' = y.1) (by kernel_rfl) ?_
  refine wpAnyH_take (i := 0) rfl (by kernel_rfl) (by kernel_rfl) (by kernel_rfl) (fun _ _ _ h => h) (yields_row 40 (.tmp 2) rfl rfl B (by go_simp) 40 #[.int .i64 f, .int .i64 r, .slice po n cap] (0, 0) _ hld Tryz.underlying40 rfl (by kernel_rfl)) hS ?_
  refine wpAnyH_take (i := 1) (v := .bool black) rfl (by kernel_rfl) (by kernel_rfl) (by kernel_rfl) (fun _ _ _ h => h) (.inl ⟨by rfl, fun w' _ => by go_simp⟩) hS ?_
  clear hld
  refine wpAnyH_only (i := 2) (by kernel_rfl) rfl (by rfl) ?_
  intro K hK
  unfold Oper.wp
  go_simp
  refine (c1 _).out.mono ?_
  rintro e _ ⟨rfl, rfl⟩
  refine hK _ _ hS ?_
  clear hK K
  refine wpAnyH_take (i := 3) (v := .int .i64 (6 * s)) rfl (by kernel_rfl) (by kernel_rfl) (by kernel_rfl) (fun _ _ _ h => h) (.inl ⟨by rfl, fun w' _ => by go_simp⟩) hS ?_
  refine wpAnyH_take (i := 4) (v := .int .i8 kp) rfl (by kernel_rfl) (by kernel_rfl) (by kernel_rfl) (fun _ _ _ h => h) (.inl ⟨by rfl, fun w' _ => by go_simp⟩) hS ?_
  refine wpAnyH_only (i := 5) (by kernel_rfl) rfl (by rfl) ?_
  intro K hK
  unfold Oper.wp
  go_simp
  refine (c2.out _ ((hX.out x).2.2.drew)).mono ?_
  rintro e V1 ⟨v1, rfl, hown, hV1⟩
  have hx1 : Below V.heap.size V V1 := x.2.trans ((below_undrew hV1).mono x.2.size)
  have hS1 : ∃ y : Ext V.heap.size V, V1 = y.1 := ⟨⟨V1, hx1⟩, rfl⟩
  refine hK _ _ hS1 ?_
  clear hK K hV1 hS
  replace hS := hS1
  clear hS1
  refine wpAnyH_take (i := 6) (v := v1) rfl (by kernel_rfl) (by kernel_rfl) (by kernel_rfl) (fun _ _ _ h => h) (.inl ⟨by rfl, fun w' _ => by go_simp⟩) hS ?_
  refine wpAnyH_done (by kernel_rfl) ?_ _
  go_simp
  clear hS
  obtain ⟨po1, cap1, rfl, hI, _, _⟩ := own_ints hown
  replace hX := Lib.hid (show Below B w V1 from (hX.out ⟨V1, hx1⟩).1)
  clear hown hx1 c1 c2 x hkb e6
  rw [List.length_map, hm.out]
  replace hI := Lib.hid hI
  by_cases h1 : m = 1
  · obtain ⟨q, hq⟩ : ∃ q, L = [q] := by
      have := hm.out
      rw [h1] at this
      exact List.length_eq_one_iff.1 this
    obtain ⟨g, o1, rfl, hQ⟩ := hI.out.resolve_left (by intro e; rw [List.map_eq_nil_iff] at e; rw [e] at hq; cases hq)
    have z0 := hQ 0 q (by rw [hq]; rfl)
    rw [Nat.add_zero] at z0
    have hR := Lib.hid (hone.out q hq)
    subst h1
    replace hq := Lib.hid hq
    replace hQ := Lib.hid hQ
    go_wp2
    go_ret
    exact ⟨by rw [hR.out]; rfl, hX.out⟩
  · have hR := Lib.hid (hno.out (by rw [hm.out]; exact h1))
    have h1' : ((m : Int) != 1) = true := by simp; omega
    go_wp2
    go_ret
    exact ⟨by rw [hR.out]; rfl, hX.out⟩
theorem rcheck_c (w : World) (f r : Int) (ps : List Int) (b off cap : Nat) (black : Bool) (hP : PcAt w b off ps) (ho : orthB f r ps = true) (hk : 0 ≤ kingR ps black) :
    Pure 65 #[bdV f r (some ⟨b, off, none⟩) ps.length cap, .bool black] w (.bool (!(attL f r ps (kingR ps black) (!black)).isEmpty)) := by
  obtain ⟨B, hBe⟩ : ∃ B, w.heap.size = B := ⟨_, rfl⟩
  have hbv : bvalid f r ps = true := by unfold orthB at ho; rw [Bool.and_eq_true] at ho; exact ho.1
  obtain ⟨_, _, h64⟩ := bvalid_len hbv
  have hS0 : SlcAt w (some ⟨b, off, none⟩) ps := .inr ⟨b, off, rfl, hP⟩
  have c1 := Lib.hid (fun W (hW : Below w.heap.size w W) => rking_c W f r ps _ cap black (hS0.below hW) (by omega))
  have hkl : kingR ps black ≤ 64 := by
    unfold kingR
    split
    · rename_i a h
      have : a < ps.length := idxN_lt (show a ∈ kingN ps black by rw [h]; simp)
      omega
    · omega
  have c2 := Lib.hid (fun W (hW : Below w.heap.size w W) => ratt_c W f r ps b off cap (kingR ps black) (!black) (hP.below hW) ho hk hkl)
  obtain ⟨L, hL⟩ : ∃ L, attL f r ps (kingR ps black) (!black) = L := ⟨_, rfl⟩
  have hLl : L.length ≤ 64 := by
    rw [← hL]
    unfold attL
    exact Nat.le_trans (List.length_filter_le _ _) (Nat.le_trans (idxN_len _ _ _) h64)
  rw [hL] at c2 ⊢
  generalize kingR ps black = k at *
  have hem : ((0 : Int) < (castL L).length) = (L.isEmpty = false) := by
    unfold castL
    rw [List.length_map]
    cases L <;> simp
  obtain ⟨m, hm⟩ : ∃ m, (castL L).length = m := ⟨_, rfl⟩
  obtain ⟨n, hn2⟩ : ∃ n, ps.length = n := ⟨_, rfl⟩
  unfold bdV at c1 c2 ⊢
  unfold Ints at c2
  unfold Pure
  rw [hn2] at c1 c2 ⊢
  rw [hm] at hem
  rw [hBe]
  have hres : (!L.isEmpty) = decide ((0 : Int) < m) := by
    have h5 : decide ((0 : Int) < m) = decide (L.isEmpty = false) := decide_eq_decide.2 (Iff.of_eq hem)
    rw [h5]
    cases L <;> simp
  rw [hres]
  have hm2 : m ≤ 64 := by rw [← hm]; unfold castL; rw [List.length_map]; exact hLl
  replace hm := Lib.hid hm
  replace hn2 := Lib.hid hn2
  replace hL := Lib.hid hL
  clear hS0 hP ho hbv h64 hk hkl hem hres
  go_enter Tryz.func65, Tryz.ntmps65
  go_wp2_with fail
  refine start1B hBe ?_
  intro V hN hX x
  have hS : ∃ y : Ext V.heap.size V, x.1.drew = y.1 := ⟨⟨_, x.2.drew⟩, rfl⟩
  have hld : ∀ w' : World, (∃ y : Ext V.heap.size V, w' = y.1) → w'.heap[B]? = some (.cells #[.int .i64 f, .int .i64 r, .slice (some ⟨b, off, none⟩) n cap] 40 (0, 0)) := fun w' ⟨y, hy⟩ => hy ▸ below_blk y.2 hN.out
  refine wp_region_held (S := fun w' => ∃ y : Ext V.heap.size V, w' = y.1) (by kernel_rfl) ?_
  refine wpAnyH_take (i := 0) rfl (by kernel_rfl) (by kernel_rfl) (by kernel_rfl) (fun _ _ _ h => h) (yields_row 40 (.tmp 2) rfl rfl B (by go_simp) 40 #[.int .i64 f, .int .i64 r, .slice (some ⟨b, off, none⟩) n cap] (0, 0) _ hld Tryz.underlying40 rfl (by kernel_rfl)) hS ?_
  refine wpAnyH_take (i := 1) rfl (by kernel_rfl) (by kernel_rfl) (by kernel_rfl) (fun _ _ _ h => h) (yields_row 40 (.tmp 2) rfl rfl B (by go_simp) 40 #[.int .i64 f, .int .i64 r, .slice (some ⟨b, off, none⟩) n cap] (0, 0) _ hld Tryz.underlying40 rfl (by kernel_rfl)) hS ?_
  refine wpAnyH_take (i := 2) (v := .bool black) rfl (by kernel_rfl) (by kernel_rfl) (by kernel_rfl) (fun _ _ _ h => h) (.inl ⟨by rfl, fun w' _ => by go_simp⟩) hS ?_
  refine wpAnyH_take (i := 4) (v := .bool black) rfl (by kernel_rfl) (by kernel_rfl) (by kernel_rfl) (fun _ _ _ h => h) (.inl ⟨by rfl, fun w' _ => by go_simp⟩) hS ?_
  refine wpAnyH_take (i := 5) (v := .bool (!black)) rfl (by kernel_rfl) (by kernel_rfl) (by kernel_rfl) (fun _ _ _ h => h) (.inl ⟨by rfl, fun w' _ => by go_simp⟩) hS ?_
  clear hld
  refine wpAnyH_only (i := 3) (by kernel_rfl) rfl (by rfl) ?_
  intro K hK
  unfold Oper.wp
  go_simp
  refine (c1.out _ ((hX.out x).2.2.drew)).mono ?_
  rintro e V1 ⟨rfl, hV1⟩
  have hx1 : Below V.heap.size V V1 := x.2.trans ((below_undrew hV1).mono x.2.size)
  refine hK _ _ ⟨⟨V1, hx1⟩, rfl⟩ ?_
  clear hK K hV1 hS x
  refine wpAnyH_only (i := 6) (by kernel_rfl) rfl (by rfl) ?_
  intro K hK
  unfold Oper.wp
  go_simp
  refine (c2.out _ ((hX.out ⟨V1, hx1⟩).2.2)).mono ?_
  rintro e V2 ⟨v, rfl, hown, hV2⟩
  have hx2 : Below V.heap.size V V2 := hx1.trans (hV2.mono hx1.size)
  have hS : ∃ y : Ext V.heap.size V, V2 = y.1 := ⟨⟨V2, hx2⟩, rfl⟩
  refine hK _ _ hS ?_
  clear hK K hV2
  obtain ⟨po1, cap1, rfl, _, _, _⟩ := own_ints hown
  rw [hm.out]
  clear hown hx1
  refine wpAnyH_take (i := 7) (v := .int .i64 m) rfl (by kernel_rfl) (by kernel_rfl) (by kernel_rfl) (fun _ _ _ h => h) (.inl ⟨by rfl, fun w' _ => by go_simp⟩) hS ?_
  refine wpAnyH_take (i := 8) (v := .bool (decide ((0 : Int) < m))) rfl (by kernel_rfl) (by kernel_rfl) (by kernel_rfl) (fun _ _ _ h => h) (.inl ⟨by rfl, fun w' _ => by go_simp⟩) hS ?_
  refine wpAnyH_take (i := 9) (v := .bool (decide ((0 : Int) < m))) rfl (by kernel_rfl) (by kernel_rfl) (by kernel_rfl) (fun _ _ _ h => h) (.inl ⟨by rfl, fun w' _ => by go_simp⟩) hS ?_
  refine wpAnyH_done (by kernel_rfl) ?_ _
  go_simp
  go_wp2
  go_ret
  exact ⟨by simp, (hX.out ⟨V2, hx2⟩).1⟩
end
section
theorem list_ext {ps qs : List Int} {n : Nat} (h1 : ps.length = n) (h2 : qs.length = n) (h : ∀ j, j < n → ps.getD j 0 = qs.getD j 0) : (ps == qs) = true := by
  rw [beq_iff_eq]
  refine List.ext_getElem (by omega) fun i a b => ?_
  have := h i (by omega)
  simpa [List.getD_eq_getElem?_getD, List.getElem?_eq_getElem a, List.getElem?_eq_getElem b] using this
theorem list_nex {ps qs : List Int} {k : Nat} (h : ps.getD k 0 ≠ qs.getD k 0) : (ps == qs) = false := by
  rw [Bool.eq_false_iff, ne_eq, beq_iff_eq]
  rintro rfl
  exact h rfl
theorem list_nel {ps qs : List Int} (h : ps.length ≠ qs.length) : (ps == qs) = false := by
  rw [Bool.eq_false_iff, ne_eq, beq_iff_eq]
  rintro rfl
  exact h rfl
theorem slc_at {w : World} {po : Option Addr} {ps : List Int} (h : SlcAt w po ps) {k : Nat} (hk : k < ps.length) : ∃ b off, po = some ⟨b, off, none⟩ ∧ w.cell? ⟨b, off + k, none⟩ = some (.int .i8 (ps.getD k 0)) := by
  rcases h with h | ⟨b, off, e, hP⟩
  · rw [h] at hk; simp at hk
  · exact ⟨b, off, e, hP k _ (by rw [List.getD_eq_getElem?_getD, List.getElem?_eq_getElem hk]; rfl)⟩
end
section
def abcB : ByteArray := ⟨#[97, 98, 99, 100, 101, 102, 103, 104]⟩
def numB : ByteArray := ⟨#[49, 50, 51, 52, 53, 54, 55, 56]⟩
def nmB (F R : Nat) : ByteArray := abcB.extract F (F + 1) ++ numB.extract R (R + 1)
theorem nm_all : ((List.range 8).all fun F => (List.range 8).all fun R => (nmB F R).data == #[UInt8.ofNat (97 + F), UInt8.ofNat (49 + R)] && decide ((abcB.extract F (F + 1)).size = 1) && decide ((numB.extract R (R + 1)).size = 1)) = true := by kernel_rfl
theorem nm_at {F R : Nat} (hF : F < 8) (hR : R < 8) : nmB F R = ⟨#[UInt8.ofNat (97 + F), UInt8.ofNat (49 + R)]⟩ ∧ (abcB.extract F (F + 1)).size = 1 ∧ (numB.extract R (R + 1)).size = 1 := by
  have h1 := List.all_eq_true.1 nm_all F (List.mem_range.2 hF)
  have h2 := List.all_eq_true.1 h1 R (List.mem_range.2 hR)
  simp only [Bool.and_eq_true, beq_iff_eq, decide_eq_true_eq] at h2
  refine ⟨?_, h2.1.2, h2.2⟩
  cases h : nmB F R with
  | mk d => rw [h] at h2; exact congrArg ByteArray.mk h2.1.1
set_option maxHeartbeats 1000000 in
theorem rname_c (w : World) (f r a : Int) (hq : vsq f r a = true) : Pure 78 #[.agg #[.int .i64 f, .int .i64 r], .int .i64 a] w (.string (nameB f a)) := by
  obtain ⟨B, hBe⟩ : ∃ B, w.heap.size = B := ⟨_, rfl⟩
  obtain ⟨hv, a0, a1⟩ := vsq_bd hq
  obtain ⟨f1, f2, r1, r2⟩ := vsize_bd hv
  have c1 := fun W => Lib.hid (rplace_c W f r a hv a0 (by have := (vsize_mul hv).2; omega))
  have m1 := Int.emod_nonneg a (show f ≠ 0 by omega)
  have m2 := Int.emod_lt_of_pos a (show 0 < f by omega)
  have p1 := (pass_rank hq).1
  have p2 := (pass_rank hq).2.1
  unfold pointV at c1
  unfold nameB
  obtain ⟨F, hF⟩ : ∃ F : Nat, a % f = F := ⟨(a % f).toNat, by omega⟩
  obtain ⟨R, hR⟩ : ∃ R : Nat, a / f = R := ⟨(a / f).toNat, by omega⟩
  simp only [hF, hR, Int.toNat_natCast] at c1 m1 m2 p1 p2 ⊢
  have hF8 : F < 8 := by omega
  have hR8 : R < 8 := by omega
  obtain ⟨hnm, s1, s2⟩ := nm_at hF8 hR8
  rw [← hnm]
  unfold nmB abcB numB at *
  unfold Pure
  rw [hBe]
  replace hF := Lib.hid hF
  replace hR := Lib.hid hR
  replace hq := Lib.hid hq
  replace hv := Lib.hid hv
  replace hnm := Lib.hid hnm
  clear a0 a1
  go_enter Tryz.func78, Tryz.ntmps78
  go_wp2_with fail
  refine start1Bc hBe ?_
  intro V hN hX x
  have y0 := fun z : Ext V.heap.size V => cell_of (below_blk z.2 (hN).out) 0 _ rfl
  have y1 := fun z : Ext V.heap.size V => cell_of (below_blk z.2 (hN).out) 1 _ rfl
  refine (Pure.st (c1 _).out).mono ?_
  rintro e _ ⟨rfl, x, rfl⟩
  go_wp2_with (refine store_row 85 (.tmp 5) (.tmp 8) rfl rfl #[.int .i64 F, .int .i64 R] rfl (by rfl) _ (blk_new rfl _) rfl sizePt (by simp [Value.oneCell']) ?_)
  refine laid_row #[.int .i64 F, .int .i64 R] rfl rfl ?_
  intro G V2 hG hGV hV2 hP
  rw [hG]
  replace hX := Lib.hid (fun z : Ext V2.heap.size V2 => (show Below B w z.1 ∧ B < z.1.heap.size ∧ Below w.heap.size w z.1 from hX.out ⟨z.1, hV2.trans (z.2.mono hV2.size)⟩))
  replace hP := Lib.hid hP
  clear y0 y1 hV2 hGV hG x c1 hN
  obtain ⟨V, hVe⟩ : ∃ V, V = V2 := ⟨_, rfl⟩
  subst hVe
  refine start0r ?_
  intro x
  have y0 := fun z : Ext V.heap.size V => cell_of (below_blk z.2 (hP).out) 0 _ rfl
  have y1 := fun z : Ext V.heap.size V => cell_of (below_blk z.2 (hP).out) 1 _ rfl
  have e1 : IntKind.i64.wrap ((F : Int) + 1) = (F : Int) + 1 := IntWalk.i64_in _ (by omega)
  have e2 : IntKind.i64.wrap ((R : Int) + 1) = (R : Int) + 1 := IntWalk.i64_in _ (by omega)
  have e3 : ((F : Int) + 1 ≤ 8) = True := by simp; omega
  have e4 : ((R : Int) + 1 ≤ 8) = True := by simp; omega
  have e5 : ((F : Int) ≤ (F : Int) + 1) = True := by simp; omega
  have e6 : ((R : Int) ≤ (R : Int) + 1) = True := by simp; omega
  have e7 : (0 ≤ (F : Int) + 1) = True := by simp; omega
  have e8 : (0 ≤ (R : Int) + 1) = True := by simp; omega
  have e9 : ((F : Int) + 1).toNat = F + 1 := by omega
  have e10 : ((R : Int) + 1).toNat = R + 1 := by omega
  refine ext_region' (by kernel_rfl) (by kernel_rfl) ?_
  repeat (first | (go_big_quiet_step ((fail))) | ((refine wpQuiet_step (fun K hK => ?_)); go_simp; (refine ⟨_, fun _ => rfl, hK _ ?_⟩); clear hK K))
  refine wpQuiet_nil ?_
  intro x
  go_wp2
  go_ret
  exact ⟨rfl, (hX.out x).1⟩
end
section
def firstN (P : Nat → Bool) (n : Nat) : Int := match (List.range n).find? P with
  | some i => (i : Int)
  | none => -1
theorem firstN_hit {P : Nat → Bool} {n k : Nat} (hk : k < n) (hp : P k = true) (h : ∀ j, j < k → P j = false) : firstN P n = k := by
  unfold firstN
  have : (List.range n).find? P = some k := by
    rw [List.find?_range_eq_some]
    exact ⟨hp, by simpa using hk, fun j hj => by rw [h j hj]; rfl⟩
  rw [this]
theorem firstN_miss {P : Nat → Bool} {n : Nat} (h : ∀ j, j < n → P j = false) : firstN P n = -1 := by
  unfold firstN
  have : (List.range n).find? P = none := by
    rw [List.find?_eq_none]
    intro x hx
    rw [h x (List.mem_range.1 hx)]
    simp
  rw [this]
def parseR (f r : Int) (s : ByteArray) : Int := firstN (fun i => nameB f i == s) (f * r).toNat
set_option maxHeartbeats 1000000 in
theorem rsqparse_c (w : World) (f r : Int) (s : ByteArray) (hv : vsize f r = true) : Pure 88 #[.agg #[.int .i64 f, .int .i64 r], .string s] w (.int .i64 (parseR f r s)) := by
  obtain ⟨B, hBe⟩ : ∃ B, w.heap.size = B := ⟨_, rfl⟩
  obtain ⟨k1, k2⟩ := vsize_mul hv
  unfold parseR
  obtain ⟨n, hn⟩ : ∃ n : Nat, f * r = n := ⟨(f * r).toNat, by omega⟩
  have c1 := fun (k : Nat) (hk : k < n) W => rname_c W f r k (vsq_of hv hn.symm hk)
  have hhit := fun k h1 h2 h3 => firstN_hit (P := fun i => nameB f i == s) (n := n) (k := k) h1 h2 h3
  have hmiss := fun h => firstN_miss (P := fun i => nameB f i == s) (n := n) h
  rw [hn, Int.toNat_natCast]
  generalize firstN (fun i => nameB f i == s) n = R at *
  unfold Pure
  rw [hBe]
  replace hv := Lib.hid hv
  replace hhit := Lib.hid hhit
  replace hmiss := Lib.hid hmiss
  replace c1 := Lib.hid c1
  go_enter Tryz.func88, Tryz.ntmps88
  go_wp2_with fail
  refine start1B hBe ?_
  intro V hN hX x
  have y0 := fun z : Ext V.heap.size V => cell_of (below_blk z.2 (hN).out) 0 _ rfl
  have y1 := fun z : Ext V.heap.size V => cell_of (below_blk z.2 (hN).out) 1 _ rfl
  go_loopw [5] (fun i wr => ∃ (k : Nat) (x : Ext V.heap.size V), wr = x.1 ∧ k ≤ n ∧ i = .int .i64 k ∧ ∀ j : Nat, j < k → (nameB f j == s) = false) (fun i _ => n - (intOf i).toNat)
  case atStart => exact ⟨0, x, rfl, by omega, rfl, fun j h => absurd h (by omega)⟩
  case round =>
    clear x
    obtain ⟨k, x, rfl, hk, rfl, hpre⟩ := hrel
    replace hpre := Lib.hid hpre
    by_cases hkn : k = n
    · have hf := Lib.hid (hmiss.out (by rw [← hkn]; exact hpre.out))
      subst hkn
      go_wp2
      go_ret
      exact ⟨by rw [hf.out]; rfl, (hX.out x).1⟩
    · have hkl : k < n := by omega
      have c2 := fun W => Lib.hid (c1.out k hkl W)
      obtain ⟨T, hT⟩ : ∃ T, nameB f k = T := ⟨_, rfl⟩
      simp only [hT] at c2
      clear hkn
      cases heq : (T == s)
      · have hs2 : (T.toList == s.toList) = false := by rw [← beq_toListBytes]; exact heq
        replace heq := Lib.hid heq
        replace hT := Lib.hid hT
        go_wp2_with fail
        refine (Pure.st (c2 _).out).mono ?_
        rintro e _ ⟨rfl, x, rfl⟩
        go_wp2_with fail
        go_roundw
        case rel => exact ⟨k + 1, x, rfl, by omega, by go_num, fun j hj => by
          rcases Nat.lt_or_ge j k with h | h
          · exact hpre.out j h
          · obtain rfl : j = k := by omega
            rw [hT.out]; exact heq.out⟩
        case measure => simp [intOf]; omega
      · have hs2 : (T.toList == s.toList) = true := by rw [← beq_toListBytes]; exact heq
        have hf := Lib.hid (hhit.out k hkl (by show (nameB f k == s) = true; rw [hT]; exact heq) hpre.out)
        replace heq := Lib.hid heq
        replace hT := Lib.hid hT
        go_wp2_with fail
        refine (Pure.st (c2 _).out).mono ?_
        rintro e _ ⟨rfl, x, rfl⟩
        go_wp2_with fail
        go_ret
        exact ⟨by rw [hf.out]; rfl, (hX.out x).1⟩
theorem names8 : parseR 8 8 ⟨#[101, 49]⟩ = 4 ∧ parseR 8 8 ⟨#[104, 49]⟩ = 7 ∧ parseR 8 8 ⟨#[97, 49]⟩ = 0 ∧ parseR 8 8 ⟨#[101, 56]⟩ = 60 ∧ parseR 8 8 ⟨#[104, 56]⟩ = 63 ∧ parseR 8 8 ⟨#[97, 56]⟩ = 56 :=
  ⟨by kernel_rfl, by kernel_rfl, by kernel_rfl, by kernel_rfl, by kernel_rfl, by kernel_rfl⟩
set_option maxHeartbeats 1000000 in
theorem rat_c (w : World) (p : Pos) (b off cap : Nat) (hP : PcAt w b off p.ps) (hn : p.ps.length = 64) (s : ByteArray) (k : Nat) (hk : parseR 8 8 s = k) (hk64 : k < 64) :
    Pure 146 #[.agg (p.cells (some ⟨b, off, none⟩) cap), .string s] w (.int .i8 (p.ps.getD k 0)) := by
  obtain ⟨B, hBe⟩ : ∃ B, w.heap.size = B := ⟨_, rfl⟩
  have c1 := fun W => Lib.hid (hk ▸ rsqparse_c W 8 8 s (by decide))
  obtain ⟨q, hq⟩ : ∃ q, p.ps[k]? = some q := ⟨_, List.getElem?_eq_getElem (by omega)⟩
  have hgd : p.ps.getD k 0 = q := by rw [List.getD_eq_getElem?_getD, hq]; rfl
  rw [hgd]
  have hPq := hP k q hq
  unfold Pos.cells
  rw [hn]
  unfold Pure
  rw [hBe]
  replace hk := Lib.hid hk
  replace hq := Lib.hid hq
  replace hgd := Lib.hid hgd
  replace hn := Lib.hid hn
  replace hP := Lib.hid hP
  replace hPq := Lib.hid hPq
  go_enter Tryz.func146, Tryz.ntmps146
  go_wp2_with fail
  refine start1B hBe ?_
  intro V hN hX x
  have y0 := fun z : Ext V.heap.size V => cell_of (below_blk z.2 (hN).out) 0 _ rfl
  have y1 := fun z : Ext V.heap.size V => cell_of (below_blk z.2 (hN).out) 1 _ rfl
  have y2 := fun z : Ext V.heap.size V => cell_of (below_blk z.2 (hN).out) 2 _ rfl
  have y3 := fun z : Ext V.heap.size V => cell_of (below_blk z.2 (hN).out) 3 _ rfl
  have y4 := fun z : Ext V.heap.size V => cell_of (below_blk z.2 (hN).out) 4 _ rfl
  have y5 := fun z : Ext V.heap.size V => cell_of (below_blk z.2 (hN).out) 5 _ rfl
  have y6 := fun z : Ext V.heap.size V => cell_of (below_blk z.2 (hN).out) 6 _ rfl
  have y7 := fun z : Ext V.heap.size V => cell_of (below_blk z.2 (hN).out) 7 _ rfl
  have hki : ((k : Int) < 64) = True := by simp; omega
  have z0 := fun z : Ext V.heap.size V => below_at (hX.out z).2.2 hPq.out
  refine ext_region' (by kernel_rfl) (by kernel_rfl) ?_
  repeat (first | (go_big_quiet_step ((go_at_call 88; exact Pure.st (c1 _).out))) | ((refine wpQuiet_step (fun K hK => ?_)); go_simp; (refine ⟨_, fun _ => rfl, hK _ ?_⟩); clear hK K))
  refine wpQuiet_nil ?_
  intro x
  go_wp2
  go_ret
  exact ⟨rfl, (hX.out x).1⟩
end
section
theorem bv_64 {p : Pos} (hv : bvalid p.f p.r p.ps = true) (hf : p.f = 8) (hr : p.r = 8) : p.ps.length = 64 := by
  obtain ⟨_, h, _⟩ := bvalid_len hv
  rw [hf, hr] at h
  omega
set_option maxHeartbeats 2000000 in
theorem rhome8_c (w : World) (p : Pos) (b off cap : Nat) (bit : Int) (king rook : Nat) (bl : Bool) (hP : PcAt w b off p.ps) (hv : bvalid p.f p.r p.ps = true) (hf : p.f = 8) (hr : p.r = 8)
    (h : (bit = 1 ∧ king = 4 ∧ rook = 7 ∧ bl = false) ∨ (bit = 2 ∧ king = 4 ∧ rook = 0 ∧ bl = false) ∨ (bit = 4 ∧ king = 60 ∧ rook = 63 ∧ bl = true) ∨ (bit = 8 ∧ king = 60 ∧ rook = 56 ∧ bl = true)) :
    Pure 115 #[.agg (p.cells (some ⟨b, off, none⟩) cap), .int .u8 bit] w (.bool (p.home king rook bl)) := by
  obtain ⟨B, hBe⟩ : ∃ B, w.heap.size = B := ⟨_, rfl⟩
  have h64 := bv_64 hv hf hr
  rcases h with ⟨rfl, rfl, rfl, rfl⟩ | ⟨rfl, rfl, rfl, rfl⟩ | ⟨rfl, rfl, rfl, rfl⟩ | ⟨rfl, rfl, rfl, rfl⟩
  · have c1 := Lib.hid (fun W (hW : Below w.heap.size w W) => rat_c W p b off cap (hP.below hW) h64 ⟨#[101, 49]⟩ 4 names8.1 (by omega))
    have c2 := Lib.hid (fun W (hW : Below w.heap.size w W) => rat_c W p b off cap (hP.below hW) h64 ⟨#[104, 49]⟩ 7 names8.2.1 (by omega))
    unfold Pos.home
    rw [hf, hr]
    obtain ⟨q1, hq1⟩ : ∃ q, p.ps.getD 4 0 = q := ⟨_, rfl⟩
    obtain ⟨q2, hq2⟩ : ∃ q, p.ps.getD 7 0 = q := ⟨_, rfl⟩
    rw [hq1] at c1 ⊢
    rw [hq2] at c2 ⊢
    unfold Pos.cells at *
    rw [h64] at c1 c2 ⊢
    rw [hf, hr] at c1 c2 ⊢
    unfold Pure
    rw [hBe]
    replace hq1 := Lib.hid hq1
    replace hq2 := Lib.hid hq2
    replace h64 := Lib.hid h64
    replace hf := Lib.hid hf
    replace hr := Lib.hid hr
    replace hP := Lib.hid hP
    replace hv := Lib.hid hv
    go_enter Tryz.func115, Tryz.ntmps115
    go_wp2_with fail
    refine start1Bc hBe ?_
    intro V hN hX x
    have y0 := fun z : Ext V.heap.size V => cell_of (below_blk z.2 (hN).out) 0 _ rfl
    have y1 := fun z : Ext V.heap.size V => cell_of (below_blk z.2 (hN).out) 1 _ rfl
    have y2 := fun z : Ext V.heap.size V => cell_of (below_blk z.2 (hN).out) 2 _ rfl
    have y3 := fun z : Ext V.heap.size V => cell_of (below_blk z.2 (hN).out) 3 _ rfl
    have y4 := fun z : Ext V.heap.size V => cell_of (below_blk z.2 (hN).out) 4 _ rfl
    have y5 := fun z : Ext V.heap.size V => cell_of (below_blk z.2 (hN).out) 5 _ rfl
    have y6 := fun z : Ext V.heap.size V => cell_of (below_blk z.2 (hN).out) 6 _ rfl
    have y7 := fun z : Ext V.heap.size V => cell_of (below_blk z.2 (hN).out) 7 _ rfl
    refine (Pure.st (c1.out _ (hX.out x).2.2)).mono ?_
    rintro e _ ⟨rfl, x, rfl⟩
    go_wp2_with fail
    all_goals first
      | (go_ret; exact ⟨by first | (simp_all [pofI]; done) | skip, (hX.out x).1⟩)
      | (refine (Pure.st (c2.out _ (hX.out x).2.2)).mono ?_
         rintro e _ ⟨rfl, x, rfl⟩
         go_wp2_with fail
         go_ret
         exact ⟨by first | (simp_all [pofI]; done) | skip, (hX.out x).1⟩)
  · have c1 := Lib.hid (fun W (hW : Below w.heap.size w W) => rat_c W p b off cap (hP.below hW) h64 ⟨#[101, 49]⟩ 4 names8.1 (by omega))
    have c2 := Lib.hid (fun W (hW : Below w.heap.size w W) => rat_c W p b off cap (hP.below hW) h64 ⟨#[97, 49]⟩ 0 names8.2.2.1 (by omega))
    unfold Pos.home
    rw [hf, hr]
    obtain ⟨q1, hq1⟩ : ∃ q, p.ps.getD 4 0 = q := ⟨_, rfl⟩
    obtain ⟨q2, hq2⟩ : ∃ q, p.ps.getD 0 0 = q := ⟨_, rfl⟩
    rw [hq1] at c1 ⊢
    rw [hq2] at c2 ⊢
    unfold Pos.cells at *
    rw [h64] at c1 c2 ⊢
    rw [hf, hr] at c1 c2 ⊢
    unfold Pure
    rw [hBe]
    replace hq1 := Lib.hid hq1
    replace hq2 := Lib.hid hq2
    replace h64 := Lib.hid h64
    replace hf := Lib.hid hf
    replace hr := Lib.hid hr
    replace hP := Lib.hid hP
    replace hv := Lib.hid hv
    go_enter Tryz.func115, Tryz.ntmps115
    go_wp2_with fail
    refine start1Bc hBe ?_
    intro V hN hX x
    have y0 := fun z : Ext V.heap.size V => cell_of (below_blk z.2 (hN).out) 0 _ rfl
    have y1 := fun z : Ext V.heap.size V => cell_of (below_blk z.2 (hN).out) 1 _ rfl
    have y2 := fun z : Ext V.heap.size V => cell_of (below_blk z.2 (hN).out) 2 _ rfl
    have y3 := fun z : Ext V.heap.size V => cell_of (below_blk z.2 (hN).out) 3 _ rfl
    have y4 := fun z : Ext V.heap.size V => cell_of (below_blk z.2 (hN).out) 4 _ rfl
    have y5 := fun z : Ext V.heap.size V => cell_of (below_blk z.2 (hN).out) 5 _ rfl
    have y6 := fun z : Ext V.heap.size V => cell_of (below_blk z.2 (hN).out) 6 _ rfl
    have y7 := fun z : Ext V.heap.size V => cell_of (below_blk z.2 (hN).out) 7 _ rfl
    refine (Pure.st (c1.out _ (hX.out x).2.2)).mono ?_
    rintro e _ ⟨rfl, x, rfl⟩
    go_wp2_with fail
    all_goals first
      | (go_ret; exact ⟨by first | (simp_all [pofI]; done) | skip, (hX.out x).1⟩)
      | (refine (Pure.st (c2.out _ (hX.out x).2.2)).mono ?_
         rintro e _ ⟨rfl, x, rfl⟩
         go_wp2_with fail
         go_ret
         exact ⟨by first | (simp_all [pofI]; done) | skip, (hX.out x).1⟩)
  · have c1 := Lib.hid (fun W (hW : Below w.heap.size w W) => rat_c W p b off cap (hP.below hW) h64 ⟨#[101, 56]⟩ 60 names8.2.2.2.1 (by omega))
    have c2 := Lib.hid (fun W (hW : Below w.heap.size w W) => rat_c W p b off cap (hP.below hW) h64 ⟨#[104, 56]⟩ 63 names8.2.2.2.2.1 (by omega))
    unfold Pos.home
    rw [hf, hr]
    obtain ⟨q1, hq1⟩ : ∃ q, p.ps.getD 60 0 = q := ⟨_, rfl⟩
    obtain ⟨q2, hq2⟩ : ∃ q, p.ps.getD 63 0 = q := ⟨_, rfl⟩
    rw [hq1] at c1 ⊢
    rw [hq2] at c2 ⊢
    unfold Pos.cells at *
    rw [h64] at c1 c2 ⊢
    rw [hf, hr] at c1 c2 ⊢
    unfold Pure
    rw [hBe]
    replace hq1 := Lib.hid hq1
    replace hq2 := Lib.hid hq2
    replace h64 := Lib.hid h64
    replace hf := Lib.hid hf
    replace hr := Lib.hid hr
    replace hP := Lib.hid hP
    replace hv := Lib.hid hv
    go_enter Tryz.func115, Tryz.ntmps115
    go_wp2_with fail
    refine start1Bc hBe ?_
    intro V hN hX x
    have y0 := fun z : Ext V.heap.size V => cell_of (below_blk z.2 (hN).out) 0 _ rfl
    have y1 := fun z : Ext V.heap.size V => cell_of (below_blk z.2 (hN).out) 1 _ rfl
    have y2 := fun z : Ext V.heap.size V => cell_of (below_blk z.2 (hN).out) 2 _ rfl
    have y3 := fun z : Ext V.heap.size V => cell_of (below_blk z.2 (hN).out) 3 _ rfl
    have y4 := fun z : Ext V.heap.size V => cell_of (below_blk z.2 (hN).out) 4 _ rfl
    have y5 := fun z : Ext V.heap.size V => cell_of (below_blk z.2 (hN).out) 5 _ rfl
    have y6 := fun z : Ext V.heap.size V => cell_of (below_blk z.2 (hN).out) 6 _ rfl
    have y7 := fun z : Ext V.heap.size V => cell_of (below_blk z.2 (hN).out) 7 _ rfl
    refine (Pure.st (c1.out _ (hX.out x).2.2)).mono ?_
    rintro e _ ⟨rfl, x, rfl⟩
    go_wp2_with fail
    all_goals first
      | (go_ret; exact ⟨by first | (simp_all [pofI]; done) | skip, (hX.out x).1⟩)
      | (refine (Pure.st (c2.out _ (hX.out x).2.2)).mono ?_
         rintro e _ ⟨rfl, x, rfl⟩
         go_wp2_with fail
         go_ret
         exact ⟨by first | (simp_all [pofI]; done) | skip, (hX.out x).1⟩)
  · have c1 := Lib.hid (fun W (hW : Below w.heap.size w W) => rat_c W p b off cap (hP.below hW) h64 ⟨#[101, 56]⟩ 60 names8.2.2.2.1 (by omega))
    have c2 := Lib.hid (fun W (hW : Below w.heap.size w W) => rat_c W p b off cap (hP.below hW) h64 ⟨#[97, 56]⟩ 56 names8.2.2.2.2.2 (by omega))
    unfold Pos.home
    rw [hf, hr]
    obtain ⟨q1, hq1⟩ : ∃ q, p.ps.getD 60 0 = q := ⟨_, rfl⟩
    obtain ⟨q2, hq2⟩ : ∃ q, p.ps.getD 56 0 = q := ⟨_, rfl⟩
    rw [hq1] at c1 ⊢
    rw [hq2] at c2 ⊢
    unfold Pos.cells at *
    rw [h64] at c1 c2 ⊢
    rw [hf, hr] at c1 c2 ⊢
    unfold Pure
    rw [hBe]
    replace hq1 := Lib.hid hq1
    replace hq2 := Lib.hid hq2
    replace h64 := Lib.hid h64
    replace hf := Lib.hid hf
    replace hr := Lib.hid hr
    replace hP := Lib.hid hP
    replace hv := Lib.hid hv
    go_enter Tryz.func115, Tryz.ntmps115
    go_wp2_with fail
    refine start1Bc hBe ?_
    intro V hN hX x
    have y0 := fun z : Ext V.heap.size V => cell_of (below_blk z.2 (hN).out) 0 _ rfl
    have y1 := fun z : Ext V.heap.size V => cell_of (below_blk z.2 (hN).out) 1 _ rfl
    have y2 := fun z : Ext V.heap.size V => cell_of (below_blk z.2 (hN).out) 2 _ rfl
    have y3 := fun z : Ext V.heap.size V => cell_of (below_blk z.2 (hN).out) 3 _ rfl
    have y4 := fun z : Ext V.heap.size V => cell_of (below_blk z.2 (hN).out) 4 _ rfl
    have y5 := fun z : Ext V.heap.size V => cell_of (below_blk z.2 (hN).out) 5 _ rfl
    have y6 := fun z : Ext V.heap.size V => cell_of (below_blk z.2 (hN).out) 6 _ rfl
    have y7 := fun z : Ext V.heap.size V => cell_of (below_blk z.2 (hN).out) 7 _ rfl
    refine (Pure.st (c1.out _ (hX.out x).2.2)).mono ?_
    rintro e _ ⟨rfl, x, rfl⟩
    go_wp2_with fail
    all_goals first
      | (go_ret; exact ⟨by first | (simp_all [pofI]; done) | skip, (hX.out x).1⟩)
      | (refine (Pure.st (c2.out _ (hX.out x).2.2)).mono ?_
         rintro e _ ⟨rfl, x, rfl⟩
         go_wp2_with fail
         go_ret
         exact ⟨by first | (simp_all [pofI]; done) | skip, (hX.out x).1⟩)
end
section
theorem rhome_no (w : World) (p : Pos) (po : Option Addr) (cap : Nat) (bit : Int) (h : ¬ (p.f = 8 ∧ p.r = 8)) : Pure 115 #[.agg (p.cells po cap), .int .u8 bit] w (.bool false) := by
  unfold Pos.cells
  by_cases hf : p.f = 8
  · have hr : ¬ p.r = 8 := fun e => h ⟨hf, e⟩
    have hf2 : (p.f != 8) = false := by simpa using hf
    have hr2 : (p.r != 8) = true := by simpa using hr
    clear h hf hr
    generalize p.f = f at *
    generalize p.r = r at *
    generalize p.ps.length = n
    unfold Pure
    go_enter Tryz.func115, Tryz.ntmps115
    go_wp2
    all_goals (go_ret; refine ⟨by first | (simp_all [hf2]; done) | (simp_all [hf2]; omega) | (simp [hf2]; omega), ?_⟩)
    all_goals
      repeat (first | (with_reducible assumption) | (with_reducible exact Below.refl _ _) | (with_reducible apply below_drewN) | (with_reducible apply Below.drew) | (with_reducible apply Below.alloc) | (with_reducible apply Below.setCell))
      all_goals first | omega | (dsimp only; omega) | (simp; done) | (simp; omega)
  · have hf2 : (p.f != 8) = true := by simpa using hf
    clear h hf
    generalize p.f = f at *
    generalize p.r = r at *
    generalize p.ps.length = n
    unfold Pure
    go_enter Tryz.func115, Tryz.ntmps115
    go_wp2
    all_goals (go_ret; refine ⟨by first | (simp_all [hf2]; done) | (simp_all [hf2]; omega) | (simp [hf2]; omega), ?_⟩)
    all_goals
      repeat (first | (with_reducible assumption) | (with_reducible exact Below.refl _ _) | (with_reducible apply below_drewN) | (with_reducible apply Below.drew) | (with_reducible apply Below.alloc) | (with_reducible apply Below.setCell))
      all_goals first | omega | (dsimp only; omega) | (simp; done) | (simp; omega)
theorem rhome_c (w : World) (p : Pos) (b off cap : Nat) (bit king rook : Nat) (bl : Bool) (hP : PcAt w b off p.ps) (hv : bvalid p.f p.r p.ps = true)
    (h : (bit = 1 ∧ king = 4 ∧ rook = 7 ∧ bl = false) ∨ (bit = 2 ∧ king = 4 ∧ rook = 0 ∧ bl = false) ∨ (bit = 4 ∧ king = 60 ∧ rook = 63 ∧ bl = true) ∨ (bit = 8 ∧ king = 60 ∧ rook = 56 ∧ bl = true)) :
    Pure 115 #[.agg (p.cells (some ⟨b, off, none⟩) cap), .int .u8 bit] w (.bool (p.home king rook bl)) := by
  by_cases hfr : p.f = 8 ∧ p.r = 8
  · refine rhome8_c w p b off cap bit king rook bl hP hv hfr.1 hfr.2 ?_
    rcases h with ⟨rfl, h⟩ | ⟨rfl, h⟩ | ⟨rfl, h⟩ | ⟨rfl, h⟩
    · exact .inl ⟨rfl, h⟩
    · exact .inr (.inl ⟨rfl, h⟩)
    · exact .inr (.inr (.inl ⟨rfl, h⟩))
    · exact .inr (.inr (.inr ⟨rfl, h⟩))
  · refine (rhome_no w p _ cap bit hfr).of_eq ?_
    have : p.home king rook bl = false := by
      unfold Pos.home
      rcases Decidable.em (p.f = 8) with h1 | h1
      · have h2 : ¬ p.r = 8 := fun e => hfr ⟨h1, e⟩
        simp [h2]
      · simp [h1]
    rw [this]
theorem has_div_all : ((List.range 256).all fun c => [1, 2, 4, 8].all fun b => ((((c : Nat) : Int) / (b : Int)) % 2 == 1) == (c &&& b.toNat != 0)) = true := by kernel_rfl
theorem has_div (p : Pos) (h : 0 ≤ p.castle ∧ p.castle ≤ 255) (b : Nat) (hb : (b : Int) ∈ [(1 : Int), 2, 4, 8]) : (p.castle / (b : Int) % 2 == 1) = p.has b := by
  have h1 := List.all_eq_true.1 has_div_all p.castle.toNat (List.mem_range.2 (by omega))
  have h2 := List.all_eq_true.1 h1 b hb
  have h3 : ((p.castle.toNat : Nat) : Int) = p.castle := by omega
  rw [h3] at h2
  unfold Pos.has
  simpa using h2
theorem start2B {c : Code} {Q : Exit → Act → World → Prop} {a : Act} {w : World} {o o2 : Obj} {B : Nat} (hB : w.heap.size = B)
    (h : ∀ V : World, Hid (V.heap[B]? = some o) → Hid (V.heap[B + 1]? = some o2) → Hid (∀ x : Ext V.heap.size V, Below B w x.1 ∧ B < x.1.heap.size ∧ Below w.heap.size w x.1) → ∀ x : Ext V.heap.size V, c.wp Tryz.prog Q a x.1) : c.wp Tryz.prog Q a ((w.alloc o).alloc o2) := by
  subst hB
  refine h _ (Lib.hid (blk_alloc (blk_new rfl o) o2)) (Lib.hid (blk_new (by simp) o2)) (Lib.hid fun x => ?_) ⟨_, Below.refl _ _⟩
  have h1 : Below w.heap.size w x.1 := (((Below.refl w.heap.size w).alloc (Nat.le_refl _) o).alloc (by simp) o2).trans (x.2.mono (by simp; omega))
  exact ⟨h1, Nat.lt_of_lt_of_le (by simp; omega) x.2.size, h1⟩
set_option maxHeartbeats 2000000 in
theorem rcastle_c (w : World) (p : Pos) (b off cap : Nat) (hP : PcAt w b off p.ps) (hv : bvalid p.f p.r p.ps = true) (hc : 0 ≤ p.castle ∧ p.castle ≤ 255) :
    Pure 69 #[.agg (p.cells (some ⟨b, off, none⟩) cap)] w (.bool p.castles) := by
  obtain ⟨B, hBe⟩ : ∃ B, w.heap.size = B := ⟨_, rfl⟩
  by_cases h16 : p.castle < 16
  · have hdiv := fun (b : Nat) hb => has_div p hc b hb
    have c := fun (bit king rook : Nat) bl h => Lib.hid (fun W (hW : Below w.heap.size w W) => rhome_c W p b off cap bit king rook bl (hP.below hW) hv h)
    have hgood := fun (h : p.upto 4) => (show p.castles = true by
      obtain ⟨u1, u2, u3, u4⟩ := h
      unfold Pos.castles
      rw [u1 (by omega), u2 (by omega), u3 (by omega), u4 (by omega)]
      simp [h16])
    have hbad := fun (bit king rook : Nat) (bl : Bool) h1 h2 h3 => Pos.castles_f (p := p) (bit := bit) (king := king) (rook := rook) (bl := bl) h1 h2 h3
    have h0 : p.upto 0 := ⟨fun h => absurd h (by omega), fun h => absurd h (by omega), fun h => absurd h (by omega), fun h => absurd h (by omega)⟩
    generalize p.castles = R at *
    have hcl := hc.1
    unfold Pos.cells at *
    generalize p.ps.length = n at *
    unfold Pure
    rw [hBe]
    replace hP := Lib.hid hP
    replace hv := Lib.hid hv
    replace hgood := Lib.hid hgood
    replace hbad := Lib.hid hbad
    replace hdiv := Lib.hid hdiv
    replace c := Lib.hid c
    replace h0 := Lib.hid h0
    clear hc
    go_enter Tryz.func69, Tryz.ntmps69
    go_wp2_with fail
    refine start2B hBe ?_
    intro V hN hM hX x
    have y0 := fun z : Ext V.heap.size V => cell_of (below_blk z.2 (hN).out) 0 _ rfl
    have y1 := fun z : Ext V.heap.size V => cell_of (below_blk z.2 (hN).out) 1 _ rfl
    have y2 := fun z : Ext V.heap.size V => cell_of (below_blk z.2 (hN).out) 2 _ rfl
    have y3 := fun z : Ext V.heap.size V => cell_of (below_blk z.2 (hN).out) 3 _ rfl
    have y4 := fun z : Ext V.heap.size V => cell_of (below_blk z.2 (hN).out) 4 _ rfl
    have y5 := fun z : Ext V.heap.size V => cell_of (below_blk z.2 (hN).out) 5 _ rfl
    have y6 := fun z : Ext V.heap.size V => cell_of (below_blk z.2 (hN).out) 6 _ rfl
    have y7 := fun z : Ext V.heap.size V => cell_of (below_blk z.2 (hN).out) 7 _ rfl
    go_loopw [10] (fun i wr => ∃ (k : Nat) (x : Ext V.heap.size V), wr = x.1 ∧ k ≤ 4 ∧ i = .int .i64 k ∧ p.upto k) (fun i _ => 5 - (intOf i).toNat)
    case atStart => exact ⟨0, x, rfl, by omega, rfl, h0.out⟩
    case round =>
      clear x
      obtain ⟨k, x, rfl, hk, rfl, hup⟩ := hrel
      replace hup := Lib.hid hup
      rcases (by omega : k = 0 ∨ k = 1 ∨ k = 2 ∨ k = 3 ∨ k = 4) with rfl | rfl | rfl | rfl | rfl
      · have ck := fun W hW => c.out 1 4 7 false (.inl ⟨rfl, rfl, rfl, rfl⟩) |>.out W hW
        have hb := hdiv.out 1 (by simp)
        have hbad1 := hbad.out 1 4 7 false (.inl ⟨rfl, rfl, rfl, rfl⟩)
        have zq := fun z : Ext V.heap.size V => cell_of (below_blk z.2 hM.out) 0 _ rfl
        replace hbad1 := Lib.hid hbad1
        replace ck := Lib.hid ck
        clear c hbad hdiv
        have hb2 : (p.castle % 2 == 1) = p.has 1 := by simpa using hb
        clear hb
        cases hh : p.has 1
        · rw [hh] at hb2
          have hup2 := Lib.hid (Pos.upto_snoc hup.out (fun e => by first | exact absurd e (by decide) | (unfold Pos.right; rw [hh]; rfl)) (fun e => by first | exact absurd e (by decide) | (unfold Pos.right; rw [hh]; rfl)) (fun e => by first | exact absurd e (by decide) | (unfold Pos.right; rw [hh]; rfl)) (fun e => by first | exact absurd e (by decide) | (unfold Pos.right; rw [hh]; rfl)))
          replace hh := Lib.hid hh
          go_wp2_with fail
          go_roundw
          case rel => exact ⟨0 + 1, x, rfl, by omega, by simp, hup2.out⟩
          case measure => simp [intOf]
        · rw [hh] at hb2
          cases hm : p.home 4 7 false
          · have hR := hbad1.out hh hm
            rw [hm] at ck
            replace hh := Lib.hid hh
            replace hm := Lib.hid hm
            subst hR
            go_wp2_with fail
            refine (Pure.st (ck.out _ (hX.out x).2.2)).mono ?_
            rintro e _ ⟨rfl, x, rfl⟩
            go_wp2_with fail
            go_ret
            exact ⟨rfl, (hX.out x).1⟩
          · rw [hm] at ck
            have hup2 := Lib.hid (Pos.upto_snoc hup.out (fun e => by first | exact absurd e (by decide) | (unfold Pos.right; rw [hm]; simp)) (fun e => by first | exact absurd e (by decide) | (unfold Pos.right; rw [hm]; simp)) (fun e => by first | exact absurd e (by decide) | (unfold Pos.right; rw [hm]; simp)) (fun e => by first | exact absurd e (by decide) | (unfold Pos.right; rw [hm]; simp)))
            replace hh := Lib.hid hh
            replace hm := Lib.hid hm
            go_wp2_with fail
            refine (Pure.st (ck.out _ (hX.out x).2.2)).mono ?_
            rintro e _ ⟨rfl, x, rfl⟩
            go_wp2_with fail
            go_roundw
            case rel => exact ⟨0 + 1, x, rfl, by omega, by simp, hup2.out⟩
            case measure => simp [intOf]
      · have ck := fun W hW => c.out 2 4 0 false (.inr (.inl ⟨rfl, rfl, rfl, rfl⟩)) |>.out W hW
        have hb := hdiv.out 2 (by simp)
        have hbad1 := hbad.out 2 4 0 false (.inr (.inl ⟨rfl, rfl, rfl, rfl⟩))
        have zq := fun z : Ext V.heap.size V => cell_of (below_blk z.2 hM.out) 1 _ rfl
        replace hbad1 := Lib.hid hbad1
        replace ck := Lib.hid ck
        clear c hbad hdiv
        have hb2 : (p.castle / 2 % 2 == 1) = p.has 2 := by simpa using hb
        clear hb
        cases hh : p.has 2
        · rw [hh] at hb2
          have hup2 := Lib.hid (Pos.upto_snoc hup.out (fun e => by first | exact absurd e (by decide) | (unfold Pos.right; rw [hh]; rfl)) (fun e => by first | exact absurd e (by decide) | (unfold Pos.right; rw [hh]; rfl)) (fun e => by first | exact absurd e (by decide) | (unfold Pos.right; rw [hh]; rfl)) (fun e => by first | exact absurd e (by decide) | (unfold Pos.right; rw [hh]; rfl)))
          replace hh := Lib.hid hh
          go_wp2_with fail
          go_roundw
          case rel => exact ⟨1 + 1, x, rfl, by omega, by simp, hup2.out⟩
          case measure => simp [intOf]
        · rw [hh] at hb2
          cases hm : p.home 4 0 false
          · have hR := hbad1.out hh hm
            rw [hm] at ck
            replace hh := Lib.hid hh
            replace hm := Lib.hid hm
            subst hR
            go_wp2_with fail
            refine (Pure.st (ck.out _ (hX.out x).2.2)).mono ?_
            rintro e _ ⟨rfl, x, rfl⟩
            go_wp2_with fail
            go_ret
            exact ⟨rfl, (hX.out x).1⟩
          · rw [hm] at ck
            have hup2 := Lib.hid (Pos.upto_snoc hup.out (fun e => by first | exact absurd e (by decide) | (unfold Pos.right; rw [hm]; simp)) (fun e => by first | exact absurd e (by decide) | (unfold Pos.right; rw [hm]; simp)) (fun e => by first | exact absurd e (by decide) | (unfold Pos.right; rw [hm]; simp)) (fun e => by first | exact absurd e (by decide) | (unfold Pos.right; rw [hm]; simp)))
            replace hh := Lib.hid hh
            replace hm := Lib.hid hm
            go_wp2_with fail
            refine (Pure.st (ck.out _ (hX.out x).2.2)).mono ?_
            rintro e _ ⟨rfl, x, rfl⟩
            go_wp2_with fail
            go_roundw
            case rel => exact ⟨1 + 1, x, rfl, by omega, by simp, hup2.out⟩
            case measure => simp [intOf]
      · have ck := fun W hW => c.out 4 60 63 true (.inr (.inr (.inl ⟨rfl, rfl, rfl, rfl⟩))) |>.out W hW
        have hb := hdiv.out 4 (by simp)
        have hbad1 := hbad.out 4 60 63 true (.inr (.inr (.inl ⟨rfl, rfl, rfl, rfl⟩)))
        have zq := fun z : Ext V.heap.size V => cell_of (below_blk z.2 hM.out) 2 _ rfl
        replace hbad1 := Lib.hid hbad1
        replace ck := Lib.hid ck
        clear c hbad hdiv
        have hb2 : (p.castle / 4 % 2 == 1) = p.has 4 := by simpa using hb
        clear hb
        cases hh : p.has 4
        · rw [hh] at hb2
          have hup2 := Lib.hid (Pos.upto_snoc hup.out (fun e => by first | exact absurd e (by decide) | (unfold Pos.right; rw [hh]; rfl)) (fun e => by first | exact absurd e (by decide) | (unfold Pos.right; rw [hh]; rfl)) (fun e => by first | exact absurd e (by decide) | (unfold Pos.right; rw [hh]; rfl)) (fun e => by first | exact absurd e (by decide) | (unfold Pos.right; rw [hh]; rfl)))
          replace hh := Lib.hid hh
          go_wp2_with fail
          go_roundw
          case rel => exact ⟨2 + 1, x, rfl, by omega, by simp, hup2.out⟩
          case measure => simp [intOf]
        · rw [hh] at hb2
          cases hm : p.home 60 63 true
          · have hR := hbad1.out hh hm
            rw [hm] at ck
            replace hh := Lib.hid hh
            replace hm := Lib.hid hm
            subst hR
            go_wp2_with fail
            refine (Pure.st (ck.out _ (hX.out x).2.2)).mono ?_
            rintro e _ ⟨rfl, x, rfl⟩
            go_wp2_with fail
            go_ret
            exact ⟨rfl, (hX.out x).1⟩
          · rw [hm] at ck
            have hup2 := Lib.hid (Pos.upto_snoc hup.out (fun e => by first | exact absurd e (by decide) | (unfold Pos.right; rw [hm]; simp)) (fun e => by first | exact absurd e (by decide) | (unfold Pos.right; rw [hm]; simp)) (fun e => by first | exact absurd e (by decide) | (unfold Pos.right; rw [hm]; simp)) (fun e => by first | exact absurd e (by decide) | (unfold Pos.right; rw [hm]; simp)))
            replace hh := Lib.hid hh
            replace hm := Lib.hid hm
            go_wp2_with fail
            refine (Pure.st (ck.out _ (hX.out x).2.2)).mono ?_
            rintro e _ ⟨rfl, x, rfl⟩
            go_wp2_with fail
            go_roundw
            case rel => exact ⟨2 + 1, x, rfl, by omega, by simp, hup2.out⟩
            case measure => simp [intOf]
      · have ck := fun W hW => c.out 8 60 56 true (.inr (.inr (.inr ⟨rfl, rfl, rfl, rfl⟩))) |>.out W hW
        have hb := hdiv.out 8 (by simp)
        have hbad1 := hbad.out 8 60 56 true (.inr (.inr (.inr ⟨rfl, rfl, rfl, rfl⟩)))
        have zq := fun z : Ext V.heap.size V => cell_of (below_blk z.2 hM.out) 3 _ rfl
        replace hbad1 := Lib.hid hbad1
        replace ck := Lib.hid ck
        clear c hbad hdiv
        have hb2 : (p.castle / 8 % 2 == 1) = p.has 8 := by simpa using hb
        clear hb
        cases hh : p.has 8
        · rw [hh] at hb2
          have hup2 := Lib.hid (Pos.upto_snoc hup.out (fun e => by first | exact absurd e (by decide) | (unfold Pos.right; rw [hh]; rfl)) (fun e => by first | exact absurd e (by decide) | (unfold Pos.right; rw [hh]; rfl)) (fun e => by first | exact absurd e (by decide) | (unfold Pos.right; rw [hh]; rfl)) (fun e => by first | exact absurd e (by decide) | (unfold Pos.right; rw [hh]; rfl)))
          replace hh := Lib.hid hh
          go_wp2_with fail
          go_roundw
          case rel => exact ⟨3 + 1, x, rfl, by omega, by simp, hup2.out⟩
          case measure => simp [intOf]
        · rw [hh] at hb2
          cases hm : p.home 60 56 true
          · have hR := hbad1.out hh hm
            rw [hm] at ck
            replace hh := Lib.hid hh
            replace hm := Lib.hid hm
            subst hR
            go_wp2_with fail
            refine (Pure.st (ck.out _ (hX.out x).2.2)).mono ?_
            rintro e _ ⟨rfl, x, rfl⟩
            go_wp2_with fail
            go_ret
            exact ⟨rfl, (hX.out x).1⟩
          · rw [hm] at ck
            have hup2 := Lib.hid (Pos.upto_snoc hup.out (fun e => by first | exact absurd e (by decide) | (unfold Pos.right; rw [hm]; simp)) (fun e => by first | exact absurd e (by decide) | (unfold Pos.right; rw [hm]; simp)) (fun e => by first | exact absurd e (by decide) | (unfold Pos.right; rw [hm]; simp)) (fun e => by first | exact absurd e (by decide) | (unfold Pos.right; rw [hm]; simp)))
            replace hh := Lib.hid hh
            replace hm := Lib.hid hm
            go_wp2_with fail
            refine (Pure.st (ck.out _ (hX.out x).2.2)).mono ?_
            rintro e _ ⟨rfl, x, rfl⟩
            go_wp2_with fail
            go_roundw
            case rel => exact ⟨3 + 1, x, rfl, by omega, by simp, hup2.out⟩
            case measure => simp [intOf]
      · have hR := hgood.out hup.out
        subst hR
        clear hbad hdiv c
        go_wp2
        go_ret
        exact ⟨rfl, (hX.out x).1⟩
  · have hF : p.castles = false := by unfold Pos.castles; simp [h16]
    rw [hF]
    unfold Pos.cells Pure
    generalize p.ps.length = n
    have h15 : (15 < p.castle) = True := by simp; omega
    generalize p.castle = ca at *
    clear hP hv hF hc h16
    go_enter Tryz.func69, Tryz.ntmps69
    go_wp2
    go_ret
    refine ⟨rfl, ?_⟩
    repeat (first | (with_reducible assumption) | (with_reducible exact Below.refl _ _) | (with_reducible apply below_drewN) | (with_reducible apply Below.drew) | (with_reducible apply Below.alloc) | (with_reducible apply Below.setCell))
    all_goals first | omega | (dsimp only; omega) | (simp; done) | (simp; omega)
end
end Go.Proofs.YtbhienpbfidgjaaGreatDoor
