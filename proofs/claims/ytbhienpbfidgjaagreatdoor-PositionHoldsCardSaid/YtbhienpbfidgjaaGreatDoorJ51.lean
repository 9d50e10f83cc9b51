/- Positions: Start. Conditions: as for Parse. The examples of the chapter on stipulations. Conditions: the library as said; the tables lie in memory. What the library's contracts and the listed variables give the walks. Conditions: as in each theorem. What the listed variables give the walks, and the wrap of a law over them. Conditions: as in each theorem. The wrap of a law that returns true and leaves all as it lay, over the listed variables in a shaped world; the arguments opened. Conditions: as in each theorem. The arguments opened: a stipulation, a position. Conditions: the argument reads as data. The reference's letters, on plain data. Conditions: as in each theorem. The reference's text of a board, on plain data. Conditions: as in each theorem. The reference's text of a board is the program's: plain law. Conditions: as in each theorem. The reference's text of a board is the program's. Conditions: as in each theorem. The reference's decimal, on plain data. Conditions: as in each theorem. The reference's places and names, on plain data. Conditions: as in each theorem. The reference's text of a position, on plain data. Conditions: as in each theorem. The text of a valid position gives the position again: plain law. Conditions: az in each theorem. The text of a valid position gives the position again: plain law. Conditions: as in each theorem. The reference's small functions on squares and pieces. Conditions: numbers within bounds, as in each theorem. Worlds behind a box of the call's own: all that lay in it stands. Conditions: as in each theorem. A law on regions that draw their order: what each operation leaves, whatever came up before it. Conditions: as in each theorem. A drawn region that calls twice and lays the two structs in two new blocks. Conditions: as in each theorem. A drawn region that calls twice and lays the two structs in two new blocks: the law. Conditions: as in the theorem. The reference's functions on squares. Conditions: numbers within bounds, as in each theorem. The reference's functions that hand back lists of numbers. Conditions: numbers within bounds, as in each theorem. Appending any list to a row of the call's own; moves in a drawn region whose calls are forced. Conditions: as in each theorem. The reference's sets, and which boards are valid. Conditions: numbers within bounds, as in each theorem. The reference: which boards are valid and orthodox. Conditions: numbers within bounds, as in each theorem. The reference: the squares of all pieces. Conditions: numbers within bounds, as in each theorem. The reference: lines and rays. Conditions: numbers within bounds, as in each theorem. The reference: what lies between two squares, and which pieces reach. Conditions: numbers within bounds, as in each theorem. The reference: which pieces reach a square. Conditions: numbers within bounds, as in each theorem. The reference: what a pawn attacks. Conditions: numbers within bounds, as in each theorem. The reference: which pieces attack a square. Conditions: numbers within bounds, as in each theorem. The reference: the attackers of a square, the king, check. Conditions: numbers within bounds, as in each theorem. The reference: the king, check. Conditions: numbers within bounds, as in each theorem. Lists of pieces and boards compared. Conditions: at most 1000 pieces, which lie in memory. The reference: names of squares. Conditions: numbers within bounds, as in each theorem. The reference: squares by their names, rights to castle. Conditions: numbers within bounds, as in each theorem. The reference: rights to castle. Conditions: numbers within bounds, as in each theorem. The reference: the square behind a pawn. Conditions: numbers within bounds, as in each theorem. The reference: which positions are valid. Conditions: as in each theorem. Boards and positions of the reference compared. Conditions: at most 1000 pieces, which lie in memory. Positions compared, by the reference and by the package. Conditions: at most 1000 pieces, which lie in memory. The reference: which positions are valid, where the kings are in place. Conditions: as in each theorem. The plain law: the package's attacks are those of the reference. Conditions: squares of a board of a valid size. The plain law: the package's sliding pieces are those of the reference. Conditions: squares of a board of a valid size. The plain law: kings, check and pawns of the reference. Conditions: as in each theorem. The reference: which positions are valid; the plain law: those are the positions the package calls valid. Conditions: as in each theorem. The examples of the chapter on positions hold. Conditions: the library as said; the tables lie in memory. Old contracts as contracts on plain data, and back. Conditions: as in each theorem. The package's Parse, Text, Valid and Start on plain data; the examples of the chapter. Conditions: the library as said; the tables lie in memory. The reference's words and numbers, on plain data. Conditions: as in each theorem. The reference's squares by name and pieces by letter, on plain data. Conditions: as in each theorem. The reference's board of a text, on plain data. Conditions: as in each theorem. The reference's board of a text is the program's: plain law. Conditions: none. scratch The reference's position of a text is the program's: plain law. Conditions: none. The law on positions of a board, on plain data. Conditions: the library as said; the tables lie in memory. The law on texts of positions, on plain data. Conditions: the library as said; the tables lie in memory. The reference's position of a text, on plain data. Conditions: the tables lie in memory. The laws on parsing positions and on the whole stage, on plain data. Conditions: the library as said; the tables lie in memory. The theorem of the stage, on plain data. Conditions: the library as said; the tables lie in memory. -/
import Derived.Test.YtbhienpbfidgjaaGreatDoorF11
import Derived.Test.YtbhienpbfidgjaaGreatDoorT8
import Derived.Test.YtbhienpbfidgjaaGreatDoorT4
import Derived.Test.YtbhienpbfidgjaaGreatDoorS3
import Derived.Test.YtbhienpbfidgjaaGreatDoorU1
import Derived.Test.YtbhienpbfidgjaaGreatDoorW1
import Derived.Test.YtbhienpbfidgjaaGreatDoorShelf
import Derived.Lib.LaidU8
import Derived.Stop.LaidErr
import Derived.Lib.AtoiErrMem
import Derived.Carry
import Derived.JoinedOf
import Derived.SevenTiedAt
import Derived.Lib.SmallJoins
import Derived.Deep.Slices
import Derived.Deep.Fields
import Derived.Test.YtbhienpbfidgjaaGreatDoorJ1
import Derived.Test.YtbhienpbfidgjaaGreatDoorJ0
import Derived.Test.YtbhienpbfidgjaaGreatDoorF2
import Derived.Test.YtbhienpbfidgjaaGreatDoorF4
import Derived.Test.YtbhienpbfidgjaaGreatDoorT2
import Derived.Test.YtbhienpbfidgjaaGreatDoorF10
import Derived.Lib.AtoiTie
import Derived.Test.YtbhienpbfidgjaaGreatDoorV2
import Derived.BigGuardPart
import Derived.Test.YtbhienpbfidgjaaGreatDoorR
import Derived.Test.YtbhienpbfidgjaaGreatDoorT7
import Derived.Deep.AppendLies
import Derived.Deep.Upon
import Derived.Test.YtbhienpbfidgjaaGreatDoorB4
import Derived.Test.YtbhienpbfidgjaaGreatDoorF8
import Derived.Test.YtbhienpbfidgjaaGreatDoorV4
import Derived.Test.YtbhienpbfidgjaaGreatDoorH0
set_option linter.unusedVariables false
set_option linter.unusedSimpArgs false
namespace Go.Proofs.YtbhienpbfidgjaaGreatDoor
open Go.RowKit
section
def startT : ByteArray := ⟨#[56, 120, 56, 32, 114, 110, 98, 113, 107, 98, 110, 114, 47, 112, 112, 112, 112, 112, 112, 112, 112, 47, 56, 47, 56, 47, 56, 47, 56, 47, 80, 80, 80, 80, 80, 80, 80, 80, 47, 82, 78, 66, 81, 75, 66, 78, 82, 32, 119, 32, 75, 81, 107, 113, 32, 45, 32, 48, 32, 49]⟩
def startP : Pos := ⟨8, 8, [4, 2, 3, 5, 6, 3, 2, 4, 1, 1, 1, 1, 1, 1, 1, 1, 0, 0, 0, 0, 0, 0, 0, 0, 0, 0, 0, 0, 0, 0, 0, 0, 0, 0, 0, 0, 0, 0, 0, 0, 0, 0, 0, 0, 0, 0, 0, 0, (-1), (-1), (-1), (-1), (-1), (-1), (-1), (-1), (-4), (-2), (-3), (-5), (-6), (-3), (-2), (-4)], false, 15, -1, 0, 1⟩
set_option maxRecDepth 1000000 in
theorem start_o : posO startT = some startP := by kernel_rfl
set_option maxRecDepth 1000000 in
theorem start_v : startP.valid = true := by kernel_rfl
theorem PosIs.some {B : Nat} {t : ByteArray} {e : Ending} {W : World} {P : Pos} (h : PosIs B t e W) (hp : posO t = .some P) : ∃ po cap, e = .returned (.tuple #[.agg (P.cells po cap), .int .i64 0]) ∧ PosAt W P po cap := by
  unfold PosIs at h
  rw [hp] at h
  obtain ⟨po, cap, h1, h2, _⟩ := h
  exact ⟨po, cap, h1, h2⟩
end
section
structure Libs : Prop where
  split : SplitOK
  rev : RevOK
  join : JoinOK
  cont : ContOK
  itoa : ItoaOK
  cutp : CutPOK
  cuts : CutSOK
structure Env (w : World) : Prop where
  max : MaxAt w
  kinds : KindsAt w
  itoa : ItoaAt w
  atois : AtoiIs w
  atoi : AtoiAt w
  rays : Rays w
  full : w.cell? ⟨0, 0, none⟩ = some (.int .i64 8) ∧ w.cell? ⟨0, 1, none⟩ = some (.int .i64 8)
theorem Env.below {w V : World} (h : Env w) (hb : Below w.heap.size w V) : Env V :=
  ⟨h.max.below hb, h.kinds.below hb, h.itoa.below hb, fun W s hW => h.atois W s (hb.trans (hW.mono hb.size)), fun W s hW => h.atoi W s (hb.trans (hW.mono hb.size)), h.rays.below hb, ⟨below_at hb h.full.1, below_at hb h.full.2⟩⟩
def ofV (t : ByteArray) : Value := match parseO t with
  | some s => s.v
  | none => .agg #[.int .i64 0, .int .i64 0, .int .i64 0, .bool false]
end
section
open Go.ChangeShapes Go.WideShapes Go.ChangeAt Go.RowKit Go.Sort
theorem below_of_grow (w : World) (k : Nat) (os : Array Obj) : Below w.heap.size w (grow (w.drewN k) os) :=
  ⟨rfl, rfl, rfl, by simp [grow], fun i hi => by
    show (w.heap ++ os)[i]? = _
    rw [Array.getElem?_append_left hi]⟩
theorem var_below {W V : World} {n : String} {g : Nat} {cs : Array Value} (hb : Below W.heap.size W V) (hg : Tryz.prog.globalNamed n = some g) (hv : W.var? Tryz.prog n = some cs) : V.var? Tryz.prog n = some cs := by
  unfold World.var? at hv ⊢
  simp only [hg, Option.bind_some] at hv ⊢
  have hlt : g < W.heap.size := by
    rcases Nat.lt_or_ge g W.heap.size with h | h
    · exact h
    · rw [Array.getElem?_eq_none h] at hv
      cases hv
  rw [hb.block g hlt]
  exact hv
theorem setCells_front {g : Nat} {t : TypeId} : ∀ (vs : List Value) (o : Nat) (w : World) (old : Array Value), w.heap[g]? = some (.cells old t (0, 0)) → o + vs.length ≤ old.size →
    (w.setCells g o vs).heap[g]? = some (.cells (old.toList.take o ++ vs ++ old.toList.drop (o + vs.length)).toArray t (0, 0))
  | [], o, w, old, h, hs => by simpa [World.setCells] using h
  | v :: vs, o, w, old, h, hs => by
    have h1 := blk_set h o v
    have h2 := setCells_front vs (o + 1) (w.setCell ⟨g, o, none⟩ v) _ h1 (by simp at hs ⊢; omega)
    rw [show w.setCells g o (v :: vs) = (w.setCell ⟨g, o, none⟩ v).setCells g (o + 1) vs from rfl, h2]
    have hlt : o < old.toList.length := by simp at hs ⊢; omega
    congr 3
    simp only [Array.toList_setIfInBounds, List.length_cons]
    rw [List.take_succ_eq_append_getElem (by simpa using hlt), List.getElem_set_self, List.take_set_of_le (Nat.le_refl _), List.drop_set_of_lt (by omega), show o + 1 + vs.length = o + (vs.length + 1) by omega]
    simp
theorem setCells_grown {g : Nat} : ∀ (vs : List Value) (o : Nat) (a w : World), a.grownBy w (some g) → a.grownBy (w.setCells g o vs) (some g)
  | [], _, _, _, h => h
  | v :: vs, o, a, w, h => setCells_grown vs (o + 1) a _ (grown_set h (p := ⟨g, o, none⟩) (.inl rfl) v)
theorem revOK : RevOK := by
  intro B v xs w h hn
  rcases h.2 with ⟨rfl, h0⟩ | ⟨g, cap, cur, rfl, hb, hg, hnc, hcm, hcs, htake⟩
  · have hc := Tryz.slices_Reverse_string_empty none 0 w
    refine hc.mono ?_
    rintro e w' ⟨rfl, rfl⟩
    have : xs = [] := List.length_eq_zero_iff.1 h0
    subst this
    exact ⟨rfl, h, grown_refl _ _⟩
  · refine (Tryz.slices_Reverse_string_cells g 0 xs.length cap (fun i => xs.getD i ⟨#[]⟩) w (by omega) (fun i hi => ?_) (fun j hj => h.frozenAt _)).mono ?_
    · rw [Nat.zero_add, h.cellAt i (by omega)]
      simp [strV, hi]
    · rintro e w' ⟨rfl, q, rfl⟩
      have hs : (Lib.strsOf (fun i => xs.getD i ⟨#[]⟩) xs.length).reverse.map encStr = xs.reverse.map strV := by
        have e : Lib.strsOf (fun i => xs.getD i ⟨#[]⟩) xs.length = xs.map (·.data.toList) := by
          unfold Lib.strsOf
          apply List.ext_getElem?
          intro i
          by_cases hi : i < xs.length
          · simp [hi]
          · simp [hi]
        rw [e, ← List.map_reverse, List.map_map]
        refine List.map_congr_left fun s _ => ?_
        simp [encStr, strV]
      rw [hs]
      have hlen : cur.size = cap := by omega
      have hres := setCells_front (vs := xs.reverse.map strV) 0 (w.drewN q) cur hg (by simp; omega)
      refine ⟨rfl, ⟨by simp, .inr ⟨g, cap, _, rfl, hb, hres, hnc, hcm, ?_, ?_⟩⟩, ?_⟩
      · simp; omega
      · simp
      · exact setCells_grown _ _ _ _ (grown_drewN (grown_refl _ _) q)
theorem libs : Libs := by
  refine ⟨?_, revOK, ?_, ?_, ?_, ?_, ?_⟩
  · intro s sep w ⟨m, hm⟩ hs h1
    have h := Tryz.strings_Split s sep m w (by omega) hm h1
    have e : (splitS s sep).length = Lib.countB s sep + 1 := Lib.splitB_all sep h1 0 _ s rfl
    rw [e]
    exact h
  · intro bk o c xs sep w h1 h2 h3 h4 h5
    exact Tryz.strings_Join bk o c xs sep w h1 h2 (by omega) h4 (by omega)
  · intro s c W
    exact Same.pure ((Tryz.strings_Contains_one s c W).mono fun e w' ⟨h1, h2⟩ => ⟨h1, h2.symm⟩)
  · intro i w hi
    exact Same.pure ((Tryz.strconv_Itoa_small i hi w).mono fun e w' ⟨h1, h2⟩ => ⟨h1, h2.symm⟩)
  · intro s p w
    exact Same.pure ((Tryz.strings_CutPrefix s p w).mono fun e w' ⟨h1, h2⟩ => ⟨h1, h2.symm⟩)
  · intro s p w hs
    exact Same.pure ((Tryz.strings_CutSuffix s p w (by omega)).mono fun e w' ⟨h1, h2⟩ => ⟨h1, h2.symm⟩)
theorem itoaAt {W : World} (h : Lib.TabIs Tryz.prog W "internal/strconv.uint64pow10" .u64 Lib.pow10Tab) : ItoaAt W := by
  intro V n hV hn
  have ht : Lib.TabIs Tryz.prog V "internal/strconv.uint64pow10" .u64 Lib.pow10Tab := var_below hV (g := 5) (by kernel_rfl) h
  refine (Tryz.strconv_Itoa (n : Int) (by omega) (by omega) V ht).mono ?_
  rintro e w' ⟨rfl, k, os, rfl⟩
  refine ⟨?_, below_of_grow _ _ _⟩
  have : Lib.itoa (n : Int) = Lib.decDigits n := by unfold Lib.itoa; rw [if_neg (by omega)]; simp
  rw [this]
  rfl
theorem atoi_run {W : World} {t1 t2 : TypeId} {p1 p2 : Value} (h1 : W.var? Tryz.prog "strconv.ErrSyntax" = some #[.iface t1 p1]) (h2 : W.var? Tryz.prog "strconv.ErrRange" = some #[.iface t2 p2]) (s : ByteArray) (hs : s.size ≤ 281474976710656) :
    Calls Tryz.prog 83 #[.string s] W fun e w' => (∃ ev, e = .returned (.tuple #[.int .i64 (atoiI s), ev]) ∧
      ((Lib.atoiAll s.data.toList = .ok (atoiI s) ∧ ev = .nilIface) ∨ ((∀ n, Lib.atoiAll s.data.toList ≠ .ok n) ∧ ∃ t p, ev = .iface t p))) ∧ Below W.heap.size W w' := by
  unfold atoiI
  cases h : Lib.atoiAll s.data.toList with
  | ok v =>
    refine (Tryz.strconv_Atoi_ok s (by omega) v h W).mono ?_
    rintro e w' ⟨rfl, hw⟩
    refine ⟨⟨_, rfl, .inl ⟨rfl, rfl⟩⟩, ?_⟩
    rcases hw with rfl | ⟨t, rfl⟩
    · exact Below.refl _ _
    · exact Lib.bytesWorld_below _ _ _
  | range =>
    refine (Tryz.strconv_Atoi_range_var s hs h t2 p2 W h2).mono ?_
    rintro e w' ⟨N, rfl, -, -, hb⟩
    exact ⟨⟨_, rfl, .inr ⟨fun n e => (by cases e), _, _, rfl⟩⟩, hb⟩
  | _ =>
    refine (Any.strconv_Atoi_syntax_var Tryz.laysC172 s hs h t1 p1 W h1).mono ?_
    rintro e w' ⟨N, rfl, -, -, hb⟩
    exact ⟨⟨_, rfl, .inr ⟨fun n e => (by cases e), _, _, rfl⟩⟩, hb⟩
end
section
open Go.ChangeShapes Go.WideShapes Go.ChangeAt Go.RowKit Go.Sort
theorem arr_elem {W : World} {n : String} {g len : Nat} {t e : TypeId} {ds : List (DataW Unit)} (h : Lib.VarReads Tryz.prog W n (.agg ds)) (hg : Tryz.prog.globalNamed n = some g) (ht : (Tryz.prog.globals[g]?).map (·.type) = some t)
    (hu : Tryz.prog.underlying t = some (.array len e)) : ∃ cs, W.var? Tryz.prog n = some cs ∧ ∀ i d, ds[i]? = some d → ∃ m q, DataW.trod (fun _ => ()) Tryz.prog W 0 (fun _ => true) false m e ((cs.toList.drop (i * Tryz.prog.cellsOf e)).take (Tryz.prog.cellsOf e)) = some (d, q) := by
  obtain ⟨g', t', cs, fuel, p, hg', ht', hv, hd⟩ := h
  obtain rfl := Option.some.inj (hg.symm.trans hg')
  obtain rfl := Option.some.inj (ht.symm.trans ht')
  obtain ⟨xs, m, rfl, hx, hl, hxl, hel⟩ := DataW.trod_array hu hd
  refine ⟨cs, hv, fun i d hid => ?_⟩
  have hx1 : ds = xs.map (·.1) := by simpa using congrArg Prod.fst hx
  rw [hx1, List.getElem?_map] at hid
  cases hxi : xs[i]? with
  | none => rw [hxi] at hid; cases hid
  | some y =>
    rw [hxi] at hid
    have hi : i < len := by rw [← hxl]; exact (List.getElem?_eq_some_iff.1 hxi).1
    have := hel i hi
    rw [hxi] at this
    obtain ⟨d', q⟩ := y
    cases hid
    exact ⟨m, q, this⟩
def stepD (L : List (Int × Int)) : DataW Unit := .agg (L.map fun d => .agg ([d.1, d.2].map fun z => .lit (.int .i64 z)))
theorem steps_of {W : World} {n : String} {g len : Nat} {t : TypeId} {L : List (Int × Int)} {fs : Array Field} (h : Lib.VarReads Tryz.prog W n (stepD L)) (hg : Tryz.prog.globalNamed n = some g) (ht : (Tryz.prog.globals[g]?).map (·.type) = some t)
    (hu : Tryz.prog.underlying t = some (.array len 237)) (hs : Tryz.prog.underlying 237 = some (.struct fs)) (hc : Tryz.prog.cellsOf 237 = 2) (hfs : fs.size = 2)
    (hf : ∀ (i : Nat) (f : Field), fs[i]? = some f → Tryz.prog.underlying f.type = some (.int .i64) ∧ f.offset = i ∧ Tryz.prog.cellsOf f.type = 1) : StepsAt W g 0 L := by
  obtain ⟨cs, hv, hel⟩ := arr_elem h hg ht hu
  intro i d hid
  obtain ⟨m, q, hd⟩ := hel i _ (by rw [List.getElem?_map, hid]; rfl)
  rw [hc] at hd
  have hcs := Lib.ints_of_struct hs hf (by rw [hc, hfs]) hd
  have c0 : cs.toList[i * 2]? = some (.int .i64 d.1) := by
    have := congrArg (·[0]?) hcs
    simpa [List.getElem?_take, List.getElem?_drop] using this
  have c1 : cs.toList[i * 2 + 1]? = some (.int .i64 d.2) := by
    have := congrArg (·[1]?) hcs
    simpa [List.getElem?_take, List.getElem?_drop] using this
  have e0 := World.var?_cell hg hv (i * 2)
  have e1 := World.var?_cell hg hv (i * 2 + 1)
  rw [Nat.zero_add]
  exact ⟨e0.trans (by simpa using c0), e1.trans (by simpa using c1)⟩
theorem step_fields : ∃ fs, Tryz.prog.underlying 237 = some (.struct fs) ∧ fs.size = 2 ∧ ∀ (i : Nat) (f : Field), fs[i]? = some f → Tryz.prog.underlying f.type = some (.int .i64) ∧ f.offset = i ∧ Tryz.prog.cellsOf f.type = 1 := by
  refine ⟨_, Tryz.underlying237, rfl, fun i f h => ?_⟩
  rcases (by omega : i = 0 ∨ i = 1 ∨ 2 ≤ i) with rfl | rfl | h2
  · simp at h; subst h; exact ⟨Tryz.underlying3, rfl, by kernel_rfl⟩
  · simp at h; subst h; exact ⟨Tryz.underlying3, rfl, by kernel_rfl⟩
  · rw [Array.getElem?_eq_none (by simpa using h2)] at h; cases h
def kindD (l : Int) (v : Int) (s : List UInt8) : DataW Unit := .agg [.lit (.int .u8 l), .lit (.int .i64 v), .lit (.string s)]
theorem kinds_of {W : World} {ds : List (DataW Unit)} (h : Lib.VarReads Tryz.prog W "caissa/piece.kinds" (.agg ds)) (hd : ∀ k < 15, ∃ v s, ds[k]? = some (kindD (letN k) v s)) : KindsAt W := by
  obtain ⟨cs, hv, hel⟩ := arr_elem h (g := 1) (by kernel_rfl) (t := 180) (by kernel_rfl) Tryz.underlying180
  intro k hk
  obtain ⟨v, s, hks⟩ := hd k hk
  obtain ⟨m, q, hd⟩ := hel k _ hks
  have hc : Tryz.prog.cellsOf 179 = 3 := by kernel_rfl
  rw [hc] at hd
  obtain ⟨xs, m2, rfl, hx, hl, hxl, hall⟩ := DataW.trod_struct Tryz.underlying179 hd
  have h0 := hall 0 _ rfl
  have hx0 : xs[0]? = some (.lit (.int .u8 (letN k)), (xs[0]?.map (·.2)).getD []) := by
    have h3 : [DataW.lit (.int .u8 (letN k)), .lit (.int .i64 v), .lit (.string s)] = xs.map (·.1) := by simpa [kindD] using congrArg Prod.fst hx
    cases xs with
    | nil => simp at h3
    | cons y r =>
      simp only [List.map_cons, List.cons.injEq] at h3
      obtain ⟨d, q⟩ := y
      simp at h3 ⊢
      exact h3.1.symm
  rw [hx0] at h0
  obtain ⟨z, hcz, hz, -⟩ := DataW.trod_int Tryz.underlying5 h0
  have hz2 : z = letN k := by simpa using (congrArg Prod.fst hz).symm
  subst hz2
  have c0 : cs.toList[k * 3]? = some (.int .u8 (letN k)) := by
    have c1 : Tryz.prog.cellsOf 5 = 1 := by kernel_rfl
    have hcz2 : (((cs.toList.drop (k * 3)).take 3).drop 0).take (Tryz.prog.cellsOf 5) = [Value.int .u8 (letN k)] := hcz
    rw [c1] at hcz2
    have := congrArg (·[0]?) hcz2
    simpa [List.getElem?_take, List.getElem?_drop] using this
  have e0 := World.var?_cell (show Tryz.prog.globalNamed "caissa/piece.kinds" = some 1 by kernel_rfl) hv (k * 3)
  exact e0.trans (by simpa using c0)
theorem env_of {W : World} (h : laidMetH Tryz.prog laidL W) (hsh : W.ShapedOpen Tryz.prog) : Env W := by
  rw [MakeChecks.laidMetH_plain _ _ _ (by kernel_rfl)] at h
  have r := fun (i : Nat) n d (e : laidL[i]? = some (n, d)) => Lib.laidMet.reads h (List.mem_of_getElem? e)
  have hp : Lib.TabIs Tryz.prog W "internal/strconv.uint64pow10" .u64 Lib.pow10Tab := by
    obtain ⟨g', t', cs, fuel, p, hg', ht', hv, hd⟩ := r 3 _ (Lib.tabData .u64 Lib.pow10Tab) (by kernel_rfl)
    obtain rfl := Option.some.inj ((show Tryz.prog.globalNamed "internal/strconv.uint64pow10" = some 5 by kernel_rfl).symm.trans hg')
    obtain rfl := Option.some.inj ((show (Tryz.prog.globals[5]?).map (·.type) = some 221 by kernel_rfl).symm.trans ht')
    unfold Lib.TabIs
    rw [hv, ← Lib.cells_of_tab Tryz.underlying221 Tryz.underlying129 (by kernel_rfl) (by kernel_rfl) hd]
  obtain ⟨fs, f1, f2, f3⟩ := step_fields
  have hc : Tryz.prog.cellsOf 237 = 2 := by kernel_rfl
  have hfull : W.cell? ⟨0, 0, none⟩ = some (.int .i64 8) ∧ W.cell? ⟨0, 1, none⟩ = some (.int .i64 8) := by
    obtain ⟨g', t', cs, fuel, p, hg', ht', hv, hd⟩ := r 10 _ (.agg ([8, 8].map fun z => .lit (.int .i64 z))) (by kernel_rfl)
    obtain rfl := Option.some.inj ((show Tryz.prog.globalNamed "caissa/position.full" = some 0 by kernel_rfl).symm.trans hg')
    obtain rfl := Option.some.inj ((show (Tryz.prog.globals[0]?).map (·.type) = some 23 by kernel_rfl).symm.trans ht')
    have hcs := Lib.ints_of_struct Tryz.underlying23 (fun i f hf => by
      rcases (by omega : i = 0 ∨ i = 1 ∨ 2 ≤ i) with rfl | rfl | h2
      · simp at hf; subst hf; exact ⟨Tryz.underlying3, rfl, by kernel_rfl⟩
      · simp at hf; subst hf; exact ⟨Tryz.underlying3, rfl, by kernel_rfl⟩
      · rw [Array.getElem?_eq_none (by simpa using h2)] at hf; cases hf) (by kernel_rfl) hd
    have e0 := World.var?_cell hg' hv 0
    have e1 := World.var?_cell hg' hv 1
    obtain ⟨l⟩ := cs
    simp only [] at hcs
    subst hcs
    exact ⟨e0, e1⟩
  obtain ⟨a8, _, hr, -⟩ := laid_sentinel (g := 4) (ti := 104) (tp := 231) (te := 233) (ts := 9) (h.tail.tail.tail.tail.tail.tail.tail.tail) (by kernel_rfl) (by kernel_rfl) Tryz.underlying104 (fun u hu => typeName_ptr_named (nm := "errors.errorString") (by kernel_rfl) (by kernel_rfl) (by decide) u (by exact hu)) Tryz.underlying231 Tryz.underlying233 rfl rfl Tryz.underlying9 (by kernel_rfl) (by kernel_rfl)
  obtain ⟨a9, _, hs, -⟩ := laid_sentinel (g := 3) (ti := 104) (tp := 231) (te := 233) (ts := 9) (h.tail.tail.tail.tail.tail.tail.tail.tail.tail) (by kernel_rfl) (by kernel_rfl) Tryz.underlying104 (fun u hu => typeName_ptr_named (nm := "errors.errorString") (by kernel_rfl) (by kernel_rfl) (by decide) u (by exact hu)) Tryz.underlying231 Tryz.underlying233 rfl rfl Tryz.underlying9 (by kernel_rfl) (by kernel_rfl)
  have hat : ∀ (V : World) (s : ByteArray), Below W.heap.size W V → s.size ≤ 281474976710656 → _ := fun V s hV hz => atoi_run (var_below hV (g := 3) (by kernel_rfl) hs) (var_below hV (g := 4) (by kernel_rfl) hr) s hz
  refine ⟨Tryz.laysM146.s1_3 W hsh, ?_, itoaAt hp, ?_, ?_, ⟨?_, ?_, ?_⟩, hfull⟩
  · refine kinds_of (r 0 "caissa/piece.kinds" _ rfl) fun k hk => ?_
    rcases (by omega : k = 0 ∨ k = 1 ∨ k = 2 ∨ k = 3 ∨ k = 4 ∨ k = 5 ∨ k = 6 ∨ k = 7 ∨ k = 8 ∨ k = 9 ∨ k = 10 ∨ k = 11 ∨ k = 12 ∨ k = 13 ∨ k = 14) with rfl | rfl | rfl | rfl | rfl | rfl | rfl | rfl | rfl | rfl | rfl | rfl | rfl | rfl | rfl <;> exact ⟨_, _, rfl⟩
  · intro V s hV hz
    exact (hat V s hV (by omega)).mono fun e w' ⟨⟨ev, he, _⟩, hb⟩ => ⟨⟨ev, he⟩, hb⟩
  · intro V s hV hz
    exact ⟨_, hat V s hV hz⟩
  · exact steps_of (r 7 "caissa/ray.leaps" (stepD leapsL) (by kernel_rfl)) (by kernel_rfl) (by kernel_rfl) Tryz.underlying240 f1 hc f2 f3
  · exact steps_of (r 6 "caissa/ray.diagonal" (stepD diagL) (by kernel_rfl)) (by kernel_rfl) (by kernel_rfl) Tryz.underlying242 f1 hc f2 f3
  · exact steps_of (r 5 "caissa/ray.straight" (stepD strL) (by kernel_rfl)) (by kernel_rfl) (by kernel_rfl) Tryz.underlying242 f1 hc f2 f3
end
section
open Go.ChangeShapes Go.WideShapes Go.ChangeAt Go.RowKit Go.Joins
section
variable {H : Type} {enc : TypeId × Value → H}
theorem returns_laid {a : Assume} {C : Checked} {os : Os} {f : FuncId} {fn : Func} {s : ChangeSpec} {conds : List PathCond} {apart fresh handsOn again : Bool} {X : World → Array Value → Prop}
    (hX : ∀ (w w' : World) (args : Array Value), w.heap = w'.heap → X w args → X w' args)
    (own : ownKnob C.prog.godebug = none) (started : os.Started) (noInit : C.prog.inits.idxOf? f = none) (hfn : C.prog.funcs[f]? = some fn)
    (witness : ∃ (w : World) (tape : Tape) (i : Input), w.os = os ∧ (w.forCall tape i).Shaped C.prog ∧ i.vars = [] ∧ Input.okWide C.prog (w.forCall tape i) .any w.heap.size f i ∧
      ((s.pre enc C.prog fn conds apart (w.forCall tape i).memory i.args ∧ X (w.forCall tape i).memory i.args) ∧ sizedMet enc C.prog fn (OpenSpec.ofChange s) apart (w.forCall tape i).memory i.args) ∧ a.holds C.prog (lone (Frame.enter C.prog f i.args .normal) [] (w.forCall tape i)))
    (contract : ∀ (W : World) (base : Nat) (args : Array Value) (ds gs : List (DataW H)) (before : List MemPlace),
      (∀ (j : Nat) t v, fn.params[j]? = some t → args[j]? = some v → Value.okWide C.prog W .any base t v) →
      DataW.Whole enc C.prog fn.params.toList s.vars apart W args.toList ds gs before → X W args → W.ShapedOpen C.prog →
      Calls C.prog f args W fun e W' => ∃ v, e = .returned v ∧ s.post enc C.prog fn apart fresh handsOn again W args v W') :
    ReturnsInHanded a C os f .any (fun w args => (s.pre enc C.prog fn conds apart w args ∧ X w args) ∧ sizedMet enc C.prog fn (OpenSpec.ofChange s) apart w args) (s.post enc C.prog fn apart fresh handsOn again) := by
  refine returnsInHanded_of_calls own started noInit witness ?_
  intro w tape i _ hsh _ hok hpre _
  obtain ⟨_, _, _, fn', hfn', _, _, _, _, hval⟩ := hok
  have e : fn' = fn := Option.some.inj (hfn'.symm.trans hfn)
  subst e
  obtain ⟨⟨⟨ds, gs, before, hw, hc⟩, hx⟩, hz⟩ := hpre
  have hw' := DataW.Whole.of_heap (w' := w.forCall tape i) (by rfl) hw
  refine (contract (w.forCall tape i) w.heap.size i.args ds gs before hval hw' (hX _ _ _ (by rfl) hx) hsh).mono fun e W' ⟨v, he, hp⟩ => ?_
  subst he
  exact ChangeSpec.post_blind hp
theorem trodAll_below {P : Program} (hl : laidOutB P = true) {W W' : World} (hb : Below W.heap.size W W') : ∀ {ts : List TypeId} {vs : List Value} {ds : List (DataW H)} {ps : List MemPlace},
    (∀ t ∈ ts, P.readableRec t = true ∧ t < P.types.size) → DataW.TrodAll enc P W 0 (fun _ => true) true ts vs ds ps → (∀ x ∈ ps, x.block < W.heap.size) →
    DataW.TrodAll enc P W' 0 (fun b => decide (b < W.heap.size)) true ts vs ds ps
  | [], [], [], _, _, h, _ => h
  | t :: ts, v :: vs, d :: ds, _, ht, ⟨p, q, h1, h2, e⟩, hlt => by
    subst e
    exact ⟨p, q, Below.trod hl (ht t (.head _)).1 (ht t (.head _)).2 h1 hb (fun x hx => hlt x (List.mem_append_left _ hx)),
      trodAll_below hl hb (fun t' h' => ht t' (.tail _ h')) h2 (fun x hx => hlt x (List.mem_append_right _ hx)), rfl⟩
  | [], [], _ :: _, _, _, h, _ => h.elim
  | [], _ :: _, _, _, _, h, _ => h.elim
  | _ :: _, [], _, _, _, h, _ => h.elim
  | _ :: _, _ :: _, [], _, _, h, _ => h.elim
theorem laidOut : laidOutB Tryz.prog = true := by kernel_rfl
set_option maxRecDepth 100000 in
theorem law_lifted {f : FuncId} {fn : Func} {s : ChangeSpec} (hfn : Tryz.prog.funcs[f]? = some fn) (noInit : Tryz.prog.inits.idxOf? f = none)
    (hres : ∃ tb, fn.resultTypes = #[tb] ∧ Tryz.prog.underlying tb = some .bool) (hpar : ∀ t ∈ fn.params.toList, Tryz.prog.readableRec t = true ∧ t < Tryz.prog.types.size) (hv : s.vars = [])
    (hs : ∀ (ds : List (DataW H)), ds.length = fn.params.size → s.fn H ds = { results := [.lit (.bool true)], args := ds }) (os : Os) (started : os.Started)
    (witness : ∃ (w : World) (tape : Tape) (i : Input), w.os = os ∧ (w.forCall tape i).Shaped Tryz.checked.prog ∧ i.vars = [] ∧ Input.okWide Tryz.checked.prog (w.forCall tape i) .any w.heap.size f i ∧
      ((s.pre enc Tryz.checked.prog fn [] false (w.forCall tape i).memory i.args ∧ laidMetH Tryz.prog laidL (w.forCall tape i).memory) ∧ sizedMet enc Tryz.checked.prog fn (OpenSpec.ofChange s) false (w.forCall tape i).memory i.args) ∧ ({} : Assume).holds Tryz.checked.prog (lone (Frame.enter Tryz.checked.prog f i.args .normal) [] (w.forCall tape i)))
    (law : ∀ (W : World) (base : Nat) (args : Array Value) (ds : List (DataW H)) (p : List MemPlace), Env W →
      (∀ (j : Nat) t v, fn.params[j]? = some t → args[j]? = some v → Value.okWide Tryz.prog W .any base t v) →
      DataW.TrodAll enc Tryz.prog W 0 (fun _ => true) true fn.params.toList args.toList ds p → Pure f args W (.bool true)) :
    ReturnsInHanded {} Tryz.checked os f .any (fun w args => (s.pre enc Tryz.prog fn [] false w args ∧ laidMetH Tryz.prog laidL w) ∧ sizedMet enc Tryz.prog fn (OpenSpec.ofChange s) false w args)
      (s.post enc Tryz.prog fn false true false false) := by
  refine returns_laid (C := Tryz.checked) (X := fun w _ => laidMetH Tryz.prog laidL w) (fun _ _ _ hh h => h.of_heap hh) Tryz.own started noInit hfn witness ?_
  intro W base args ds gs before hval hW hX hsh
  have hW' := hW
  obtain ⟨p, q, hA, hV, rfl, hfz, hnd⟩ := hW
  have hlt : ∀ x ∈ p, x.block < W.heap.size := fun x hx => hW'.lt x (List.mem_append_left _ hx)
  rw [hv] at hV
  obtain ⟨rfl, rfl⟩ := trodVars_none hV
  have hlen : ds.length = fn.params.size := by
    have : ∀ {ts : List TypeId} {vs : List Value} {ds : List (DataW H)} {ps : List MemPlace}, DataW.TrodAll enc Tryz.prog W 0 (fun _ => true) true ts vs ds ps → ds.length = ts.length := by
      intro ts
      induction ts with
      | nil => intro vs ds ps h; cases vs <;> cases ds <;> first | rfl | exact h.elim
      | cons t ts ih =>
        intro vs ds ps h
        cases vs <;> cases ds <;> first | exact h.elim | skip
        obtain ⟨p, q, h1, h2, e⟩ := h
        simp [ih h2]
    simpa using this hA
  refine (law W base args ds p (env_of hX hsh) hval hA).mono fun e W' ⟨he, hb⟩ => ?_
  subst he
  obtain ⟨tb, hr, hbl⟩ := hres
  refine ⟨_, rfl, ds, [], _, [], p, [], hW', ?_, ?_, ?_, hb.frame _, fun h => by cases h⟩
  · rw [List.append_nil, hs ds hlen, hr]
    exact trodAll_mk1 (shut_bool hbl true)
  · rw [List.append_nil, hs ds hlen]
    exact trodAll_below laidOut hb hpar hA hlt
  · rw [List.append_nil, hs ds hlen, hv]
    rfl
end
end
section
set_option maxRecDepth 100000
open Go.ChangeShapes Go.WideShapes Go.ChangeAt Go.RowKit Go.Joins Go.Deep
section
variable {H : Type} {enc : TypeId × Value → H} {W : World}
theorem addr_of {w : World} {a : Addr} {v : Value} (h : w.cell? a = some v) : a = ⟨a.block, a.off, none⟩ := by
  obtain ⟨b, o, s⟩ := a
  cases s with
  | none => rfl
  | some x =>
    simp only [World.cell?] at h
    split at h
    · simp at h
    · cases h
theorem add_at (b o i : Nat) : (⟨b, o, none⟩ : Addr).add i = ⟨b, o + i, none⟩ := by
  unfold Addr.add
  split
  · rename_i h
    subst h
    rfl
  · rfl
theorem pieces_open {base : Nat} {fuel : Nat} {cs : List Value} {x : DataW H × List MemPlace} (h : DataW.trod enc Tryz.prog W 0 (fun _ => true) true fuel 24 cs = some x) :
    ∃ (ps : List Int) (po : Option Addr) (cap : Nat), cs = [.slice po ps.length cap] ∧ SlcAt W po ps ∧ ps.length ≤ cap ∧ cap ≤ 9223372036854775807 ∧ ∀ q ∈ ps, -128 ≤ q ∧ q ≤ 127 := by
  rcases open_ints Tryz.underlying24 Tryz.underlying48 (by kernel_rfl) h with ⟨hcs, _⟩ | ⟨a, len, cap, zs, hcs, _, hl, hm, hz, _, hcell, hwz⟩
  · exact ⟨[], none, 0, hcs, .inl rfl, by simp, by omega, by simp⟩
  · simp only [if_true] at hz
    unfold maxLen at hm
    refine ⟨zs.take len, some a, cap, by rw [hcs, List.length_take]; congr 3; omega, ?_, by rw [List.length_take]; omega, by omega, fun q hq => bounds_i8 (hwz q (List.mem_of_mem_take hq))⟩
    rcases Nat.eq_zero_or_pos len with h0 | hpos
    · exact .inl (by simp [h0])
    · have c0 := hcell 0 (by omega)
      have ha := addr_of (show W.cell? a = some _ by simpa [Addr.add] using c0)
      obtain ⟨b, o, s⟩ := a
      simp only [Addr.mk.injEq, true_and] at ha
      subst ha
      refine .inr ⟨b, o, rfl, fun i q hi => ?_⟩
      have hi1 : i < zs.length ∧ zs[i]? = some q := by
        rw [List.getElem?_take] at hi
        split at hi
        · exact ⟨(List.getElem?_eq_some_iff.1 hi).1, hi⟩
        · cases hi
      have := hcell i hi1.1
      rw [add_at, List.getD_eq_getElem?_getD, hi1.2] at this
      exact this
theorem pos_open {base : Nat} {r : Reach} {v : Value} {d : DataW H} {p : List MemPlace} (hv : Value.okWide Tryz.prog W r base 26 v) (h : DataW.Trod enc Tryz.prog W 0 (fun _ => true) true 26 v d p) :
    ∃ (q : Pos) (po : Option Addr) (cap : Nat), v = .agg (q.cells po cap) ∧ SlcAt W po q.ps ∧ q.ps.length ≤ cap ∧ cap ≤ 9223372036854775807 ∧ (0 ≤ q.castle ∧ q.castle ≤ 255) := by
  obtain ⟨cs, rfl, hsz⟩ := okWide_struct Tryz.underlying26 hv
  obtain ⟨fuel, hf⟩ := h
  obtain ⟨ys, m, hm, hx, hl, hyl, hall⟩ := DataW.trod_struct Tryz.underlying26 hf
  have hc8 : Tryz.prog.cellsOf 26 = 8 := by kernel_rfl
  rw [hc8] at hsz
  obtain ⟨l⟩ := cs
  obtain ⟨c0, c1, c2, c3, c4, c5, c6, c7, rfl⟩ : ∃ c0 c1 c2 c3 c4 c5 c6 c7, l = [c0, c1, c2, c3, c4, c5, c6, c7] := by
    match l, hsz with
    | [c0, c1, c2, c3, c4, c5, c6, c7], _ => exact ⟨_, _, _, _, _, _, _, _, rfl⟩
  obtain ⟨y0, y1, y2, y3, y4, y5, y6, rfl⟩ : ∃ y0 y1 y2 y3 y4 y5 y6, ys = [y0, y1, y2, y3, y4, y5, y6] := by
    match ys, hyl with
    | [y0, y1, y2, y3, y4, y5, y6], _ => exact ⟨_, _, _, _, _, _, _, rfl⟩
  have z0 := hall 0 _ rfl
  have z1 := hall 1 _ rfl
  have z2 := hall 2 _ rfl
  have z3 := hall 3 _ rfl
  have z4 := hall 4 _ rfl
  have z5 := hall 5 _ rfl
  have z6 := hall 6 _ rfl
  have k1 : Tryz.prog.cellsOf 23 = 2 := by kernel_rfl
  have k2 : Tryz.prog.cellsOf 24 = 1 := by kernel_rfl
  have k3 : Tryz.prog.cellsOf 4 = 1 := by kernel_rfl
  have k4 : Tryz.prog.cellsOf 5 = 1 := by kernel_rfl
  have k5 : Tryz.prog.cellsOf 3 = 1 := by kernel_rfl
  clear hall hm hx hl hyl hsz hc8 hf hv
  simp only [k1, k2, k3, k4, k5, Value.cells, List.drop_succ_cons, List.drop_zero, List.take_succ_cons, List.take_zero, List.getElem?_cons_zero, List.getElem?_cons_succ] at z0 z1 z2 z3 z4 z5 z6
  obtain ⟨xs, m2, _, _, _, hxl, hxa⟩ := DataW.trod_struct Tryz.underlying23 z0
  obtain ⟨x0, x1, rfl⟩ : ∃ x0 x1, xs = [x0, x1] := by
    match xs, hxl with
    | [x0, x1], _ => exact ⟨_, _, rfl⟩
  have u0 := hxa 0 _ rfl
  have u1 := hxa 1 _ rfl
  clear hxa hxl
  simp only [k5, List.drop_succ_cons, List.drop_zero, List.take_succ_cons, List.take_zero, List.getElem?_cons_zero, List.getElem?_cons_succ] at u0 u1
  obtain ⟨f, hf, _, _⟩ := DataW.trod_int Tryz.underlying3 u0
  obtain ⟨g, hg, _, _⟩ := DataW.trod_int Tryz.underlying3 u1
  obtain ⟨ps, po, cap, hp, hS, hl1, hl2, _⟩ := pieces_open (base := 0) z1
  obtain ⟨b, hb, _⟩ := DataW.trod_bool Tryz.underlying4 z2
  obtain ⟨k, hk, _, wk⟩ := DataW.trod_int Tryz.underlying5 z3
  obtain ⟨x, hx, _, _⟩ := DataW.trod_int Tryz.underlying3 z4
  obtain ⟨y, hy, _, _⟩ := DataW.trod_int Tryz.underlying3 z5
  obtain ⟨z, hz, _, _⟩ := DataW.trod_int Tryz.underlying3 z6
  cases hf
  cases hg
  cases hp
  cases hb
  cases hk
  cases hx
  cases hy
  cases hz
  exact ⟨⟨f, g, ps, b, k, x, y, z⟩, po, cap, rfl, hS, hl1, hl2, bounds_u8 wk⟩
end
end
section
namespace E
end E
end
section
namespace E
def flush (s : List UInt8 × Nat) : List UInt8 := if 0 < s.2 then s.1 ++ [UInt8.ofNat (48 + s.2)] else s.1
def rowStep (s : List UInt8 × Nat) (p : Int) : List UInt8 × Nat := if p = 0 then (s.1, s.2 + 1) else (flush s ++ [letB p], 0)
def rowK (o : List UInt8) (ps : List Int) : List UInt8 × Nat := ps.foldl rowStep (o, 0)
theorem rowK_snoc (o : List UInt8) (ps : List Int) (k : Nat) (p : Int) (h : ps[k]? = some p) : rowK o (ps.take (k + 1)) = rowStep (rowK o (ps.take k)) p := by
  unfold rowK
  rw [List.take_add_one, h]
  simp
theorem ba_size (a : List UInt8) : (⟨a.toArray⟩ : ByteArray).size = a.length := by simp [ByteArray.size]
end E
end
section
namespace E
theorem flush_pre (o a : List UInt8) (e : Nat) : flush (o ++ a, e) = o ++ flush (a, e) := by
  unfold flush
  simp only
  split <;> simp
theorem fold_pre (o : List UInt8) : ∀ (l : List Int) (a : List UInt8) (e : Nat), l.foldl rowStep (o ++ a, e) = (o ++ (l.foldl rowStep (a, e)).1, (l.foldl rowStep (a, e)).2)
  | [], a, e => rfl
  | p :: l, a, e => by
    simp only [List.foldl_cons]
    by_cases hp : p = 0
    · simp only [rowStep, hp, if_true]
      exact fold_pre o l a (e + 1)
    · simp only [rowStep, hp, if_false, flush_pre, List.append_assoc]
      exact fold_pre o l _ 0
theorem rowK_pre (o : List UInt8) (l : List Int) : rowK o l = (o ++ (rowK [] l).1, (rowK [] l).2) := by
  have := fold_pre o l [] 0
  simpa [rowK] using this
theorem dig_up : ∀ e : Fin 9, UInt8.ofNat (48 + e.1) + 1 = UInt8.ofNat (48 + (e.1 + 1)) ∧ (UInt8.ofNat (48 + e.1)).toNat = 48 + e.1 := by decide
theorem rank_row {l : List Int} (hl : l.length ≤ 8) (hb : ∀ p ∈ l, -15 ≤ p ∧ p ≤ 15) : ∀ k, k ≤ l.length →
    rankL (l.take k) = flush (rowK [] (l.take k)) ∧ (∀ d, (rowK [] (l.take k)).1.getLast? = some d → 65 ≤ d.toNat) ∧ (rowK [] (l.take k)).2 ≤ k
  | 0, _ => ⟨rfl, by simp [rowK], by simp [rowK]⟩
  | k + 1, hk => by
    obtain ⟨i1, i2, i3⟩ := rank_row hl hb k (by omega)
    have hp : l[k]? = some l[k] := List.getElem?_eq_getElem (by omega)
    have hpb := hb l[k] (List.getElem_mem _)
    generalize l[k] = p at hp hpb
    rw [rankL_snoc l k p hp, rowK_snoc [] l k p hp, i1]
    obtain ⟨a, e, hS⟩ : ∃ a e, rowK [] (l.take k) = (a, e) := ⟨_, _, rfl⟩
    rw [hS] at i2 i3 ⊢
    dsimp only at i2 i3
    by_cases h0 : p = 0
    · subst h0
      refine ⟨?_, by simpa [rowStep] using i2, by simp [rowStep]; omega⟩
      unfold rankStep
      simp only [rowStep, if_true, ne_eq, not_true_eq_false, if_false]
      rcases Nat.eq_zero_or_pos e with he | he
      · subst he
        simp only [flush, Nat.lt_irrefl, if_false]
        cases hg : a.getLast? with
        | none => simp
        | some d =>
          have := i2 d hg
          simp only
          rw [if_neg (by omega)]
          simp
      · obtain ⟨d1, d2⟩ := dig_up ⟨e, by omega⟩
        simp only at d1 d2
        simp only [flush, he, if_true, List.getLast?_append, List.getLast?_singleton, Option.some_or]
        rw [d2, if_pos (by omega), d1]
        simp
    · refine ⟨?_, ?_, by simp [rowStep, h0]⟩
      · simp [rankStep, rowStep, h0, flush]
      · intro d hd
        simp only [rowStep, h0, if_false, List.getLast?_append, List.getLast?_singleton, Option.some_or, Option.some.injEq] at hd
        subst hd
        have h1 := letB_eq hpb.1 hpb.2 h0
        have h2 := letP_bd hpb.1 hpb.2 h0
        omega
theorem row_flush (o : List UInt8) {l : List Int} (hl : l.length ≤ 8) (hb : ∀ p ∈ l, -15 ≤ p ∧ p ≤ 15) : flush (rowK o l) = o ++ rankL l := by
  have := (rank_row hl hb l.length (Nat.le_refl _)).1
  rw [List.take_length] at this
  rw [rowK_pre, flush_pre, this]
end E
end
section
namespace E
end E
end
section
namespace E
end E
end
section
namespace E
end E
end
section
namespace E
theorem dig20 : ∀ (k n : Nat), n < 10 ^ (k + 1) → (Lib.decDigits n).length ≤ k + 1
  | 0, n, h => by
    rw [Lib.decDigits_one (by omega)]
    simp
  | k + 1, n, h => by
    by_cases h1 : n < 10
    · rw [Lib.decDigits_one h1]
      simp
    · rw [Lib.decDigits, dif_neg h1]
      have := dig20 k (n / 10) (by rw [Nat.pow_succ] at h; omega)
      simp
      omega
theorem digB_20 {n : Nat} (h : n ≤ 9223372036854775807) : (digB (n : Int)).size ≤ 20 := by
  have := dig20 19 n (Nat.lt_of_le_of_lt h (by decide))
  simpa [digB, ByteArray.size] using this
end E
end
section
namespace E
theorem idx_app (c : UInt8) : ∀ (x t : List UInt8), c ∉ x → Lib.index (x ++ c :: t) [c] = (x.length : Int)
  | [], t, _ => by rw [List.nil_append, Lib.index]; simp [List.isPrefixOf]
  | b :: x, t, h => by
    have hb : c ≠ b := fun e => h (by simp [e])
    have ih := idx_app c x t (fun e => h (by simp [e]))
    rw [List.cons_append, Lib.index]
    have hp : ([c] : List UInt8).isPrefixOf (b :: (x ++ c :: t)) = false := by simp [List.isPrefixOf, hb]
    have hm : ¬ (((x.length : Int) == -1) = true) := by rw [beq_iff_eq]; omega
    rw [hp, ih, if_neg (by simp), if_neg hm]
    simp
theorem join2 (c : UInt8) (x y : List UInt8) (r : List (List UInt8)) : Lib.join (x :: y :: r) [c] = x ++ c :: Lib.join (y :: r) [c] := by simp [Lib.join, List.intercalate]
theorem splitK_join (c : UInt8) : ∀ (ws : List (List UInt8)), ws ≠ [] → (∀ x ∈ ws, c ∉ x) → Lib.splitK [c] 0 (Lib.count (Lib.join ws [c]) [c]) (Lib.join ws [c]) = ws
  | [], h, _ => absurd rfl h
  | [x], _, h => by
    rw [Lib.join_one, Lib.count_one, List.count_eq_zero.2 (h x (by simp))]
    rfl
  | x :: y :: r, _, h => by
    have ih := splitK_join c (y :: r) (by simp) (fun z hz => h z (List.mem_cons_of_mem _ hz))
    have hx := h x (by simp)
    have hm : ¬ (((x.length : Int) == -1) = true) := by rw [beq_iff_eq]; omega
    rw [join2, Lib.count_one, List.count_append, List.count_eq_zero.2 hx, List.count_cons_self, Nat.zero_add, ← Lib.count_one, Lib.splitK, idx_app c x _ hx, if_neg hm]
    simp [ih]
theorem ba_inj : ∀ (xs ys : List ByteArray), xs.map (·.data.toList) = ys.map (·.data.toList) → xs = ys
  | [], [], _ => rfl
  | [], _ :: _, h => by simp at h
  | _ :: _, [], h => by simp at h
  | x :: xs, y :: ys, h => by
    simp only [List.map_cons, List.cons.injEq] at h
    rw [ba_inj xs ys h.2, show x = y from ByteArray.ext (Array.ext' h.1)]
theorem splitS_join (c : UInt8) (L : List ByteArray) (h0 : L ≠ []) (h : ∀ x ∈ L, c ∉ x.data.toList) : splitS ⟨(Lib.join (L.map (·.data.toList)) [c]).toArray⟩ ⟨#[c]⟩ = L := by
  apply ba_inj
  unfold splitS
  rw [Lib.splitB_data]
  exact splitK_join c (L.map (·.data.toList)) (by simpa using h0) (by simpa using h)
theorem pcs_start : ∀ (b : List UInt8) (x : List Int), b.foldl pcsStep (some x) = (b.foldl pcsStep (some [])).map (x ++ ·)
  | [], x => by simp
  | c :: b, x => by
    simp only [List.foldl_cons, pcsStep]
    cases pcsB c with
    | none => simp [pcs_none]
    | some z =>
      simp only [List.nil_append]
      rw [pcs_start b (x ++ z), pcs_start b z]
      cases b.foldl pcsStep (some []) <;> simp
theorem pcsL_app {a b : List UInt8} {x y : List Int} (ha : pcsL a = some x) (hb : pcsL b = some y) : pcsL (a ++ b) = some (x ++ y) := by
  unfold pcsL at *
  rw [List.foldl_append, ha, pcs_start, hb]
  rfl
theorem pcs_let : ∀ k : Fin 31, k.1 ≠ 15 → pcsB (letB ((k.1 : Int) - 15)) = some [(k.1 : Int) - 15] := by decide
theorem pcs_dig : ∀ e : Fin 9, 0 < e.1 → pcsB (UInt8.ofNat (48 + e.1)) = some (List.replicate e.1 0) := by decide
theorem pcs_one {c : UInt8} {x : List Int} (h : pcsB c = some x) : pcsL [c] = some x := by simp [pcsL, pcsStep, h]
theorem pcs_flush {a : List UInt8} {az : List Int} {e : Nat} (h : pcsL a = some az) (he : e ≤ 8) : pcsL (flush (a, e)) = some (az ++ List.replicate e 0) := by
  unfold flush
  dsimp only
  split
  · rename_i h0
    exact pcsL_app h (pcs_one (pcs_dig ⟨e, by omega⟩ h0))
  · obtain rfl : e = 0 := by omega
    simpa using h
theorem pcs_row : ∀ (l : List Int) (a : List UInt8) (az : List Int) (e : Nat), pcsL a = some az → e + l.length ≤ 8 → (∀ p ∈ l, -15 ≤ p ∧ p ≤ 15) → pcsL (flush (l.foldl rowStep (a, e))) = some (az ++ List.replicate e 0 ++ l)
  | [], a, az, e, h, he, _ => by simpa using pcs_flush h (by simpa using he)
  | p :: l, a, az, e, h, he, hb => by
    have hp := hb p (by simp)
    have hb2 : ∀ q ∈ l, -15 ≤ q ∧ q ≤ 15 := fun q hq => hb q (List.mem_cons_of_mem _ hq)
    simp only [List.length_cons] at he
    by_cases h0 : p = 0
    · subst h0
      rw [List.foldl_cons, show rowStep (a, e) 0 = (a, e + 1) from rfl, pcs_row l a az (e + 1) h (by omega) hb2, List.replicate_succ']
      simp
    · obtain ⟨k, hk, rfl⟩ : ∃ k : Nat, k < 31 ∧ p = (k : Int) - 15 := ⟨(p + 15).toNat, by omega, by omega⟩
      have h1 := pcs_let ⟨k, hk⟩ (by show k ≠ 15; omega)
      have h2 := pcs_flush h (show e ≤ 8 by omega)
      rw [List.foldl_cons, show rowStep (a, e) ((k : Int) - 15) = (flush (a, e) ++ [letB ((k : Int) - 15)], 0) by simp [rowStep, h0], pcs_row l _ _ 0 (pcsL_app h2 (pcs_one h1)) (by omega) hb2]
      simp
theorem pcs_rank {l : List Int} (hl : l.length ≤ 8) (hb : ∀ p ∈ l, -15 ≤ p ∧ p ≤ 15) : pcsL (rankL l) = some l := by
  have h := row_flush [] hl hb
  rw [List.nil_append] at h
  rw [← h]
  have := pcs_row l [] [] 0 rfl (by omega) hb
  simpa [rowK] using this
theorem let_ge : ∀ k : Fin 31, 49 ≤ (letB ((k.1 : Int) - 15)).toNat ∨ k.1 = 15 := by decide
theorem dig_ge : ∀ e : Fin 9, 0 < e.1 → 49 ≤ (UInt8.ofNat (48 + e.1)).toNat := by decide
theorem flush_ge {a : List UInt8} {e : Nat} (h : ∀ b ∈ a, 49 ≤ b.toNat) (he : e ≤ 8) : ∀ b ∈ flush (a, e), 49 ≤ b.toNat := by
  unfold flush
  dsimp only
  split
  · rename_i h0
    intro b hb
    simp only [List.mem_append, List.mem_singleton] at hb
    rcases hb with hb | rfl
    · exact h b hb
    · exact dig_ge ⟨e, by omega⟩ h0
  · exact h
theorem row_ge : ∀ (l : List Int) (a : List UInt8) (e : Nat), (∀ b ∈ a, 49 ≤ b.toNat) → e + l.length ≤ 8 → (∀ p ∈ l, -15 ≤ p ∧ p ≤ 15) → ∀ b ∈ flush (l.foldl rowStep (a, e)), 49 ≤ b.toNat
  | [], a, e, h, he, _ => flush_ge h (by simpa using he)
  | p :: l, a, e, h, he, hb => by
    have hp := hb p (by simp)
    have hb2 : ∀ q ∈ l, -15 ≤ q ∧ q ≤ 15 := fun q hq => hb q (List.mem_cons_of_mem _ hq)
    simp only [List.length_cons] at he
    by_cases h0 : p = 0
    · subst h0
      rw [List.foldl_cons, show rowStep (a, e) 0 = (a, e + 1) from rfl]
      exact row_ge l a (e + 1) h (by omega) hb2
    · rw [List.foldl_cons, show rowStep (a, e) p = (flush (a, e) ++ [letB p], 0) by simp [rowStep, h0]]
      refine row_ge l _ 0 (fun b hb => ?_) (by omega) hb2
      simp only [List.mem_append, List.mem_singleton] at hb
      rcases hb with hb | rfl
      · exact flush_ge h (by omega) b hb
      · obtain ⟨k, hk, rfl⟩ : ∃ k : Nat, k < 31 ∧ p = (k : Int) - 15 := ⟨(p + 15).toNat, by omega, by omega⟩
        rcases let_ge ⟨k, hk⟩ with h1 | h1
        · exact h1
        · exact absurd (show (k : Int) - 15 = 0 by simp only at h1; omega) h0
theorem rank_ge {l : List Int} (hl : l.length ≤ 8) (hb : ∀ p ∈ l, -15 ≤ p ∧ p ≤ 15) : ∀ b ∈ rankL l, 49 ≤ b.toNat := by
  have h := row_flush [] hl hb
  rw [List.nil_append] at h
  rw [← h]
  simpa [rowK] using row_ge l [] 0 (by simp) (by omega) hb
section board
variable {f r : Nat} {ps : List Int}
theorem bvalid_bd (h : bvalid f r ps = true) : (3 ≤ f ∧ f ≤ 8 ∧ 3 ≤ r ∧ r ≤ 8) ∧ ps.length = f * r ∧ ∀ p ∈ ps, -15 ≤ p ∧ p ≤ 15 := by
  unfold bvalid at h
  simp only [Bool.and_eq_true, Bool.not_eq_true', beq_iff_eq] at h
  obtain ⟨⟨h1, h2⟩, h3⟩ := h
  obtain ⟨z1, z2, z3, z4⟩ := vsize_bd h1
  refine ⟨⟨by omega, by omega, by omega, by omega⟩, by exact_mod_cast h2, fun p hp => ?_⟩
  have := List.any_eq_false.1 h3 p hp
  simp [badB] at this
  omega
theorem rankAt_l (i : Nat) : (rankAt f ps i).data.toList = rankL ((ps.drop (f * i)).take f) := rfl
theorem row_in (hb : ∀ p ∈ ps, -15 ≤ p ∧ p ≤ 15) (i : Nat) : ∀ p ∈ (ps.drop (f * i)).take f, -15 ≤ p ∧ p ≤ 15 := fun p hp => hb p (List.mem_of_mem_drop (List.mem_of_mem_take hp))
theorem pcs_ranks (h : bvalid f r ps = true) : ∀ k, k ≤ r → pcsL (((List.range k).map fun i => (rankAt f ps i).data.toList).flatten) = some (ps.take (f * k))
  | 0, _ => by simp [pcsL]
  | k + 1, hk => by
    obtain ⟨⟨_, hf, _, _⟩, hl, hb⟩ := bvalid_bd h
    have ih := pcs_ranks h k (by omega)
    have h1 : pcsL (rankAt f ps k).data.toList = some ((ps.drop (f * k)).take f) := pcs_rank (by rw [List.length_take]; omega) (row_in hb k)
    rw [List.range_succ, List.map_append, List.flatten_append]
    simp only [List.map_cons, List.map_nil, List.flatten_cons, List.flatten_nil, List.append_nil]
    rw [pcsL_app ih h1, Nat.mul_succ, List.take_add]
theorem board_words (h : bvalid f r ps = true) : splitS ⟨(boardL f r ps).toArray⟩ ⟨#[47]⟩ = ((List.range r).map (rankAt f ps)).reverse := by
  obtain ⟨⟨_, hf, hr, _⟩, hl, hb⟩ := bvalid_bd h
  refine splitS_join 47 _ (by simp; omega) fun x hx => ?_
  simp only [List.mem_reverse, List.mem_map, List.mem_range] at hx
  obtain ⟨i, _, rfl⟩ := hx
  rw [rankAt_l]
  intro hm
  have := rank_ge (by rw [List.length_take]; omega) (row_in hb i) _ hm
  exact absurd this (by decide)
theorem board_ge (h : bvalid f r ps = true) : ∀ b ∈ boardL f r ps, 47 ≤ b.toNat := by
  obtain ⟨⟨_, hf, hr, _⟩, hl, hb⟩ := bvalid_bd h
  have key : ∀ xs : List (List UInt8), (∀ x ∈ xs, ∀ b ∈ x, 47 ≤ b.toNat) → ∀ b ∈ Lib.join xs [47], 47 ≤ b.toNat := by
    intro xs
    induction xs with
    | nil => simp [Lib.join, List.intercalate]
    | cons x xs ih =>
      intro hx b hb
      cases xs with
      | nil => rw [Lib.join_one] at hb; exact hx x (by simp) b hb
      | cons y xs =>
        rw [join2] at hb
        simp only [List.mem_append, List.mem_cons] at hb
        rcases hb with hb | rfl | hb
        · exact hx x (by simp) b hb
        · decide
        · exact ih (fun z hz => hx z (List.mem_cons_of_mem _ hz)) b hb
  refine key _ fun x hx b hbx => ?_
  simp only [List.mem_map, List.mem_reverse, List.mem_range] at hx
  obtain ⟨_, ⟨i, _, rfl⟩, rfl⟩ := hx
  have := rank_ge (by rw [List.length_take]; omega) (row_in hb i) b hbx
  omega
theorem board_again (h : bvalid f r ps = true) : boardO ⟨(boardL f r ps).toArray⟩ = some (f, r, ps) := by
  obtain ⟨⟨_, hf, hr, hr8⟩, hl, hb⟩ := bvalid_bd h
  have hw := board_words h
  have hn : (splitS ⟨(boardL f r ps).toArray⟩ ⟨#[47]⟩).length = r := by rw [hw]; simp
  have hp := pcs_ranks h r (Nat.le_refl _)
  rw [← hl, List.take_length] at hp
  rw [boardO_ps (by omega) (ps := ps) (by rw [hw, List.reverse_reverse, List.map_map]; exact hp), hn]
  have hd : ps.length / r = f := by rw [hl]; exact Nat.mul_div_cancel _ (by omega)
  rw [hd, h]
  simp
end board
theorem dec_next {n : Nat} (h : ¬ n < 10) : Lib.decDigits n = Lib.decDigits (n / 10) ++ [UInt8.ofNat (48 + n % 10)] := by rw [Lib.decDigits, dif_neg h]
theorem dig_val : ∀ d : Fin 10, Lib.digitVal (UInt8.ofNat (48 + d.1)) = some d.1 ∧ 48 ≤ (UInt8.ofNat (48 + d.1)).toNat ∧ (UInt8.ofNat (48 + d.1)).toNat ≤ 57 := by decide
theorem dec_app : ∀ (a b : List UInt8) (acc n : Nat), Lib.decFrom acc a = some n → Lib.decFrom acc (a ++ b) = Lib.decFrom n b
  | [], b, acc, n, h => by
    simp only [Lib.decFrom, Option.some.injEq] at h
    rw [h]; rfl
  | c :: a, b, acc, n, h => by
    simp only [List.cons_append, Lib.decFrom] at h ⊢
    cases hc : Lib.digitVal c with
    | none => rw [hc] at h; cases h
    | some d => rw [hc] at h; exact dec_app a b _ n h
theorem dec_from (n : Nat) : Lib.decFrom 0 (Lib.decDigits n) = some n ∧ Lib.decDigits n ≠ [] ∧ ∀ b ∈ Lib.decDigits n, 48 ≤ b.toNat ∧ b.toNat ≤ 57 := by
  induction n using Nat.strongRecOn with
  | ind n ih =>
    by_cases h : n < 10
    · rw [Lib.decDigits_one h]
      obtain ⟨h1, h2⟩ := dig_val ⟨n, h⟩
      simp only at h1 h2
      refine ⟨by simp only [Lib.decFrom, h1, Nat.zero_mul, Nat.zero_add], by simp, fun b hb => ?_⟩
      rw [List.mem_singleton.1 hb]
      exact h2
    · obtain ⟨i1, i2, i3⟩ := ih (n / 10) (by omega)
      obtain ⟨h1, h2⟩ := dig_val ⟨n % 10, by omega⟩
      simp only at h1 h2
      rw [dec_next h]
      refine ⟨?_, by simp, fun b hb => ?_⟩
      · rw [dec_app _ _ 0 _ i1]
        simp only [Lib.decFrom, h1]
        rw [Option.some.injEq]
        omega
      · simp only [List.mem_append, List.mem_singleton] at hb
        rcases hb with hb | rfl
        · exact i3 b hb
        · exact h2
theorem dec_len {n : Nat} (h : n ≤ 10000) : (Lib.decDigits n).length ≤ 5 := dig20 4 n (by omega)
theorem atoi_dig {n : Nat} (h : n ≤ 10000) : atoiI (digB (n : Int)) = n := by
  have hd : (digB (n : Int)).data.toList = Lib.decDigits n := rfl
  obtain ⟨h1, h2, h3⟩ := dec_from n
  have hl := dec_len h
  unfold atoiI
  rw [hd, Lib.atoiAll_short _ (by omega)]
  cases hx : Lib.decDigits n with
  | nil => exact absurd hx h2
  | cons b r =>
    rw [hx] at h1 h3
    have hb := h3 b (by simp)
    have n1 : (b == 45) = false := by rw [beq_eq_false_iff_ne]; intro e; rw [e] at hb; exact absurd hb (by decide)
    have n2 : (b == 43) = false := by rw [beq_eq_false_iff_ne]; intro e; rw [e] at hb; exact absurd hb (by decide)
    simp [Lib.atoi, n1, n2, Lib.decNat, h1, Lib.NumEnd.ofOption]
end E
end
section
namespace E
theorem sq_name : ∀ f r a : Nat, f ≤ 8 → r ≤ 8 → a < f * r → a % f < f → sqO f r (nameB f a) = some (a : Int) := by
  intro f r a hf hr ha hm
  have hd : a / f < r := Nat.div_lt_of_lt_mul ha
  have e1 : ((a : Int) % (f : Int)).toNat = a % f := by norm_cast
  have e2 : ((a : Int) / (f : Int)).toNat = a / f := by norm_cast
  unfold sqO nameB
  rw [e1, e2]
  have b1 : (UInt8.ofNat (97 + a % f)).toNat = 97 + a % f := by rw [UInt8.toNat_ofNat']; omega
  have b2 : (UInt8.ofNat (49 + a / f)).toNat = 49 + a / f := by rw [UInt8.toNat_ofNat']; omega
  rw [if_pos (show (⟨#[UInt8.ofNat (97 + a % f), UInt8.ofNat (49 + a / f)]⟩ : ByteArray).size = 2 from rfl)]
  have c1 : ((#[UInt8.ofNat (97 + a % f), UInt8.ofNat (49 + a / f)] : Array UInt8).getD 0 0).toNat = 97 + a % f := b1
  have c2 : ((#[UInt8.ofNat (97 + a % f), UInt8.ofNat (49 + a / f)] : Array UInt8).getD 1 0).toNat = 49 + a / f := b2
  dsimp only
  rw [c1, c2]
  have d1 : (((97 + a % f : Nat) : Int) - 97) = ((a % f : Nat) : Int) := by omega
  have d2 : (((49 + a / f : Nat) : Int) - 49) = ((a / f : Nat) : Int) := by omega
  rw [d1, d2]
  have ho : onB (f : Int) (r : Int) ((a % f : Nat) : Int) ((a / f : Nat) : Int) = true := by
    unfold onB
    simp only [Bool.and_eq_true, decide_eq_true_eq]
    omega
  rw [if_pos ho, Option.some.injEq]
  have := Nat.mod_add_div a f
  rw [Nat.mul_comm] at this
  exact_mod_cast this
theorem cast_all : ∀ c : Fin 16, let p : Pos := ⟨0, 0, [], false, c.1, 0, 0, 0⟩; castN p.castT 4 = c.1 ∧ p.castT.data.toList.all (fun b => b.toNat != 32) = true := by decide
theorem castT_of (p : Pos) : p.castT = (⟨0, 0, [], false, p.castle, 0, 0, 0⟩ : Pos).castT := rfl
theorem cast_t {p : Pos} (h0 : 0 ≤ p.castle) (h1 : p.castle < 16) : ((castN p.castT 4 : Nat) : Int) = p.castle ∧ ∀ b ∈ p.castT.data.toList, b ≠ 32 := by
  rw [castT_of]
  obtain ⟨c, hc, he⟩ : ∃ c : Nat, c < 16 ∧ p.castle = c := ⟨p.castle.toNat, by omega, by omega⟩
  have := cast_all ⟨c, hc⟩
  simp only at this
  rw [he]
  refine ⟨by rw [this.1], fun b hb e => ?_⟩
  have := List.all_eq_true.1 this.2 b hb
  rw [e] at this
  exact absurd this (by decide)
theorem valid_bd {p : Pos} (h : p.valid = true) : bvalid p.f p.r p.ps = true ∧ p.castles = true ∧ p.passes = true ∧ p.counts = true := by
  unfold Pos.valid at h
  simp only [Bool.and_eq_true] at h
  exact ⟨h.1.1.1.1.1, h.1.1.2, h.1.2, h.2⟩
theorem castle_bd {p : Pos} (h : p.castles = true) : p.castle < 16 := by
  unfold Pos.castles at h
  simp only [Bool.and_eq_true, decide_eq_true_eq] at h
  exact h.2
theorem counts_bd {p : Pos} (h : p.counts = true) : 0 ≤ p.half ∧ p.half ≤ 10000 ∧ 1 ≤ p.full ∧ p.full ≤ 10000 := by
  simpa [Pos.counts, and_assoc] using h
theorem passes_bd {p : Pos} (h : p.passes = true) : p.passant = -1 ∨ vsq p.f p.r p.passant = true := by
  unfold Pos.passes at h
  rw [Bool.or_eq_true] at h
  rcases h with h | h
  · exact .inl (by simpa using h)
  · right
    split at h <;> (unfold Pos.passup at h; simp only [Bool.and_eq_true] at h; exact h.1.1.1.1.2)
theorem behind_t {p : Pos} (hz : vsize p.f p.r = true) (h : p.passes = true) : (sqO p.f p.r p.behindT = some p.passant ∨ sqO p.f p.r p.behindT = none ∧ p.passant = -1) ∧ ∀ b ∈ p.behindT.data.toList, b ≠ 32 := by
  unfold Pos.behindT
  rcases passes_bd h with h | h
  · rw [if_neg (by omega), h]
    exact ⟨.inr ⟨rfl, rfl⟩, by decide⟩
  · obtain ⟨_, h1, h2⟩ := vsq_bd h
    obtain ⟨z1, z2, z3, z4⟩ := vsize_bd hz
    rw [if_pos h1]
    obtain ⟨f, hf⟩ : ∃ f : Nat, p.f = f := ⟨p.f.toNat, by omega⟩
    obtain ⟨r, hr⟩ : ∃ r : Nat, p.r = r := ⟨p.r.toNat, by omega⟩
    obtain ⟨a, ha⟩ : ∃ a : Nat, p.passant = a := ⟨p.passant.toNat, by omega⟩
    have hlt : a < f * r := by rw [hf, hr, ha] at h2; exact_mod_cast h2
    rw [hf, hr, ha]
    have hm : a % f < f := Nat.mod_lt _ (by omega)
    have hd : a / f < r := Nat.div_lt_of_lt_mul hlt
    rw [sq_name f r a (by omega) (by omega) hlt hm]
    refine ⟨.inl rfl, fun b hb e => ?_⟩
    have e1 : ((a : Int) % (f : Int)).toNat = a % f := by norm_cast
    have e2 : ((a : Int) / (f : Int)).toNat = a / f := by norm_cast
    unfold nameB at hb
    rw [e1, e2] at hb
    have b1 : (UInt8.ofNat (97 + a % f)).toNat = 97 + a % f := by rw [UInt8.toNat_ofNat']; omega
    have b2 : (UInt8.ofNat (49 + a / f)).toNat = 49 + a / f := by rw [UInt8.toNat_ofNat']; omega
    have hb' : b = UInt8.ofNat (97 + a % f) ∨ b = UInt8.ofNat (49 + a / f) := by simpa using hb
    rcases hb' with hb' | hb'
    · rw [← hb', e] at b1
      have : (32 : UInt8).toNat = 32 := rfl
      omega
    · rw [← hb', e] at b2
      have : (32 : UInt8).toNat = 32 := rfl
      omega
theorem dig_no {n : Nat} : ∀ b ∈ (digB (n : Int)).data.toList, b ≠ 32 := by
  intro b hb e
  have := (dec_from n).2.2 b hb
  rw [e] at this
  exact absurd this.1 (by decide)
theorem text_words {p : Pos} (h : p.valid = true) (h0 : 0 ≤ p.castle) : splitS p.text ⟨#[32]⟩ = p.words := by
  obtain ⟨hb, hc, hp, hn⟩ := valid_bd h
  obtain ⟨n1, n2, n3, n4⟩ := counts_bd hn
  have hz : vsize p.f p.r = true := by unfold bvalid at hb; simp only [Bool.and_eq_true] at hb; exact hb.1.1
  obtain ⟨z1, z2, z3, z4⟩ := vsize_bd hz
  obtain ⟨f, hf⟩ : ∃ f : Nat, p.f = f := ⟨p.f.toNat, by omega⟩
  obtain ⟨r, hr⟩ : ∃ r : Nat, p.r = r := ⟨p.r.toNat, by omega⟩
  obtain ⟨a, ha⟩ : ∃ a : Nat, p.half = a := ⟨p.half.toNat, by omega⟩
  obtain ⟨m, hm⟩ : ∃ m : Nat, p.full = m := ⟨p.full.toNat, by omega⟩
  refine splitS_join 32 p.words (by simp [Pos.words]) fun x hx hm2 => ?_
  have hbd : ∀ b ∈ boardL p.f.toNat p.r.toNat p.ps, b ≠ 32 := fun b hb2 e => by
    have h2 := hb
    rw [hf, hr] at h2 hb2
    have := board_ge h2 b (by simpa using hb2)
    rw [e] at this
    exact absurd this (by decide)
  have hall : ∀ x ∈ p.words, ∀ b ∈ x.data.toList, b ≠ 32 := by
    intro x hx
    unfold Pos.words at hx
    simp only [List.mem_cons, List.not_mem_nil, or_false] at hx
    rcases hx with rfl | rfl | rfl | rfl | rfl | rfl | rfl
    · intro b hb2
      rw [ByteArray.data_append, ByteArray.data_append] at hb2
      simp only [Array.toList_append, List.mem_append] at hb2
      rcases hb2 with (hb2 | hb2) | hb2
      · rw [hf] at hb2; exact dig_no b hb2
      · rintro rfl; simp at hb2
      · rw [hr] at hb2; exact dig_no b hb2
    · exact hbd
    · unfold Pos.sideT; cases p.black <;> decide
    · exact (cast_t h0 (castle_bd hc)).2
    · exact (behind_t hz hp).2
    · rw [ha]; exact dig_no
    · rw [hm]; exact dig_no
  exact hall x hx 32 hm2 rfl
theorem text_again {p : Pos} (h : p.valid = true) (h0 : 0 ≤ p.castle) : posO p.text = some p := by
  obtain ⟨hb, hc, hp, hn⟩ := valid_bd h
  obtain ⟨n1, n2, n3, n4⟩ := counts_bd hn
  have hz : vsize p.f p.r = true := by unfold bvalid at hb; simp only [Bool.and_eq_true] at hb; exact hb.1.1
  obtain ⟨z1, z2, z3, z4⟩ := vsize_bd hz
  have hw := text_words h h0
  obtain ⟨a, ha⟩ : ∃ a : Nat, p.half = a := ⟨p.half.toNat, by omega⟩
  obtain ⟨m, hm⟩ : ∃ m : Nat, p.full = m := ⟨p.full.toNat, by omega⟩
  have hfr : bvalid (p.f.toNat : Int) (p.r.toNat : Int) p.ps = true := by
    rw [Int.toNat_of_nonneg (by omega), Int.toNat_of_nonneg (by omega)]; exact hb
  rw [posO_words hw (board_again hfr)]
  have hs : (p.sideT.toList == [98]) = p.black := by
    unfold Pos.sideT
    rw [ByteArray.toList_eq]
    cases p.black <;> decide
  have hpw : posW p.f.toNat p.r.toNat p.ps p.sideT p.castT p.behindT (digB p.half) (digB p.full) = p := by
    unfold posW
    rw [Int.toNat_of_nonneg (by omega), Int.toNat_of_nonneg (by omega), (cast_t h0 (castle_bd hc)).1, ha, hm, atoi_dig (by omega), atoi_dig (by omega), ← ha, ← hm, hs]
    rcases (behind_t hz hp).1 with e | ⟨e, e2⟩
    · rw [e]
    · rw [e]
      dsimp only
      rw [← e2]
  rw [hpw, h, show (p.text == p.text) = true from ba_beq.2 rfl]
  rfl
end E
end
section

end
section
theorem Pure.st {f : FuncId} {args : Array Value} {w : World} {v : Value} {x : Ext w.heap.size w} (h : Pure f args x.1 v) :
    Calls Tryz.prog f args x.1 fun e w'' => e = .returned v ∧ ∃ y : Ext w.heap.size w, w'' = y.1 := h.ext (Nat.le_refl _)
theorem Same.st {f : FuncId} {args : Array Value} {B : Nat} {w : World} {v : Value} {x : Ext B w} (h : Same f args x.1 v) :
    Calls Tryz.prog f args x.1 fun e w'' => e = .returned v ∧ ∃ y : Ext B w, w'' = y.1 := h.mono fun _ _ ⟨he, hw⟩ => ⟨he, x, hw.symm⟩
theorem ext_region' {id B : Nat} {Q : Exit → Act → World → Prop} {a : Act} {w : World} {x : Ext B w} {l : List Oper} (hm : Tryz.prog.follows .mixedOrders = true) (hB : Region.lexB .any l.toArray = true)
    (h : wpQuiet Tryz.prog l.toArray (fun w' => ∃ x : Ext B w, w' = x.1) (fun a' => ∀ x : Ext B w, Q .normal a' x.1) l a) : (Code.region id l.toArray true).wp Tryz.prog Q a x.1 := by
  refine wp_region_quiet (C := fun w' => ∃ x : Ext B w, w' = x.1) hm hB ⟨⟨_, x.2.drew⟩, rfl⟩ ?_
  have h2 : (fun a' => ∀ x : Ext B w, Q .normal a' x.1) = (fun a' => ∀ w', (∃ x : Ext B w, w' = x.1) → Q .normal a' w') := by
    funext a'
    exact propext ⟨fun h w' ⟨x, hx⟩ => hx ▸ h x, fun h x => h _ ⟨x, rfl⟩⟩
  rw [h2] at h
  simpa using h
end
section
section
variable {P : Program} {ops : Array Oper} {Q : Exit → Act → World → Prop}
def unl (listed : Array Bool) : Nat := listed.toList.count false
theorem unl_set {listed : Array Bool} {i : Nat} (hi : i < listed.size) (h : listed.getD i false = false) : unl (listed.setIfInBounds i true) + 1 = unl listed := by
  unfold unl
  have hg : listed.toList[i]'(by simpa using hi) = false := by simpa [Array.getD, hi] using h
  rw [Array.toList_setIfInBounds, List.count_set (by simpa using hi), hg]
  have h0 : 0 < listed.toList.count false := List.count_pos_iff.2 (hg ▸ List.getElem_mem _)
  rw [if_pos (by rfl), if_neg (by decide)]
  omega
theorem unl_zero {listed : Array Bool} (h : unl listed = 0) (i : Nat) (hi : i < listed.size) : listed.getD i false = true := by
  cases hl : listed.getD i false with
  | true => rfl
  | false =>
    have := unl_set hi hl
    omega
end
end
section
section
variable {P : Program} {ops : Array Oper} {Q : Exit → Act → World → Prop}
theorem ev_put {a : Act} {d t : Nat} {v : Value} (h : d ≠ t) : (a.put (some d) v).tmps.getD t undef = a.tmps.getD t undef := by
  simp [Act.put, Array.getElem?_setIfInBounds, h]
theorem size_put {a : Act} {d : Option Nat} {v : Value} : (a.put d v).tmps.size = a.tmps.size := by
  cases d <;> simp [Act.put]
theorem defers_put {a : Act} {d : Option Nat} {v : Value} : (a.put d v).defers = a.defers := by
  cases d <;> rfl
structure TwoS (B0 : Nat) (D : List Nat) (p q : Nat) (a0 : Act) (w0 : World) (a : Act) (w : World) : Prop where
  below : Below B0 w0 w
  defers : a.defers = a0.defers
  size : a.tmps.size = a0.tmps.size
  rest : ∀ t, t ∉ D → a.tmps.getD t undef = a0.tmps.getD t undef
  newp : ∀ b, a.tmps.getD p undef = .pointer (some ⟨b, 0, none⟩) → B0 ≤ b → b < w.heap.size
  newq : ∀ b, a.tmps.getD q undef = .pointer (some ⟨b, 0, none⟩) → B0 ≤ b → b < w.heap.size
  apart : ∀ b c, a.tmps.getD p undef = .pointer (some ⟨b, 0, none⟩) → a.tmps.getD q undef = .pointer (some ⟨c, 0, none⟩) → B0 ≤ b → B0 ≤ c → b ≠ c
theorem TwoS.put {B0 : Nat} {D : List Nat} {p q d : Nat} {a0 a : Act} {w0 w w' : World} {v : Value} (h : TwoS B0 D p q a0 w0 a w) (hd : d ∈ D) (hp : d ≠ p) (hq : d ≠ q) (hB : B0 ≤ w.heap.size) (hb : Below w.heap.size w w') : TwoS B0 D p q a0 w0 (a.put (some d) v) w' := by
  refine ⟨h.below.trans (hb.mono hB), by rw [defers_put]; exact h.defers, by rw [size_put]; exact h.size, fun t ht => ?_, fun b hb' h2 => ?_, fun b hb' h2 => ?_, fun b c h1 h2 => ?_⟩
  · rw [ev_put (show d ≠ t from fun e => ht (e ▸ hd))]
    exact h.rest t ht
  · rw [ev_put hp] at hb'
    exact Nat.lt_of_lt_of_le (h.newp b hb' h2) hb.size
  · rw [ev_put hq] at hb'
    exact Nat.lt_of_lt_of_le (h.newq b hb' h2) hb.size
  · rw [ev_put hp] at h1
    rw [ev_put hq] at h2
    exact h.apart b c h1 h2
end
end
section
section
variable {P : Program} {ops : Array Oper} {Q : Exit → Act → World → Prop}
end
end
section

end
section
def IntAt (w : World) (po : Option Addr) (L : List Int) : Prop := L = [] ∨ ∃ b off, po = some ⟨b, off, none⟩ ∧ ∀ (i : Nat) (x : Int), L[i]? = some x → w.cell? ⟨b, off + i, none⟩ = some (.int .i64 x)
theorem IntAt.below {w V : World} {po : Option Addr} {L : List Int} (h : IntAt w po L) (hb : Below w.heap.size w V) : IntAt V po L := by
  rcases h with h | ⟨b, off, h1, h2⟩
  · exact .inl h
  · exact .inr ⟨b, off, h1, fun i x hx => below_at hb (h2 i x hx)⟩
end
section
section
variable {P : Program} {ops : Array Oper} {Q : Exit → Act → World → Prop} {md : Region.Mode} {S : World → Prop}
end
end
section

end
section

end
section

end
section

end
section

end
section

end
section

end
section

end
section

end
section

end
section
theorem list_ext {ps qs : List Int} {n : Nat} (h1 : ps.length = n) (h2 : qs.length = n) (h : ∀ j, j < n → ps.getD j 0 = qs.getD j 0) : (ps == qs) = true := by
  rw [beq_iff_eq]
  refine List.ext_getElem (by omega) fun i a b => ?_
  have := h i (by omega)
  simpa [List.getD_eq_getElem?_getD, List.getElem?_eq_getElem a, List.getElem?_eq_getElem b] using this
theorem list_nex {ps qs : List Int} {k : Nat} (h : ps.getD k 0 ≠ qs.getD k 0) : (ps == qs) = false := by
  rw [Bool.eq_false_iff, ne_eq, beq_iff_eq]
  rintro rfl
  exact h rfl
theorem list_nel {ps qs : List Int} (h : ps.length ≠ qs.length) : (ps == qs) = false := by
  rw [Bool.eq_false_iff, ne_eq, beq_iff_eq]
  rintro rfl
  exact h rfl
theorem slc_at {w : World} {po : Option Addr} {ps : List Int} (h : SlcAt w po ps) {k : Nat} (hk : k < ps.length) : ∃ b off, po = some ⟨b, off, none⟩ ∧ w.cell? ⟨b, off + k, none⟩ = some (.int .i8 (ps.getD k 0)) := by
  rcases h with h | ⟨b, off, e, hP⟩
  · rw [h] at hk; simp at hk
  · exact ⟨b, off, e, hP k _ (by rw [List.getD_eq_getElem?_getD, List.getElem?_eq_getElem hk]; rfl)⟩
end
section

end
section

end
section

end
section
theorem start2B {c : Code} {Q : Exit → Act → World → Prop} {a : Act} {w : World} {o o2 : Obj} {B : Nat} (hB : w.heap.size = B)
    (h : ∀ V : World, Hid (V.heap[B]? = some o) → Hid (V.heap[B + 1]? = some o2) → Hid (∀ x : Ext V.heap.size V, Below B w x.1 ∧ B < x.1.heap.size ∧ Below w.heap.size w x.1) → ∀ x : Ext V.heap.size V, c.wp Tryz.prog Q a x.1) : c.wp Tryz.prog Q a ((w.alloc o).alloc o2) := by
  subst hB
  refine h _ (Lib.hid (blk_alloc (blk_new rfl o) o2)) (Lib.hid (blk_new (by simp) o2)) (Lib.hid fun x => ?_) ⟨_, Below.refl _ _⟩
  have h1 : Below w.heap.size w x.1 := (((Below.refl w.heap.size w).alloc (Nat.le_refl _) o).alloc (by simp) o2).trans (x.2.mono (by simp; omega))
  exact ⟨h1, Nat.lt_of_lt_of_le (by simp; omega) x.2.size, h1⟩
end
section

end
section
theorem sizeBd3 : (Tryz.prog.info? 40).map (·.size) = some 3 := by kernel_rfl
theorem rofb_c (w : World) (p : Pos) (po : Option Addr) (cap : Nat) : Pure 30 #[.agg (p.cells po cap)] w (bdV p.f p.r po p.ps.length cap) := by
  unfold Pos.cells bdV
  generalize p.ps.length = n
  unfold Pure
  go_enter Tryz.func30, Tryz.ntmps30
  go_wp2_with fail
  refine bodyPost_ret (results_cell_row rfl _ _ _ 40 #[.int .i64 p.f, .int .i64 p.r, .slice po n cap] (0, 0) _ rfl (blk_new (by simp) _) Tryz.underlying40 rfl sizeBd3) rfl ⟨rfl, ?_⟩
  repeat (first | (with_reducible assumption) | (with_reducible exact Below.refl _ _) | (with_reducible apply below_drewN) | (with_reducible apply Below.drew) | (with_reducible apply Below.alloc) | (with_reducible apply Below.setCell))
  all_goals first | omega | (dsimp only; omega) | (simp; done) | (simp; omega)
end
section
set_option maxHeartbeats 1000000 in
theorem rsame3_c (w : World) (f1 r1 f2 r2 : Int) (ps qs : List Int) (po qo : Option Addr) (c1 c2 : Nat) (h1 : SlcAt w po ps) (h2 : SlcAt w qo qs) (n1 : ps.length ≤ 1000) (n2 : qs.length ≤ 1000) :
    Pure 29 #[bdV f1 r1 po ps.length c1, bdV f2 r2 qo qs.length c2] w (.bool (f1 == f2 && r1 == r2 && (ps == qs))) := by
  obtain ⟨B, hBe⟩ : ∃ B, w.heap.size = B := ⟨_, rfl⟩
  unfold bdV
  by_cases hsz : f1 = f2 ∧ r1 = r2
  · obtain ⟨rfl, rfl⟩ := hsz
    rw [show (f1 == f1 && r1 == r1 && (ps == qs)) = (ps == qs) by simp]
    by_cases hln : ps.length = qs.length
    · have hext := Lib.hid (@list_ext ps qs ps.length rfl hln.symm)
      have hnex := Lib.hid (fun k => @list_nex ps qs k)
      have a1 := Lib.hid (fun k hk => @slc_at w po ps h1 k hk)
      have a2 := Lib.hid (fun k hk => @slc_at w qo qs h2 k hk)
      rw [← hln] at a2 n2 ⊢
      obtain ⟨R, hR⟩ : ∃ R, (ps == qs) = R := ⟨_, rfl⟩
      rw [hR] at hext hnex ⊢
      obtain ⟨n, hn⟩ : ∃ n, ps.length = n := ⟨_, rfl⟩
      rw [hn] at hext a1 a2 n1 ⊢
      clear hR hn hln h1 h2 n2
      unfold Pure
      rw [hBe]
      go_enter Tryz.func29, Tryz.ntmps29
      go_wp2_with fail
      refine start2B hBe ?_
      intro V hN hM hX x
      have y0 := fun z : Ext V.heap.size V => cell_of (below_blk z.2 (hN).out) 0 _ rfl
      have y1 := fun z : Ext V.heap.size V => cell_of (below_blk z.2 (hN).out) 1 _ rfl
      have y2 := fun z : Ext V.heap.size V => cell_of (below_blk z.2 (hN).out) 2 _ rfl
      have u0 := fun z : Ext V.heap.size V => cell_of (below_blk z.2 (hM).out) 0 _ rfl
      have u1 := fun z : Ext V.heap.size V => cell_of (below_blk z.2 (hM).out) 1 _ rfl
      have u2 := fun z : Ext V.heap.size V => cell_of (below_blk z.2 (hM).out) 2 _ rfl
      go_loopw [5] (fun i wr => ∃ (k : Nat) (x : Ext V.heap.size V), wr = x.1 ∧ k ≤ n ∧ i = .int .i64 k ∧ ∀ j, j < k → ps.getD j 0 = qs.getD j 0) (fun i _ => n - (intOf i).toNat)
      case atStart => exact ⟨0, x, rfl, by omega, rfl, fun j h => absurd h (by omega)⟩
      case round =>
        clear x
        obtain ⟨k, x, rfl, hk, rfl, hpre⟩ := hrel
        by_cases hkn : k = n
        · have hRt := hext.out (by rw [← hkn]; exact hpre)
          subst hkn
          go_wp2
          go_ret
          exact ⟨by rw [hRt]; rfl, (hX.out x).1⟩
        · have hkl : k < n := by omega
          obtain ⟨b1, o1, rfl, hc1⟩ := a1.out k hkl
          obtain ⟨b2, o2, rfl, hc2⟩ := a2.out k hkl
          have z1 := fun z : Ext V.heap.size V => below_at (hX.out z).2.2 hc1
          have z2 := fun z : Ext V.heap.size V => below_at (hX.out z).2.2 hc2
          have hnex2 := hnex.out k
          replace hpre := Lib.hid hpre
          obtain ⟨q1, hq1⟩ : ∃ q, ps.getD k 0 = q := ⟨_, rfl⟩
          obtain ⟨q2, hq2⟩ : ∃ q, qs.getD k 0 = q := ⟨_, rfl⟩
          rw [hq1] at z1 hnex2
          rw [hq2] at z2 hnex2
          have hki : ((k : Int) < n) = True := by simp; omega
          replace hq1 := Lib.hid hq1
          replace hq2 := Lib.hid hq2
          replace hnex2 := Lib.hid hnex2
          clear hc1 hc2 hext hnex a1 a2 hkn
          go_wp2_with fail
          by_cases hqq : q1 = q2
          · have d1 : (q1 == q2) = true := by simpa using hqq
            have d2 : (q1 != q2) = false := by simpa using hqq
            refine ext_region' (by kernel_rfl) (by kernel_rfl) ?_
            repeat (first | (go_big_quiet_step (fail)) | ((refine wpQuiet_step (fun K hK => ?_)); go_simp; (first | (refine ⟨_, fun _ => rfl, hK _ ?_⟩) | (refine ⟨_, fun _ => ⟨rfl, rfl⟩, hK _ ?_⟩)); clear hK K))
            refine wpQuiet_nil ?_
            intro x
            go_wp2_with fail
            go_roundw
            case rel => exact ⟨k + 1, x, rfl, by omega, by go_num, fun j hj => by
              rcases Nat.lt_or_ge j k with h | h
              · exact hpre.out j h
              · obtain rfl : j = k := by omega
                rw [hq1.out, hq2.out, hqq]⟩
            case measure => simp [intOf]; omega
          · have d1 : (q1 == q2) = false := by simpa using hqq
            have d2 : (q1 != q2) = true := by simpa using hqq
            have hRf := hnex2.out hqq
            subst hRf
            refine ext_region' (by kernel_rfl) (by kernel_rfl) ?_
            repeat (first | (go_big_quiet_step (fail)) | ((refine wpQuiet_step (fun K hK => ?_)); go_simp; (first | (refine ⟨_, fun _ => rfl, hK _ ?_⟩) | (refine ⟨_, fun _ => ⟨rfl, rfl⟩, hK _ ?_⟩)); clear hK K))
            refine wpQuiet_nil ?_
            intro x
            go_wp2
            go_ret
            exact ⟨rfl, (hX.out x).1⟩
    · rw [list_nel hln]
      have hne : ((ps.length : Int) = qs.length) = False := by simp; omega
      have hne2 : ((ps.length : Int) == qs.length) = false := by simp; omega
      generalize ps.length = m at *
      generalize qs.length = n at *
      clear h1 h2
      unfold Pure
      go_enter Tryz.func29, Tryz.ntmps29
      go_wp2
      all_goals (go_ret; refine ⟨by first | rfl | (simp_all; done), ?_⟩)
      all_goals
        repeat (first | (with_reducible assumption) | (with_reducible exact Below.refl _ _) | (with_reducible apply below_drewN) | (with_reducible apply Below.drew) | (with_reducible apply Below.alloc) | (with_reducible apply Below.setCell))
        all_goals first | omega | (dsimp only; omega) | (simp; done) | (simp; omega)
  · rw [show (f1 == f2 && r1 == r2) = false by simpa using hsz, Bool.false_and]
    generalize ps.length = m at *
    generalize qs.length = n at *
    clear h1 h2
    unfold Pure
    go_enter Tryz.func29, Tryz.ntmps29
    go_wp2
    all_goals first | (exfalso; simp_all; done) | skip
    all_goals (go_ret; refine ⟨by first | rfl | (simp_all; done), ?_⟩)
    all_goals
      repeat (first | (with_reducible assumption) | (with_reducible exact Below.refl _ _) | (with_reducible apply below_drewN) | (with_reducible apply Below.drew) | (with_reducible apply Below.alloc) | (with_reducible apply Below.setCell))
      all_goals first | omega | (dsimp only; omega) | (simp; done) | (simp; omega)
end
section
def sameB (p q : Pos) : Bool := (p.f == q.f && p.r == q.r && (p.ps == q.ps)) && p.black == q.black && p.castle == q.castle && p.passant == q.passant
def eqB (p q : Pos) : Bool := sameB p q && p.half == q.half && p.full == q.full
set_option maxRecDepth 100000 in
set_option maxHeartbeats 2000000 in
theorem rsame6_c (w : World) (p q : Pos) (po qo : Option Addr) (c1 c2 : Nat) (h1 : SlcAt w po p.ps) (h2 : SlcAt w qo q.ps) (n1 : p.ps.length ≤ 1000) (n2 : q.ps.length ≤ 1000) :
    Pure 35 #[.agg (p.cells po c1), .agg (q.cells qo c2)] w (.bool (sameB p q)) := by
  obtain ⟨B, hBe⟩ : ∃ B, w.heap.size = B := ⟨_, rfl⟩
  have co1 := fun W => Lib.hid (rofb_c W p po c1)
  have co2 := fun W => Lib.hid (rofb_c W q qo c2)
  have cs := Lib.hid (fun W (hW : Below w.heap.size w W) => rsame3_c W p.f p.r q.f q.r p.ps q.ps po qo c1 c2 (h1.below hW) (h2.below hW) n1 n2)
  unfold sameB
  generalize (p.f == q.f && p.r == q.r && (p.ps == q.ps)) = S at *
  unfold Pos.cells bdV at *
  unfold Pure
  rw [hBe]
  generalize p.ps.length = m at *
  generalize q.ps.length = n at *
  clear h1 h2
  obtain ⟨f1, r1, ps, bl1, ca1, pa1, ha1, fu1⟩ := p
  obtain ⟨f2, r2, qs, bl2, ca2, pa2, ha2, fu2⟩ := q
  dsimp only at *
  go_enter Tryz.func35, Tryz.ntmps35
  go_wp2_with fail
  refine start2B hBe ?_
  intro V hN hM hX x
  have y0 := fun z : Ext V.heap.size V => cell_of (below_blk z.2 (hN).out) 0 _ rfl
  have y1 := fun z : Ext V.heap.size V => cell_of (below_blk z.2 (hN).out) 1 _ rfl
  have y2 := fun z : Ext V.heap.size V => cell_of (below_blk z.2 (hN).out) 2 _ rfl
  have y3 := fun z : Ext V.heap.size V => cell_of (below_blk z.2 (hN).out) 3 _ rfl
  have y4 := fun z : Ext V.heap.size V => cell_of (below_blk z.2 (hN).out) 4 _ rfl
  have y5 := fun z : Ext V.heap.size V => cell_of (below_blk z.2 (hN).out) 5 _ rfl
  have y6 := fun z : Ext V.heap.size V => cell_of (below_blk z.2 (hN).out) 6 _ rfl
  have y7 := fun z : Ext V.heap.size V => cell_of (below_blk z.2 (hN).out) 7 _ rfl
  have u0 := fun z : Ext V.heap.size V => cell_of (below_blk z.2 (hM).out) 0 _ rfl
  have u1 := fun z : Ext V.heap.size V => cell_of (below_blk z.2 (hM).out) 1 _ rfl
  have u2 := fun z : Ext V.heap.size V => cell_of (below_blk z.2 (hM).out) 2 _ rfl
  have u3 := fun z : Ext V.heap.size V => cell_of (below_blk z.2 (hM).out) 3 _ rfl
  have u4 := fun z : Ext V.heap.size V => cell_of (below_blk z.2 (hM).out) 4 _ rfl
  have u5 := fun z : Ext V.heap.size V => cell_of (below_blk z.2 (hM).out) 5 _ rfl
  have u6 := fun z : Ext V.heap.size V => cell_of (below_blk z.2 (hM).out) 6 _ rfl
  have u7 := fun z : Ext V.heap.size V => cell_of (below_blk z.2 (hM).out) 7 _ rfl
  cases S
  · refine ext_region' (by kernel_rfl) (by kernel_rfl) ?_
    repeat (first | (go_big_quiet_step ((first | (go_at_call 30; first | with_reducible exact Pure.st (co1 _).out | with_reducible exact Pure.st (co2 _).out) | (go_at_call 29; exact Pure.st (cs.out _ (hX.out _).2.2))))) | ((refine wpQuiet_step (fun K hK => ?_)); go_simp; (first | (refine ⟨_, fun _ => rfl, hK _ ?_⟩) | (refine ⟨_, fun _ => ⟨rfl, rfl⟩, hK _ ?_⟩)); clear hK K))
    refine wpQuiet_nil ?_
    intro x
    go_wp2
    go_ret
    exact ⟨by first | rfl | (simp_all; done), (hX.out x).1⟩
  · cases hb : (bl1 == bl2)
    · refine ext_region' (by kernel_rfl) (by kernel_rfl) ?_
      repeat (first | (go_big_quiet_step ((first | (go_at_call 30; first | with_reducible exact Pure.st (co1 _).out | with_reducible exact Pure.st (co2 _).out) | (go_at_call 29; exact Pure.st (cs.out _ (hX.out _).2.2))))) | ((refine wpQuiet_step (fun K hK => ?_)); go_simp; (first | (refine ⟨_, fun _ => rfl, hK _ ?_⟩) | (refine ⟨_, fun _ => ⟨rfl, rfl⟩, hK _ ?_⟩)); clear hK K))
      refine wpQuiet_nil ?_
      intro x
      go_wp2
      go_ret
      exact ⟨by first | rfl | (simp_all; done), (hX.out x).1⟩
    · cases hc : (ca1 == ca2)
      · refine ext_region' (by kernel_rfl) (by kernel_rfl) ?_
        repeat (first | (go_big_quiet_step ((first | (go_at_call 30; first | with_reducible exact Pure.st (co1 _).out | with_reducible exact Pure.st (co2 _).out) | (go_at_call 29; exact Pure.st (cs.out _ (hX.out _).2.2))))) | ((refine wpQuiet_step (fun K hK => ?_)); go_simp; (first | (refine ⟨_, fun _ => rfl, hK _ ?_⟩) | (refine ⟨_, fun _ => ⟨rfl, rfl⟩, hK _ ?_⟩)); clear hK K))
        refine wpQuiet_nil ?_
        intro x
        go_wp2
        go_ret
        exact ⟨by first | rfl | (simp_all; done), (hX.out x).1⟩
      · cases hp : (pa1 == pa2)
        · refine ext_region' (by kernel_rfl) (by kernel_rfl) ?_
          repeat (first | (go_big_quiet_step ((first | (go_at_call 30; first | with_reducible exact Pure.st (co1 _).out | with_reducible exact Pure.st (co2 _).out) | (go_at_call 29; exact Pure.st (cs.out _ (hX.out _).2.2))))) | ((refine wpQuiet_step (fun K hK => ?_)); go_simp; (first | (refine ⟨_, fun _ => rfl, hK _ ?_⟩) | (refine ⟨_, fun _ => ⟨rfl, rfl⟩, hK _ ?_⟩)); clear hK K))
          refine wpQuiet_nil ?_
          intro x
          go_wp2
          go_ret
          exact ⟨by first | rfl | (simp_all; done), (hX.out x).1⟩
        · refine ext_region' (by kernel_rfl) (by kernel_rfl) ?_
          repeat (first | (go_big_quiet_step ((first | (go_at_call 30; first | with_reducible exact Pure.st (co1 _).out | with_reducible exact Pure.st (co2 _).out) | (go_at_call 29; exact Pure.st (cs.out _ (hX.out _).2.2))))) | ((refine wpQuiet_step (fun K hK => ?_)); go_simp; (first | (refine ⟨_, fun _ => rfl, hK _ ?_⟩) | (refine ⟨_, fun _ => ⟨rfl, rfl⟩, hK _ ?_⟩)); clear hK K))
          refine wpQuiet_nil ?_
          intro x
          go_wp2
          go_ret
          exact ⟨by first | rfl | (simp_all; done), (hX.out x).1⟩
end
section
theorem start2Bc {f : FuncId} {args : Array Value} {Q : Ending → World → Prop} {w : World} {o o2 : Obj} {B : Nat} (hB : w.heap.size = B)
    (h : ∀ V : World, Hid (V.heap[B]? = some o) → Hid (V.heap[B + 1]? = some o2) → Hid (∀ x : Ext V.heap.size V, Below B w x.1 ∧ B < x.1.heap.size ∧ Below w.heap.size w x.1) → ∀ x : Ext V.heap.size V, Calls Tryz.prog f args x.1 Q) : Calls Tryz.prog f args ((w.alloc o).alloc o2) Q := by
  subst hB
  refine h _ (Lib.hid (blk_alloc (blk_new rfl o) o2)) (Lib.hid (blk_new (by simp) o2)) (Lib.hid fun x => ?_) ⟨_, Below.refl _ _⟩
  have h1 : Below w.heap.size w x.1 := (((Below.refl w.heap.size w).alloc (Nat.le_refl _) o).alloc (by simp) o2).trans (x.2.mono (by simp; omega))
  exact ⟨h1, Nat.lt_of_lt_of_le (by simp; omega) x.2.size, h1⟩
set_option maxHeartbeats 2000000 in
theorem requal6_c (w : World) (p q : Pos) (po qo : Option Addr) (c1 c2 : Nat) (h1 : SlcAt w po p.ps) (h2 : SlcAt w qo q.ps) (n1 : p.ps.length ≤ 1000) (n2 : q.ps.length ≤ 1000) :
    Pure 24 #[.agg (p.cells po c1), .agg (q.cells qo c2)] w (.bool (eqB p q)) := by
  obtain ⟨B, hBe⟩ : ∃ B, w.heap.size = B := ⟨_, rfl⟩
  have cs := Lib.hid (fun W (hW : Below w.heap.size w W) => rsame6_c W p q po qo c1 c2 (h1.below hW) (h2.below hW) n1 n2)
  unfold eqB
  generalize sameB p q = S at *
  unfold Pos.cells at *
  unfold Pure
  rw [hBe]
  clear h1 h2
  generalize p.ps.length = m at *
  generalize q.ps.length = n at *
  obtain ⟨f1, r1, ps, bl1, ca1, pa1, ha1, fu1⟩ := p
  obtain ⟨f2, r2, qs, bl2, ca2, pa2, ha2, fu2⟩ := q
  dsimp only at *
  go_enter Tryz.func24, Tryz.ntmps24
  go_wp2_with fail
  refine start2Bc hBe ?_
  intro V hN hM hX x
  have y0 := fun z : Ext V.heap.size V => cell_of (below_blk z.2 (hN).out) 0 _ rfl
  have y1 := fun z : Ext V.heap.size V => cell_of (below_blk z.2 (hN).out) 1 _ rfl
  have y2 := fun z : Ext V.heap.size V => cell_of (below_blk z.2 (hN).out) 2 _ rfl
  have y3 := fun z : Ext V.heap.size V => cell_of (below_blk z.2 (hN).out) 3 _ rfl
  have y4 := fun z : Ext V.heap.size V => cell_of (below_blk z.2 (hN).out) 4 _ rfl
  have y5 := fun z : Ext V.heap.size V => cell_of (below_blk z.2 (hN).out) 5 _ rfl
  have y6 := fun z : Ext V.heap.size V => cell_of (below_blk z.2 (hN).out) 6 _ rfl
  have y7 := fun z : Ext V.heap.size V => cell_of (below_blk z.2 (hN).out) 7 _ rfl
  have u0 := fun z : Ext V.heap.size V => cell_of (below_blk z.2 (hM).out) 0 _ rfl
  have u1 := fun z : Ext V.heap.size V => cell_of (below_blk z.2 (hM).out) 1 _ rfl
  have u2 := fun z : Ext V.heap.size V => cell_of (below_blk z.2 (hM).out) 2 _ rfl
  have u3 := fun z : Ext V.heap.size V => cell_of (below_blk z.2 (hM).out) 3 _ rfl
  have u4 := fun z : Ext V.heap.size V => cell_of (below_blk z.2 (hM).out) 4 _ rfl
  have u5 := fun z : Ext V.heap.size V => cell_of (below_blk z.2 (hM).out) 5 _ rfl
  have u6 := fun z : Ext V.heap.size V => cell_of (below_blk z.2 (hM).out) 6 _ rfl
  have u7 := fun z : Ext V.heap.size V => cell_of (below_blk z.2 (hM).out) 7 _ rfl
  refine (Pure.st (cs.out _ (hX.out x).2.2)).mono ?_
  rintro e _ ⟨rfl, x, rfl⟩
  go_wp2
  all_goals (go_ret; exact ⟨by first | rfl | (simp_all; done), (hX.out x).1⟩)
end
section

end
section

end
section

end
section

end
section

end
section
def okT0 : ByteArray := ⟨#[51, 120, 51, 32, 107, 50, 47, 51, 47, 50, 75, 32, 119, 32, 45, 32, 45, 32, 48, 32, 49]⟩
def okT1 : ByteArray := ⟨#[51, 120, 51, 32, 107, 82, 49, 47, 51, 47, 50, 75, 32, 98, 32, 45, 32, 45, 32, 48, 32, 49]⟩
def okT2 : ByteArray := ⟨#[51, 120, 51, 32, 107, 50, 47, 51, 47, 49, 80, 75, 32, 119, 32, 45, 32, 45, 32, 48, 32, 49]⟩
def okT3 : ByteArray := ⟨#[51, 120, 54, 32, 107, 50, 47, 51, 47, 80, 50, 47, 51, 47, 51, 47, 50, 75, 32, 98, 32, 45, 32, 97, 51, 32, 48, 32, 49]⟩
def okT4 : ByteArray := ⟨#[56, 120, 56, 32, 52, 107, 51, 47, 56, 47, 56, 47, 56, 47, 56, 47, 56, 47, 56, 47, 52, 75, 50, 82, 32, 119, 32, 75, 32, 45, 32, 48, 32, 49]⟩
def noT0 : ByteArray := ⟨#[51, 120, 51, 32, 107, 82, 49, 47, 51, 47, 50, 75, 32, 119, 32, 45, 32, 45, 32, 48, 32, 49]⟩
def noT1 : ByteArray := ⟨#[51, 120, 51, 32, 107, 80, 49, 47, 51, 47, 50, 75, 32, 98, 32, 45, 32, 45, 32, 48, 32, 49]⟩
def noT2 : ByteArray := ⟨#[51, 120, 54, 32, 107, 50, 47, 51, 47, 51, 47, 80, 50, 47, 51, 47, 50, 75, 32, 98, 32, 45, 32, 97, 50, 32, 48, 32, 49]⟩
def noT3 : ByteArray := ⟨#[51, 120, 54, 32, 107, 50, 47, 51, 47, 51, 47, 80, 50, 47, 51, 47, 50, 75, 32, 98, 32, 45, 32, 97, 51, 32, 48, 32, 49]⟩
def noT4 : ByteArray := ⟨#[51, 120, 54, 32, 107, 50, 47, 51, 47, 80, 50, 47, 51, 47, 51, 47, 50, 75, 32, 98, 32, 45, 32, 97, 51, 32, 49, 32, 49]⟩
def noT5 : ByteArray := ⟨#[51, 120, 54, 32, 107, 50, 47, 51, 47, 80, 50, 47, 51, 47, 51, 47, 50, 75, 32, 119, 32, 45, 32, 97, 51, 32, 48, 32, 49]⟩
def noT6 : ByteArray := ⟨#[56, 120, 56, 32, 52, 107, 51, 47, 56, 47, 56, 47, 56, 47, 56, 47, 56, 47, 56, 47, 52, 75, 50, 82, 32, 119, 32, 81, 32, 45, 32, 48, 32, 49]⟩
theorem good_all : ([okT0, okT1, okT2, okT3, okT4].all fun t => decide (t.size ≤ 1000) && (posO t).isSome) = true := by kernel_rfl
theorem bad_all : ([noT0, noT1, noT2, noT3, noT4, noT5, noT6].all fun t => decide (t.size ≤ 1000) && (posO t).isNone) = true := by kernel_rfl
theorem posO_some {t : ByteArray} {p : Pos} (h : posO t = some p) : p.valid = true ∧ p.text = t := by
  unfold posO at h
  split at h
  · split at h
    · cases h
    · split at h
      · rename_i hc
        simp only [Bool.and_eq_true, ba_beq] at hc
        cases h
        exact hc
      · cases h
  · cases h
theorem good_t {t : ByteArray} (h : t ∈ [okT0, okT1, okT2, okT3, okT4]) : t.size ≤ 1000 ∧ ∃ p, posO t = some p ∧ p.valid = true ∧ p.text = t := by
  have := List.all_eq_true.1 good_all t h
  rw [Bool.and_eq_true] at this
  refine ⟨of_decide_eq_true this.1, ?_⟩
  obtain ⟨p, hp⟩ := Option.isSome_iff_exists.1 this.2
  exact ⟨p, hp, posO_some hp⟩
theorem bad_t {t : ByteArray} (h : t ∈ [noT0, noT1, noT2, noT3, noT4, noT5, noT6]) : t.size ≤ 1000 ∧ posO t = none := by
  have := List.all_eq_true.1 bad_all t h
  rw [Bool.and_eq_true] at this
  exact ⟨of_decide_eq_true this.1, Option.isNone_iff_eq_none.1 this.2⟩
theorem parse_at (L : Libs) {w : World} (hE : Env w) (t : ByteArray) (ht : t.size ≤ 1000) : Calls Tryz.prog 22 #[.string t] w fun e w' => PosIs w.heap.size t e w' ∧ Below w.heap.size w w' :=
  posparse_c L.split L.rev L.join L.cont w hE.max hE.kinds hE.itoa hE.atois hE.rays hE.full t ht
theorem text_at (L : Libs) {w : World} (hE : Env w) (p : Pos) (po : Option Addr) (cap : Nat) (hP : PosAt w p po cap) : Pure 20 #[.agg (p.cells po cap)] w p.textV :=
  ptext_c L.rev L.join w hE.kinds hE.itoa p po cap hP hE.full
end
section
namespace E
theorem env_stable : Stable Env := fun _ _ hw hb => hw.below hb
theorem requal6_a (p q : Pos) (hn : p.ps.length ≤ 1000) (hn' : q.ps.length ≤ 1000) : ACalls Tryz.prog Env 24 [posP p (.lst (pcs p.ps)), posP q (.lst (pcs q.ps))] (.val (.bool (eqB p q))) [] :=
  ac_of ⟨_, Tryz.func24, rfl, by simp [Tryz.f24]⟩ fun w xs G hw h => by
    obtain ⟨x, y, rfl, h1, h2⟩ := repL2 h
    obtain ⟨po, c, rfl, hS, _⟩ := rep_pos h1
    obtain ⟨qo, d, rfl, hS', _⟩ := rep_pos h2
    exact requal6_c w p q po qo c d hS hS' hn hn'
theorem rsame3_a (f1 r1 f2 r2 : Int) (ps qs : List Int) (hn : ps.length ≤ 1000) (hn' : qs.length ≤ 1000) : ACalls Tryz.prog Env 29 [bdA f1 r1 (.lst (pcs ps)), bdA f2 r2 (.lst (pcs qs))] (.val (.bool (f1 == f2 && r1 == r2 && (ps == qs)))) [] :=
  ac_of ⟨_, Tryz.func29, rfl, by simp [Tryz.f29]⟩ fun w xs G hw h => by
    obtain ⟨x, y, rfl, h1, h2⟩ := repL2 h
    obtain ⟨po, c, rfl, hS, _⟩ := rep_bd h1
    obtain ⟨qo, d, rfl, hS', _⟩ := rep_bd h2
    exact rsame3_c w f1 r1 f2 r2 ps qs po qo c d hS hS' hn hn'
end E
end
section
namespace E
theorem mixed : Tryz.prog.follows .mixedOrders = true := by decide
theorem pvalid_a (p : Pos) (hn : p.ps.length ≤ 100) (hc : 0 ≤ p.castle ∧ p.castle ≤ 255) : ACalls Tryz.prog Env 18 [posP p (.lst (pcs p.ps))] (.val (.bool p.valid)) [] :=
  ac_of ⟨_, Tryz.func18, rfl, by simp [Tryz.f18]⟩ fun w xs G hw h => by
    obtain ⟨x, rfl, h'⟩ := repL1 h
    obtain ⟨po, c, rfl, hS, h1, h2⟩ := rep_pos h'
    exact valid_c w p po c ⟨hS, hn, h1, h2, hc, hw.rays⟩ hw.full
theorem ac_rep {Ev : World → Prop} {f : FuncId} {args : List AV} {a : AV} {v : Value} (hf : ∃ fn, Tryz.prog.funcs[f]? = some fn ∧ fn.body.isNone = false ∧ (fn.name == "runtime.NumGoroutine") = false) (ha : ∀ w G η, Rep w G η a v)
    (h : ∀ w xs G, Ev w → RepL w G no args xs.toList → Pure f xs w v) : ACalls Tryz.prog Ev f args a [] :=
  ⟨hf, fun w xs G hw hG hr => (h w xs G hw hr).mono fun e V ⟨he, hb⟩ => ⟨v, he, hb, G, no, fun b hb' => ⟨.inl hb', Nat.lt_of_lt_of_le (hG b hb') hb.size⟩, ha _ _ _, mem0⟩⟩
def strA (s : ByteArray) (e : Int) : AV := .tup [.val (.string s), .val (.int .i64 e)]
def Pos.textA (p : Pos) : AV := if p.valid then strA p.text 0 else strA ⟨#[]⟩ 2
theorem rep_str (s : ByteArray) (e : Int) (w : World) (G : Nat → Prop) (η : Nat → Option Value) : Rep w G η (strA s e) (.tuple #[.string s, .int .i64 e]) := ⟨[.string s, .int .i64 e], rfl, rfl, rfl, trivial⟩
theorem ptext_a (L : Libs) (p : Pos) (hn : p.ps.length ≤ 100) (hc : 0 ≤ p.castle ∧ p.castle ≤ 255) : ACalls Tryz.prog Env 20 [posP p (.lst (pcs p.ps))] (Pos.textA p) [] :=
  ac_rep (v := p.textV) ⟨_, Tryz.func20, rfl, by simp [Tryz.f20]⟩ (fun w G η => by
    unfold Pos.textA Pos.textV
    split <;> exact rep_str _ _ _ _ _) fun w xs G hw h => by
    obtain ⟨x, rfl, h'⟩ := repL1 h
    obtain ⟨po, c, rfl, hS, h1, h2⟩ := rep_pos h'
    exact text_at L hw p po c ⟨hS, hn, h1, h2, hc, hw.rays⟩
theorem pcs_repG {w : World} {G : Nat → Prop} {ps : List Int} {po : Option Addr} {c : Nat} (h : SlcAt w po ps) (h1 : ps.length ≤ c) (h2 : c ≤ 9223372036854775807) (hG : ∀ a, po = some a → ps ≠ [] → G a.block) : Rep w G no (.lst (pcs ps)) (.slice po ps.length c) := by
  refine ⟨po, _, c, 1, rfl, pcs_len ps, h1, h2, by simp [pcs], ?_⟩
  rcases h with rfl | ⟨b, o, rfl, h⟩
  · exact .inl rfl
  · cases ps with
    | nil => exact .inl rfl
    | cons p ps => exact .inr ⟨b, o, rfl, hG _ rfl (by simp), pc_rows h⟩
def pposA : Option Pos → AV
  | none => .tup [posA 0 0 (.lst []) false 0 0 0 0, .val (.int .i64 6)]
  | some p => .tup [posP p (.lst (pcs p.ps)), .val (.int .i64 0)]
theorem slc_lt {w : World} {po : Option Addr} {ps : List Int} (h : SlcAt w po ps) : ∀ a, po = some a → ps ≠ [] → a.block < w.heap.size := by
  intro a ha h0
  rcases h with h | ⟨b, o, e, h⟩
  · exact absurd h h0
  · rw [ha] at e
    cases e
    cases ps with
    | nil => exact absurd rfl h0
    | cons q l =>
      have := h 0 q rfl
      unfold World.cell? at this
      cases hb : w.heap[b]? with
      | none => simp [hb] at this
      | some _ => exact (Array.getElem?_eq_some_iff.1 hb).1
theorem pparse_a (L : Libs) (t : ByteArray) (ht : t.size ≤ 1000) : ACalls Tryz.prog Env 22 [.val (.string t)] (pposA (posO t)) [] :=
  ⟨⟨_, Tryz.func22, rfl, by simp [Tryz.f22]⟩, fun w xs G hw hG hr => by
    obtain ⟨x, rfl, h'⟩ := repL1 hr
    obtain rfl : x = .string t := h'
    refine (parse_at L hw t ht).mono fun e V ⟨h1, h2⟩ => ?_
    unfold PosIs at h1
    cases hp : posO t with
    | none =>
      rw [hp] at h1
      subst h1
      refine ⟨_, rfl, h2, G, no, fun b hb' => ⟨.inl hb', Nat.lt_of_lt_of_le (hG b hb') h2.size⟩, ?_, mem0⟩
      exact ⟨[.agg noPosC, .int .i64 6], rfl, ⟨noPosC.toList, rfl, ⟨rfl, rfl⟩, ⟨rfl, rfl⟩, ⟨rfl, none, 0, 0, 1, rfl, rfl, Nat.le_refl _, by omega, by simp, .inl rfl⟩, ⟨rfl, rfl⟩, ⟨rfl, rfl⟩, ⟨rfl, rfl⟩, ⟨rfl, rfl⟩, ⟨rfl, rfl⟩, trivial⟩, rfl, trivial⟩
    | some p =>
      rw [hp] at h1
      obtain ⟨po, cap, rfl, hP, hnw⟩ := h1
      refine ⟨_, rfl, h2, fun b => (G b ∨ w.heap.size ≤ b) ∧ b < V.heap.size, no, fun b hb' => hb', ?_, mem0⟩
      exact ⟨[.agg (p.cells po cap), .int .i64 0], rfl, ⟨(p.cells po cap).toList, rfl, ⟨rfl, rfl⟩, ⟨rfl, rfl⟩, ⟨rfl, pcs_repG hP.slc hP.cap1 hP.cap2 fun a ha h0 => ⟨.inr (hnw a ha), slc_lt hP.slc a ha h0⟩⟩, ⟨rfl, rfl⟩, ⟨rfl, rfl⟩, ⟨rfl, rfl⟩, ⟨rfl, rfl⟩, ⟨rfl, rfl⟩, trivial⟩, rfl, trivial⟩⟩
set_option maxRecDepth 100000 in
theorem pstart_a (L : Libs) : ACalls Tryz.prog Env 51 [] (posP startP (.lst (pcs startP.ps))) [] := by
  have hE := env_stable
  have hf := mixed
  have hp := pparse_a L startT (by decide)
  rw [start_o] at hp
  unfold startT at hp
  generalize startP = p at *
  simp only [pposA, posP, posA] at *
  refine ACalls.of hE hf Tryz.func51 rfl (by simp [Tryz.f51]) (Nat.le_of_ble_eq_true rfl) fun F hF => ?_
  simp only [entry, num0, Tryz.ntmps51]
  refine W ?_
  exact (hF _ ⟨[], _, rfl, rfl, rfl, rfl⟩).1
def strs (l : List ByteArray) : List (List AV) := l.map fun s => [.val (.string s)]
theorem strs_at {W : List ByteArray} {i : Nat} {x : ByteArray} (h : W[i]? = some x) : (strs W)[i]? = some [.val (.string x)] := by simp [strs, h]
def goodL : List ByteArray := [okT0, okT1, okT2, okT3, okT4]
def badL : List ByteArray := [noT0, noT1, noT2, noT3, noT4, noT5, noT6]
theorem posO_cas {t : ByteArray} {p : Pos} (h : posO t = some p) : 0 ≤ p.castle ∧ p.castle ≤ 255 := by
  unfold posO at h
  split at h
  · split at h
    · cases h
    · split at h
      · cases h
        unfold posW
        dsimp only
        exact ⟨Int.natCast_nonneg _, (fun s k => (by have := castN_le s k; omega) : ∀ s k, ((castN s k : Nat) : Int) ≤ 255) _ _⟩
      · cases h
  · cases h
theorem start_text : startP.text = startT := by kernel_rfl
set_option maxRecDepth 100000 in
theorem known_a (L : Libs) : ACalls Tryz.prog Env 17 [] (.val (.bool true)) [] := by
  have hE := env_stable
  have hf := mixed
  have hst := pstart_a L
  have hsx := ptext_a L startP (by decide) (by decide)
  unfold Pos.textA strA at hsx
  rw [start_v, start_text] at hsx
  unfold startT at hsx
  generalize startP = ps0 at *
  simp only [posP, posA, ↓reduceIte] at hst hsx
  refine ACalls.of hE hf Tryz.func17 rfl (by simp [Tryz.f17]) (Nat.le_of_ble_eq_true rfl) fun F hF => ?_
  simp only [entry, num0, Tryz.ntmps17]
  refine W ?_
  refine loopK (fun k : {k : Nat // k ≤ 5} => ⟨77, [(13, .own 0), (14, .val (.int .i64 5)), (15, .val (.int .i64 k.1))], [(0, .row 9 1 (strs goodL))], 1⟩) (fun k => 5 - k.1) ⟨0, by omega⟩ (Le.pick [13, 14, 15] [(4, 0)] 1 rfl rfl) ?_
  rintro ⟨k, hk⟩ F1 hN1 hX1 hR1
  dsimp only at hk hN1 ⊢
  rcases Nat.lt_or_ge k 5 with hk5 | hk5
  · have d1 : (k : Int) < 5 := by omega
    obtain ⟨x, hx⟩ : ∃ x, goodL[k]? = some x := ⟨_, List.getElem?_eq_getElem (show k < 5 from hk5)⟩
    obtain ⟨z1, p, hp, hv, ht⟩ := good_t (List.mem_of_getElem? hx)
    have hl : (strs goodL).length = 5 := rfl
    replace hx := strs_at hx
    have h64 : p.ps.length ≤ 100 := by
      have hb : bvalid p.f p.r p.ps = true := by unfold Pos.valid at hv; simp only [Bool.and_eq_true] at hv; exact hv.1.1.1.1.1
      unfold bvalid at hb
      simp only [Bool.and_eq_true, beq_iff_eq] at hb
      have := vsize_mul hb.1.1
      omega
    have hc : 0 ≤ p.castle ∧ p.castle ≤ 255 := posO_cas hp
    have h1 := pparse_a L x z1
    have h2 := ptext_a L p h64 hc
    have h3 := pvalid_a p h64 hc
    unfold Pos.textA strA at h2
    rw [hp] at h1
    rw [hv] at h2 h3
    rw [ht] at h2
    simp only [pposA, posP, posA, ↓reduceIte] at h1 h2 h3
    generalize strs goodL = R0 at *
    have w1 : IntKind.i64.wrap ((k : Int) + 1) = ((k + 1 : Nat) : Int) := w64 (by omega)
    have hbx := of_decide_eq_true (rfl : decide True = true)
    clear hp hv ht z1 h64 hc hbx hst hsx
    refine W ?_
    refine hN1 _ ⟨k + 1, hk5⟩ (Le.pick [13, 14, 15] [(0, 0)] 1 rfl rfl) (by show 5 - (k + 1) < 5 - k; omega)
  obtain rfl : k = 5 := by omega
  clear hN1
  have e5 : ((5 : Nat) : Int) = 5 := rfl
  refine W ?_
  refine loopK (fun k : {k : Nat // k ≤ 7} => ⟨77, [(46, .own 0), (47, .val (.int .i64 7)), (48, .val (.int .i64 k.1))], [(0, .row 9 1 (strs badL))], 1⟩) (fun k => 7 - k.1) ⟨0, by omega⟩ (Le.pick [46, 47, 48] [(5, 0)] 1 rfl rfl) ?_
  rintro ⟨k, hk⟩ F1 hN1 hX1 hR1
  dsimp only at hk hN1 ⊢
  rcases Nat.lt_or_ge k 7 with hk5 | hk5
  · have d1 : (k : Int) < 7 := by omega
    obtain ⟨x, hx⟩ : ∃ x, badL[k]? = some x := ⟨_, List.getElem?_eq_getElem (show k < 7 from hk5)⟩
    obtain ⟨z1, hp⟩ := bad_t (List.mem_of_getElem? hx)
    have hl : (strs badL).length = 7 := rfl
    replace hx := strs_at hx
    have h1 := pparse_a L x z1
    rw [hp] at h1
    simp only [pposA, posA] at h1
    generalize strs badL = R0 at *
    have w1 : IntKind.i64.wrap ((k : Int) + 1) = ((k + 1 : Nat) : Int) := w64 (by omega)
    have e0 : ((0 : Nat) : Int) = 0 := rfl
    clear hp z1 hst hsx
    refine W ?_
    refine hN1 _ ⟨k + 1, hk5⟩ (Le.pick [46, 47, 48] [(0, 0)] 1 rfl rfl) (by show 7 - (k + 1) < 7 - k; omega)
  obtain rfl : k = 7 := by omega
  clear hN1
  have e7 : ((7 : Nat) : Int) = 7 := rfl
  refine W ?_
  exact (hF _ ⟨[], _, rfl, rfl, rfl, rfl⟩).1
end E
end
section
namespace E
end E
end
section
namespace E
end E
end
section
namespace E
def b4 : Blk := .box [.val (.int .i64 0), .val (.int .i64 0), .nil]
end E
end
section
namespace E
end E
end
section
namespace E
end E
end
section
namespace E
theorem pos_some {t : ByteArray} {p : Pos} (h : posO t = some p) : p.valid = true ∧ p.text = t := by
  unfold posO at h
  split at h
  · split at h
    · cases h
    · split at h
      · rename_i hc
        simp only [Bool.and_eq_true, ba_beq] at hc
        cases h
        exact hc
      · cases h
  · cases h
end E
end
section
namespace E
def begP (f r : Int) (ps : List Int) (bl : Bool) : Pos := ⟨f, r, ps, bl, 0, -1, 0, 1⟩
theorem eqB_rfl (p : Pos) : eqB p p = true := by simp [eqB, sameB]
end E
end
section
namespace E
end E
end
section
namespace E
end E
end
section
namespace E
theorem pos_len {p : Pos} (h : p.valid = true) : p.ps.length ≤ 64 := by
  obtain ⟨hb, _⟩ := valid_bd h
  unfold bvalid at hb
  simp only [Bool.and_eq_true, beq_iff_eq] at hb
  have := vsize_mul hb.1.1
  omega
theorem less_castle {p : Pos} (h : p.valid = true) : (⟨p.f, p.r, p.ps, p.black, 0, p.passant, p.half, p.full⟩ : Pos).valid = true := by
  unfold Pos.valid at h ⊢
  simp only [Bool.and_eq_true] at h ⊢
  refine ⟨⟨⟨⟨⟨h.1.1.1.1.1, h.1.1.1.1.2⟩, h.1.1.1.2⟩, ?_⟩, h.1.2⟩, h.2⟩
  simp [Pos.castles, Pos.right, Pos.has]
theorem less_passant {p : Pos} (h : p.valid = true) : (⟨p.f, p.r, p.ps, p.black, 0, -1, p.half, p.full⟩ : Pos).valid = true := by
  have h := less_castle h
  unfold Pos.valid at h ⊢
  simp only [Bool.and_eq_true] at h ⊢
  refine ⟨⟨⟨⟨⟨h.1.1.1.1.1, h.1.1.1.1.2⟩, h.1.1.1.2⟩, h.1.1.2⟩, ?_⟩, h.2⟩
  simp [Pos.passes]
end E
end
section
namespace E
theorem board_len {N M : Nat} {ps : List Int} (h8 : N ≤ 8) (hm : M ≤ 8) : (boardL N M ps).length ≤ 72 := by
  have := joinC_len 47 (((List.range M).map (rankAt N ps)).reverse.map (·.data.toList)) 8 (fun l hl => by
    simp only [List.mem_map, List.mem_reverse, List.mem_range] at hl
    obtain ⟨_, ⟨i, _, rfl⟩, rfl⟩ := hl
    exact Nat.le_trans (rankL_len (ps.drop (N * i)) N) (by omega))
  simp only [List.length_map, List.length_reverse, List.length_range] at this
  unfold boardL
  omega
theorem text_len {p : Pos} (h : p.valid = true) : p.text.size ≤ 1000 := by
  obtain ⟨hb, hc, hp, hn⟩ := valid_bd h
  obtain ⟨n1, n2, n3, n4⟩ := counts_bd hn
  have hz : vsize p.f p.r = true := by unfold bvalid at hb; simp only [Bool.and_eq_true] at hb; exact hb.1.1
  obtain ⟨z1, z2, z3, z4⟩ := vsize_bd hz
  have hd : ∀ x : Int, 0 ≤ x → x ≤ 10000 → (digB x).size ≤ 20 := fun x h0 h1 => by
    obtain ⟨k, rfl⟩ : ∃ k : Nat, x = k := ⟨x.toNat, by omega⟩
    exact digB_20 (by omega)
  have hw : ∀ x ∈ p.words, x.size ≤ 100 := by
    intro x hx
    unfold Pos.words at hx
    simp only [List.mem_cons, List.not_mem_nil, or_false] at hx
    rcases hx with rfl | rfl | rfl | rfl | rfl | rfl | rfl
    · have a1 := hd p.f (by omega) (by omega)
      have a2 := hd p.r (by omega) (by omega)
      rw [ByteArray.size_append, ByteArray.size_append]
      show _ + 1 + _ ≤ _
      omega
    · rw [ba_size]
      exact Nat.le_trans (board_len (by omega) (by omega)) (by omega)
    · unfold Pos.sideT; cases p.black <;> decide
    · unfold Pos.castT
      split
      · decide
      · rw [ba_size]; exact Nat.le_trans (castK_len p 4) (by omega)
    · unfold Pos.behindT
      split
      · show 2 ≤ 100; omega
      · decide
    · exact Nat.le_trans (hd _ n1 n2) (by omega)
    · exact Nat.le_trans (hd _ (by omega) n4) (by omega)
  have := joinC_len 32 (p.words.map (·.data.toList)) 100 (fun l hl => by
    obtain ⟨x, hx, rfl⟩ := List.mem_map.1 hl
    exact hw x hx)
  unfold Pos.text
  rw [ba_size]
  refine Nat.le_trans this ?_
  simp [Pos.words]
theorem pcs_flat (ps : List Int) : (pcs ps).all flatL = true := by simp [pcs, flatL, flat]
set_option maxHeartbeats 8000000 in
set_option maxRecDepth 10000 in
theorem posholds_a (L : Libs) (p : Pos) (s : ByteArray) (hc : 0 ≤ p.castle ∧ p.castle ≤ 255) : ACalls Tryz.prog Env 7 [posP p (.lst (pcs p.ps)), .val (.string s)] (.val (.bool true)) [] := by
  have hE := env_stable
  have hf := mixed
  have hkw := known_a L
  have hfl := pcs_flat p.ps
  have hs := @small_a p.f p.r p.castle p.passant p.half p.full p.black p.ps Env hE hf
  rcases Int.lt_or_le 70 p.ps.length with hl | hl
  · rw [show decide ((p.ps.length : Int) ≤ 70) = false by simp; omega] at hs
    simp only [posP, posA] at *
    refine ACalls.of hE hf Tryz.func7 rfl (by simp [Tryz.f7]) (Nat.le_of_ble_eq_true rfl) fun F hF => ?_
    simp only [entry, num0, Tryz.ntmps7]
    refine W ?_
    exact (hF _ ⟨[], _, rfl, rfl, rfl, rfl⟩).1
  rw [show decide ((p.ps.length : Int) ≤ 70) = true by simp; omega] at hs
  by_cases hl2 : 200 < s.size
  · have d1 : (200 : Int) < s.size := by omega
    simp only [posP, posA] at *
    refine ACalls.of hE hf Tryz.func7 rfl (by simp [Tryz.f7]) (Nat.le_of_ble_eq_true rfl) fun F hF => ?_
    simp only [entry, num0, Tryz.ntmps7]
    refine W ?_
    exact (hF _ ⟨[], _, rfl, rfl, rfl, rfl⟩).1
  have d1 : ¬ (200 : Int) < s.size := by omega
  have hpv := pvalid_a p (by omega) hc
  have hbv := pvalid_a (begP p.f p.r p.ps p.black) (by show p.ps.length ≤ 100; omega) (by simp [begP])
  have hof := pof_a hE hf (show p.ps.length ≤ 1000 by omega) hbv
  have hbd := @pboard_a p.f p.r p.castle p.passant p.half p.full p.black p.ps Env hE hf (by omega)
  have hbd2 := @pboard_a p.f p.r 0 (-1) 0 1 p.black p.ps Env hE hf (by omega)
  have hof6 := @rof6_a p.f p.r p.castle p.passant p.half p.full p.black p.ps Env hE hf
  have hsm := rsame3_a p.f p.r p.f p.r p.ps p.ps (by omega) (by omega)
  rw [show (p.f == p.f && p.r == p.r && (p.ps == p.ps)) = true by simp] at hsm
  have hcp := @rcopy6_a p.f p.r p.castle p.passant p.half p.full p.black p.ps Env hE hf (by omega)
  have heq := requal6_a p p (by omega) (by omega)
  rw [eqB_rfl] at heq
  have hps := pparse_a L s (by omega)
  cases ho : posO s with
  | none =>
    rw [ho] at hps
    simp only [pposA] at hps
    clear ho hl2
    cases hv1 : (begP p.f p.r p.ps p.black).valid
    · rw [hv1] at hof
      simp only [ofR, Bool.false_eq_true, if_false] at hof
      clear hv1 hbv
      cases hv : p.valid
      · rw [hv] at hpv
        clear hv
        simp only [posP, posA, bdA, ofR, begP] at *
        refine ACalls.of hE hf Tryz.func7 rfl (by simp [Tryz.f7]) (Nat.le_of_ble_eq_true rfl) fun F hF => ?_
        simp only [entry, num0, Tryz.ntmps7]
        refine W ?_
        skip
        exact (hF _ ⟨[], _, rfl, rfl, rfl, rfl⟩).1
      · have hpp := pparse_a L p.text (text_len hv)
        rw [text_again hv hc.1] at hpp
        have hpt := ptext_a L p (by omega) hc
        unfold Pos.textA strA at hpt
        have hv1 := pvalid_a ⟨p.f, p.r, p.ps, p.black, 0, p.passant, p.half, p.full⟩ (by show p.ps.length ≤ 100; omega) (by simp [begP])
        have hv2 := pvalid_a ⟨p.f, p.r, p.ps, p.black, 0, -1, p.half, p.full⟩ (by show p.ps.length ≤ 100; omega) (by simp [begP])
        rw [less_castle hv] at hv1
        rw [less_passant hv] at hv2
        rw [hv] at hpv hpt
        clear hv
        simp only [posP, posA, bdA, ofR, begP, pposA, ↓reduceIte] at *
        refine ACalls.of hE hf Tryz.func7 rfl (by simp [Tryz.f7]) (Nat.le_of_ble_eq_true rfl) fun F hF => ?_
        simp only [entry, num0, Tryz.ntmps7]
        refine W ?_
        skip
        exact (hF _ ⟨[], _, rfl, rfl, rfl, rfl⟩).1
    · rw [hv1] at hof hbv
      simp only [ofR, ↓reduceIte] at hof
      clear hv1
      cases hv : p.valid
      · rw [hv] at hpv
        clear hv
        simp only [posP, posA, bdA, ofR, begP] at *
        refine ACalls.of hE hf Tryz.func7 rfl (by simp [Tryz.f7]) (Nat.le_of_ble_eq_true rfl) fun F hF => ?_
        simp only [entry, num0, Tryz.ntmps7]
        refine W ?_
        skip
        exact (hF _ ⟨[], _, rfl, rfl, rfl, rfl⟩).1
      · have hpp := pparse_a L p.text (text_len hv)
        rw [text_again hv hc.1] at hpp
        have hpt := ptext_a L p (by omega) hc
        unfold Pos.textA strA at hpt
        have hv1 := pvalid_a ⟨p.f, p.r, p.ps, p.black, 0, p.passant, p.half, p.full⟩ (by show p.ps.length ≤ 100; omega) (by simp [begP])
        have hv2 := pvalid_a ⟨p.f, p.r, p.ps, p.black, 0, -1, p.half, p.full⟩ (by show p.ps.length ≤ 100; omega) (by simp [begP])
        rw [less_castle hv] at hv1
        rw [less_passant hv] at hv2
        rw [hv] at hpv hpt
        clear hv
        simp only [posP, posA, bdA, ofR, begP, pposA, ↓reduceIte] at *
        refine ACalls.of hE hf Tryz.func7 rfl (by simp [Tryz.f7]) (Nat.le_of_ble_eq_true rfl) fun F hF => ?_
        simp only [entry, num0, Tryz.ntmps7]
        refine W ?_
        skip
        exact (hF _ ⟨[], _, rfl, rfl, rfl, rfl⟩).1
  | some q =>
    obtain ⟨qv, qt⟩ := pos_some ho
    have hqt := ptext_a L q (Nat.le_trans (pos_len qv) (by omega)) (posO_cas ho)
    have hqv := pvalid_a q (Nat.le_trans (pos_len qv) (by omega)) (posO_cas ho)
    unfold Pos.textA strA at hqt
    rw [qv] at hqt hqv
    rw [qt] at hqt
    rw [ho] at hps
    simp only [pposA, ↓reduceIte] at hps hqt
    clear ho hl2 qv qt
    cases hv1 : (begP p.f p.r p.ps p.black).valid
    · rw [hv1] at hof
      simp only [ofR, Bool.false_eq_true, if_false] at hof
      clear hv1 hbv
      cases hv : p.valid
      · rw [hv] at hpv
        clear hv
        simp only [posP, posA, bdA, ofR, begP] at *
        refine ACalls.of hE hf Tryz.func7 rfl (by simp [Tryz.f7]) (Nat.le_of_ble_eq_true rfl) fun F hF => ?_
        simp only [entry, num0, Tryz.ntmps7]
        refine W ?_
        skip
        exact (hF _ ⟨[], _, rfl, rfl, rfl, rfl⟩).1
      · have hpp := pparse_a L p.text (text_len hv)
        rw [text_again hv hc.1] at hpp
        have hpt := ptext_a L p (by omega) hc
        unfold Pos.textA strA at hpt
        have hv1 := pvalid_a ⟨p.f, p.r, p.ps, p.black, 0, p.passant, p.half, p.full⟩ (by show p.ps.length ≤ 100; omega) (by simp [begP])
        have hv2 := pvalid_a ⟨p.f, p.r, p.ps, p.black, 0, -1, p.half, p.full⟩ (by show p.ps.length ≤ 100; omega) (by simp [begP])
        rw [less_castle hv] at hv1
        rw [less_passant hv] at hv2
        rw [hv] at hpv hpt
        clear hv
        simp only [posP, posA, bdA, ofR, begP, pposA, ↓reduceIte] at *
        refine ACalls.of hE hf Tryz.func7 rfl (by simp [Tryz.f7]) (Nat.le_of_ble_eq_true rfl) fun F hF => ?_
        simp only [entry, num0, Tryz.ntmps7]
        refine W ?_
        skip
        exact (hF _ ⟨[], _, rfl, rfl, rfl, rfl⟩).1
    · rw [hv1] at hof hbv
      simp only [ofR, ↓reduceIte] at hof
      clear hv1
      cases hv : p.valid
      · rw [hv] at hpv
        clear hv
        simp only [posP, posA, bdA, ofR, begP] at *
        refine ACalls.of hE hf Tryz.func7 rfl (by simp [Tryz.f7]) (Nat.le_of_ble_eq_true rfl) fun F hF => ?_
        simp only [entry, num0, Tryz.ntmps7]
        refine W ?_
        skip
        exact (hF _ ⟨[], _, rfl, rfl, rfl, rfl⟩).1
      · have hpp := pparse_a L p.text (text_len hv)
        rw [text_again hv hc.1] at hpp
        have hpt := ptext_a L p (by omega) hc
        unfold Pos.textA strA at hpt
        have hv1 := pvalid_a ⟨p.f, p.r, p.ps, p.black, 0, p.passant, p.half, p.full⟩ (by show p.ps.length ≤ 100; omega) (by simp [begP])
        have hv2 := pvalid_a ⟨p.f, p.r, p.ps, p.black, 0, -1, p.half, p.full⟩ (by show p.ps.length ≤ 100; omega) (by simp [begP])
        rw [less_castle hv] at hv1
        rw [less_passant hv] at hv2
        rw [hv] at hpv hpt
        clear hv
        simp only [posP, posA, bdA, ofR, begP, pposA, ↓reduceIte] at *
        refine ACalls.of hE hf Tryz.func7 rfl (by simp [Tryz.f7]) (Nat.le_of_ble_eq_true rfl) fun F hF => ?_
        simp only [entry, num0, Tryz.ntmps7]
        refine W ?_
        skip
        exact (hF _ ⟨[], _, rfl, rfl, rfl, rfl⟩).1
theorem posholds_law (L : Libs) (w : World) (hw : Env w) (p : Pos) (po : Option Addr) (c : Nat) (s : ByteArray) (hc : 0 ≤ p.castle ∧ p.castle ≤ 255) (h1 : SlcAt w po p.ps) (h2 : p.ps.length ≤ c) (h3 : c ≤ 9223372036854775807) : Pure 7 #[.agg (p.cells po c), .string s] w (.bool true) :=
  ac_pure (posholds_a L p s hc) hw ⟨pos_rep h1 h2 h3, rfl, trivial⟩
end E
end
end Go.Proofs.YtbhienpbfidgjaaGreatDoor
