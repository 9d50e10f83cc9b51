/- What the library's contracts and the listed variables give the walks. Conditions: as in each theorem. -/
import Derived.Test.YtbhienpbfidgjaaGreatDoorW1
import Derived.Test.YtbhienpbfidgjaaGreatDoorT9
import Derived.Test.YtbhienpbfidgjaaGreatDoorShelf
import Derived.Lib.LaidU8
import Derived.Stop.LaidErr
import Derived.Lib.AtoiErrMem
set_option linter.unusedVariables false
set_option linter.unusedSimpArgs false
namespace Go.Proofs.YtbhienpbfidgjaaGreatDoor
open Go.ChangeShapes Go.WideShapes Go.ChangeAt Go.RowKit Go.Sort
theorem below_of_grow (w : World) (k : Nat) (os : Array Obj) : Below w.heap.size w (grow (w.drewN k) os) :=
  ⟨rfl, rfl, rfl, by simp [grow], fun i hi => by
    show (w.heap ++ os)[i]? = _
    rw [Array.getElem?_append_left hi]⟩
theorem var_below {W V : World} {n : String} {g : Nat} {cs : Array Value} (hb : Below W.heap.size W V) (hg : Tryz.prog.globalNamed n = some g) (hv : W.var? Tryz.prog n = some cs) : V.var? Tryz.prog n = some cs := by
  unfold World.var? at hv ⊢
  simp only [hg, Option.bind_some] at hv ⊢
  have hlt : g < W.heap.size := by
    rcases Nat.lt_or_ge g W.heap.size with h | h
    · exact h
    · rw [Array.getElem?_eq_none h] at hv
      cases hv
  rw [hb.block g hlt]
  exact hv
theorem setCells_front {g : Nat} {t : TypeId} : ∀ (vs : List Value) (o : Nat) (w : World) (old : Array Value), w.heap[g]? = some (.cells old t (0, 0)) → o + vs.length ≤ old.size →
    (w.setCells g o vs).heap[g]? = some (.cells (old.toList.take o ++ vs ++ old.toList.drop (o + vs.length)).toArray t (0, 0))
  | [], o, w, old, h, hs => by simpa [World.setCells] using h
  | v :: vs, o, w, old, h, hs => by
    have h1 := blk_set h o v
    have h2 := setCells_front vs (o + 1) (w.setCell ⟨g, o, none⟩ v) _ h1 (by simp at hs ⊢; omega)
    rw [show w.setCells g o (v :: vs) = (w.setCell ⟨g, o, none⟩ v).setCells g (o + 1) vs from rfl, h2]
    have hlt : o < old.toList.length := by simp at hs ⊢; omega
    congr 3
    simp only [Array.toList_setIfInBounds, List.length_cons]
    rw [List.take_succ_eq_append_getElem (by simpa using hlt), List.getElem_set_self, List.take_set_of_le (Nat.le_refl _), List.drop_set_of_lt (by omega), show o + 1 + vs.length = o + (vs.length + 1) by omega]
    simp
theorem setCells_grown {g : Nat} : ∀ (vs : List Value) (o : Nat) (a w : World), a.grownBy w (some g) → a.grownBy (w.setCells g o vs) (some g)
  | [], _, _, _, h => h
  | v :: vs, o, a, w, h => setCells_grown vs (o + 1) a _ (grown_set h (p := ⟨g, o, none⟩) (.inl rfl) v)
theorem revOK : RevOK := by
  intro B v xs w h hn
  rcases h.2 with ⟨rfl, h0⟩ | ⟨g, cap, cur, rfl, hb, hg, hnc, hcm, hcs, htake⟩
  · have hc := Tryz.slices_Reverse_string_empty none 0 w
    refine hc.mono ?_
    rintro e w' ⟨rfl, rfl⟩
    have : xs = [] := List.length_eq_zero_iff.1 h0
    subst this
    exact ⟨rfl, h, grown_refl _ _⟩
  · refine (Tryz.slices_Reverse_string_cells g 0 xs.length cap (fun i => xs.getD i ⟨#[]⟩) w (by omega) (fun i hi => ?_) (fun j hj => h.frozenAt _)).mono ?_
    · rw [Nat.zero_add, h.cellAt i (by omega)]
      simp [strV, hi]
    · rintro e w' ⟨rfl, q, rfl⟩
      have hs : (Lib.strsOf (fun i => xs.getD i ⟨#[]⟩) xs.length).reverse.map encStr = xs.reverse.map strV := by
        have e : Lib.strsOf (fun i => xs.getD i ⟨#[]⟩) xs.length = xs.map (·.data.toList) := by
          unfold Lib.strsOf
          apply List.ext_getElem?
          intro i
          by_cases hi : i < xs.length
          · simp [hi]
          · simp [hi]
        rw [e, ← List.map_reverse, List.map_map]
        refine List.map_congr_left fun s _ => ?_
        simp [encStr, strV]
      rw [hs]
      have hlen : cur.size = cap := by omega
      have hres := setCells_front (vs := xs.reverse.map strV) 0 (w.drewN q) cur hg (by simp; omega)
      refine ⟨rfl, ⟨by simp, .inr ⟨g, cap, _, rfl, hb, hres, hnc, hcm, ?_, ?_⟩⟩, ?_⟩
      · simp; omega
      · simp
      · exact setCells_grown _ _ _ _ (grown_drewN (grown_refl _ _) q)
theorem libs : Libs := by
  refine ⟨?_, revOK, ?_, ?_, ?_, ?_, ?_⟩
  · intro s sep w ⟨m, hm⟩ hs h1
    have h := Tryz.strings_Split s sep m w (by omega) hm h1
    have e : (splitS s sep).length = Lib.countB s sep + 1 := Lib.splitB_all sep h1 0 _ s rfl
    rw [e]
    exact h
  · intro bk o c xs sep w h1 h2 h3 h4 h5
    exact Tryz.strings_Join bk o c xs sep w h1 h2 (by omega) h4 (by omega)
  · intro s c W
    exact Same.pure ((Tryz.strings_Contains_one s c W).mono fun e w' ⟨h1, h2⟩ => ⟨h1, h2.symm⟩)
  · intro i w hi
    exact Same.pure ((Tryz.strconv_Itoa_small i hi w).mono fun e w' ⟨h1, h2⟩ => ⟨h1, h2.symm⟩)
  · intro s p w
    exact Same.pure ((Tryz.strings_CutPrefix s p w).mono fun e w' ⟨h1, h2⟩ => ⟨h1, h2.symm⟩)
  · intro s p w hs
    exact Same.pure ((Tryz.strings_CutSuffix s p w (by omega)).mono fun e w' ⟨h1, h2⟩ => ⟨h1, h2.symm⟩)
theorem itoaAt {W : World} (h : Lib.TabIs Tryz.prog W "internal/strconv.uint64pow10" .u64 Lib.pow10Tab) : ItoaAt W := by
  intro V n hV hn
  have ht : Lib.TabIs Tryz.prog V "internal/strconv.uint64pow10" .u64 Lib.pow10Tab := var_below hV (g := 5) (by kernel_rfl) h
  refine (Tryz.strconv_Itoa (n : Int) (by omega) (by omega) V ht).mono ?_
  rintro e w' ⟨rfl, k, os, rfl⟩
  refine ⟨?_, below_of_grow _ _ _⟩
  have : Lib.itoa (n : Int) = Lib.decDigits n := by unfold Lib.itoa; rw [if_neg (by omega)]; simp
  rw [this]
  rfl
theorem atoi_run {W : World} {t1 t2 : TypeId} {p1 p2 : Value} (h1 : W.var? Tryz.prog "strconv.ErrSyntax" = some #[.iface t1 p1]) (h2 : W.var? Tryz.prog "strconv.ErrRange" = some #[.iface t2 p2]) (s : ByteArray) (hs : s.size ≤ 281474976710656) :
    Calls Tryz.prog 83 #[.string s] W fun e w' => (∃ ev, e = .returned (.tuple #[.int .i64 (atoiI s), ev]) ∧
      ((Lib.atoiAll s.data.toList = .ok (atoiI s) ∧ ev = .nilIface) ∨ ((∀ n, Lib.atoiAll s.data.toList ≠ .ok n) ∧ ∃ t p, ev = .iface t p))) ∧ Below W.heap.size W w' := by
  unfold atoiI
  cases h : Lib.atoiAll s.data.toList with
  | ok v =>
    refine (Tryz.strconv_Atoi_ok s (by omega) v h W).mono ?_
    rintro e w' ⟨rfl, hw⟩
    refine ⟨⟨_, rfl, .inl ⟨rfl, rfl⟩⟩, ?_⟩
    rcases hw with rfl | ⟨t, rfl⟩
    · exact Below.refl _ _
    · exact Lib.bytesWorld_below _ _ _
  | range =>
    refine (Tryz.strconv_Atoi_range_var s hs h t2 p2 W h2).mono ?_
    rintro e w' ⟨N, rfl, -, -, hb⟩
    exact ⟨⟨_, rfl, .inr ⟨fun n e => (by cases e), _, _, rfl⟩⟩, hb⟩
  | _ =>
    refine (Any.strconv_Atoi_syntax_var Tryz.laysC172 s hs h t1 p1 W h1).mono ?_
    rintro e w' ⟨N, rfl, -, -, hb⟩
    exact ⟨⟨_, rfl, .inr ⟨fun n e => (by cases e), _, _, rfl⟩⟩, hb⟩
end Go.Proofs.YtbhienpbfidgjaaGreatDoor
