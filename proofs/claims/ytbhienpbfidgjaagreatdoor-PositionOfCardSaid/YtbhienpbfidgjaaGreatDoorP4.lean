/- Sliding along rays: the package ray's slide. Conditions: a square of a board, a set of squares, directions by at most one file and rank. -/
import Derived.Test.YtbhienpbfidgjaaGreatDoorP3
set_option linter.unusedVariables false
set_option linter.unusedSimpArgs false
namespace Go.Proofs.YtbhienpbfidgjaaGreatDoor
open Go.RowKit
attribute [local go_sem] Oper.semAt_some
theorem ray_c (w : World) (f r a dx dy : Int) : Calls Tryz.prog 225 #[.agg #[.int .i64 f, .int .i64 r], .int .i64 a, .int .i64 dx, .int .i64 dy] w fun e w' =>
    e = .returned (.func (.func 227) #[] #[.pointer (some ⟨w.heap.size, 0, none⟩), .pointer (some ⟨w.heap.size + 1, 0, none⟩), .pointer (some ⟨w.heap.size + 1 + 1, 0, none⟩), .pointer (some ⟨w.heap.size + 1 + 1 + 1, 0, none⟩)]) ∧
    RayAt w' w.heap.size (w.heap.size + 1) (w.heap.size + 1 + 1) (w.heap.size + 1 + 1 + 1) f r a dx dy ∧ w'.heap.size = w.heap.size + 1 + 1 + 1 + 1 ∧ Below w.heap.size w w' := by
  go_enter Tryz.func225, Tryz.ntmps225
  go_wp2
  go_ret
  refine ⟨rfl, ⟨?_, ?_, ?_, ?_⟩, by simp, ?_⟩
  · exact blk_alloc (blk_alloc (blk_alloc (blk_new (by simp) _) _) _) _
  · exact blk_alloc (blk_alloc (blk_new (by simp) _) _) _
  · exact blk_alloc (blk_new (by simp) _) _
  · exact blk_new (by simp) _
  · exact ((((Below.refl _ _).alloc (Nat.le_refl _) _).alloc (by simp) _).alloc (by simp; omega) _).alloc (by simp; omega) _
structure But (n g : Nat) (W V : World) : Prop where
  size : W.heap.size ≤ V.heap.size
  block : ∀ k, k < n → k ≠ g → V.heap[k]? = W.heap[k]?
theorem But.trans {n g : Nat} {A B C : World} (h : But n g A B) (k : But n g B C) : But n g A C := ⟨Nat.le_trans h.size k.size, fun i hi hne => (k.block i hi hne).trans (h.block i hi hne)⟩
theorem RayAt.but {n g : Nat} {W V : World} {b1 b2 b3 b4 : Nat} {f r a dx dy : Int} (h : RayAt W b1 b2 b3 b4 f r a dx dy) (hb : But n g W V) (h1 : b1 < n) (h2 : b2 < n) (h3 : b3 < n) (h4 : b4 < n) (g1 : b1 ≠ g) (g2 : b2 ≠ g) (g3 : b3 ≠ g) (g4 : b4 ≠ g) : RayAt V b1 b2 b3 b4 f r a dx dy :=
  ⟨(hb.block _ h1 g1).trans h.size, (hb.block _ h2 g2).trans h.sq, (hb.block _ h3 g3).trans h.dx, (hb.block _ h4 g4).trans h.dy⟩
theorem ray_stops (n : Nat) (hn : 1 ≤ n) (b1 b2 b3 b4 n0 g : Nat) (f r a dx dy : Int) (w : World) (hq : vsq f r a = true) (d1 : -1 ≤ dx) (d2 : dx ≤ 1) (d3 : -1 ≤ dy) (d4 : dy ≤ 1) (d0 : dx ≠ 0 ∨ dy ≠ 0) (c1 : b1 < n0) (c2 : b2 < n0) (c3 : b3 < n0) (c4 : b4 < n0)
    (g1 : b1 ≠ g) (g2 : b2 ≠ g) (g3 : b3 ≠ g) (g4 : b4 ≠ g) (hn0 : n0 ≤ w.heap.size)
    (hR : RayAt w b1 b2 b3 b4 f r a dx dy) :
    SeqStopsK Fence.wide n Tryz.prog 227 #[.pointer (some ⟨b1, 0, none⟩), .pointer (some ⟨b2, 0, none⟩), .pointer (some ⟨b3, 0, none⟩), .pointer (some ⟨b4, 0, none⟩)] (fun x : Fin 64 => #[Value.int .i64 (x.val : Int)]) (But n0 g) (fun ys => ys.map (·.val) = rayL f r a dx dy) (fun pre => pre.map (·.val) <+: rayL f r a dx dy) 8 w := by
  intro l J Jx W hW hJ _ hY h0
  refine (ray1_in n hn l n0 b1 b2 b3 b4 f r a dx dy hq d1 d2 d3 d4 d0 c1 c2 c3 c4 (But n0 g) (fun _ _ hb h => h.but hb c1 c2 c3 c4 g1 g2 g3 g4) (fun _ _ h => h.size)
    (fun pre V => ∃ p : List (Fin 64), p.map (·.val) = pre ∧ J p V) (fun pre V => ∃ p : List (Fin 64), p.map (·.val) = pre ∧ Jx p V) W
    (fun pre A A' row ⟨p, hp, hj⟩ hg hr => ⟨p, hp, hJ p A A' row hj hg hr⟩) ?_ (hR.below hW (by omega) (by omega) (by omega) (by omega)) (Nat.le_trans hn0 hW.size) ⟨[], rfl, h0⟩).mono ?_
  · rintro pre x V hx ⟨p, rfl, hj⟩ hlen
    refine (hY p ⟨x, hx⟩ V hj (by simpa using hlen)).mono ?_
    rintro e V' (⟨he, hj', hk⟩ | ⟨he, hj'⟩)
    · exact .inl ⟨he, ⟨_, by simp, hj'⟩, hk⟩
    · exact .inr ⟨he, ⟨_, by simp, hj'⟩⟩
  · rintro e V ⟨hv, ⟨ys, rfl, p, hp, hj⟩ | ⟨pre, hpre, p, rfl, hj⟩⟩
    · exact ⟨hv, .inl ⟨p, hp, hj⟩⟩
    · exact ⟨hv, .inr ⟨p, hpre, hj⟩⟩
def hitL (occ : Nat) : List Nat → List Nat
  | [] => []
  | s :: l => if occ.testBit s then [s] else s :: hitL occ l
def orL (S : Nat) (l : List Nat) : Nat := l.foldl (fun S s => S ||| 2 ^ s) S
def slideD (f r a : Int) (occ : Nat) (S : Nat) (d : Int × Int) : Nat := orL S (hitL occ (rayL f r a d.1 d.2))
def slideS (f r a : Int) (occ : Nat) (L : List (Int × Int)) : Nat := L.foldl (slideD f r a occ) 0
theorem hitL_free (occ : Nat) (l : List Nat) (h : ∀ s ∈ l, occ.testBit s = false) : hitL occ l = l := by
  induction l with
  | nil => rfl
  | cons s l ih =>
    have hs := h s (by simp)
    simp only [hitL, hs]
    rw [ih (fun t ht => h t (by simp [ht]))]
    simp
theorem hitL_stop (occ : Nat) (q : List Nat) (s : Nat) (rest : List Nat) (h : ∀ t ∈ q, occ.testBit t = false) (hs : occ.testBit s = true) : hitL occ (q ++ [s] ++ rest) = q ++ [s] := by
  induction q with
  | nil => simp [hitL, hs]
  | cons t q ih =>
    have ht := h t (by simp)
    simp only [List.cons_append, hitL, ht]
    rw [ih (fun u hu => h u (by simp [hu]))]
    simp
theorem rayN_bd {f r dx dy : Int} (hv : vsize f r = true) (n : Nat) : ∀ x y, ∀ s ∈ rayN f r dx dy n x y, s < 64 := by
  induction n with
  | zero => intro x y s hs; simp [rayN] at hs
  | succ n ih =>
    intro x y s hs
    simp only [rayN] at hs
    split at hs
    · rename_i ho
      rcases List.mem_cons.1 hs with rfl | h
      · exact (sqn_lt hv ho).1
      · exact ih _ _ s h
    · simp at hs
theorem orL_lt (l : List Nat) : ∀ S, S < 18446744073709551616 → (∀ s ∈ l, s < 64) → orL S l < 18446744073709551616 := by
  induction l with
  | nil => exact fun S h _ => h
  | cons s l ih => exact fun S h hs => ih _ (or64 h (pow64 (hs s (by simp)))) (fun t ht => hs t (by simp [ht]))
theorem hitL_sub (occ : Nat) (l : List Nat) : ∀ s ∈ hitL occ l, s ∈ l := by
  induction l with
  | nil => simp [hitL]
  | cons t l ih =>
    intro s hs
    simp only [hitL] at hs
    split at hs
    · simp at hs; simp [hs]
    · rcases List.mem_cons.1 hs with rfl | h
      · simp
      · exact List.mem_cons_of_mem _ (ih s h)
theorem slideD_lt {f r a : Int} {occ S : Nat} (hv : vsize f r = true) (d : Int × Int) (h : S < 18446744073709551616) : slideD f r a occ S d < 18446744073709551616 :=
  orL_lt _ S h (fun s hs => rayN_bd hv 8 _ _ s (hitL_sub occ _ s hs))
theorem slide_lt {f r a : Int} {occ : Nat} (hv : vsize f r = true) (L : List (Int × Int)) : ∀ S, S < 18446744073709551616 → L.foldl (slideD f r a occ) S < 18446744073709551616 := by
  induction L with
  | nil => exact fun _ h => h
  | cons d L ih => exact fun S h => ih _ (slideD_lt hv d h)
theorem slide_snoc (f r a : Int) (occ : Nat) (L : List (Int × Int)) (k : Nat) (d : Int × Int) (h : L[k]? = some d) : slideS f r a occ (L.take (k + 1)) = slideD f r a occ (slideS f r a occ (L.take k)) d := by
  obtain ⟨hk, he⟩ := List.getElem?_eq_some_iff.1 h
  rw [List.take_succ_eq_append_getElem hk, he]
  simp [slideS, List.foldl_append]
def marks (Ds : List Nat) : List Deferred := Ds.map fun D => { target := .collected D, args := #[] }
theorem leaves_marks {n : Nat} {fn : Func} {tmps : Array Value} {R : Ending → World → Prop} (B : Nat) : ∀ (Ds : List Nat) (W : World), Ds.Nodup → (∀ D ∈ Ds, B ≤ D ∧ W.heap[D]? = some (.deferred (some []))) →
    (∀ V, Below B W V → ∃ v, (results fn tmps).run Tryz.prog V = .ok v V ∧ R (.returned v) V) → LeavesInM Fence.wide n Tryz.prog fn tmps R (marks Ds) .returning W
  | [], W, _, _, h => h W (Below.refl _ _)
  | D :: Ds, W, hN, hD, h => by
    obtain ⟨hB, hd⟩ := hD D (by simp)
    rw [List.nodup_cons] at hN
    refine ⟨by simp, .inl ⟨D, _, rfl, run_takeDeferred hd, leaves_marks B Ds _ hN.2 (fun E hE => ?_) (fun V hV => h V (Below.trans ?_ hV))⟩⟩
    · exact ⟨(hD E (by simp [hE])).1, (World.putObj_heap_other (fun e => hN.1 (by rw [← e]; exact hE))).trans (hD E (by simp [hE])).2⟩
    · exact (Below.refl B W).grown (grownBy_putObj' W D _) (by have := (Array.getElem?_eq_some_iff.1 hd).1; omega) (fun k e => by cases e; exact hB)
structure SlideW (w : World) (B : Nat) (f r : Int) (occ S : Nat) (Ds : List Nat) (W : World) : Prop where
  size : W.heap[B]? = some (.cells #[.int .i64 f, .int .i64 r] 23 (0, 0))
  occ : W.heap[B + 1]? = some (.cells #[.int .u64 (occ : Int)] 130 (0, 0))
  set : W.heap[B + 1 + 1]? = some (.cells #[.int .u64 (S : Int)] 130 (0, 0))
  below : Below w.heap.size w W
  nodup : Ds.Nodup
  marks : ∀ D ∈ Ds, B + 1 + 1 < D ∧ W.heap[D]? = some (.deferred (some []))
theorem SlideW.below' {w W V : World} {B : Nat} {f r : Int} {occ S : Nat} {Ds : List Nat} (h : SlideW w B f r occ S Ds W) (hb : Below W.heap.size W V) : SlideW w B f r occ S Ds V :=
  ⟨below_blk hb h.size, below_blk hb h.occ, below_blk hb h.set, h.below.trans (hb.mono h.below.size), h.nodup, fun D hD => ⟨(h.marks D hD).1, below_blk hb (h.marks D hD).2⟩⟩
theorem SlideW.far {w A A' : World} {B N : Nat} {f r : Int} {occ S : Nat} {Ds : List Nat} {row : Option Nat} (h : SlideW w B f r occ S Ds A) (hg : A.grownBy A' row) (hr : ∀ r, row = some r → N ≤ r) (hB : B + 1 + 1 < N) (hD : ∀ D ∈ Ds, D < N) (hw : w.heap.size ≤ N) : SlideW w B f r occ S Ds A' := by
  have hk : ∀ (k : Nat) (o : Obj), k < N → A.heap[k]? = some o → A'.heap[k]? = some o := fun k o hk ho => (hg.block k (lt_of_blk ho) (fun e => by have := hr k e.symm; omega)).trans ho
  exact ⟨hk _ _ (by omega) h.size, hk _ _ (by omega) h.occ, hk _ _ hB h.set, h.below.trans ⟨hg.os, hg.tape, hg.output, hg.size, fun k hk => hg.block k (by have := h.below.size; omega) (fun e => by have := hr k e.symm; omega)⟩, h.nodup, fun D hd => ⟨(h.marks D hd).1, hk _ _ (hD D hd) (h.marks D hd).2⟩⟩
theorem SlideW.set' {w A : World} {B : Nat} {f r : Int} {occ S T : Nat} {Ds : List Nat} (h : SlideW w B f r occ S Ds A) (hw : w.heap.size ≤ B) : SlideW w B f r occ T Ds (A.setCell ⟨B + 1 + 1, 0, none⟩ (.int .u64 (T : Int))) :=
  ⟨blk_other h.size (by simp; omega) _, blk_other h.occ (by simp) _, blk_set h.set 0 _, h.below.setCell (by simp; omega) _, h.nodup, fun D hd => ⟨(h.marks D hd).1, blk_other (h.marks D hd).2 (by have := (h.marks D hd).1; dsimp only; omega) _⟩⟩
theorem SlideW.drew {w A : World} {B : Nat} {f r : Int} {occ S : Nat} {Ds : List Nat} (h : SlideW w B f r occ S Ds A) : SlideW w B f r occ S Ds A.drew := ⟨h.size, h.occ, h.set, h.below.drew, h.nodup, h.marks⟩
theorem test_bit {occ x : Nat} (h : occ < 18446744073709551616) (hx : x < 64) : (bits .and .u64 ((occ : Int) / 2 ^ x) 1 == 1) = occ.testBit x := by
  have e : ((occ : Int) / 2 ^ x) = ((occ / 2 ^ x : Nat) : Int) := by simp
  rw [e, show (1 : Int) = ((1 : Nat) : Int) by rfl, u64_and_nat _ _ (Nat.lt_of_le_of_lt (Nat.div_le_self _ _) h) (by decide), nat_mask1, Nat.testBit_eq_decide_div_mod_eq]
  rw [Bool.eq_iff_iff]
  simp only [beq_iff_eq, decide_eq_true_eq]
  omega
def SlideInv (w : World) (B : Nat) (f r a : Int) (occ b off cap n : Nat) (L : List (Int × Int)) (A : Act) (W : World) : Prop :=
  ∃ (k : Nat) (Ds : List Nat) (u11 u12 u16 u17 u18 u19 u20 u21 u22 u23 u24 u25 u26 u27 u28 u29 u30 u31 u32 u33 u34 u35 u36 : Value), A = { tmps := #[.agg #[.int .i64 f, .int .i64 r], .int .i64 a, .int .u64 (occ : Int), .slice (some ⟨b, off, none⟩) n cap, .pointer (some ⟨B, 0, none⟩), undef, .pointer (some ⟨B + 1, 0, none⟩), undef, .int .u64 0, .pointer (some ⟨B + 1 + 1, 0, none⟩), undef, u11, u12, .slice (some ⟨b, off, none⟩) n cap, .int .i64 (n : Int), .int .i64 (k : Int), u16, u17, u18, u19, u20, u21, u22, u23, u24, u25, u26, u27, u28, u29, u30, u31, u32, u33, u34, u35, u36, undef], defers := marks Ds } ∧ k ≤ n ∧ SlideW w B f r occ (slideS f r a occ (L.take k)) Ds W
set_option maxRecDepth 100000 in
set_option maxHeartbeats 2000000 in
theorem slide_c (w : World) (f r a : Int) (occ : Nat) (b off cap : Nat) (L : List (Int × Int)) (hq : vsq f r a = true) (hocc : occ < 18446744073709551616) (hL : StepsAt w b off L) (hd : ∀ d ∈ L, -1 ≤ d.1 ∧ d.1 ≤ 1 ∧ -1 ≤ d.2 ∧ d.2 ≤ 1 ∧ (d.1 ≠ 0 ∨ d.2 ≠ 0)) (hn : L.length ≤ 8) :
    Pure 217 #[.agg #[.int .i64 f, .int .i64 r], .int .i64 a, .int .u64 occ, .slice (some ⟨b, off, none⟩) L.length cap] w (.int .u64 (slideS f r a occ L)) := by
  unfold Pure
  refine (callsIn_wide (n := 10)).1 ?_
  obtain ⟨n, hln⟩ : ∃ n, L.length = n := ⟨_, rfl⟩
  rw [hln] at hn ⊢
  refine callsIn_of_wp_marks Tryz.func217 rfl trivial ?_ rfl
  simp only [Tryz.ntmps217, List.size_toArray, List.length_cons, List.length_nil, Nat.reduceAdd, Nat.reduceSub, Array.replicate_succ, Array.replicate_zero, List.push_toArray, List.append_toArray, List.nil_append, List.cons_append]
  obtain ⟨z0, a0, a1⟩ := vsq_bd hq
  have hlt := fun k => Lib.hid (show slideS f r a occ (L.take k) < 18446744073709551616 from slide_lt z0 (L.take k) 0 (by decide))
  have hbd := fun d : Int × Int => Lib.hid (rayN_bd (dx := d.1) (dy := d.2) z0 8 (a % f) (a / f))
  have hsn := fun k d h => Lib.hid (slide_snoc f r a occ L k d h)
  have hfull : Hid (slideS f r a occ (L.take n) = slideS f r a occ L) := Lib.hid (by rw [← hln, List.take_length])
  replace hq := Lib.hid hq
  replace hL := Lib.hid hL
  replace hd := Lib.hid hd
  replace hln := Lib.hid hln
  replace z0 := Lib.hid z0
  gi_wp2
  refine wpIn_loop (SlideInv w w.heap.size f r a occ b off cap n L) (fun A _ => n - (intOf (A.tmps.getD 15 undef)).toNat) ⟨0, [], _, _, _, _, _, _, _, _, _, _, _, _, _, _, _, _, _, _, _, _, _, _, _, rfl, by omega, ⟨blk_alloc (blk_alloc (blk_new rfl _) _) _, blk_alloc (blk_new (by simp) _) _, blk_at (blk_new (by simp) _) (by simp [slideS]), (((Below.refl _ _).alloc (Nat.le_refl _) _).alloc (by simp) _).alloc (by simp; omega) _, by simp, by simp⟩⟩ ?_
  rintro A W ⟨k, Ds, u11, u12, u16, u17, u18, u19, u20, u21, u22, u23, u24, u25, u26, u27, u28, u29, u30, u31, u32, u33, u34, u35, u36, rfl, hk, hW⟩
  obtain ⟨B, hB⟩ : ∃ B, w.heap.size = B := ⟨_, rfl⟩
  rw [hB] at hW ⊢
  replace hB := Lib.hid hB
  by_cases hkn : k = n
  · subst hkn
    have y9 := cell_of hW.set 0 _ rfl
    rw [hfull.out] at y9
    replace hW := Lib.hid hW
    gi_wp2
    refine leaves_marks B Ds W hW.out.nodup (fun D hD => ⟨by have := (hW.out.marks D hD).1; omega, (hW.out.marks D hD).2⟩) (fun V hV => ?_)
    exact ⟨_, results_tmp rfl _ _ _, rfl, hW.out.below.trans (by rw [hB.out]; exact hV)⟩
  · have hkl : k < n := by omega
    obtain ⟨d, hdk⟩ : ∃ d, L[k]? = some d := ⟨_, List.getElem?_eq_getElem (by rw [hln.out]; exact hkl)⟩
    obtain ⟨e1, e2, e3, e4, e5⟩ := hd.out d (List.mem_of_getElem? hdk)
    obtain ⟨v0, v1⟩ := (hL.out.below hW.below) k d hdk
    replace hsn := hsn k d hdk
    replace hbd := hbd d
    have hlk := (hlt k).out
    clear hdk hlt hfull
    obtain ⟨dx, dy⟩ := d
    dsimp only [slideD] at *
    obtain ⟨S, hS⟩ : ∃ S, slideS f r a occ (L.take k) = S := ⟨_, rfl⟩
    rw [hS] at hsn hlk hW
    replace hS := Lib.hid hS
    replace e5 := Lib.hid e5
    have y4 := cell_of hW.size 0 _ rfl
    have y5 := cell_of hW.size 1 _ rfl
    have hBl : B < W.heap.size := lt_of_blk hW.size
    have hBl2 : B + 1 + 1 < W.heap.size := lt_of_blk hW.set
    replace hW := Lib.hid hW
    clear hkn
    gi_wp2
    refine ⟨trivial, ?_⟩
    refine (callsIn_wide.2 (ray_c _ f r a dx dy)).mono ?_
    rintro e W2 ⟨rfl, hR2, hs2, hB2⟩
    simp only [World.size_alloc] at hR2 hs2
    have hW2 := Lib.hid (hW.out.below' (below_of_alloc hB2))
    have hWs := (below_of_alloc hB2).size
    clear hB2 y4 y5 v0 v1
    obtain ⟨G, hG⟩ : ∃ G, G = W.heap.size := ⟨_, rfl⟩
    replace hR2 := Lib.hid hR2
    rw [← hG] at hR2 hs2 hBl hBl2
    gi_wp2
    rw [← hG]
    replace hG := Lib.hid hG
    refine wpIn_rangeFunc_ownF rfl (by decide) (gf := 227) (lb := #[.pointer (some ⟨G + 1, 0, none⟩), .pointer (some ⟨G + 1 + 1, 0, none⟩), .pointer (some ⟨G + 1 + 1 + 1, 0, none⟩), .pointer (some ⟨G + 1 + 1 + 1 + 1, 0, none⟩)]) rfl trivial (enters_of Tryz.func227 (by kernel_rfl) rfl)
      (ray_stops 9 (by decide) _ _ _ _ W2.heap.size (B + 1 + 1) f r a dx dy W2 hq.out e1 e2 e3 e4 e5.out ?c1 ?c2 ?c3 ?c4 ?g1 ?g2 ?g3 ?g4 (Nat.le_refl _) hR2.out) But.trans ?hKb (Below.refl _ _) (fun _ => rfl)
      (fun pre V => SlideW w B f r occ (orL S (pre.map (·.val))) Ds V ∧ ∀ s ∈ pre, occ.testBit s.val = false)
      (fun c pre V => c = .exit 2 ∧ SlideW w B f r occ (orL S (pre.map (·.val))) Ds V ∧ ∃ q s, pre = q ++ [s] ∧ (∀ t ∈ q, occ.testBit t.val = false) ∧ occ.testBit s.val = true)
      ?hI ?hIx ⟨hW2.out, by simp⟩
      (fun x => { tmps := #[.agg #[.int .i64 f, .int .i64 r], .int .i64 a, .int .u64 (occ : Int), .slice (some ⟨b, off, none⟩) n cap, .pointer (some ⟨B, 0, none⟩), undef, .pointer (some ⟨B + 1, 0, none⟩), undef, .int .u64 0, .pointer (some ⟨B + 1 + 1, 0, none⟩), undef, .pointer (some ⟨G, 0, none⟩), .int .i64 (x.val : Int), .slice (some ⟨b, off, none⟩) n cap, .int .i64 (n : Int), .int .i64 (k : Int), .bool true, .pointer (some ⟨b, off + k * 2, none⟩), .agg #[.int .i64 dx, .int .i64 dy], .agg #[.int .i64 f, .int .i64 r], .int .i64 a, .pointer (some ⟨G, 0, none⟩), .int .i64 dx, .pointer (some ⟨G, 1, none⟩), .int .i64 dy, .func (.func 227) #[] #[.pointer (some ⟨G + 1, 0, none⟩), .pointer (some ⟨G + 1 + 1, 0, none⟩), .pointer (some ⟨G + 1 + 1 + 1, 0, none⟩), .pointer (some ⟨G + 1 + 1 + 1 + 1, 0, none⟩)], .int .i64 (x.val : Int), u27, u28, u29, u30, u31, u32, u33, u34, u35, u36, undef], defers := [] }) ?assign ?body ?done ?stop
    case c1 => omega
    case c2 => omega
    case c3 => omega
    case c4 => omega
    case g1 => omega
    case g2 => omega
    case g3 => omega
    case g4 => omega
    case hKb => exact fun V l o o' hl ho _ _ => ⟨by simp, fun k hk _ => World.putObj_heap_other (by omega)⟩
    case hI => exact fun pre A A' row ⟨h, hf⟩ hg hr => ⟨h.far hg (fun r e => (hr r e).1) (by omega) (fun D hD => lt_of_blk (hW2.out.marks D hD).2) hW2.out.below.size, hf⟩
    case hIx => exact fun c pre A A' row ⟨hc, h, hf⟩ hg hr => ⟨hc, h.far hg (fun r e => (hr r e).1) (by omega) (fun D hD => lt_of_blk (hW2.out.marks D hD).2) hW2.out.below.size, hf⟩
    case assign =>
      intro l x V K hK
      gi_wp2
      exact hK
    case body =>
      rintro l pre ⟨x, hx⟩ V ⟨hV, hf⟩ _
      have y9 := cell_of hV.set 0 _ rfl
      have y6 := cell_of hV.occ 0 _ rfl
      have f9 := free_of hV.set 0
      have hSl : orL S (pre.map (·.val)) < 18446744073709551616 := orL_lt _ S hlk (fun t ht => by obtain ⟨u, _, rfl⟩ := List.mem_map.1 ht; exact u.2)
      have hsn' : Hid (orL S ((pre ++ [(⟨x, hx⟩ : Fin 64)]).map (·.val)) = orL S (pre.map (·.val)) ||| 2 ^ x) := Lib.hid (by simp [orL])
      obtain ⟨T, hT⟩ : ∃ T, orL S (pre.map (·.val)) = T := ⟨_, rfl⟩
      rw [hT] at hV y9 hSl hsn'
      replace hT := Lib.hid hT
      have hob := Lib.hid (or_bit hSl hx)
      have htb := test_bit hocc hx
      replace hV := Lib.hid hV
      replace hf := Lib.hid hf
      dsimp only at *
      cases hoc : occ.testBit x
      · rw [hoc] at htb
        replace hoc := Lib.hid hoc
        gi_wp2
        gi_region
        gi_wp2
        all_goals
          have hfin : SlideW w B f r occ (orL S ((pre ++ [(⟨x, hx⟩ : Fin 64)]).map (·.val))) Ds (V.setCell ⟨B + 1 + 1, 0, none⟩ (.int .u64 (bits .or .u64 (T : Int) (IntKind.u64.wrap (2 ^ x))))).drew := by
            rw [hsn'.out, hob.out]
            exact (hV.out.set' (Nat.le_of_eq hB.out)).drew
          refine ⟨(KeepsOthers.setCell _ _ _).trans (KeepsOthers.drew _), ⟨by simp, fun k hk hne => Below.heap_setCell V ⟨B + 1 + 1, 0, none⟩ _ k hne⟩, hfin, fun t ht => ?_⟩
          rcases List.mem_append.1 ht with h | h
          · exact hf.out t h
          · simp at h; subst h; exact hoc.out
      · rw [hoc] at htb
        replace hoc := Lib.hid hoc
        gi_wp2
        gi_region
        gi_wp2
        all_goals
          have hfin : SlideW w B f r occ (orL S ((pre ++ [(⟨x, hx⟩ : Fin 64)]).map (·.val))) Ds (V.setCell ⟨B + 1 + 1, 0, none⟩ (.int .u64 (bits .or .u64 (T : Int) (IntKind.u64.wrap (2 ^ x))))).drew := by
            rw [hsn'.out, hob.out]
            exact (hV.out.set' (Nat.le_of_eq hB.out)).drew
          exact ⟨(KeepsOthers.setCell _ _ _).trans (KeepsOthers.drew _), rfl, hfin, pre, ⟨x, hx⟩, rfl, hf.out, hoc.out⟩
    case done =>
      rintro D ys V hD hys ⟨hV, hf⟩ hK
      have hset : Hid (orL S (ys.map (·.val)) = slideS f r a occ (L.take (k + 1))) := Lib.hid (by
        rw [hsn.out, ← hys, hitL_free occ _ (fun s hs => by obtain ⟨t, ht, rfl⟩ := List.mem_map.1 hs; exact hf t ht)])
      rw [hset.out] at hV
      replace hV := Lib.hid hV
      replace hK := Lib.hid hK
      clear hys hf
      gi_wp2
      refine ⟨⟨k + 1, D :: Ds, _, _, _, _, _, _, _, _, _, _, _, _, _, _, _, _, _, _, _, _, _, _, _, rfl, by omega, ?_⟩, by simp [intOf]; omega⟩
      exact ⟨hV.out.size, hV.out.occ, hV.out.set, hV.out.below, List.nodup_cons.2 ⟨fun h => by have := lt_of_blk (hW2.out.marks D h).2; omega, hV.out.nodup⟩, fun E hE => (List.mem_cons.1 hE).elim (fun e => e ▸ ⟨by omega, hK.out⟩) (hV.out.marks E)⟩
    case stop =>
      rintro D c pre V hD hpre ⟨rfl, hV, q, s, rfl, hq1, hs1⟩ hK
      obtain ⟨rest, hrest⟩ := hpre
      have hset : Hid (orL S ((q ++ [s]).map (·.val)) = slideS f r a occ (L.take (k + 1))) := Lib.hid (by
        rw [hsn.out, ← hrest, List.map_append, List.map_cons, List.map_nil, hitL_stop occ _ _ _ (fun t ht => by obtain ⟨u, hu, rfl⟩ := List.mem_map.1 ht; exact hq1 u hu) hs1])
      rw [hset.out] at hV
      replace hV := Lib.hid hV
      replace hK := Lib.hid hK
      clear hrest hq1 hs1
      gi_wp2
      refine ⟨⟨k + 1, D :: Ds, _, _, _, _, _, _, _, _, _, _, _, _, _, _, _, _, _, _, _, _, _, _, _, rfl, by omega, ?_⟩, by simp [intOf]; omega⟩
      exact ⟨hV.out.size, hV.out.occ, hV.out.set, hV.out.below, List.nodup_cons.2 ⟨fun h => by have := lt_of_blk (hW2.out.marks D h).2; omega, hV.out.nodup⟩, fun E hE => (List.mem_cons.1 hE).elim (fun e => e ▸ ⟨by omega, hK.out⟩) (hV.out.marks E)⟩
end Go.Proofs.YtbhienpbfidgjaaGreatDoor
