/- Positions: Parse, the walk. Conditions: the library's Split, Contains, Itoa, Atoi, Reverse and Join as said; the tables lie in memory. -/
import Derived.Test.YtbhienpbfidgjaaGreatDoorF10
import Derived.Test.YtbhienpbfidgjaaGreatDoorR
set_option linter.unusedVariables false
set_option linter.unusedSimpArgs false
namespace Go.Proofs.YtbhienpbfidgjaaGreatDoor
open Go.RowKit
theorem sizePo : (Tryz.prog.info? 26).map (·.size) = some 8 := by kernel_rfl
theorem onePo (f r : Int) (po : Option Addr) (n cap : Nat) (b : Bool) (c p h u : Int) : (#[.int .i64 f, .int .i64 r, .slice po n cap, .bool b, .int .u8 c, .int .i64 p, .int .i64 h, .int .i64 u] : Array Value).all (·.oneCell') = true := by simp [Value.oneCell']
theorem cell_row {w : World} {b : Nat} {cs : Array Value} {t : TypeId} {fr : Nat × Nat} (h : w.heap[b]? = some (.cells cs t fr)) (i : Nat) : w.cell? ⟨b, i, none⟩ = cs[i]? := cell_of_row w b i cs t fr h
theorem notB {W : World} {B off : Nat} {ty : TypeId} {q : Int} (hres : W.heap[B]? = some (.cells #[.int .i64 0, .int .i64 0, .slice none 0 0, .bool false, .int .u8 0, .int .i64 0, .int .i64 0, .int .i64 0] ty (0, 0)))
    (h : W.cell? ⟨B, off + 0, none⟩ = some (.int .i8 q)) : False := by
  have h2 : (#[.int .i64 0, .int .i64 0, .slice none 0 0, .bool false, .int .u8 0, .int .i64 0, .int .i64 0, .int .i64 0] : Array Value)[off]? = some (.int .i8 q) := by
    rw [← h, Nat.add_zero]
    exact (cell_row hres off).symm
  by_cases ho : off < 8
  · rcases (by omega : off = 0 ∨ off = 1 ∨ off = 2 ∨ off = 3 ∨ off = 4 ∨ off = 5 ∨ off = 6 ∨ off = 7) with e | e | e | e | e | e | e | e <;> (rw [e] at h2; simp at h2)
  · rw [Array.getElem?_eq_none (by simp; omega)] at h2
    cases h2
structure PSt (w : World) (B Q : Nat) (ws pc : Array Value) (po : Option Addr) (ps : List Int) (W : World) : Prop where
  res : W.heap[B]? = some (.cells #[.int .i64 0, .int .i64 0, .slice none 0 0, .bool false, .int .u8 0, .int .i64 0, .int .i64 0, .int .i64 0] 26 (0, 0))
  wds : W.heap[B + 1]? = some (.cells ws 9 (0, 0))
  pos : W.heap[Q]? = some (.cells pc 26 (0, 0))
  slc : SlcAt W po ps
  below : Below w.heap.size w W
theorem PSt.below' {w : World} {B Q : Nat} {ws pc : Array Value} {po : Option Addr} {ps : List Int} {W V : World} (h : PSt w B Q ws pc po ps W) (hb : Below W.heap.size W V) : PSt w B Q ws pc po ps V :=
  ⟨below_blk hb h.res, below_blk hb h.wds, below_blk hb h.pos, h.slc.below hb, h.below.trans (hb.mono h.below.size)⟩
theorem PSt.set {w : World} {B Q : Nat} {ws pc pc' : Array Value} {po : Option Addr} {ps : List Int} {W : World} (h : PSt w B Q ws pc po ps W) (h1 : B + 1 < Q) (hw : w.heap.size ≤ Q) (hq : ∀ b off, po = some ⟨b, off, none⟩ → ps ≠ [] → b ≠ Q) (i : Nat) (v : Value) (hc : pc.setIfInBounds i v = pc') : PSt w B Q ws pc' po ps (W.setCell ⟨Q, i, none⟩ v) := by
  subst hc
  refine ⟨blk_other h.res (by dsimp only; omega) _, blk_other h.wds (by dsimp only; omega) _, blk_set h.pos i v, ?_, h.below.setCell (by dsimp only; omega) v⟩
  rcases h.slc with h0 | ⟨b, off, rfl, hp⟩
  · exact .inl h0
  · by_cases he : ps = []
    · exact .inl he
    · exact .inr ⟨b, off, rfl, fun j p hj => (cell_far (p := ⟨Q, i, none⟩) (a := ⟨b, off + j, none⟩) (fun e => hq b off rfl he e.symm)).trans (hp j p hj)⟩
set_option maxRecDepth 100000 in
set_option maxHeartbeats 4000000 in
theorem posparse_c (hSp : SplitOK) (hR : RevOK) (hJ : JoinOK) (hCo : ContOK) (w : World) (hM : MaxAt w) (hK : KindsAt w) (hI : ItoaAt w) (hA : AtoiIs w) (hRy : Rays w)
    (hfull : w.cell? ⟨0, 0, none⟩ = some (.int .i64 8) ∧ w.cell? ⟨0, 1, none⟩ = some (.int .i64 8)) (t : ByteArray) (ht : t.size ≤ 1000) :
    Calls Tryz.prog 22 #[.string t] w fun e w' => PosIs w.heap.size t e w' ∧ Below w.heap.size w w' := by
  have hsp := fun W hW => Lib.hid (hSp t ⟨#[32]⟩ W (hM.below hW) (by omega) (by decide))
  have hmem : ∀ r ∈ splitS t ⟨#[32]⟩, r.size ≤ 1000 := fun r hr => Nat.le_trans (splitB_size _ _ _ r hr) ht
  have hlen7 := Lib.hid (fun h => posO_len (t := t) h)
  obtain ⟨S, hS⟩ : ∃ S, splitS t ⟨#[32]⟩ = S := ⟨_, rfl⟩
  rw [hS] at hsp hmem hlen7
  obtain ⟨n, hn⟩ : ∃ n, S.length = n := ⟨_, rfl⟩
  rw [hn] at hsp hlen7
  replace hS := Lib.hid hS
  have hI0 := Lib.hid hI
  replace hRy := Lib.hid hRy
  replace hfull := Lib.hid hfull
  obtain ⟨B, hBe⟩ : ∃ B, w.heap.size = B := ⟨_, rfl⟩
  go_enter Tryz.func22, Tryz.ntmps22
  go_wp2_with fail
  refine (hsp _ ((Below.refl _ _).alloc (Nat.le_refl _) _)).out.mono ?_
  rintro e V ⟨rfl, hV⟩
  simp only [World.size_alloc] at *
  have hX : V.heap[B]? = some (.cells #[.int .i64 0, .int .i64 0, .slice none 0 0, .bool false, .int .u8 0, .int .i64 0, .int .i64 0, .int .i64 0] 26 (0, 0)) := by rw [hV, ← hBe]; exact blk_alloc (blk_new rfl _) _
  have hW : V.heap[B + 1]? = some (.cells (S.map Value.string).toArray 9 (0, 0)) := by rw [hV, ← hBe]; exact blk_new (by simp) _
  have hB : Below w.heap.size w V := by rw [hV]; exact ((Below.refl _ _).alloc (Nat.le_refl _) _).alloc (by simp) _
  rw [hBe]
  replace hBe := Lib.hid hBe
  replace hX := Lib.hid hX
  replace hB := Lib.hid hB
  clear hsp hV
  by_cases h7 : n = 7
  · obtain ⟨s0, s1, s2, s3, s4, s5, s6, rfl⟩ := list7 S (hn.trans h7)
    have hz : ∀ s ∈ [s0, s1, s2, s3, s4, s5, s6], s.size ≤ 1000 := hmem
    have z1 := hz s1 (by simp)
    have z4 := hz s4 (by simp)
    have z5 := hz s5 (by simp)
    have z6 := hz s6 (by simp)
    simp only [List.map_cons, List.map_nil] at hW
    subst h7
    have x1 := cell_of hW 1 _ rfl
    replace hW := Lib.hid hW
    clear hmem hz hn hlen7
    have hbp := Lib.hid (fun W (hW : Below w.heap.size w W) => (bparse_c hSp hR hJ W (hM.below hW) (hK.below hW) s1 z1).mono fun e V h => And.intro (BoardIs.up hW.size h.1) h.2)
    go_wp2_with fail
    refine (hbp.out _ hB.out).mono ?_
    rintro e V2 ⟨hbi, hV2⟩
    have hX2 := Lib.hid (below_blk hV2 hX.out)
    have hW2 := Lib.hid (below_blk hV2 hW.out)
    have hB2 := Lib.hid (hB.out.trans (hV2.mono hB.out.size))
    clear hV2 x1 hbp hX hW hB
    unfold BoardIs at hbi
    cases hbo : boardO s1 with
    | none =>
      have hne : Hid (posO t = none) := Lib.hid (posO_board hS.out hbo)
      rw [hbo] at hbi
      dsimp only at hbi
      subst hbi
      unfold noBoard
      replace hbo := Lib.hid hbo
      have hX3 := fun o => Lib.hid (blk_alloc hX2.out o)
      have hB3 := fun o => Lib.hid (hB2.out.alloc hB2.out.size o)
      go_wp2_with (refine store_row 26 (.tmp 2) (.tmp 29) rfl rfl #[.int .i64 0, .int .i64 0, .slice none 0 0, .bool false, .int .u8 0, .int .i64 0, .int .i64 0, .int .i64 0] rfl (by rfl) _ ((hX3 _).out) rfl sizePo (onePo _ _ _ _ _ _ _ _ _ _) ?_)
      refine bodyPost_ret (results_row rfl _ _ _ #[.int .i64 0, .int .i64 0, .slice none 0 0, .bool false, .int .u8 0, .int .i64 0, .int .i64 0, .int .i64 0] _ rfl (setCells_arr ((hX3 _).out) rfl) Tryz.underlying26 rfl sizePo) rfl ⟨?_, ?_⟩
      · unfold PosIs; rw [hne.out]; rfl
      · exact setCells_below (Nat.le_of_eq hBe.out) _ _ _ (hB3 _).out
    | some x =>
      obtain ⟨f, r, ps⟩ := x
      have hpo := Lib.hid (posO_words hS.out hbo)
      have hbv := boardO_valid hbo
      rw [hbo] at hbi
      dsimp only at hbi
      obtain ⟨po, cap, rfl, hsl, hc1, hc2, hnw⟩ := hbi
      replace hnw := Lib.hid hnw
      obtain ⟨hz0, hl0, hn0⟩ := bvalid_len hbv
      obtain ⟨z1', z2', z3', z4'⟩ := vsize_bd hz0
      have hl64 : ps.length ≤ 64 := by
        have := vsize_mul hz0
        omega
      unfold bdV
      replace hbo := Lib.hid hbo
      replace hbv := Lib.hid hbv
      replace hz0 := Lib.hid hz0
      replace hl0 := Lib.hid hl0
      replace hn0 := Lib.hid hn0
      replace hsl := Lib.hid hsl
      obtain ⟨m, hm⟩ : ∃ m, ps.length = m := ⟨_, rfl⟩
      rw [hm] at hc1 hl64 ⊢
      replace hm := Lib.hid hm
      have hN3 := fun o => Lib.hid (blk_new (w := V2) rfl o)
      have hX3 := fun o => Lib.hid (blk_alloc hX2.out o)
      have hW3 := fun o => Lib.hid (blk_alloc hW2.out o)
      have hB3 := fun o => Lib.hid (hB2.out.alloc hB2.out.size o)
      have hsl3 := fun o => Lib.hid (hsl.out.below ((Below.refl _ _).alloc (Nat.le_refl _) o))
      go_wp2_with fail
      obtain ⟨G, hG⟩ : ∃ G, V2.heap.size = G := ⟨_, rfl⟩
      obtain ⟨V3, hV3⟩ : ∃ V3, V2.alloc (.cells #[.int .i64 (f : Int), .int .i64 (r : Int), .slice po m cap] 40) = V3 := ⟨_, rfl⟩
      have hN3 := hN3 (.cells #[.int .i64 (f : Int), .int .i64 (r : Int), .slice po m cap] 40)
      have hX3 := hX3 (.cells #[.int .i64 (f : Int), .int .i64 (r : Int), .slice po m cap] 40)
      have hW3 := hW3 (.cells #[.int .i64 (f : Int), .int .i64 (r : Int), .slice po m cap] 40)
      have hB3 := hB3 (.cells #[.int .i64 (f : Int), .int .i64 (r : Int), .slice po m cap] 40)
      have hsl3 := hsl3 (.cells #[.int .i64 (f : Int), .int .i64 (r : Int), .slice po m cap] 40)
      rw [hV3, hG] at hN3
      rw [hV3] at hX3 hW3 hB3 hsl3
      rw [hV3, hG]
      clear hV3 hG hX2 hW2 hB2 hsl
      have hS : Below V3.heap.size V3 V3.drew := (Below.refl _ _).drew
      refine wp_region_held (S := fun W => Below V3.heap.size V3 W) (by kernel_rfl) ?_
      refine wpAnyH_take (i := 0) (v := .pointer (some ⟨G, 0, none⟩)) rfl (by kernel_rfl) (by kernel_rfl) (by kernel_rfl) (fun _ _ _ h => h) (.inl ⟨by rfl, fun w' hh => by skip; go_simp⟩) hS ?_
      refine wpAnyH_take (i := 1) (v := .agg #[.int .i64 (f : Int), .int .i64 (r : Int)]) rfl (by kernel_rfl) (by kernel_rfl) (by kernel_rfl) (fun _ _ _ h => h) (.inl ⟨by rfl, fun w' hh => by have c0 := cell_of (below_blk hh hN3.out) 0 _ rfl; have c1 := cell_of (below_blk hh hN3.out) 1 _ rfl; clear hh; go_simp⟩) hS ?_
      refine wpAnyH_take (i := 2) (v := .pointer (some ⟨G, 2, none⟩)) rfl (by kernel_rfl) (by kernel_rfl) (by kernel_rfl) (fun _ _ _ h => h) (.inl ⟨by rfl, fun w' hh => by skip; go_simp⟩) hS ?_
      refine wpAnyH_take (i := 3) (v := .slice po m cap) rfl (by kernel_rfl) (by kernel_rfl) (by kernel_rfl) (fun _ _ _ h => h) (.inl ⟨by rfl, fun w' hh => by have c0 := cell_of (below_blk hh hN3.out) 2 _ rfl; clear hh; go_simp⟩) hS ?_
      refine wpAnyH_take (i := 4) (v := .slice (some ⟨B + 1, 0, none⟩) 7 7) rfl (by kernel_rfl) (by kernel_rfl) (by kernel_rfl) (fun _ _ _ h => h) (.inl ⟨by rfl, fun w' hh => by skip; go_simp⟩) hS ?_
      refine wpAnyH_take (i := 5) (v := .pointer (some ⟨B + 1, 2, none⟩)) rfl (by kernel_rfl) (by kernel_rfl) (by kernel_rfl) (fun _ _ _ h => h) (.inl ⟨by rfl, fun w' hh => by skip; go_simp⟩) hS ?_
      refine wpAnyH_take (i := 6) (v := .string s2) rfl (by kernel_rfl) (by kernel_rfl) (by kernel_rfl) (fun _ _ _ h => h) (.inl ⟨by rfl, fun w' hh => by have c0 := cell_of (below_blk hh hW3.out) 2 _ rfl; clear hh; go_simp⟩) hS ?_
      refine wpAnyH_take (i := 7) (v := .bool (s2.toList == [98])) rfl (by kernel_rfl) (by kernel_rfl) (by kernel_rfl) (fun _ _ _ h => h) (.inl ⟨by rfl, fun w' hh => by skip; go_simp⟩) hS ?_
      refine wpAnyH_take (i := 8) (v := .agg #[.int .i64 (f : Int), .int .i64 (r : Int), .slice po m cap, .bool (s2.toList == [98]), .int .u8 0, .int .i64 (-1), .int .i64 0, .int .i64 0]) rfl (by kernel_rfl) (by kernel_rfl) (by kernel_rfl) (fun _ _ _ h => h) (.inl ⟨by rfl, fun w' hh => by skip; go_simp⟩) hS ?_
      refine wpAnyH_only (i := 9) (by kernel_rfl) rfl (by rfl) ?_
      intro K hK
      unfold Oper.wp
      go_simp
      have HZ := Lib.hid (blk_drew (blk_new (w := V3) rfl (.cells #[.int .i64 0, .int .i64 0, .slice none 0 0, .bool false, .int .u8 0, .int .i64 0, .int .i64 0, .int .i64 0] 26)))
      have hS2 : Below V3.heap.size V3 (V3.alloc (.cells #[.int .i64 0, .int .i64 0, .slice none 0 0, .bool false, .int .u8 0, .int .i64 0, .int .i64 0, .int .i64 0] 26)).drew := ((Below.refl _ _).alloc (Nat.le_refl _) _).drew
      refine hK _ _ hS2 ?_
      have hS4 := setCells_below (g := V3.heap.size) (Nat.le_refl _) (#[.int .i64 (f : Int), .int .i64 (r : Int), .slice po m cap, .bool (s2.toList == [98]), .int .u8 0, .int .i64 (-1), .int .i64 0, .int .i64 0] : Array Value).toList 0 _ hS2
      refine wpAnyH_store (i := 10) 26 (.tmp 7) (.tmp 38) (by kernel_rfl) (by rfl) #[.int .i64 (f : Int), .int .i64 (r : Int), .slice po m cap, .bool (s2.toList == [98]), .int .u8 0, .int .i64 (-1), .int .i64 0, .int .i64 0] (by go_simp) (by go_simp) _ HZ.out rfl sizePo (onePo _ _ _ _ _ _ _ _ _ _) hS4 ?_
      refine wpAnyH_done (by kernel_rfl) ?_ _
      have hP4 := Lib.hid (setCells_arr (cs := #[.int .i64 (f : Int), .int .i64 (r : Int), .slice po m cap, .bool (s2.toList == [98]), .int .u8 0, .int .i64 (-1), .int .i64 0, .int .i64 0]) HZ.out rfl)
      obtain ⟨Q, hQ⟩ : ∃ Q, V3.heap.size = Q := ⟨_, rfl⟩
      rw [hQ] at hP4 hS4 ⊢
      obtain ⟨V4, hV4⟩ : ∃ V4, World.setCells (V3.alloc (.cells #[.int .i64 0, .int .i64 0, .slice none 0 0, .bool false, .int .u8 0, .int .i64 0, .int .i64 0, .int .i64 0] 26)).drew Q 0 (#[.int .i64 (f : Int), .int .i64 (r : Int), .slice po m cap, .bool (s2.toList == [98]), .int .u8 0, .int .i64 (-1), .int .i64 0, .int .i64 0] : Array Value).toList = V4 := ⟨_, rfl⟩
      rw [hV4] at hP4 hS4 ⊢
      have hS5 : Below V3.heap.size V3 V4 := by rw [hQ]; exact hS4
      have h1Q : B + 1 < Q := by rw [← hQ]; exact lt_of_blk hW3.out
      have hwQ : w.heap.size ≤ Q := by rw [← hQ]; exact hB3.out.size
      have hpq : Hid (∀ b off, po = some ⟨b, off, none⟩ → ps ≠ [] → b ≠ Q) := Lib.hid (fun b off e1 e2 => by
        rcases hsl3.out with h | ⟨b', off', e3, hp⟩
        · exact absurd h e2
        · rw [e1] at e3
          cases e3
          cases ps with
          | nil => exact absurd rfl e2
          | cons q l =>
            have := lt_of_cell (hp 0 q rfl)
            omega)
      have hst : Hid (PSt w B Q #[.string s0, .string s1, .string s2, .string s3, .string s4, .string s5, .string s6] #[.int .i64 (f : Int), .int .i64 (r : Int), .slice po m cap, .bool (s2.toList == [98]), .int .u8 ((castN s3 0 : Nat) : Int), .int .i64 (-1), .int .i64 0, .int .i64 0] po ps V4) :=
        Lib.hid ⟨below_blk hS5 hX3.out, below_blk hS5 hW3.out, hP4.out, hsl3.out.below hS5, hB3.out.trans (hS5.mono hB3.out.size)⟩
      clear hV4 hS5 hS4 hS2 hS hP4 HZ hX3 hW3 hB3 hsl3 hN3 hK hQ
      obtain ⟨bk, hbk⟩ : ∃ bk, (s2.toList == [98]) = bk := ⟨_, rfl⟩
      rw [hbk] at hst ⊢
      replace hbk := Lib.hid hbk
      have hrg := fun W => Lib.hid (rights_c W)
      unfold rightsV rightsC at hrg
      go_simp
      go_wp2_with fail
      refine (hrg _).out.mono ?_
      rintro e V5 ⟨rfl, hV5⟩
      have hst5 := Lib.hid (hst.out.below' hV5)
      clear hV5 hst hrg
      go_wp2_with fail
      have hcn := Lib.hid (castN_next s3)
      have hcle := castN_le s3
      go_loopw [40] (fun i wr => ∃ k : Nat, k ≤ 4 ∧ i = .int .i64 k ∧ PSt w B Q #[.string s0, .string s1, .string s2, .string s3, .string s4, .string s5, .string s6] #[.int .i64 (f : Int), .int .i64 (r : Int), .slice po m cap, .bool bk, .int .u8 ((castN s3 k : Nat) : Int), .int .i64 (-1), .int .i64 0, .int .i64 0] po ps wr) (fun i _ => 4 - (intOf i).toNat)
      case atStart => exact ⟨0, by omega, rfl, hst5.out⟩
      case round =>
        obtain ⟨k, hk, rfl, hI⟩ := hrel
        clear hst5
        rcases (by omega : k = 0 ∨ k = 1 ∨ k = 2 ∨ k = 3 ∨ k = 4) with rfl | rfl | rfl | rfl | rfl
        · have hidx := idx0
          unfold rightsC at hidx
          have hnf : hasL s3 75 = false → castN s3 (0 + 1) = castN s3 0 := hcn.out.2.1
          have hnt : hasL s3 75 = true → bits .or .u8 ((castN s3 0 : Nat) : Int) 1 = ((castN s3 (0 + 1) : Nat) : Int) := hcn.out.2.2.1
          have hc0 := hcle 0
          obtain ⟨c0, hc0e⟩ : ∃ c0, castN s3 0 = c0 := ⟨_, rfl⟩
          obtain ⟨c1, hc1e⟩ : ∃ c1, castN s3 (0 + 1) = c1 := ⟨_, rfl⟩
          rw [hc0e, hc1e] at hnf hnt
          rw [hc0e] at hI hc0
          replace hc0e := Lib.hid hc0e
          replace hc1e := Lib.hid hc1e
          have hlt := lt_of_blk hI.wds
          replace hI := Lib.hid hI
          replace hnf := Lib.hid hnf
          replace hnt := Lib.hid hnt
          go_wp2_with fail
          clear hidx
          obtain ⟨G2, hG2⟩ : ∃ G2, wr.heap.size = G2 := ⟨_, rfl⟩
          obtain ⟨W2, hW2⟩ : ∃ W2, wr.alloc (.cells #[.int .u8 1, .string { data := #[75] }, .bool false, .int .i64 4, .int .i64 7] 91) = W2 := ⟨_, rfl⟩
          have hN : W2.heap[G2]? = some (.cells #[.int .u8 1, .string { data := #[75] }, .bool false, .int .i64 4, .int .i64 7] 91 (0, 0)) := by rw [← hW2]; exact blk_new hG2.symm _
          have hI2 := hI.out.below' ((Below.refl _ _).alloc (Nat.le_refl _) (.cells #[.int .u8 1, .string { data := #[75] }, .bool false, .int .i64 4, .int .i64 7] 91))
          rw [hW2] at hI2 ⊢
          rw [hG2]
          have hQG : Q ≠ G2 := by rw [← hG2]; exact Nat.ne_of_lt (lt_of_blk hI.out.pos)
          replace hW2 := Lib.hid hW2
          replace hG2 := Lib.hid hG2
          have x3 := fun x : Ext W2.heap.size W2 => cell_of (below_blk x.2 hI2.wds) 3 _ rfl
          have z1 := fun x : Ext W2.heap.size W2 => cell_of (below_blk x.2 hN) 1 _ rfl
          have hct := fun W => Lib.hid (hCo s3 75 W)
          replace hN := Lib.hid hN
          replace hI2 := Lib.hid hI2
          replace hI := Lib.hid True.intro
          refine ext_region (by kernel_rfl) (by kernel_rfl) ?_
          repeat (first | (go_big_quiet_step ((go_at_call 81; exact Pure.ext (Nat.le_refl _) (Hid.out (hct _))))) | ((refine wpQuiet_step (fun K hK => ?_)); go_simp; (refine ⟨_, fun _ => rfl, hK _ ?_⟩); clear hK K))
          refine wpQuiet_nil ?_
          rintro V6 ⟨x, hx⟩
          have hI6 := hx ▸ hI2.out.below' x.2
          have hN6 := hx ▸ below_blk x.2 hN.out
          clear hx x x3 z1 hct hI2 hN
          cases hb : hasL s3 75
          · have e01 := Lib.hid (hnf.out hb)
            replace hb := Lib.hid hb
            replace hI6 := Lib.hid hI6
            clear hN6 hnt hnf
            go_wp2_with fail
            go_roundw
            case rel => exact ⟨0 + 1, by omega, by simp, by rw [hc1e.out, e01.out]; exact hI6.out⟩
            case measure => simp [intOf]
          · have e01 := hnt.out hb
            replace hb := Lib.hid hb
            have q4 := cell_of hI6.pos 4 _ rfl
            have qf := free_of hI6.pos 4
            have z0 := cell_of hN6 0 _ rfl
            replace hI6 := Lib.hid hI6
            clear hN6 hnt hnf
            go_wp2_with fail
            go_roundw
            case rel => exact ⟨0 + 1, by omega, by simp, by rw [hc1e.out]; exact hI6.out.set h1Q hwQ hpq.out 4 _ (by simp)⟩
            case measure => simp [intOf]
        · have hidx := idx1
          unfold rightsC at hidx
          have hnf : hasL s3 81 = false → castN s3 (1 + 1) = castN s3 1 := hcn.out.2.2.2.1
          have hnt : hasL s3 81 = true → bits .or .u8 ((castN s3 1 : Nat) : Int) 2 = ((castN s3 (1 + 1) : Nat) : Int) := hcn.out.2.2.2.2.1
          have hc0 := hcle 1
          obtain ⟨c0, hc0e⟩ : ∃ c0, castN s3 1 = c0 := ⟨_, rfl⟩
          obtain ⟨c1, hc1e⟩ : ∃ c1, castN s3 (1 + 1) = c1 := ⟨_, rfl⟩
          rw [hc0e, hc1e] at hnf hnt
          rw [hc0e] at hI hc0
          replace hc0e := Lib.hid hc0e
          replace hc1e := Lib.hid hc1e
          have hlt := lt_of_blk hI.wds
          replace hI := Lib.hid hI
          replace hnf := Lib.hid hnf
          replace hnt := Lib.hid hnt
          go_wp2_with fail
          clear hidx
          obtain ⟨G2, hG2⟩ : ∃ G2, wr.heap.size = G2 := ⟨_, rfl⟩
          obtain ⟨W2, hW2⟩ : ∃ W2, wr.alloc (.cells #[.int .u8 2, .string { data := #[81] }, .bool false, .int .i64 4, .int .i64 0] 91) = W2 := ⟨_, rfl⟩
          have hN : W2.heap[G2]? = some (.cells #[.int .u8 2, .string { data := #[81] }, .bool false, .int .i64 4, .int .i64 0] 91 (0, 0)) := by rw [← hW2]; exact blk_new hG2.symm _
          have hI2 := hI.out.below' ((Below.refl _ _).alloc (Nat.le_refl _) (.cells #[.int .u8 2, .string { data := #[81] }, .bool false, .int .i64 4, .int .i64 0] 91))
          rw [hW2] at hI2 ⊢
          rw [hG2]
          have hQG : Q ≠ G2 := by rw [← hG2]; exact Nat.ne_of_lt (lt_of_blk hI.out.pos)
          replace hW2 := Lib.hid hW2
          replace hG2 := Lib.hid hG2
          have x3 := fun x : Ext W2.heap.size W2 => cell_of (below_blk x.2 hI2.wds) 3 _ rfl
          have z1 := fun x : Ext W2.heap.size W2 => cell_of (below_blk x.2 hN) 1 _ rfl
          have hct := fun W => Lib.hid (hCo s3 81 W)
          replace hN := Lib.hid hN
          replace hI2 := Lib.hid hI2
          replace hI := Lib.hid True.intro
          refine ext_region (by kernel_rfl) (by kernel_rfl) ?_
          repeat (first | (go_big_quiet_step ((go_at_call 81; exact Pure.ext (Nat.le_refl _) (Hid.out (hct _))))) | ((refine wpQuiet_step (fun K hK => ?_)); go_simp; (refine ⟨_, fun _ => rfl, hK _ ?_⟩); clear hK K))
          refine wpQuiet_nil ?_
          rintro V6 ⟨x, hx⟩
          have hI6 := hx ▸ hI2.out.below' x.2
          have hN6 := hx ▸ below_blk x.2 hN.out
          clear hx x x3 z1 hct hI2 hN
          cases hb : hasL s3 81
          · have e01 := Lib.hid (hnf.out hb)
            replace hb := Lib.hid hb
            replace hI6 := Lib.hid hI6
            clear hN6 hnt hnf
            go_wp2_with fail
            go_roundw
            case rel => exact ⟨1 + 1, by omega, by simp, by rw [hc1e.out, e01.out]; exact hI6.out⟩
            case measure => simp [intOf]
          · have e01 := hnt.out hb
            replace hb := Lib.hid hb
            have q4 := cell_of hI6.pos 4 _ rfl
            have qf := free_of hI6.pos 4
            have z0 := cell_of hN6 0 _ rfl
            replace hI6 := Lib.hid hI6
            clear hN6 hnt hnf
            go_wp2_with fail
            go_roundw
            case rel => exact ⟨1 + 1, by omega, by simp, by rw [hc1e.out]; exact hI6.out.set h1Q hwQ hpq.out 4 _ (by simp)⟩
            case measure => simp [intOf]
        · have hidx := idx2
          unfold rightsC at hidx
          have hnf : hasL s3 107 = false → castN s3 (2 + 1) = castN s3 2 := hcn.out.2.2.2.2.2.1
          have hnt : hasL s3 107 = true → bits .or .u8 ((castN s3 2 : Nat) : Int) 4 = ((castN s3 (2 + 1) : Nat) : Int) := hcn.out.2.2.2.2.2.2.1
          have hc0 := hcle 2
          obtain ⟨c0, hc0e⟩ : ∃ c0, castN s3 2 = c0 := ⟨_, rfl⟩
          obtain ⟨c1, hc1e⟩ : ∃ c1, castN s3 (2 + 1) = c1 := ⟨_, rfl⟩
          rw [hc0e, hc1e] at hnf hnt
          rw [hc0e] at hI hc0
          replace hc0e := Lib.hid hc0e
          replace hc1e := Lib.hid hc1e
          have hlt := lt_of_blk hI.wds
          replace hI := Lib.hid hI
          replace hnf := Lib.hid hnf
          replace hnt := Lib.hid hnt
          go_wp2_with fail
          clear hidx
          obtain ⟨G2, hG2⟩ : ∃ G2, wr.heap.size = G2 := ⟨_, rfl⟩
          obtain ⟨W2, hW2⟩ : ∃ W2, wr.alloc (.cells #[.int .u8 4, .string { data := #[107] }, .bool true, .int .i64 60, .int .i64 63] 91) = W2 := ⟨_, rfl⟩
          have hN : W2.heap[G2]? = some (.cells #[.int .u8 4, .string { data := #[107] }, .bool true, .int .i64 60, .int .i64 63] 91 (0, 0)) := by rw [← hW2]; exact blk_new hG2.symm _
          have hI2 := hI.out.below' ((Below.refl _ _).alloc (Nat.le_refl _) (.cells #[.int .u8 4, .string { data := #[107] }, .bool true, .int .i64 60, .int .i64 63] 91))
          rw [hW2] at hI2 ⊢
          rw [hG2]
          have hQG : Q ≠ G2 := by rw [← hG2]; exact Nat.ne_of_lt (lt_of_blk hI.out.pos)
          replace hW2 := Lib.hid hW2
          replace hG2 := Lib.hid hG2
          have x3 := fun x : Ext W2.heap.size W2 => cell_of (below_blk x.2 hI2.wds) 3 _ rfl
          have z1 := fun x : Ext W2.heap.size W2 => cell_of (below_blk x.2 hN) 1 _ rfl
          have hct := fun W => Lib.hid (hCo s3 107 W)
          replace hN := Lib.hid hN
          replace hI2 := Lib.hid hI2
          replace hI := Lib.hid True.intro
          refine ext_region (by kernel_rfl) (by kernel_rfl) ?_
          repeat (first | (go_big_quiet_step ((go_at_call 81; exact Pure.ext (Nat.le_refl _) (Hid.out (hct _))))) | ((refine wpQuiet_step (fun K hK => ?_)); go_simp; (refine ⟨_, fun _ => rfl, hK _ ?_⟩); clear hK K))
          refine wpQuiet_nil ?_
          rintro V6 ⟨x, hx⟩
          have hI6 := hx ▸ hI2.out.below' x.2
          have hN6 := hx ▸ below_blk x.2 hN.out
          clear hx x x3 z1 hct hI2 hN
          cases hb : hasL s3 107
          · have e01 := Lib.hid (hnf.out hb)
            replace hb := Lib.hid hb
            replace hI6 := Lib.hid hI6
            clear hN6 hnt hnf
            go_wp2_with fail
            go_roundw
            case rel => exact ⟨2 + 1, by omega, by simp, by rw [hc1e.out, e01.out]; exact hI6.out⟩
            case measure => simp [intOf]
          · have e01 := hnt.out hb
            replace hb := Lib.hid hb
            have q4 := cell_of hI6.pos 4 _ rfl
            have qf := free_of hI6.pos 4
            have z0 := cell_of hN6 0 _ rfl
            replace hI6 := Lib.hid hI6
            clear hN6 hnt hnf
            go_wp2_with fail
            go_roundw
            case rel => exact ⟨2 + 1, by omega, by simp, by rw [hc1e.out]; exact hI6.out.set h1Q hwQ hpq.out 4 _ (by simp)⟩
            case measure => simp [intOf]
        · have hidx := idx3
          unfold rightsC at hidx
          have hnf : hasL s3 113 = false → castN s3 (3 + 1) = castN s3 3 := hcn.out.2.2.2.2.2.2.2.1
          have hnt : hasL s3 113 = true → bits .or .u8 ((castN s3 3 : Nat) : Int) 8 = ((castN s3 (3 + 1) : Nat) : Int) := hcn.out.2.2.2.2.2.2.2.2
          have hc0 := hcle 3
          obtain ⟨c0, hc0e⟩ : ∃ c0, castN s3 3 = c0 := ⟨_, rfl⟩
          obtain ⟨c1, hc1e⟩ : ∃ c1, castN s3 (3 + 1) = c1 := ⟨_, rfl⟩
          rw [hc0e, hc1e] at hnf hnt
          rw [hc0e] at hI hc0
          replace hc0e := Lib.hid hc0e
          replace hc1e := Lib.hid hc1e
          have hlt := lt_of_blk hI.wds
          replace hI := Lib.hid hI
          replace hnf := Lib.hid hnf
          replace hnt := Lib.hid hnt
          go_wp2_with fail
          clear hidx
          obtain ⟨G2, hG2⟩ : ∃ G2, wr.heap.size = G2 := ⟨_, rfl⟩
          obtain ⟨W2, hW2⟩ : ∃ W2, wr.alloc (.cells #[.int .u8 8, .string { data := #[113] }, .bool true, .int .i64 60, .int .i64 56] 91) = W2 := ⟨_, rfl⟩
          have hN : W2.heap[G2]? = some (.cells #[.int .u8 8, .string { data := #[113] }, .bool true, .int .i64 60, .int .i64 56] 91 (0, 0)) := by rw [← hW2]; exact blk_new hG2.symm _
          have hI2 := hI.out.below' ((Below.refl _ _).alloc (Nat.le_refl _) (.cells #[.int .u8 8, .string { data := #[113] }, .bool true, .int .i64 60, .int .i64 56] 91))
          rw [hW2] at hI2 ⊢
          rw [hG2]
          have hQG : Q ≠ G2 := by rw [← hG2]; exact Nat.ne_of_lt (lt_of_blk hI.out.pos)
          replace hW2 := Lib.hid hW2
          replace hG2 := Lib.hid hG2
          have x3 := fun x : Ext W2.heap.size W2 => cell_of (below_blk x.2 hI2.wds) 3 _ rfl
          have z1 := fun x : Ext W2.heap.size W2 => cell_of (below_blk x.2 hN) 1 _ rfl
          have hct := fun W => Lib.hid (hCo s3 113 W)
          replace hN := Lib.hid hN
          replace hI2 := Lib.hid hI2
          replace hI := Lib.hid True.intro
          refine ext_region (by kernel_rfl) (by kernel_rfl) ?_
          repeat (first | (go_big_quiet_step ((go_at_call 81; exact Pure.ext (Nat.le_refl _) (Hid.out (hct _))))) | ((refine wpQuiet_step (fun K hK => ?_)); go_simp; (refine ⟨_, fun _ => rfl, hK _ ?_⟩); clear hK K))
          refine wpQuiet_nil ?_
          rintro V6 ⟨x, hx⟩
          have hI6 := hx ▸ hI2.out.below' x.2
          have hN6 := hx ▸ below_blk x.2 hN.out
          clear hx x x3 z1 hct hI2 hN
          cases hb : hasL s3 113
          · have e01 := Lib.hid (hnf.out hb)
            replace hb := Lib.hid hb
            replace hI6 := Lib.hid hI6
            clear hN6 hnt hnf
            go_wp2_with fail
            go_roundw
            case rel => exact ⟨3 + 1, by omega, by simp, by rw [hc1e.out, e01.out]; exact hI6.out⟩
            case measure => simp [intOf]
          · have e01 := hnt.out hb
            replace hb := Lib.hid hb
            have q4 := cell_of hI6.pos 4 _ rfl
            have qf := free_of hI6.pos 4
            have z0 := cell_of hN6 0 _ rfl
            replace hI6 := Lib.hid hI6
            clear hN6 hnt hnf
            go_wp2_with fail
            go_roundw
            case rel => exact ⟨3 + 1, by omega, by simp, by rw [hc1e.out]; exact hI6.out.set h1Q hwQ hpq.out 4 _ (by simp)⟩
            case measure => simp [intOf]
        · have hc4 := hcle 4
          obtain ⟨c4, hc4e⟩ : ∃ c4, castN s3 4 = c4 := ⟨_, rfl⟩
          rw [hc4e] at hI hc4
          have hsqp := fun W => Lib.hid (sqparse_c W (f : Int) (r : Int) s4 hz0.out)
          unfold sqV at hsqp
          obtain ⟨h5, hh5⟩ : ∃ h5, atoiI s5 = h5 := ⟨_, rfl⟩
          obtain ⟨u6, hu6⟩ : ∃ u6, atoiI s6 = u6 := ⟨_, rfl⟩
          have x4 := fun x : Ext wr.heap.size wr => cell_of (below_blk x.2 hI.wds) 4 _ rfl
          have y0 := fun x : Ext wr.heap.size wr => cell_of (below_blk x.2 hI.pos) 0 _ rfl
          have y1 := fun x : Ext wr.heap.size wr => cell_of (below_blk x.2 hI.pos) 1 _ rfl
          replace hI := Lib.hid hI
          clear hcle hcn
          cases hsq : sqO (f : Int) (r : Int) s4 with
          | none =>
            simp only [hsq] at hsqp
            have hPW : Hid (posW f r ps s2 s3 s4 s5 s6 = ⟨f, r, ps, bk, c4, -1, h5, u6⟩) := Lib.hid (by unfold posW; rw [hsq, hbk.out, hc4e, hh5, hu6])
            replace hsq := Lib.hid hsq
            replace hc4e := Lib.hid hc4e
            replace hh5 := Lib.hid hh5
            replace hu6 := Lib.hid hu6
            go_wp2_with fail
            refine ext_region (by kernel_rfl) (by kernel_rfl) ?_
            repeat (first | (go_big_quiet_step ((go_at_call 82; exact Pure.ext (Nat.le_refl _) (Hid.out (hsqp _))))) | ((refine wpQuiet_step (fun K hK => ?_)); go_simp; (refine ⟨_, fun _ => rfl, hK _ ?_⟩); clear hK K))
            refine wpQuiet_nil ?_
            rintro V6 ⟨x, hx⟩
            have hI6 := hx ▸ hI.out.below' x.2
            clear hx x
            clear y0 y1 x4 hsqp hI
            have x5 := cell_of hI6.wds 5 _ rfl
            have hI7 := Lib.hid hI6
            replace hI6 := Lib.hid hI6
            go_wp2_with fail
            clear x5 hI6
            have hat := hA _ s5 hI7.out.below (by omega)
            rw [hh5.out] at hat
            refine hat.mono ?_
            rintro e V8 ⟨⟨ev, rfl⟩, hV8⟩
            have hI8 := hI7.out.below' hV8
            have q6 := cell_of hI8.pos 6 _ rfl
            have qf := free_of hI8.pos 6
            have x6 := cell_of hI8.wds 6 _ rfl
            have hI9 := Lib.hid (hI8.set h1Q hwQ hpq.out 6 (.int .i64 h5) rfl)
            replace hI8 := Lib.hid hI8
            clear hV8 hat hI7
            go_wp2_with fail
            clear q6 qf x6 hI8
            have hat := hA _ s6 hI9.out.below (by omega)
            rw [hu6.out] at hat
            refine hat.mono ?_
            rintro e V10 ⟨⟨ev2, rfl⟩, hV10⟩
            have hI10 := hI9.out.below' hV10
            have y0 := cell_of hI10.pos 0 _ rfl
            have y1 := cell_of hI10.pos 1 _ rfl
            have y2 := cell_of hI10.pos 2 _ rfl
            have y3 := cell_of hI10.pos 3 _ rfl
            have y4 := cell_of hI10.pos 4 _ rfl
            have y5 := cell_of hI10.pos 5 _ rfl
            have y6 := cell_of hI10.pos 6 _ rfl
            have y7 := cell_of hI10.pos 7 _ rfl
            have qf := free_of hI10.pos 7
            have hI11 : Hid (PSt w B Q #[.string s0, .string s1, .string s2, .string s3, .string s4, .string s5, .string s6] #[.int .i64 (f : Int), .int .i64 (r : Int), .slice po m cap, .bool bk, .int .u8 (c4 : Int), .int .i64 (-1), .int .i64 h5, .int .i64 u6] po ps (V10.setCell ⟨Q, 7, none⟩ (.int .i64 u6))) := Lib.hid (hI10.set h1Q hwQ hpq.out 7 (.int .i64 u6) rfl)
            replace hI10 := Lib.hid hI10
            clear hV10 hat hI9
            obtain ⟨P, hPe⟩ : ∃ P, posW f r ps s2 s3 s4 s5 s6 = P := ⟨_, rfl⟩
            rw [hPe] at hpo hPW
            replace hPe := Lib.hid hPe
            have hcl : P.cells po cap = #[.int .i64 (f : Int), .int .i64 (r : Int), .slice po m cap, .bool bk, .int .u8 (c4 : Int), .int .i64 (-1), .int .i64 h5, .int .i64 u6] := by rw [hPW.out, ← hm.out]; rfl
            have hPA : Hid (∀ W, SlcAt W po ps → Below w.heap.size w W → PosAt W P po cap) := Lib.hid (fun W h1 h2 => by
              rw [hPW.out]
              refine ⟨h1, ?_, ?_, hc2, ?_, hRy.out.below h2⟩
              · show ps.length ≤ 100
                have := hm.out
                omega
              · show ps.length ≤ cap
                rw [hm.out]
                exact hc1
              · exact ⟨by show 0 ≤ (c4 : Int); omega, by show (c4 : Int) ≤ 255; omega⟩)
            have hpt := ptext_c hR hJ _ (hK.below hI11.out.below) (hI0.out.below hI11.out.below) P po cap (hPA.out _ hI11.out.slc hI11.out.below) ⟨below_at hI11.out.below hfull.out.1, below_at hI11.out.below hfull.out.2⟩
            rw [hcl] at hpt
            unfold Pos.textV at hpt
            replace hcl := Lib.hid hcl
            have hnB : Hid (∀ b off, po = some ⟨b, off, none⟩ → ps ≠ [] → b ≠ B) := Lib.hid (fun b off e1 e2 e3 => by
              rcases hI11.out.slc with h | ⟨b', off', e4, hp⟩
              · exact e2 h
              · rw [e1] at e4
                cases e4
                cases ps with
                | nil => exact e2 rfl
                | cons q l => exact notB hI11.out.res (e3 ▸ hp 0 q rfl))
            cases hv : P.valid
            · rw [hv] at hpt hpo
              simp only [Bool.false_eq_true, if_false, Bool.false_and] at hpt hpo
              replace hpt := Lib.hid hpt
              replace hv := Lib.hid hv
              go_wp2_with fail
              refine hpt.out.mono ?_
              rintro e V12 ⟨rfl, hV12⟩
              have hI12 := Lib.hid (hI11.out.below' hV12)
              clear y0 y1 y2 y3 y4 y5 y6 y7 qf hV12 hI11 hI10
              go_wp2_with (refine store_row 26 (.tmp 2) (.tmp 97) rfl rfl #[.int .i64 0, .int .i64 0, .slice none 0 0, .bool false, .int .u8 0, .int .i64 0, .int .i64 0, .int .i64 0] rfl (by rfl) _ (hI12.out.res) rfl sizePo (onePo _ _ _ _ _ _ _ _ _ _) ?_)
              refine bodyPost_ret (results_row rfl _ _ _ #[.int .i64 0, .int .i64 0, .slice none 0 0, .bool false, .int .u8 0, .int .i64 0, .int .i64 0, .int .i64 0] _ rfl (setCells_arr (hI12.out.res) rfl) Tryz.underlying26 rfl sizePo) rfl ⟨?_, ?_⟩
              · unfold PosIs; rw [hpo.out]; rfl
              · exact setCells_below (Nat.le_of_eq hBe.out) _ _ _ hI12.out.below
            · rw [hv] at hpt hpo
              simp only [if_true, Bool.true_and] at hpt hpo
              replace hv := Lib.hid hv
              cases heq : (P.text == t)
              · rw [heq] at hpo
                simp only [Bool.false_eq_true, if_false] at hpo
                obtain ⟨T, hT⟩ : ∃ T, P.text = T := ⟨_, rfl⟩
                rw [hT] at heq hpt
                have hs2 : (T.toList == t.toList) = false := by
                  cases h : (T.toList == t.toList)
                  · rfl
                  · rw [← beq_toListBytes, heq] at h
                    cases h
                replace hT := Lib.hid hT
                replace heq := Lib.hid heq
                replace hpt := Lib.hid hpt
                go_wp2_with fail
                refine hpt.out.mono ?_
                rintro e V12 ⟨rfl, hV12⟩
                have hI12 := Lib.hid (hI11.out.below' hV12)
                clear y0 y1 y2 y3 y4 y5 y6 y7 qf hV12 hI11 hI10
                go_wp2_with (refine store_row 26 (.tmp 2) (.tmp 97) rfl rfl #[.int .i64 0, .int .i64 0, .slice none 0 0, .bool false, .int .u8 0, .int .i64 0, .int .i64 0, .int .i64 0] rfl (by rfl) _ (hI12.out.res) rfl sizePo (onePo _ _ _ _ _ _ _ _ _ _) ?_)
                refine bodyPost_ret (results_row rfl _ _ _ #[.int .i64 0, .int .i64 0, .slice none 0 0, .bool false, .int .u8 0, .int .i64 0, .int .i64 0, .int .i64 0] _ rfl (setCells_arr (hI12.out.res) rfl) Tryz.underlying26 rfl sizePo) rfl ⟨?_, ?_⟩
                · unfold PosIs; rw [hpo.out]; rfl
                · exact setCells_below (Nat.le_of_eq hBe.out) _ _ _ hI12.out.below
              · rw [heq] at hpo
                simp only [if_true] at hpo
                rw [ba_beq.1 heq] at hpt
                replace heq := Lib.hid heq
                replace hpt := Lib.hid hpt
                go_wp2_with fail
                refine hpt.out.mono ?_
                rintro e V12 ⟨rfl, hV12⟩
                have hI12 := hI11.out.below' hV12
                clear y0 y1 y2 y3 y4 y5 y6 y7 qf hV12 hI11 hI10
                have y0 := cell_of hI12.pos 0 _ rfl
                have y1 := cell_of hI12.pos 1 _ rfl
                have y2 := cell_of hI12.pos 2 _ rfl
                have y3 := cell_of hI12.pos 3 _ rfl
                have y4 := cell_of hI12.pos 4 _ rfl
                have y5 := cell_of hI12.pos 5 _ rfl
                have y6 := cell_of hI12.pos 6 _ rfl
                have y7 := cell_of hI12.pos 7 _ rfl
                replace hI12 := Lib.hid hI12
                go_wp2_with (refine store_row 26 (.tmp 2) (.tmp 98) rfl rfl #[.int .i64 (f : Int), .int .i64 (r : Int), .slice po m cap, .bool bk, .int .u8 (c4 : Int), .int .i64 (-1), .int .i64 h5, .int .i64 u6] rfl (by rfl) _ hI12.out.res rfl sizePo (onePo _ _ _ _ _ _ _ _ _ _) ?_)
                refine bodyPost_ret (results_row rfl _ _ _ #[.int .i64 (f : Int), .int .i64 (r : Int), .slice po m cap, .bool bk, .int .u8 (c4 : Int), .int .i64 (-1), .int .i64 h5, .int .i64 u6] _ rfl (setCells_arr hI12.out.res rfl) Tryz.underlying26 rfl sizePo) rfl ⟨?_, ?_⟩
                · unfold PosIs
                  rw [hpo.out]
                  refine ⟨po, cap, by rw [hcl.out]; rfl, hPA.out _ ?_ (setCells_below (Nat.le_of_eq hBe.out) _ _ _ hI12.out.below), fun a ha => by have h1 := hnw.out a ha; have h2 := hBe.out; omega⟩
                  rcases hI12.out.slc with h | ⟨b, off, e1, hp⟩
                  · exact .inl h
                  · by_cases he : ps = []
                    · exact .inl he
                    · exact .inr ⟨b, off, e1, fun i p hip => (World.cell?_of_block (setCells_other (hnB.out b off e1 he) _ _ _)).trans (hp i p hip)⟩
                · exact setCells_below (Nat.le_of_eq hBe.out) _ _ _ hI12.out.below
          | some a =>
            simp only [hsq] at hsqp
            have hPW : Hid (posW f r ps s2 s3 s4 s5 s6 = ⟨f, r, ps, bk, c4, a, h5, u6⟩) := Lib.hid (by unfold posW; rw [hsq, hbk.out, hc4e, hh5, hu6])
            replace hsq := Lib.hid hsq
            replace hc4e := Lib.hid hc4e
            replace hh5 := Lib.hid hh5
            replace hu6 := Lib.hid hu6
            go_wp2_with fail
            refine ext_region (by kernel_rfl) (by kernel_rfl) ?_
            repeat (first | (go_big_quiet_step ((go_at_call 82; exact Pure.ext (Nat.le_refl _) (Hid.out (hsqp _))))) | ((refine wpQuiet_step (fun K hK => ?_)); go_simp; (refine ⟨_, fun _ => rfl, hK _ ?_⟩); clear hK K))
            refine wpQuiet_nil ?_
            rintro V6 ⟨x, hx⟩
            have hI6 := hx ▸ hI.out.below' x.2
            clear hx x
            clear y0 y1 x4 hsqp hI
            have q5 := cell_of hI6.pos 5 _ rfl
            have qf := free_of hI6.pos 5
            have x5 := cell_of hI6.wds 5 _ rfl
            have hI7 := Lib.hid (hI6.set h1Q hwQ hpq.out 5 (.int .i64 a) rfl)
            replace hI6 := Lib.hid hI6
            go_wp2_with fail
            clear x5 q5 qf hI6
            have hat := hA _ s5 hI7.out.below (by omega)
            rw [hh5.out] at hat
            refine hat.mono ?_
            rintro e V8 ⟨⟨ev, rfl⟩, hV8⟩
            have hI8 := hI7.out.below' hV8
            have q6 := cell_of hI8.pos 6 _ rfl
            have qf := free_of hI8.pos 6
            have x6 := cell_of hI8.wds 6 _ rfl
            have hI9 := Lib.hid (hI8.set h1Q hwQ hpq.out 6 (.int .i64 h5) rfl)
            replace hI8 := Lib.hid hI8
            clear hV8 hat hI7
            go_wp2_with fail
            clear q6 qf x6 hI8
            have hat := hA _ s6 hI9.out.below (by omega)
            rw [hu6.out] at hat
            refine hat.mono ?_
            rintro e V10 ⟨⟨ev2, rfl⟩, hV10⟩
            have hI10 := hI9.out.below' hV10
            have y0 := cell_of hI10.pos 0 _ rfl
            have y1 := cell_of hI10.pos 1 _ rfl
            have y2 := cell_of hI10.pos 2 _ rfl
            have y3 := cell_of hI10.pos 3 _ rfl
            have y4 := cell_of hI10.pos 4 _ rfl
            have y5 := cell_of hI10.pos 5 _ rfl
            have y6 := cell_of hI10.pos 6 _ rfl
            have y7 := cell_of hI10.pos 7 _ rfl
            have qf := free_of hI10.pos 7
            have hI11 : Hid (PSt w B Q #[.string s0, .string s1, .string s2, .string s3, .string s4, .string s5, .string s6] #[.int .i64 (f : Int), .int .i64 (r : Int), .slice po m cap, .bool bk, .int .u8 (c4 : Int), .int .i64 a, .int .i64 h5, .int .i64 u6] po ps (V10.setCell ⟨Q, 7, none⟩ (.int .i64 u6))) := Lib.hid (hI10.set h1Q hwQ hpq.out 7 (.int .i64 u6) rfl)
            replace hI10 := Lib.hid hI10
            clear hV10 hat hI9
            obtain ⟨P, hPe⟩ : ∃ P, posW f r ps s2 s3 s4 s5 s6 = P := ⟨_, rfl⟩
            rw [hPe] at hpo hPW
            replace hPe := Lib.hid hPe
            have hcl : P.cells po cap = #[.int .i64 (f : Int), .int .i64 (r : Int), .slice po m cap, .bool bk, .int .u8 (c4 : Int), .int .i64 a, .int .i64 h5, .int .i64 u6] := by rw [hPW.out, ← hm.out]; rfl
            have hPA : Hid (∀ W, SlcAt W po ps → Below w.heap.size w W → PosAt W P po cap) := Lib.hid (fun W h1 h2 => by
              rw [hPW.out]
              refine ⟨h1, ?_, ?_, hc2, ?_, hRy.out.below h2⟩
              · show ps.length ≤ 100
                have := hm.out
                omega
              · show ps.length ≤ cap
                rw [hm.out]
                exact hc1
              · exact ⟨by show 0 ≤ (c4 : Int); omega, by show (c4 : Int) ≤ 255; omega⟩)
            have hpt := ptext_c hR hJ _ (hK.below hI11.out.below) (hI0.out.below hI11.out.below) P po cap (hPA.out _ hI11.out.slc hI11.out.below) ⟨below_at hI11.out.below hfull.out.1, below_at hI11.out.below hfull.out.2⟩
            rw [hcl] at hpt
            unfold Pos.textV at hpt
            replace hcl := Lib.hid hcl
            have hnB : Hid (∀ b off, po = some ⟨b, off, none⟩ → ps ≠ [] → b ≠ B) := Lib.hid (fun b off e1 e2 e3 => by
              rcases hI11.out.slc with h | ⟨b', off', e4, hp⟩
              · exact e2 h
              · rw [e1] at e4
                cases e4
                cases ps with
                | nil => exact e2 rfl
                | cons q l => exact notB hI11.out.res (e3 ▸ hp 0 q rfl))
            cases hv : P.valid
            · rw [hv] at hpt hpo
              simp only [Bool.false_eq_true, if_false, Bool.false_and] at hpt hpo
              replace hpt := Lib.hid hpt
              replace hv := Lib.hid hv
              go_wp2_with fail
              refine hpt.out.mono ?_
              rintro e V12 ⟨rfl, hV12⟩
              have hI12 := Lib.hid (hI11.out.below' hV12)
              clear y0 y1 y2 y3 y4 y5 y6 y7 qf hV12 hI11 hI10
              go_wp2_with (refine store_row 26 (.tmp 2) (.tmp 97) rfl rfl #[.int .i64 0, .int .i64 0, .slice none 0 0, .bool false, .int .u8 0, .int .i64 0, .int .i64 0, .int .i64 0] rfl (by rfl) _ (hI12.out.res) rfl sizePo (onePo _ _ _ _ _ _ _ _ _ _) ?_)
              refine bodyPost_ret (results_row rfl _ _ _ #[.int .i64 0, .int .i64 0, .slice none 0 0, .bool false, .int .u8 0, .int .i64 0, .int .i64 0, .int .i64 0] _ rfl (setCells_arr (hI12.out.res) rfl) Tryz.underlying26 rfl sizePo) rfl ⟨?_, ?_⟩
              · unfold PosIs; rw [hpo.out]; rfl
              · exact setCells_below (Nat.le_of_eq hBe.out) _ _ _ hI12.out.below
            · rw [hv] at hpt hpo
              simp only [if_true, Bool.true_and] at hpt hpo
              replace hv := Lib.hid hv
              cases heq : (P.text == t)
              · rw [heq] at hpo
                simp only [Bool.false_eq_true, if_false] at hpo
                obtain ⟨T, hT⟩ : ∃ T, P.text = T := ⟨_, rfl⟩
                rw [hT] at heq hpt
                have hs2 : (T.toList == t.toList) = false := by
                  cases h : (T.toList == t.toList)
                  · rfl
                  · rw [← beq_toListBytes, heq] at h
                    cases h
                replace hT := Lib.hid hT
                replace heq := Lib.hid heq
                replace hpt := Lib.hid hpt
                go_wp2_with fail
                refine hpt.out.mono ?_
                rintro e V12 ⟨rfl, hV12⟩
                have hI12 := Lib.hid (hI11.out.below' hV12)
                clear y0 y1 y2 y3 y4 y5 y6 y7 qf hV12 hI11 hI10
                go_wp2_with (refine store_row 26 (.tmp 2) (.tmp 97) rfl rfl #[.int .i64 0, .int .i64 0, .slice none 0 0, .bool false, .int .u8 0, .int .i64 0, .int .i64 0, .int .i64 0] rfl (by rfl) _ (hI12.out.res) rfl sizePo (onePo _ _ _ _ _ _ _ _ _ _) ?_)
                refine bodyPost_ret (results_row rfl _ _ _ #[.int .i64 0, .int .i64 0, .slice none 0 0, .bool false, .int .u8 0, .int .i64 0, .int .i64 0, .int .i64 0] _ rfl (setCells_arr (hI12.out.res) rfl) Tryz.underlying26 rfl sizePo) rfl ⟨?_, ?_⟩
                · unfold PosIs; rw [hpo.out]; rfl
                · exact setCells_below (Nat.le_of_eq hBe.out) _ _ _ hI12.out.below
              · rw [heq] at hpo
                simp only [if_true] at hpo
                rw [ba_beq.1 heq] at hpt
                replace heq := Lib.hid heq
                replace hpt := Lib.hid hpt
                go_wp2_with fail
                refine hpt.out.mono ?_
                rintro e V12 ⟨rfl, hV12⟩
                have hI12 := hI11.out.below' hV12
                clear y0 y1 y2 y3 y4 y5 y6 y7 qf hV12 hI11 hI10
                have y0 := cell_of hI12.pos 0 _ rfl
                have y1 := cell_of hI12.pos 1 _ rfl
                have y2 := cell_of hI12.pos 2 _ rfl
                have y3 := cell_of hI12.pos 3 _ rfl
                have y4 := cell_of hI12.pos 4 _ rfl
                have y5 := cell_of hI12.pos 5 _ rfl
                have y6 := cell_of hI12.pos 6 _ rfl
                have y7 := cell_of hI12.pos 7 _ rfl
                replace hI12 := Lib.hid hI12
                go_wp2_with (refine store_row 26 (.tmp 2) (.tmp 98) rfl rfl #[.int .i64 (f : Int), .int .i64 (r : Int), .slice po m cap, .bool bk, .int .u8 (c4 : Int), .int .i64 a, .int .i64 h5, .int .i64 u6] rfl (by rfl) _ hI12.out.res rfl sizePo (onePo _ _ _ _ _ _ _ _ _ _) ?_)
                refine bodyPost_ret (results_row rfl _ _ _ #[.int .i64 (f : Int), .int .i64 (r : Int), .slice po m cap, .bool bk, .int .u8 (c4 : Int), .int .i64 a, .int .i64 h5, .int .i64 u6] _ rfl (setCells_arr hI12.out.res rfl) Tryz.underlying26 rfl sizePo) rfl ⟨?_, ?_⟩
                · unfold PosIs
                  rw [hpo.out]
                  refine ⟨po, cap, by rw [hcl.out]; rfl, hPA.out _ ?_ (setCells_below (Nat.le_of_eq hBe.out) _ _ _ hI12.out.below), fun a ha => by have h1 := hnw.out a ha; have h2 := hBe.out; omega⟩
                  rcases hI12.out.slc with h | ⟨b, off, e1, hp⟩
                  · exact .inl h
                  · by_cases he : ps = []
                    · exact .inl he
                    · exact .inr ⟨b, off, e1, fun i p hip => (World.cell?_of_block (setCells_other (hnB.out b off e1 he) _ _ _)).trans (hp i p hip)⟩
                · exact setCells_below (Nat.le_of_eq hBe.out) _ _ _ hI12.out.below
  · have hne : Hid (posO t = none) := Lib.hid (hlen7.out h7)
    have hd : ((n : Int) != 7) = true := by
      have : ¬ ((n : Int) = 7) := by omega
      simpa using this
    replace hW := Lib.hid hW
    go_wp2_with (refine store_row 26 (.tmp 2) (.tmp 19) rfl rfl #[.int .i64 0, .int .i64 0, .slice none 0 0, .bool false, .int .u8 0, .int .i64 0, .int .i64 0, .int .i64 0] rfl (by rfl) _ (hX.out) rfl sizePo (onePo _ _ _ _ _ _ _ _ _ _) ?_)
    refine bodyPost_ret (results_row rfl _ _ _ #[.int .i64 0, .int .i64 0, .slice none 0 0, .bool false, .int .u8 0, .int .i64 0, .int .i64 0, .int .i64 0] _ rfl (setCells_arr (hX.out) rfl) Tryz.underlying26 rfl sizePo) rfl ⟨?_, ?_⟩
    · unfold PosIs; rw [hne.out]; rfl
    · exact setCells_below (Nat.le_of_eq hBe.out) _ _ _ hB.out
end Go.Proofs.YtbhienpbfidgjaaGreatDoor
