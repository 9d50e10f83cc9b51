/- Positions: Text. Conditions: the library's Itoa, Reverse and Join as said; the position and the tables lie in memory. -/
import Derived.Test.YtbhienpbfidgjaaGreatDoorF8
import Derived.Test.YtbhienpbfidgjaaGreatDoorV4
import Derived.Test.YtbhienpbfidgjaaGreatDoorT2
set_option linter.unusedVariables false
set_option linter.unusedSimpArgs false
namespace Go.Proofs.YtbhienpbfidgjaaGreatDoor
open Go.RowKit
def ItoaAt (w : World) : Prop := ∀ (W : World) (n : Nat), Below w.heap.size w W → n ≤ 10000 → Pure 71 #[.int .i64 n] W (.string (digB n))
theorem ItoaAt.below {w V : World} (h : ItoaAt w) (hb : Below w.heap.size w V) : ItoaAt V := fun W n hW => h W n (hb.trans (hW.mono hb.size))
theorem decDigits_le (n : Nat) : (Lib.decDigits n).length ≤ n + 1 := by
  induction n using Nat.strongRecOn with
  | ind n ih =>
    by_cases h : n < 10
    · rw [Lib.decDigits_one h]; simp
    · rw [Lib.decDigits, dif_neg h]
      have := ih (n / 10) (by omega)
      simp
      omega
theorem digB_size (n : Nat) : (digB (n : Int)).size ≤ n + 1 := by
  have := decDigits_le n
  simpa [digB, ByteArray.size] using this
theorem ba_snoc (a : List UInt8) (c : UInt8) : (⟨a.toArray⟩ : ByteArray) ++ ⟨#[c]⟩ = ⟨(a ++ [c]).toArray⟩ := by
  apply ByteArray.ext
  rw [ByteArray.data_append]
  simp
def castK (p : Pos) (k : Nat) : List UInt8 := (if 0 < k ∧ p.has 1 then [75] else []) ++ (if 1 < k ∧ p.has 2 then [81] else []) ++ (if 2 < k ∧ p.has 4 then [107] else []) ++ (if 3 < k ∧ p.has 8 then [113] else [])
def Pos.castT (p : Pos) : ByteArray := if castK p 4 = [] then ⟨#[45]⟩ else ⟨(castK p 4).toArray⟩
def Pos.behindT (p : Pos) : ByteArray := if 0 ≤ p.passant then nameB p.f p.passant else ⟨#[45]⟩
def Pos.sideT (p : Pos) : ByteArray := if p.black then ⟨#[98]⟩ else ⟨#[119]⟩
def Pos.words (p : Pos) : List ByteArray := [digB p.f ++ ⟨#[120]⟩ ++ digB p.r, ⟨(boardL p.f.toNat p.r.toNat p.ps).toArray⟩, p.sideT, p.castT, p.behindT, digB p.half, digB p.full]
theorem castK_len (p : Pos) (k : Nat) : (castK p k).length ≤ 4 := by
  unfold castK
  split <;> split <;> split <;> split <;> simp
theorem castK_next (p : Pos) : castK p 0 = [] ∧ castK p 1 = castK p 0 ++ (if p.has 1 then [75] else []) ∧ castK p 2 = castK p 1 ++ (if p.has 2 then [81] else []) ∧ castK p 3 = castK p 2 ++ (if p.has 4 then [107] else []) ∧ castK p 4 = castK p 3 ++ (if p.has 8 then [113] else []) := by
  refine ⟨rfl, ?_, ?_, ?_, ?_⟩ <;> simp [castK]
theorem joinC_len (c : UInt8) (xs : List (List UInt8)) (m : Nat) (h : ∀ l ∈ xs, l.length ≤ m) : (Lib.join xs [c]).length ≤ xs.length * (m + 1) := by
  induction xs with
  | nil => simp [Lib.join, List.intercalate]
  | cons x r ih =>
    cases r with
    | nil =>
      rw [Lib.join_one]
      have := h x (by simp)
      simp
      omega
    | cons y r =>
      have e : Lib.join (x :: y :: r) [c] = x ++ [c] ++ Lib.join (y :: r) [c] := by simp [Lib.join, List.intercalate]
      rw [e]
      have h1 := h x (by simp)
      have h2 := ih (fun l hl => h l (List.mem_cons_of_mem _ hl))
      simp only [List.length_append, List.length_cons, List.length_nil, Nat.add_mul] at h2 ⊢
      omega
theorem words7 (hJ : JoinOK) (W : World) (G : Nat) {a b c d e f g T : ByteArray} {WS : List ByteArray} (hw : WS = [a, b, c, d, e, f, g]) (hT : T = ⟨(Lib.join (WS.map (·.data.toList)) [32]).toArray⟩) (hlen : (Lib.join (WS.map (·.data.toList)) [32]).length ≤ 1000000)
    (hG : W.heap[G]? = some (.cells #[.string a, .string b, .string c, .string d, .string e, .string f, .string g] 9 (0, 0))) : Pure 75 #[.slice (some ⟨G, 0, none⟩) 7 7] W (.string T) := by
  subst hw
  rw [hT]
  refine words_c hJ W G 0 7 [a, b, c, d, e, f, g] (fun j x hj => ?_) (lt_of_blk hG) (by simp) (by simp) hlen
  rw [Nat.zero_add]
  refine cell_of hG j _ ?_
  have := congrArg (Option.map Value.string) hj
  rw [← List.getElem?_map] at this
  simpa using this
def Pos.text (p : Pos) : ByteArray := ⟨(Lib.join (p.words.map (·.data.toList)) [32]).toArray⟩
def Pos.textV (p : Pos) : Value := if p.valid then .tuple #[.string p.text, .int .i64 0] else .tuple #[.string ⟨#[]⟩, .int .i64 2]
set_option maxRecDepth 100000 in
set_option maxHeartbeats 4000000 in
theorem ptext_c (hR : RevOK) (hJ : JoinOK) (w : World) (hK : KindsAt w) (hI : ItoaAt w) (p : Pos) (po : Option Addr) (cap : Nat) (hP : PosAt w p po cap)
    (hfull : w.cell? ⟨0, 0, none⟩ = some (.int .i64 8) ∧ w.cell? ⟨0, 1, none⟩ = some (.int .i64 8)) :
    Pure 20 #[.agg (p.cells po cap)] w p.textV := by
  have h1 := fun W (hW : Below w.heap.size w W) => Lib.hid (valid_c W p po cap (hP.below hW) ⟨below_at hW hfull.1, below_at hW hfull.2⟩)
  unfold Pos.textV
  cases hv : p.valid
  · rw [hv] at h1
    replace hv := Lib.hid hv
    replace hP := Lib.hid hP
    clear hR hJ hI hfull
    obtain ⟨cs, hcs⟩ : ∃ cs, p.cells po cap = cs := ⟨_, rfl⟩
    have hsz : cs.size = 8 := by rw [← hcs]; rfl
    obtain ⟨f, r, ps, black, castle, passant, hf, full⟩ := p
    dsimp only [Pos.cells] at *
    subst hcs
    generalize ps.length = n at *
    unfold Pure
    go_enter Tryz.func20, Tryz.ntmps20
    go_wp2_with fail
    refine (h1 _ ((Below.refl _ _).alloc (Nat.le_refl _) _)).out.mono ?_
    rintro e V ⟨rfl, hV⟩
    go_wp2
    go_ret2
    exact ⟨by rfl, below_of_alloc hV⟩
  · rw [hv] at h1
    have hv2 := hv
    unfold Pos.valid at hv2
    simp only [Bool.and_eq_true] at hv2
    obtain ⟨⟨⟨⟨⟨hbv, -⟩, -⟩, -⟩, hpass⟩, hcnt⟩ := hv2
    have hz : vsize p.f p.r = true := by unfold bvalid at hbv; simp only [Bool.and_eq_true] at hbv; exact hbv.1.1
    obtain ⟨z1, z2, z3, z4⟩ := vsize_bd hz
    unfold Pos.counts at hcnt
    simp only [Bool.and_eq_true, decide_eq_true_eq] at hcnt
    obtain ⟨⟨⟨c1, c2⟩, c3⟩, c4⟩ := hcnt
    have hvq : 0 ≤ p.passant → vsq p.f p.r p.passant = true := by
      intro h0
      unfold Pos.passes at hpass
      have : (p.passant == -1) = false := by simp; omega
      rw [this] at hpass
      simp only [Bool.false_or] at hpass
      split at hpass <;> (unfold Pos.passup at hpass; simp only [Bool.and_eq_true] at hpass; exact hpass.1.1.1.1.2)
    have hbt := fun W (hW : Below w.heap.size w W) => Lib.hid (btext_c hR hJ W (hK.below hW) p.f p.r p.ps po cap (hP.below hW).slc (by have := hP.len; omega) hP.cap1 hP.cap2)
    unfold boardV at hbt
    simp only [hbv, if_true] at hbt
    have hhas := Lib.hid (fun bit hb => has_run (p := p) hP.cas bit hb)
    have hIf := fun W (hW : Below w.heap.size w W) => Lib.hid (hI W p.f.toNat hW (by omega))
    have hIr := fun W (hW : Below w.heap.size w W) => Lib.hid (hI W p.r.toNat hW (by omega))
    have hIh := fun W (hW : Below w.heap.size w W) => Lib.hid (hI W p.half.toNat hW (by omega))
    have hIu := fun W (hW : Below w.heap.size w W) => Lib.hid (hI W p.full.toNat hW (by omega))
    simp only [Int.toNat_of_nonneg (show 0 ≤ p.f by omega)] at hIf
    simp only [Int.toNat_of_nonneg (show 0 ≤ p.r by omega)] at hIr
    simp only [Int.toNat_of_nonneg (show 0 ≤ p.half by omega)] at hIh
    simp only [Int.toNat_of_nonneg (show 0 ≤ p.full by omega)] at hIu
    have s1 := digB_size p.f.toNat
    have s2 := digB_size p.r.toNat
    have s3 := digB_size p.half.toNat
    have s4 := digB_size p.full.toNat
    rw [Int.toNat_of_nonneg (by omega)] at s1 s2 s3 s4
    have s5 : (⟨(boardL p.f.toNat p.r.toNat p.ps).toArray⟩ : ByteArray).size ≤ 1000 := by
      have := joinL_len (((List.range p.r.toNat).map (rankAt p.f.toNat p.ps)).reverse.map (·.data.toList)) 8 (fun l hl => by
        simp only [List.mem_map, List.mem_reverse] at hl
        obtain ⟨s, ⟨i, hi, rfl⟩, rfl⟩ := hl
        simp only [rankAt]
        have := rankL_len ((p.ps.drop (p.f.toNat * i)).take p.f.toNat) p.f.toNat
        rw [List.take_of_length_le (by simp; omega)] at this
        simpa using Nat.le_trans this (by omega))
      simp only [List.length_map, List.length_reverse, List.length_range] at this
      show (boardL p.f.toNat p.r.toNat p.ps).toArray.size ≤ 1000
      simp only [boardL, List.size_toArray]
      omega
    have hw : Hid (p.words = [digB p.f ++ ⟨#[120]⟩ ++ digB p.r, ⟨(boardL p.f.toNat p.r.toNat p.ps).toArray⟩, p.sideT, p.castT, p.behindT, digB p.half, digB p.full]) := Lib.hid rfl
    have htx : Hid (p.text = ⟨(Lib.join (p.words.map (·.data.toList)) [32]).toArray⟩) := Lib.hid rfl
    have hct : Hid (p.castT = if castK p 4 = [] then ⟨#[45]⟩ else ⟨(castK p 4).toArray⟩) := Lib.hid rfl
    have hbh : Hid (p.behindT = if 0 ≤ p.passant then nameB p.f p.passant else ⟨#[45]⟩) := Lib.hid rfl
    have hnm := fun W h => Lib.hid (name_c W p.f p.r p.passant (hvq h))
    have hkz := fun k => Lib.hid (show (castK p k).length ≤ 4 from castK_len p k)
    have hks := castK_next p
    have hsd : Hid (p.sideT = if p.black then ⟨#[98]⟩ else ⟨#[119]⟩) := Lib.hid rfl
    obtain ⟨d1, e1⟩ : ∃ d, digB p.f = d := ⟨_, rfl⟩
    obtain ⟨d2, e2⟩ : ∃ d, digB p.r = d := ⟨_, rfl⟩
    obtain ⟨d3, e3⟩ : ∃ d, digB p.half = d := ⟨_, rfl⟩
    obtain ⟨d4, e4⟩ : ∃ d, digB p.full = d := ⟨_, rfl⟩
    obtain ⟨bl, e5⟩ : ∃ d, (⟨(boardL p.f.toNat p.r.toNat p.ps).toArray⟩ : ByteArray) = d := ⟨_, rfl⟩
    rw [e1] at s1 hw
    rw [e2] at s2 hw
    rw [e3] at s3 hw
    rw [e4] at s4 hw
    rw [e5] at s5 hw
    simp only [e1] at hIf
    simp only [e2] at hIr
    simp only [e3] at hIh
    simp only [e4] at hIu
    simp only [e5] at hbt
    clear e1 e2 e3 e4 e5
    obtain ⟨T, hT⟩ : ∃ T, p.text = T := ⟨_, rfl⟩
    rw [hT] at htx ⊢
    obtain ⟨WS, hWS⟩ : ∃ WS, p.words = WS := ⟨_, rfl⟩
    rw [hWS] at htx hw
    clear hT hWS
    have hall : Hid (∀ s ∈ WS, s.data.toList.length ≤ 20000) := Lib.hid (by
      have a1 : p.sideT.size ≤ 4 := by rw [hsd.out]; split <;> decide
      have a2 : p.castT.size ≤ 4 := by
        rw [hct.out]
        split
        · decide
        · have := (hkz 4).out
          exact (show (castK p 4).toArray.size ≤ 4 by simpa using this)
      have a3 : p.behindT.size ≤ 4 := by
        rw [hbh.out]
        split
        · exact (show 2 ≤ 4 by decide)
        · decide
      have a4 : (⟨#[120]⟩ : ByteArray).size = 1 := rfl
      intro s hs
      rw [hw.out] at hs
      rw [← Lib.size_eq]
      simp only [List.mem_cons, List.not_mem_nil, or_false] at hs
      rcases hs with rfl | rfl | rfl | rfl | rfl | rfl | rfl
      · simp only [ByteArray.size_append, a4]; omega
      all_goals omega)
    have hjn : Hid ((Lib.join (WS.map (·.data.toList)) [32]).length ≤ 1000000) := Lib.hid (by
      have h := joinC_len 32 (WS.map (·.data.toList)) 20000 (fun l hl => by
        obtain ⟨s, hs, rfl⟩ := List.mem_map.1 hl
        exact hall.out s hs)
      have h2 : (WS.map (·.data.toList)).length = 7 := by rw [hw.out]; rfl
      rw [h2] at h
      omega)
    clear hall
    obtain ⟨sd, esd⟩ : ∃ d, p.sideT = d := ⟨_, rfl⟩
    obtain ⟨ct, ect⟩ : ∃ d, p.castT = d := ⟨_, rfl⟩
    obtain ⟨bh, ebh⟩ : ∃ d, p.behindT = d := ⟨_, rfl⟩
    rw [esd] at hw hsd
    rw [ect] at hw hct
    rw [ebh] at hw hbh
    clear esd ect ebh
    replace hv := Lib.hid hv
    replace hP := Lib.hid hP
    replace hpass := Lib.hid hpass
    replace hbv := Lib.hid hbv
    replace hz := Lib.hid hz
    replace hvq := Lib.hid hvq
    replace hK := Lib.hid hK
    replace hI := Lib.hid hI
    simp only [if_true]
    obtain ⟨CK, hCK⟩ : ∃ CK, castK p = CK := ⟨_, rfl⟩
    simp only [hCK] at hkz hks hct
    obtain ⟨HS, hHS⟩ : ∃ HS, p.has = HS := ⟨_, rfl⟩
    rw [hHS] at hhas hks
    clear hCK hHS
    replace hks := Lib.hid hks
    obtain ⟨f, r, ps, black, castle, passant, half, full⟩ := p
    dsimp only [Pos.cells, bdV] at *
    generalize ps.length = n at *
    clear hfull hR
    unfold Pure
    go_enter Tryz.func20, Tryz.ntmps20
    go_wp2_with fail
    refine (h1 _ ((Below.refl _ _).alloc (Nat.le_refl _) _)).out.mono ?_
    rintro e V ⟨rfl, hV⟩
    have hX := box_of hV
    have hB := Lib.hid (below_of_alloc hV)
    clear hV h1
    have hIf2 := fun x : Ext V.heap.size V => hIf x.1 (hB.out.trans (x.2.mono hB.out.size))
    have hIr2 := fun x : Ext V.heap.size V => hIr x.1 (hB.out.trans (x.2.mono hB.out.size))
    have y0 := fun x : Ext V.heap.size V => cell_of (below_blk x.2 hX) 0 _ rfl
    have y1 := fun x : Ext V.heap.size V => cell_of (below_blk x.2 hX) 1 _ rfl
    have q1 : (9223372036854775807 < d1.size + 1) = False := by simp; omega
    have q2 : (9223372036854775807 < d1.size + 1 + d2.size) = False := by simp; omega
    replace hX := Lib.hid hX
    go_wp2_with fail
    refine ext_region (by kernel_rfl) (by kernel_rfl) ?_
    repeat (first | (go_big_quiet_step ((go_at_call 71; first | (with_reducible exact Pure.ext (Nat.le_refl _) (Hid.out (hIf2 _))) | (with_reducible exact Pure.ext (Nat.le_refl _) (Hid.out (hIr2 _)))))) | ((refine wpQuiet_step (fun K hK => ?_)); go_simp; (refine ⟨_, fun _ => rfl, hK _ ?_⟩); clear hK K))
    refine wpQuiet_nil ?_
    rintro V3 ⟨x, hx⟩
    have hX3 := Lib.hid (hx ▸ below_blk x.2 hX.out : V3.heap[w.heap.size]? = _)
    have hB3 := Lib.hid (hx ▸ hB.out.trans (x.2.mono hB.out.size) : Below w.heap.size w V3)
    clear hx x y0 y1 hIf hIr hIf2 hIr2 hX hB q1 q2
    obtain ⟨d0, hd0⟩ : ∃ d0, d1 ++ ⟨#[120]⟩ ++ d2 = d0 := ⟨_, rfl⟩
    have s0 : d0.size ≤ 40 := by rw [← hd0]; have e : (⟨#[120]⟩ : ByteArray).size = 1 := rfl; simp only [ByteArray.size_append, e]; omega
    rw [hd0] at hw ⊢
    clear hd0 s1 s2
    have y0 := cell_of hX3.out 0 _ rfl
    have y1 := cell_of hX3.out 1 _ rfl
    have y2 := cell_of hX3.out 2 _ rfl
    go_wp2_with fail
    refine (hbt _ hB3.out).out.mono ?_
    rintro e V4 ⟨rfl, hV4⟩
    have hX4 := Lib.hid (below_blk hV4 hX3.out)
    have hB4 := Lib.hid (hB3.out.trans (hV4.mono hB3.out.size))
    clear y0 y1 y2 hV4 hX3 hB3 hbt
    have y3 := cell_of hX4.out 3 _ rfl
    have hrg := fun W => Lib.hid (rights_c W)
    unfold rightsV rightsC at hrg
    cases black
    · simp only [Bool.false_eq_true, if_false] at hsd
      obtain rfl := hsd.out
      clear hsd
      go_wp2_with fail
      refine (hrg _).out.mono ?_
      rintro e V5 ⟨rfl, hV5⟩
      have hX5 := Lib.hid (below_blk hV5 hX4.out)
      have hB5 := Lib.hid (hB4.out.trans (hV5.mono hB4.out.size))
      clear y3 hV5 hX4 hB4 hrg
      obtain ⟨B, hBe⟩ : ∃ B, w.heap.size = B := ⟨_, rfl⟩
      rw [hBe]
      replace hX5 := Lib.hid (by have h := hX5.out; rw [hBe] at h; exact h)
      replace hBe := Lib.hid hBe
      go_wp2_with fail
      go_loopw [8, 37] (fun s8 i wr => ∃ k : Nat, k ≤ 4 ∧ s8 = .string ⟨(CK k).toArray⟩ ∧ i = .int .i64 k ∧ wr.heap[B]? = some (.cells #[.int .i64 f, .int .i64 r, .slice po n cap, .bool false, .int .u8 castle, .int .i64 passant, .int .i64 half, .int .i64 full] 26 (0, 0)) ∧ Below w.heap.size w wr) (fun _ i _ => 4 - (intOf i).toNat)
      case atStart => exact ⟨0, by omega, by rw [hks.out.1], rfl, hX5.out, hB5.out⟩
      case round =>
        obtain ⟨k, hk, rfl, rfl, hXr, hBr⟩ := hrel
        clear hX5 hB5
        have y4 := cell_of hXr 4 _ rfl
        have hBl : B < wr.heap.size := lt_of_blk hXr
        replace hXr := Lib.hid hXr
        replace hBr := Lib.hid hBr
        rcases (by omega : k = 0 ∨ k = 1 ∨ k = 2 ∨ k = 3 ∨ k = 4) with rfl | rfl | rfl | rfl | rfl
        · have hbit : (bits .and .u8 castle 1 != 0) = HS 1 := hhas.out 1 (by decide)
          have hidx := idx0
          unfold rightsC at hidx
          have hnx := hks.out.2.1
          have hz := hkz 0
          obtain ⟨d, hd⟩ : ∃ d, (⟨(CK 0).toArray⟩ : ByteArray) = d := ⟨_, rfl⟩
          have hdz : d.size ≤ 4 := by rw [← hd]; exact (show (CK 0).toArray.size ≤ 4 by simpa using hz.out)
          have q8 : (9223372036854775807 < d.size + 1) = False := by simp; omega
          rw [hd]
          cases hb : HS 1
          · have hfin : Hid (d = ⟨(CK (0 + 1)).toArray⟩) := Lib.hid (by rw [← hd, hnx, hb]; simp)
            rw [hb] at hbit
            replace hnx := Lib.hid hnx
            replace hb := Lib.hid hb
            replace hd := Lib.hid hd
            go_wp2_with fail
            go_roundw
            case rel => exact ⟨0 + 1, by omega, by rw [hfin.out], by simp, blk_alloc hXr.out _, hBr.out.alloc hBr.out.size _⟩
            case measure => simp [intOf]
          · have hfin : Hid (d ++ ⟨#[75]⟩ = ⟨(CK (0 + 1)).toArray⟩) := Lib.hid (by rw [← hd, hnx, hb, if_pos rfl, ba_snoc])
            rw [hb] at hbit
            replace hnx := Lib.hid hnx
            replace hb := Lib.hid hb
            replace hd := Lib.hid hd
            go_wp2_with fail
            go_roundw
            case rel => exact ⟨0 + 1, by omega, by rw [hfin.out], by simp, blk_alloc hXr.out _, hBr.out.alloc hBr.out.size _⟩
            case measure => simp [intOf]
        · have hbit : (bits .and .u8 castle 2 != 0) = HS 2 := hhas.out 2 (by decide)
          have hidx := idx1
          unfold rightsC at hidx
          have hnx := hks.out.2.2.1
          have hz := hkz 1
          obtain ⟨d, hd⟩ : ∃ d, (⟨(CK 1).toArray⟩ : ByteArray) = d := ⟨_, rfl⟩
          have hdz : d.size ≤ 4 := by rw [← hd]; exact (show (CK 1).toArray.size ≤ 4 by simpa using hz.out)
          have q8 : (9223372036854775807 < d.size + 1) = False := by simp; omega
          rw [hd]
          cases hb : HS 2
          · have hfin : Hid (d = ⟨(CK (1 + 1)).toArray⟩) := Lib.hid (by rw [← hd, hnx, hb]; simp)
            rw [hb] at hbit
            replace hnx := Lib.hid hnx
            replace hb := Lib.hid hb
            replace hd := Lib.hid hd
            go_wp2_with fail
            go_roundw
            case rel => exact ⟨1 + 1, by omega, by rw [hfin.out], by simp, blk_alloc hXr.out _, hBr.out.alloc hBr.out.size _⟩
            case measure => simp [intOf]
          · have hfin : Hid (d ++ ⟨#[81]⟩ = ⟨(CK (1 + 1)).toArray⟩) := Lib.hid (by rw [← hd, hnx, hb, if_pos rfl, ba_snoc])
            rw [hb] at hbit
            replace hnx := Lib.hid hnx
            replace hb := Lib.hid hb
            replace hd := Lib.hid hd
            go_wp2_with fail
            go_roundw
            case rel => exact ⟨1 + 1, by omega, by rw [hfin.out], by simp, blk_alloc hXr.out _, hBr.out.alloc hBr.out.size _⟩
            case measure => simp [intOf]
        · have hbit : (bits .and .u8 castle 4 != 0) = HS 4 := hhas.out 4 (by decide)
          have hidx := idx2
          unfold rightsC at hidx
          have hnx := hks.out.2.2.2.1
          have hz := hkz 2
          obtain ⟨d, hd⟩ : ∃ d, (⟨(CK 2).toArray⟩ : ByteArray) = d := ⟨_, rfl⟩
          have hdz : d.size ≤ 4 := by rw [← hd]; exact (show (CK 2).toArray.size ≤ 4 by simpa using hz.out)
          have q8 : (9223372036854775807 < d.size + 1) = False := by simp; omega
          rw [hd]
          cases hb : HS 4
          · have hfin : Hid (d = ⟨(CK (2 + 1)).toArray⟩) := Lib.hid (by rw [← hd, hnx, hb]; simp)
            rw [hb] at hbit
            replace hnx := Lib.hid hnx
            replace hb := Lib.hid hb
            replace hd := Lib.hid hd
            go_wp2_with fail
            go_roundw
            case rel => exact ⟨2 + 1, by omega, by rw [hfin.out], by simp, blk_alloc hXr.out _, hBr.out.alloc hBr.out.size _⟩
            case measure => simp [intOf]
          · have hfin : Hid (d ++ ⟨#[107]⟩ = ⟨(CK (2 + 1)).toArray⟩) := Lib.hid (by rw [← hd, hnx, hb, if_pos rfl, ba_snoc])
            rw [hb] at hbit
            replace hnx := Lib.hid hnx
            replace hb := Lib.hid hb
            replace hd := Lib.hid hd
            go_wp2_with fail
            go_roundw
            case rel => exact ⟨2 + 1, by omega, by rw [hfin.out], by simp, blk_alloc hXr.out _, hBr.out.alloc hBr.out.size _⟩
            case measure => simp [intOf]
        · have hbit : (bits .and .u8 castle 8 != 0) = HS 8 := hhas.out 8 (by decide)
          have hidx := idx3
          unfold rightsC at hidx
          have hnx := hks.out.2.2.2.2
          have hz := hkz 3
          obtain ⟨d, hd⟩ : ∃ d, (⟨(CK 3).toArray⟩ : ByteArray) = d := ⟨_, rfl⟩
          have hdz : d.size ≤ 4 := by rw [← hd]; exact (show (CK 3).toArray.size ≤ 4 by simpa using hz.out)
          have q8 : (9223372036854775807 < d.size + 1) = False := by simp; omega
          rw [hd]
          cases hb : HS 8
          · have hfin : Hid (d = ⟨(CK (3 + 1)).toArray⟩) := Lib.hid (by rw [← hd, hnx, hb]; simp)
            rw [hb] at hbit
            replace hnx := Lib.hid hnx
            replace hb := Lib.hid hb
            replace hd := Lib.hid hd
            go_wp2_with fail
            go_roundw
            case rel => exact ⟨3 + 1, by omega, by rw [hfin.out], by simp, blk_alloc hXr.out _, hBr.out.alloc hBr.out.size _⟩
            case measure => simp [intOf]
          · have hfin : Hid (d ++ ⟨#[113]⟩ = ⟨(CK (3 + 1)).toArray⟩) := Lib.hid (by rw [← hd, hnx, hb, if_pos rfl, ba_snoc])
            rw [hb] at hbit
            replace hnx := Lib.hid hnx
            replace hb := Lib.hid hb
            replace hd := Lib.hid hd
            go_wp2_with fail
            go_roundw
            case rel => exact ⟨3 + 1, by omega, by rw [hfin.out], by simp, blk_alloc hXr.out _, hBr.out.alloc hBr.out.size _⟩
            case measure => simp [intOf]
        · obtain ⟨d8, hd8⟩ : ∃ d, (⟨(CK 4).toArray⟩ : ByteArray) = d := ⟨_, rfl⟩
          rw [hd8]
          have y5 := cell_of hXr.out 5 _ rfl
          have y0 := cell_of hXr.out 0 _ rfl
          have y1 := cell_of hXr.out 1 _ rfl
          clear y4 hhas hkz hks
          by_cases he : CK 4 = []
          · have hct2 : Hid (ct = ⟨#[45]⟩) := Lib.hid (by rw [hct.out, if_pos he])
            obtain rfl := hct2.out
            have he1 : (d8.toList == []) = true := by rw [ByteArray.toList_eq, ← hd8, he]; rfl
            clear hct hct2
            replace he := Lib.hid he
            replace hd8 := Lib.hid hd8
            by_cases hp0 : 0 ≤ passant
            · have hb2 : Hid (bh = nameB f passant) := Lib.hid (by rw [hbh.out, if_pos hp0])
              have hnm2 := fun W => hnm W hp0
              rw [← hb2.out] at hnm2
              clear hnm hbh
              go_wp2_with fail
              refine (hnm2 _).out.mono ?_
              rintro e V6 ⟨rfl, hV6⟩
              have hX6 := Lib.hid (below_blk hV6 hXr.out)
              have hB6 := Lib.hid (hBr.out.trans (hV6.mono hBr.out.size))
              clear hV6 hXr hBr y0 y1 y5 hnm2
              go_wp2_with fail
              have hIh2 := fun x : Ext V6.heap.size V6 => hIh x.1 (hB6.out.trans (x.2.mono hB6.out.size))
              have hIu2 := fun x : Ext V6.heap.size V6 => hIu x.1 (hB6.out.trans (x.2.mono hB6.out.size))
              have y6 := fun x : Ext V6.heap.size V6 => cell_of (below_blk x.2 hX6.out) 6 _ rfl
              have y7 := fun x : Ext V6.heap.size V6 => cell_of (below_blk x.2 hX6.out) 7 _ rfl
              refine ext_tail 11 (by kernel_rfl) (by kernel_rfl) ?_
              simp only [List.take_succ_cons, List.take_zero, List.drop_succ_cons, List.drop_zero]
              repeat (first | (go_big_quiet_step ((go_at_call 71; first | (with_reducible exact Pure.ext (Nat.le_refl _) (Hid.out (hIh2 _))) | (with_reducible exact Pure.ext (Nat.le_refl _) (Hid.out (hIu2 _)))))) | ((refine wpQuiet_step (fun K hK => ?_)); go_simp; (refine ⟨_, fun _ => rfl, hK _ ?_⟩); clear hK K))
              refine wpQuiet_nil ?_
              rintro V7 ⟨x, hx⟩
              have hB7 := Lib.hid (hx ▸ hB6.out.trans (x.2.mono hB6.out.size) : Below w.heap.size w V7)
              clear hx x y6 y7 hIh2 hIu2 hIh hIu
              have hwd := fun W G hG => Lib.hid (words7 hJ W G hw.out htx.out hjn.out hG)
              go_wp2_with fail
              refine (hwd _ _ (blk_new rfl _)).out.mono ?_
              rintro e V8 ⟨rfl, hV8⟩
              have hB8 := hB7.out.trans ((below_of_alloc hV8).mono hB7.out.size)
              clear hV8 hwd
              go_wp2
              go_ret2
              exact ⟨by rfl, hB8⟩
            · have hb2 : Hid (bh = ⟨#[45]⟩) := Lib.hid (by rw [hbh.out, if_neg hp0])
              obtain rfl := hb2.out
              clear hnm hbh hb2
              obtain ⟨V6, hV6⟩ : ∃ V6, wr = V6 := ⟨_, rfl⟩
              rw [hV6] at hXr hBr y0 y1 y5 hBl ⊢
              clear hV6
              have hX6 := hXr
              have hB6 := hBr
              go_wp2_with fail
              clear y0 y1 y5 hXr hBr
              have hIh2 := fun x : Ext V6.heap.size V6 => hIh x.1 (hB6.out.trans (x.2.mono hB6.out.size))
              have hIu2 := fun x : Ext V6.heap.size V6 => hIu x.1 (hB6.out.trans (x.2.mono hB6.out.size))
              have y6 := fun x : Ext V6.heap.size V6 => cell_of (below_blk x.2 hX6.out) 6 _ rfl
              have y7 := fun x : Ext V6.heap.size V6 => cell_of (below_blk x.2 hX6.out) 7 _ rfl
              refine ext_tail 11 (by kernel_rfl) (by kernel_rfl) ?_
              simp only [List.take_succ_cons, List.take_zero, List.drop_succ_cons, List.drop_zero]
              repeat (first | (go_big_quiet_step ((go_at_call 71; first | (with_reducible exact Pure.ext (Nat.le_refl _) (Hid.out (hIh2 _))) | (with_reducible exact Pure.ext (Nat.le_refl _) (Hid.out (hIu2 _)))))) | ((refine wpQuiet_step (fun K hK => ?_)); go_simp; (refine ⟨_, fun _ => rfl, hK _ ?_⟩); clear hK K))
              refine wpQuiet_nil ?_
              rintro V7 ⟨x, hx⟩
              have hB7 := Lib.hid (hx ▸ hB6.out.trans (x.2.mono hB6.out.size) : Below w.heap.size w V7)
              clear hx x y6 y7 hIh2 hIu2 hIh hIu
              have hwd := fun W G hG => Lib.hid (words7 hJ W G hw.out htx.out hjn.out hG)
              go_wp2_with fail
              refine (hwd _ _ (blk_new rfl _)).out.mono ?_
              rintro e V8 ⟨rfl, hV8⟩
              have hB8 := hB7.out.trans ((below_of_alloc hV8).mono hB7.out.size)
              clear hV8 hwd
              go_wp2
              go_ret2
              exact ⟨by rfl, hB8⟩
          · have hct2 : Hid (ct = d8) := Lib.hid (by rw [hct.out, if_neg he, hd8])
            obtain rfl := hct2.out
            have he1 : (ct.toList == []) = false := by
              rw [ByteArray.toList_eq, ← hd8]
              cases h : CK 4 with
              | nil => exact absurd h he
              | cons a l => rfl
            clear hct hct2
            replace he := Lib.hid he
            replace hd8 := Lib.hid hd8
            by_cases hp0 : 0 ≤ passant
            · have hb2 : Hid (bh = nameB f passant) := Lib.hid (by rw [hbh.out, if_pos hp0])
              have hnm2 := fun W => hnm W hp0
              rw [← hb2.out] at hnm2
              clear hnm hbh
              go_wp2_with fail
              refine (hnm2 _).out.mono ?_
              rintro e V6 ⟨rfl, hV6⟩
              have hX6 := Lib.hid (below_blk hV6 hXr.out)
              have hB6 := Lib.hid (hBr.out.trans (hV6.mono hBr.out.size))
              clear hV6 hXr hBr y0 y1 y5 hnm2
              go_wp2_with fail
              have hIh2 := fun x : Ext V6.heap.size V6 => hIh x.1 (hB6.out.trans (x.2.mono hB6.out.size))
              have hIu2 := fun x : Ext V6.heap.size V6 => hIu x.1 (hB6.out.trans (x.2.mono hB6.out.size))
              have y6 := fun x : Ext V6.heap.size V6 => cell_of (below_blk x.2 hX6.out) 6 _ rfl
              have y7 := fun x : Ext V6.heap.size V6 => cell_of (below_blk x.2 hX6.out) 7 _ rfl
              refine ext_tail 11 (by kernel_rfl) (by kernel_rfl) ?_
              simp only [List.take_succ_cons, List.take_zero, List.drop_succ_cons, List.drop_zero]
              repeat (first | (go_big_quiet_step ((go_at_call 71; first | (with_reducible exact Pure.ext (Nat.le_refl _) (Hid.out (hIh2 _))) | (with_reducible exact Pure.ext (Nat.le_refl _) (Hid.out (hIu2 _)))))) | ((refine wpQuiet_step (fun K hK => ?_)); go_simp; (refine ⟨_, fun _ => rfl, hK _ ?_⟩); clear hK K))
              refine wpQuiet_nil ?_
              rintro V7 ⟨x, hx⟩
              have hB7 := Lib.hid (hx ▸ hB6.out.trans (x.2.mono hB6.out.size) : Below w.heap.size w V7)
              clear hx x y6 y7 hIh2 hIu2 hIh hIu
              have hwd := fun W G hG => Lib.hid (words7 hJ W G hw.out htx.out hjn.out hG)
              go_wp2_with fail
              refine (hwd _ _ (blk_new rfl _)).out.mono ?_
              rintro e V8 ⟨rfl, hV8⟩
              have hB8 := hB7.out.trans ((below_of_alloc hV8).mono hB7.out.size)
              clear hV8 hwd
              go_wp2
              go_ret2
              exact ⟨by rfl, hB8⟩
            · have hb2 : Hid (bh = ⟨#[45]⟩) := Lib.hid (by rw [hbh.out, if_neg hp0])
              obtain rfl := hb2.out
              clear hnm hbh hb2
              obtain ⟨V6, hV6⟩ : ∃ V6, wr = V6 := ⟨_, rfl⟩
              rw [hV6] at hXr hBr y0 y1 y5 hBl ⊢
              clear hV6
              have hX6 := hXr
              have hB6 := hBr
              go_wp2_with fail
              clear y0 y1 y5 hXr hBr
              have hIh2 := fun x : Ext V6.heap.size V6 => hIh x.1 (hB6.out.trans (x.2.mono hB6.out.size))
              have hIu2 := fun x : Ext V6.heap.size V6 => hIu x.1 (hB6.out.trans (x.2.mono hB6.out.size))
              have y6 := fun x : Ext V6.heap.size V6 => cell_of (below_blk x.2 hX6.out) 6 _ rfl
              have y7 := fun x : Ext V6.heap.size V6 => cell_of (below_blk x.2 hX6.out) 7 _ rfl
              refine ext_tail 11 (by kernel_rfl) (by kernel_rfl) ?_
              simp only [List.take_succ_cons, List.take_zero, List.drop_succ_cons, List.drop_zero]
              repeat (first | (go_big_quiet_step ((go_at_call 71; first | (with_reducible exact Pure.ext (Nat.le_refl _) (Hid.out (hIh2 _))) | (with_reducible exact Pure.ext (Nat.le_refl _) (Hid.out (hIu2 _)))))) | ((refine wpQuiet_step (fun K hK => ?_)); go_simp; (refine ⟨_, fun _ => rfl, hK _ ?_⟩); clear hK K))
              refine wpQuiet_nil ?_
              rintro V7 ⟨x, hx⟩
              have hB7 := Lib.hid (hx ▸ hB6.out.trans (x.2.mono hB6.out.size) : Below w.heap.size w V7)
              clear hx x y6 y7 hIh2 hIu2 hIh hIu
              have hwd := fun W G hG => Lib.hid (words7 hJ W G hw.out htx.out hjn.out hG)
              go_wp2_with fail
              refine (hwd _ _ (blk_new rfl _)).out.mono ?_
              rintro e V8 ⟨rfl, hV8⟩
              have hB8 := hB7.out.trans ((below_of_alloc hV8).mono hB7.out.size)
              clear hV8 hwd
              go_wp2
              go_ret2
              exact ⟨by rfl, hB8⟩
    · simp only [if_true] at hsd
      obtain rfl := hsd.out
      clear hsd
      go_wp2_with fail
      refine (hrg _).out.mono ?_
      rintro e V5 ⟨rfl, hV5⟩
      have hX5 := Lib.hid (below_blk hV5 hX4.out)
      have hB5 := Lib.hid (hB4.out.trans (hV5.mono hB4.out.size))
      clear y3 hV5 hX4 hB4 hrg
      obtain ⟨B, hBe⟩ : ∃ B, w.heap.size = B := ⟨_, rfl⟩
      rw [hBe]
      replace hX5 := Lib.hid (by have h := hX5.out; rw [hBe] at h; exact h)
      replace hBe := Lib.hid hBe
      go_wp2_with fail
      go_loopw [8, 37] (fun s8 i wr => ∃ k : Nat, k ≤ 4 ∧ s8 = .string ⟨(CK k).toArray⟩ ∧ i = .int .i64 k ∧ wr.heap[B]? = some (.cells #[.int .i64 f, .int .i64 r, .slice po n cap, .bool true, .int .u8 castle, .int .i64 passant, .int .i64 half, .int .i64 full] 26 (0, 0)) ∧ Below w.heap.size w wr) (fun _ i _ => 4 - (intOf i).toNat)
      case atStart => exact ⟨0, by omega, by rw [hks.out.1], rfl, hX5.out, hB5.out⟩
      case round =>
        obtain ⟨k, hk, rfl, rfl, hXr, hBr⟩ := hrel
        clear hX5 hB5
        have y4 := cell_of hXr 4 _ rfl
        have hBl : B < wr.heap.size := lt_of_blk hXr
        replace hXr := Lib.hid hXr
        replace hBr := Lib.hid hBr
        rcases (by omega : k = 0 ∨ k = 1 ∨ k = 2 ∨ k = 3 ∨ k = 4) with rfl | rfl | rfl | rfl | rfl
        · have hbit : (bits .and .u8 castle 1 != 0) = HS 1 := hhas.out 1 (by decide)
          have hidx := idx0
          unfold rightsC at hidx
          have hnx := hks.out.2.1
          have hz := hkz 0
          obtain ⟨d, hd⟩ : ∃ d, (⟨(CK 0).toArray⟩ : ByteArray) = d := ⟨_, rfl⟩
          have hdz : d.size ≤ 4 := by rw [← hd]; exact (show (CK 0).toArray.size ≤ 4 by simpa using hz.out)
          have q8 : (9223372036854775807 < d.size + 1) = False := by simp; omega
          rw [hd]
          cases hb : HS 1
          · have hfin : Hid (d = ⟨(CK (0 + 1)).toArray⟩) := Lib.hid (by rw [← hd, hnx, hb]; simp)
            rw [hb] at hbit
            replace hnx := Lib.hid hnx
            replace hb := Lib.hid hb
            replace hd := Lib.hid hd
            go_wp2_with fail
            go_roundw
            case rel => exact ⟨0 + 1, by omega, by rw [hfin.out], by simp, blk_alloc hXr.out _, hBr.out.alloc hBr.out.size _⟩
            case measure => simp [intOf]
          · have hfin : Hid (d ++ ⟨#[75]⟩ = ⟨(CK (0 + 1)).toArray⟩) := Lib.hid (by rw [← hd, hnx, hb, if_pos rfl, ba_snoc])
            rw [hb] at hbit
            replace hnx := Lib.hid hnx
            replace hb := Lib.hid hb
            replace hd := Lib.hid hd
            go_wp2_with fail
            go_roundw
            case rel => exact ⟨0 + 1, by omega, by rw [hfin.out], by simp, blk_alloc hXr.out _, hBr.out.alloc hBr.out.size _⟩
            case measure => simp [intOf]
        · have hbit : (bits .and .u8 castle 2 != 0) = HS 2 := hhas.out 2 (by decide)
          have hidx := idx1
          unfold rightsC at hidx
          have hnx := hks.out.2.2.1
          have hz := hkz 1
          obtain ⟨d, hd⟩ : ∃ d, (⟨(CK 1).toArray⟩ : ByteArray) = d := ⟨_, rfl⟩
          have hdz : d.size ≤ 4 := by rw [← hd]; exact (show (CK 1).toArray.size ≤ 4 by simpa using hz.out)
          have q8 : (9223372036854775807 < d.size + 1) = False := by simp; omega
          rw [hd]
          cases hb : HS 2
          · have hfin : Hid (d = ⟨(CK (1 + 1)).toArray⟩) := Lib.hid (by rw [← hd, hnx, hb]; simp)
            rw [hb] at hbit
            replace hnx := Lib.hid hnx
            replace hb := Lib.hid hb
            replace hd := Lib.hid hd
            go_wp2_with fail
            go_roundw
            case rel => exact ⟨1 + 1, by omega, by rw [hfin.out], by simp, blk_alloc hXr.out _, hBr.out.alloc hBr.out.size _⟩
            case measure => simp [intOf]
          · have hfin : Hid (d ++ ⟨#[81]⟩ = ⟨(CK (1 + 1)).toArray⟩) := Lib.hid (by rw [← hd, hnx, hb, if_pos rfl, ba_snoc])
            rw [hb] at hbit
            replace hnx := Lib.hid hnx
            replace hb := Lib.hid hb
            replace hd := Lib.hid hd
            go_wp2_with fail
            go_roundw
            case rel => exact ⟨1 + 1, by omega, by rw [hfin.out], by simp, blk_alloc hXr.out _, hBr.out.alloc hBr.out.size _⟩
            case measure => simp [intOf]
        · have hbit : (bits .and .u8 castle 4 != 0) = HS 4 := hhas.out 4 (by decide)
          have hidx := idx2
          unfold rightsC at hidx
          have hnx := hks.out.2.2.2.1
          have hz := hkz 2
          obtain ⟨d, hd⟩ : ∃ d, (⟨(CK 2).toArray⟩ : ByteArray) = d := ⟨_, rfl⟩
          have hdz : d.size ≤ 4 := by rw [← hd]; exact (show (CK 2).toArray.size ≤ 4 by simpa using hz.out)
          have q8 : (9223372036854775807 < d.size + 1) = False := by simp; omega
          rw [hd]
          cases hb : HS 4
          · have hfin : Hid (d = ⟨(CK (2 + 1)).toArray⟩) := Lib.hid (by rw [← hd, hnx, hb]; simp)
            rw [hb] at hbit
            replace hnx := Lib.hid hnx
            replace hb := Lib.hid hb
            replace hd := Lib.hid hd
            go_wp2_with fail
            go_roundw
            case rel => exact ⟨2 + 1, by omega, by rw [hfin.out], by simp, blk_alloc hXr.out _, hBr.out.alloc hBr.out.size _⟩
            case measure => simp [intOf]
          · have hfin : Hid (d ++ ⟨#[107]⟩ = ⟨(CK (2 + 1)).toArray⟩) := Lib.hid (by rw [← hd, hnx, hb, if_pos rfl, ba_snoc])
            rw [hb] at hbit
            replace hnx := Lib.hid hnx
            replace hb := Lib.hid hb
            replace hd := Lib.hid hd
            go_wp2_with fail
            go_roundw
            case rel => exact ⟨2 + 1, by omega, by rw [hfin.out], by simp, blk_alloc hXr.out _, hBr.out.alloc hBr.out.size _⟩
            case measure => simp [intOf]
        · have hbit : (bits .and .u8 castle 8 != 0) = HS 8 := hhas.out 8 (by decide)
          have hidx := idx3
          unfold rightsC at hidx
          have hnx := hks.out.2.2.2.2
          have hz := hkz 3
          obtain ⟨d, hd⟩ : ∃ d, (⟨(CK 3).toArray⟩ : ByteArray) = d := ⟨_, rfl⟩
          have hdz : d.size ≤ 4 := by rw [← hd]; exact (show (CK 3).toArray.size ≤ 4 by simpa using hz.out)
          have q8 : (9223372036854775807 < d.size + 1) = False := by simp; omega
          rw [hd]
          cases hb : HS 8
          · have hfin : Hid (d = ⟨(CK (3 + 1)).toArray⟩) := Lib.hid (by rw [← hd, hnx, hb]; simp)
            rw [hb] at hbit
            replace hnx := Lib.hid hnx
            replace hb := Lib.hid hb
            replace hd := Lib.hid hd
            go_wp2_with fail
            go_roundw
            case rel => exact ⟨3 + 1, by omega, by rw [hfin.out], by simp, blk_alloc hXr.out _, hBr.out.alloc hBr.out.size _⟩
            case measure => simp [intOf]
          · have hfin : Hid (d ++ ⟨#[113]⟩ = ⟨(CK (3 + 1)).toArray⟩) := Lib.hid (by rw [← hd, hnx, hb, if_pos rfl, ba_snoc])
            rw [hb] at hbit
            replace hnx := Lib.hid hnx
            replace hb := Lib.hid hb
            replace hd := Lib.hid hd
            go_wp2_with fail
            go_roundw
            case rel => exact ⟨3 + 1, by omega, by rw [hfin.out], by simp, blk_alloc hXr.out _, hBr.out.alloc hBr.out.size _⟩
            case measure => simp [intOf]
        · obtain ⟨d8, hd8⟩ : ∃ d, (⟨(CK 4).toArray⟩ : ByteArray) = d := ⟨_, rfl⟩
          rw [hd8]
          have y5 := cell_of hXr.out 5 _ rfl
          have y0 := cell_of hXr.out 0 _ rfl
          have y1 := cell_of hXr.out 1 _ rfl
          clear y4 hhas hkz hks
          by_cases he : CK 4 = []
          · have hct2 : Hid (ct = ⟨#[45]⟩) := Lib.hid (by rw [hct.out, if_pos he])
            obtain rfl := hct2.out
            have he1 : (d8.toList == []) = true := by rw [ByteArray.toList_eq, ← hd8, he]; rfl
            clear hct hct2
            replace he := Lib.hid he
            replace hd8 := Lib.hid hd8
            by_cases hp0 : 0 ≤ passant
            · have hb2 : Hid (bh = nameB f passant) := Lib.hid (by rw [hbh.out, if_pos hp0])
              have hnm2 := fun W => hnm W hp0
              rw [← hb2.out] at hnm2
              clear hnm hbh
              go_wp2_with fail
              refine (hnm2 _).out.mono ?_
              rintro e V6 ⟨rfl, hV6⟩
              have hX6 := Lib.hid (below_blk hV6 hXr.out)
              have hB6 := Lib.hid (hBr.out.trans (hV6.mono hBr.out.size))
              clear hV6 hXr hBr y0 y1 y5 hnm2
              go_wp2_with fail
              have hIh2 := fun x : Ext V6.heap.size V6 => hIh x.1 (hB6.out.trans (x.2.mono hB6.out.size))
              have hIu2 := fun x : Ext V6.heap.size V6 => hIu x.1 (hB6.out.trans (x.2.mono hB6.out.size))
              have y6 := fun x : Ext V6.heap.size V6 => cell_of (below_blk x.2 hX6.out) 6 _ rfl
              have y7 := fun x : Ext V6.heap.size V6 => cell_of (below_blk x.2 hX6.out) 7 _ rfl
              refine ext_tail 11 (by kernel_rfl) (by kernel_rfl) ?_
              simp only [List.take_succ_cons, List.take_zero, List.drop_succ_cons, List.drop_zero]
              repeat (first | (go_big_quiet_step ((go_at_call 71; first | (with_reducible exact Pure.ext (Nat.le_refl _) (Hid.out (hIh2 _))) | (with_reducible exact Pure.ext (Nat.le_refl _) (Hid.out (hIu2 _)))))) | ((refine wpQuiet_step (fun K hK => ?_)); go_simp; (refine ⟨_, fun _ => rfl, hK _ ?_⟩); clear hK K))
              refine wpQuiet_nil ?_
              rintro V7 ⟨x, hx⟩
              have hB7 := Lib.hid (hx ▸ hB6.out.trans (x.2.mono hB6.out.size) : Below w.heap.size w V7)
              clear hx x y6 y7 hIh2 hIu2 hIh hIu
              have hwd := fun W G hG => Lib.hid (words7 hJ W G hw.out htx.out hjn.out hG)
              go_wp2_with fail
              refine (hwd _ _ (blk_new rfl _)).out.mono ?_
              rintro e V8 ⟨rfl, hV8⟩
              have hB8 := hB7.out.trans ((below_of_alloc hV8).mono hB7.out.size)
              clear hV8 hwd
              go_wp2
              go_ret2
              exact ⟨by rfl, hB8⟩
            · have hb2 : Hid (bh = ⟨#[45]⟩) := Lib.hid (by rw [hbh.out, if_neg hp0])
              obtain rfl := hb2.out
              clear hnm hbh hb2
              obtain ⟨V6, hV6⟩ : ∃ V6, wr = V6 := ⟨_, rfl⟩
              rw [hV6] at hXr hBr y0 y1 y5 hBl ⊢
              clear hV6
              have hX6 := hXr
              have hB6 := hBr
              go_wp2_with fail
              clear y0 y1 y5 hXr hBr
              have hIh2 := fun x : Ext V6.heap.size V6 => hIh x.1 (hB6.out.trans (x.2.mono hB6.out.size))
              have hIu2 := fun x : Ext V6.heap.size V6 => hIu x.1 (hB6.out.trans (x.2.mono hB6.out.size))
              have y6 := fun x : Ext V6.heap.size V6 => cell_of (below_blk x.2 hX6.out) 6 _ rfl
              have y7 := fun x : Ext V6.heap.size V6 => cell_of (below_blk x.2 hX6.out) 7 _ rfl
              refine ext_tail 11 (by kernel_rfl) (by kernel_rfl) ?_
              simp only [List.take_succ_cons, List.take_zero, List.drop_succ_cons, List.drop_zero]
              repeat (first | (go_big_quiet_step ((go_at_call 71; first | (with_reducible exact Pure.ext (Nat.le_refl _) (Hid.out (hIh2 _))) | (with_reducible exact Pure.ext (Nat.le_refl _) (Hid.out (hIu2 _)))))) | ((refine wpQuiet_step (fun K hK => ?_)); go_simp; (refine ⟨_, fun _ => rfl, hK _ ?_⟩); clear hK K))
              refine wpQuiet_nil ?_
              rintro V7 ⟨x, hx⟩
              have hB7 := Lib.hid (hx ▸ hB6.out.trans (x.2.mono hB6.out.size) : Below w.heap.size w V7)
              clear hx x y6 y7 hIh2 hIu2 hIh hIu
              have hwd := fun W G hG => Lib.hid (words7 hJ W G hw.out htx.out hjn.out hG)
              go_wp2_with fail
              refine (hwd _ _ (blk_new rfl _)).out.mono ?_
              rintro e V8 ⟨rfl, hV8⟩
              have hB8 := hB7.out.trans ((below_of_alloc hV8).mono hB7.out.size)
              clear hV8 hwd
              go_wp2
              go_ret2
              exact ⟨by rfl, hB8⟩
          · have hct2 : Hid (ct = d8) := Lib.hid (by rw [hct.out, if_neg he, hd8])
            obtain rfl := hct2.out
            have he1 : (ct.toList == []) = false := by
              rw [ByteArray.toList_eq, ← hd8]
              cases h : CK 4 with
              | nil => exact absurd h he
              | cons a l => rfl
            clear hct hct2
            replace he := Lib.hid he
            replace hd8 := Lib.hid hd8
            by_cases hp0 : 0 ≤ passant
            · have hb2 : Hid (bh = nameB f passant) := Lib.hid (by rw [hbh.out, if_pos hp0])
              have hnm2 := fun W => hnm W hp0
              rw [← hb2.out] at hnm2
              clear hnm hbh
              go_wp2_with fail
              refine (hnm2 _).out.mono ?_
              rintro e V6 ⟨rfl, hV6⟩
              have hX6 := Lib.hid (below_blk hV6 hXr.out)
              have hB6 := Lib.hid (hBr.out.trans (hV6.mono hBr.out.size))
              clear hV6 hXr hBr y0 y1 y5 hnm2
              go_wp2_with fail
              have hIh2 := fun x : Ext V6.heap.size V6 => hIh x.1 (hB6.out.trans (x.2.mono hB6.out.size))
              have hIu2 := fun x : Ext V6.heap.size V6 => hIu x.1 (hB6.out.trans (x.2.mono hB6.out.size))
              have y6 := fun x : Ext V6.heap.size V6 => cell_of (below_blk x.2 hX6.out) 6 _ rfl
              have y7 := fun x : Ext V6.heap.size V6 => cell_of (below_blk x.2 hX6.out) 7 _ rfl
              refine ext_tail 11 (by kernel_rfl) (by kernel_rfl) ?_
              simp only [List.take_succ_cons, List.take_zero, List.drop_succ_cons, List.drop_zero]
              repeat (first | (go_big_quiet_step ((go_at_call 71; first | (with_reducible exact Pure.ext (Nat.le_refl _) (Hid.out (hIh2 _))) | (with_reducible exact Pure.ext (Nat.le_refl _) (Hid.out (hIu2 _)))))) | ((refine wpQuiet_step (fun K hK => ?_)); go_simp; (refine ⟨_, fun _ => rfl, hK _ ?_⟩); clear hK K))
              refine wpQuiet_nil ?_
              rintro V7 ⟨x, hx⟩
              have hB7 := Lib.hid (hx ▸ hB6.out.trans (x.2.mono hB6.out.size) : Below w.heap.size w V7)
              clear hx x y6 y7 hIh2 hIu2 hIh hIu
              have hwd := fun W G hG => Lib.hid (words7 hJ W G hw.out htx.out hjn.out hG)
              go_wp2_with fail
              refine (hwd _ _ (blk_new rfl _)).out.mono ?_
              rintro e V8 ⟨rfl, hV8⟩
              have hB8 := hB7.out.trans ((below_of_alloc hV8).mono hB7.out.size)
              clear hV8 hwd
              go_wp2
              go_ret2
              exact ⟨by rfl, hB8⟩
            · have hb2 : Hid (bh = ⟨#[45]⟩) := Lib.hid (by rw [hbh.out, if_neg hp0])
              obtain rfl := hb2.out
              clear hnm hbh hb2
              obtain ⟨V6, hV6⟩ : ∃ V6, wr = V6 := ⟨_, rfl⟩
              rw [hV6] at hXr hBr y0 y1 y5 hBl ⊢
              clear hV6
              have hX6 := hXr
              have hB6 := hBr
              go_wp2_with fail
              clear y0 y1 y5 hXr hBr
              have hIh2 := fun x : Ext V6.heap.size V6 => hIh x.1 (hB6.out.trans (x.2.mono hB6.out.size))
              have hIu2 := fun x : Ext V6.heap.size V6 => hIu x.1 (hB6.out.trans (x.2.mono hB6.out.size))
              have y6 := fun x : Ext V6.heap.size V6 => cell_of (below_blk x.2 hX6.out) 6 _ rfl
              have y7 := fun x : Ext V6.heap.size V6 => cell_of (below_blk x.2 hX6.out) 7 _ rfl
              refine ext_tail 11 (by kernel_rfl) (by kernel_rfl) ?_
              simp only [List.take_succ_cons, List.take_zero, List.drop_succ_cons, List.drop_zero]
              repeat (first | (go_big_quiet_step ((go_at_call 71; first | (with_reducible exact Pure.ext (Nat.le_refl _) (Hid.out (hIh2 _))) | (with_reducible exact Pure.ext (Nat.le_refl _) (Hid.out (hIu2 _)))))) | ((refine wpQuiet_step (fun K hK => ?_)); go_simp; (refine ⟨_, fun _ => rfl, hK _ ?_⟩); clear hK K))
              refine wpQuiet_nil ?_
              rintro V7 ⟨x, hx⟩
              have hB7 := Lib.hid (hx ▸ hB6.out.trans (x.2.mono hB6.out.size) : Below w.heap.size w V7)
              clear hx x y6 y7 hIh2 hIu2 hIh hIu
              have hwd := fun W G hG => Lib.hid (words7 hJ W G hw.out htx.out hjn.out hG)
              go_wp2_with fail
              refine (hwd _ _ (blk_new rfl _)).out.mono ?_
              rintro e V8 ⟨rfl, hV8⟩
              have hB8 := hB7.out.trans ((below_of_alloc hV8).mono hB7.out.size)
              clear hV8 hwd
              go_wp2
              go_ret2
              exact ⟨by rfl, hB8⟩
end Go.Proofs.YtbhienpbfidgjaaGreatDoor
