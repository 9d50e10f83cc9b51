/- Boards: the text of a board. Conditions: the library's Reverse and Join as said; the table of kinds and the pieces lie in memory. -/
import Derived.Test.YtbhienpbfidgjaaGreatDoorF3
import Derived.Test.YtbhienpbfidgjaaGreatDoorV1
import Derived.RangeFuncBox
import Derived.Maps.AppendAt
import Derived.Lib.Join
set_option linter.unusedVariables false
set_option linter.unusedSimpArgs false
namespace Go.Proofs.YtbhienpbfidgjaaGreatDoor
open Go.RowKit
attribute [local go_sem] Oper.semAt_some
section
variable {P : Program} {ops : Array Oper}
theorem uponIn_of {l n : Nat} {o : Oper} {a : Act} {K : Act → World → Prop} {Q : Exit → Act → World → Prop} {r : Result Next} (h : o.upon P a K Q r) : o.uponIn (Fence.wide.inRound l) n P a K Q r := by
  cases r with
  | ok x w =>
    cases x with
    | value v => exact h
    | skip => exact h
    | defer d => exact h
    | enter f args => exact ⟨fun h => (by cases h), CallsIn.inRound l (callsIn_wide.2 (Calls.mono h fun e w he => by cases e <;> exact he))⟩
    | row row args => exact ⟨fun h => (by cases h), fun c cs _ => let ⟨v, w', r, s⟩ := h c cs; ⟨v, w', r, stepsIn_wide.2 s⟩⟩
    | _ => exact h.elim
  | halt x w => cases x <;> exact h
theorem opsIn_of {l n : Nat} {Q : Exit → Act → World → Prop} (hd : ∀ (i : Nat) (o : Oper), ops[i]? = some o → ∀ c, o.op ≠ .defer c) (hL : ¬ LetsOut Q) : ∀ (L : List Nat) (a : Act) (w : World), wpOps P ops Q L a w → wpOpsIn (Fence.wide.inRound l) n P ops Q L a w
  | [], _, _, h => h
  | i :: L, a, w, h => by
    have ih := opsIn_of (l := l) (n := n) hd hL L
    unfold wpOps at h
    unfold wpOpsIn
    cases ho : ops[i]? with
    | none =>
      rw [ho] at h
      exact ih _ _ h
    | some o =>
      rw [ho] at h
      dsimp only at h ⊢
      split at h
      · rename_i hw
        rw [if_pos hw]
        refine Oper.wpIn_mono (fun a w h => ih a w h) ⟨fun _ _ => trivial, ?_⟩
        rcases h with h | ⟨-, h⟩
        · have e : o.semAt (Fence.wide.inRound l).round a.eval = execOp a.eval o := Oper.semAt_some l _ _ (hd i o ho)
          rw [e]
          exact uponIn_of h
        · exact absurd h hL
      · rename_i hw
        rw [if_neg hw]
        exact ⟨fun _ _ => trivial, ih _ _ h⟩
theorem regionIn_any {l n id : Nat} {Q : Exit → Act → World → Prop} {a : Act} {w : World} (hm : P.follows .mixedOrders = true) (hd : ops.all (fun o => match o.op with | .defer _ => false | _ => true) = true) (hL : ¬ LetsOut Q)
    (h : wpAny P .any ops Q ops.size (Array.replicate ops.size false) a w.drew) : (Code.region id ops true).wpIn (Fence.wide.inRound l) n P Q a w :=
  wpIn_region_draw fun t => opsIn_of (fun i o ho c e => by
    obtain ⟨hi, rfl⟩ := Array.getElem?_eq_some_iff.1 ho
    have := Array.all_eq_true.1 hd i hi
    rw [e] at this
    cases this) hL _ _ _ (by
      simp only [Region.schedule, hm, Bool.true_or, if_true]
      exact wpAny_sound ops.size t _ a _ h)
theorem wpAny_all {md : Region.Mode} {Q : Exit → Act → World → Prop} {rs : List Nat} {fuel : Nat} {listed : Array Bool} {a : Act} {w : World} (hr : Region.ready md ops listed = rs) (hne : rs ≠ [])
    (h : ∀ i ∈ rs, ∃ o, ops[i]? = some o ∧ o.guard = none ∧ o.wp P a w (fun a' w' => wpAny P md ops Q fuel (listed.setIfInBounds i true) a' w') Q) : wpAny P md ops Q (fuel + 1) listed a w :=
  ⟨fun h0 => absurd (hr ▸ h0) hne, hr ▸ fun i hi => by
    obtain ⟨o, ho, hg, hw⟩ := h i hi
    unfold wpOp
    simp only [ho]
    rw [if_pos (by simp [Region.wanted, hg])]
    exact .inl hw⟩
theorem wpAny_only {md : Region.Mode} {Q : Exit → Act → World → Prop} {i : Nat} {o : Oper} {fuel : Nat} {listed : Array Bool} {a : Act} {w : World} (hr : Region.ready md ops listed = [i]) (ho : ops[i]? = some o) (hg : o.guard = none)
    (h : o.wp P a w (fun a' w' => wpAny P md ops Q fuel (listed.setIfInBounds i true) a' w') Q) : wpAny P md ops Q (fuel + 1) listed a w :=
  wpAny_all hr (by simp) fun j hj => by
    obtain rfl : j = i := by simpa using hj
    exact ⟨o, ho, hg, h⟩
theorem wpAny_two {md : Region.Mode} {Q : Exit → Act → World → Prop} {i j : Nat} {o p : Oper} {fuel : Nat} {listed : Array Bool} {a : Act} {w : World} (hr : Region.ready md ops listed = [i, j]) (ho : ops[i]? = some o) (hg : o.guard = none) (hp : ops[j]? = some p) (hpg : p.guard = none)
    (h : o.wp P a w (fun a' w' => wpAny P md ops Q fuel (listed.setIfInBounds i true) a' w') Q) (h2 : p.wp P a w (fun a' w' => wpAny P md ops Q fuel (listed.setIfInBounds j true) a' w') Q) : wpAny P md ops Q (fuel + 1) listed a w :=
  wpAny_all hr (by simp) fun k hk => by
    simp only [List.mem_cons, List.not_mem_nil, or_false] at hk
    rcases hk with rfl | rfl
    · exact ⟨o, ho, hg, h⟩
    · exact ⟨p, hp, hpg, h2⟩
end
def strV (s : ByteArray) : Value := .string s
theorem joinL_len (xs : List (List UInt8)) (m : Nat) (h : ∀ l ∈ xs, l.length ≤ m) : (Lib.join xs [47]).length ≤ xs.length * (m + 1) := by
  induction xs with
  | nil => simp [Lib.join, List.intercalate]
  | cons x r ih =>
    cases r with
    | nil =>
      rw [Lib.join_one]
      have := h x (by simp)
      simp
      omega
    | cons y r =>
      have e : Lib.join (x :: y :: r) [47] = x ++ [47] ++ Lib.join (y :: r) [47] := by simp [Lib.join, List.intercalate]
      rw [e]
      have h1 := h x (by simp)
      have h2 := ih (fun l hl => h l (List.mem_cons_of_mem _ hl))
      simp only [List.length_append, List.length_cons, List.length_nil, Nat.add_mul] at h2 ⊢
      omega
def RevOK : Prop := ∀ (B : Nat) (v : Value) (xs : List ByteArray) (w : World), w.ownsRow B 9 1 v xs.length (xs.map strV) → xs.length ≤ 1000 →
  Calls Tryz.prog 123 #[v] w fun e w' => e = .returned (.tuple #[]) ∧ w'.ownsRow B 9 1 v xs.length (xs.reverse.map strV) ∧ w.grownBy w' v.ownBlock
def JoinOK : Prop := ∀ (bk o c : Nat) (xs : List ByteArray) (sep : ByteArray) (w : World), (∀ (j : Nat) x, xs[j]? = some x → w.cell? ⟨bk, o + j, none⟩ = some (.string x)) → bk < w.heap.size → xs.length ≤ 1000 → xs.length ≤ c →
  (Lib.join (xs.map (·.data.toList)) sep.data.toList).length ≤ 1000000 →
  Pure 124 #[.slice (some ⟨bk, o, none⟩) xs.length c, .string sep] w (.string ⟨(Lib.join (xs.map (·.data.toList)) sep.data.toList).toArray⟩)
def rankAt (f : Nat) (ps : List Int) (i : Nat) : ByteArray := ⟨(rankL ((ps.drop (f * i)).take f)).toArray⟩
def boardL (f r : Nat) (ps : List Int) : List UInt8 := Lib.join (((List.range r).map (rankAt f ps)).reverse.map (·.data.toList)) [47]
def boardV (f r : Int) (ps : List Int) : Value := if bvalid f r ps then .tuple #[.string ⟨(boardL f.toNat r.toNat ps).toArray⟩, .int .i64 0] else .tuple #[.string ⟨#[]⟩, .int .i64 2]
theorem Tryz.infoStr : (Tryz.prog.info? 9).map (fun i => (i.zero, i.size, i.bytes)) = some (some (.string ⟨#[]⟩), 1, 16) := by kernel_rfl
theorem own_mono {w : World} {B B' : Nat} {e : TypeId} {size n : Nat} {v : Value} {xs : List Value} (h : w.ownsRow B e size v n xs) (hb : B' ≤ B) : w.ownsRow B' e size v n xs :=
  ⟨h.1, h.2.imp id fun ⟨g, cap, cur, h1, h2, h3⟩ => ⟨g, cap, cur, h1, Nat.le_trans hb h2, h3⟩⟩
theorem chunkStep {V V2 w1 : World} {n0 RB n m : Nat} {v v' : Value} {xs ys : List Value} {tmp : Obj} (hn : n0 ≤ V.heap.size) (hRB : RB < n0) (hb : Below V.heap.size V V2) (hv : Boxed V RB 77 v)
    (hrow : V.ownsRow n0 9 1 v n xs) (hown' : w1.ownsRow n0 9 1 v' m ys) (hgrow : (V2.alloc tmp).grownBy w1 v.ownBlock) :
    Boxed w1 RB 77 v ∧ KeepsOthers V (w1.setCell ⟨RB, 0, none⟩ v') ∧ But n0 RB V (w1.setCell ⟨RB, 0, none⟩ v') ∧ Boxed (w1.setCell ⟨RB, 0, none⟩ v') RB 77 v' ∧
      (w1.setCell ⟨RB, 0, none⟩ v').ownsRow n0 9 1 v' m ys ∧ Below RB V (w1.setCell ⟨RB, 0, none⟩ v') := by
  have hv2 : Boxed V2 RB 77 v := below_blk hb hv
  have hrow2 : V2.ownsRow n0 9 1 v n xs := own_below hrow hb
  have hsz := hb.size
  obtain ⟨a1, a2, a3, a4, a5⟩ := hv2.appended (n₀ := RB) (by decide) (own_mono hrow2 (by omega)) (by omega) (Nat.le_refl _) (own_mono hown' (by omega)) hgrow
  refine ⟨a1, (KeepsOthers.of_grownBy (below_grown2 hb (row := none)) (fun j o e => by cases e)).trans a4, ⟨?_, fun k hk hne => ?_⟩, a2, hown'.kept (grownBy_setCell' w1 RB v') (.inr (a1.not_row (by decide) hown').symm), (hb.mono (by omega)).trans a5⟩
  · have := a5.size; omega
  · refine (Below.heap_setCell w1 ⟨RB, 0, none⟩ v' k hne).trans ((hgrow.block k (by simp; omega) (fun e => ?_)).trans ((Below.heap_alloc V2 tmp k (by omega)).trans (hb.block k (by omega))))
    have := (hrow2.lt k e.symm).1
    omega
theorem bvalid_l (w : World) (f r : Int) (ps : List Int) (po : Option Addr) (cap : Nat) (hS : SlcAt w po ps) (hn : ps.length ≤ 1000000) : Pure 53 #[bdV f r po ps.length cap] w (.bool (bvalid f r ps)) := by
  by_cases h100 : ps.length ≤ 100
  · exact bvalid_c w f r ps po cap hS h100
  · have h1 := fun W => Lib.hid (count_c W f r)
    unfold countV at h1
    have hbv : bvalid f r ps = false := by
      unfold bvalid
      cases hv : vsize f r
      · rfl
      · obtain ⟨m1, m2⟩ := vsize_mul hv
        have : ((ps.length : Int) == f * r) = false := by simp; omega
        rw [this]; rfl
    rw [hbv]
    unfold bdV
    clear hS hbv
    cases hv : vsize f r
    · simp only [hv, Bool.false_eq_true, if_false] at h1
      replace hv := Lib.hid hv
      unfold Pure
      go_enter Tryz.func53, Tryz.ntmps53
      go_wp2_with fail
      refine ((h1 _).out).mono ?_
      rintro e V ⟨rfl, hV⟩
      go_wp2
      go_ret
      exact ⟨by simp, below_of_alloc hV⟩
    · simp only [hv, if_true] at h1
      obtain ⟨m1, m2⟩ := vsize_mul hv
      have hl : ((ps.length : Int) == f * r) = false := by simp; omega
      replace hv := Lib.hid hv
      unfold Pure
      go_enter Tryz.func53, Tryz.ntmps53
      go_wp2_with fail
      refine ((h1 _).out).mono ?_
      rintro e V ⟨rfl, hV⟩
      have hX := box_of hV
      have y0 := cell_of hX 0 _ rfl
      have y1 := cell_of hX 1 _ rfl
      have y2 := cell_of hX 2 _ rfl
      have hB := Lib.hid (below_of_alloc hV)
      clear hX hV
      go_wp2
      go_ret
      exact ⟨by simp, hB.out⟩
set_option maxRecDepth 100000 in
set_option maxHeartbeats 2000000 in
theorem btext_c (hR : RevOK) (hJ : JoinOK) (w : World) (hK : KindsAt w) (f r : Int) (ps : List Int) (po : Option Addr) (cap : Nat) (hS : SlcAt w po ps) (hn : ps.length ≤ 1000000) (hc : ps.length ≤ cap) (hc2 : cap ≤ 9223372036854775807) :
    Pure 72 #[bdV f r po ps.length cap] w (boardV f r ps) := by
  have h1 := fun W (hW : Below w.heap.size w W) => Lib.hid (bvalid_l W f r ps po cap (hS.below hW) hn)
  unfold boardV
  obtain ⟨i0, hi, hz0, hz1, hz2⟩ := info_parts Tryz.infoStr
  cases hv : bvalid f r ps
  · rw [hv] at h1
    unfold bdV at *
    replace hS := Lib.hid hS
    replace hv := Lib.hid hv
    clear hR hJ
    unfold Pure
    go_enter Tryz.func72, Tryz.ntmps72
    go_wp2_with fail
    refine (h1 _ ((Below.refl _ _).alloc (Nat.le_refl _) _)).out.mono ?_
    rintro e V ⟨rfl, hV⟩
    go_wp2
    go_ret2
    exact ⟨rfl, below_of_alloc hV⟩
  · rw [hv] at h1
    have hv2 := hv
    unfold bvalid at hv2
    simp only [Bool.and_eq_true, beq_iff_eq] at hv2
    obtain ⟨⟨hz, hlen⟩, hbad⟩ := hv2
    obtain ⟨z1, z2, z3, z4⟩ := vsize_bd hz
    obtain ⟨fn, rfl⟩ : ∃ fn : Nat, f = fn := ⟨f.toNat, by omega⟩
    obtain ⟨rn, rfl⟩ : ∃ rn : Nat, r = rn := ⟨r.toNat, by omega⟩
    have hlen' : ps.length = fn * rn := by exact_mod_cast hlen
    obtain ⟨b, off, rfl, hP⟩ := hS.resolve_left (by
      intro h
      rw [h] at hlen'
      have := Nat.mul_pos (show 0 < fn by omega) (show 0 < rn by omega)
      simp at hlen'
      omega)
    clear hlen
    replace hv := Lib.hid hv
    replace hbad := Lib.hid hbad
    replace hz := Lib.hid hz
    replace hP := Lib.hid hP
    replace hK := Lib.hid hK
    simp only [if_true, Int.toNat_natCast]
    unfold bdV at *
    rw [hlen'] at h1 hn hc ⊢
    replace hlen' := Lib.hid hlen'
    obtain ⟨N, hN⟩ : ∃ N, fn * rn = N := ⟨_, rfl⟩
    rw [hN] at h1 hn hc ⊢
    replace hN := Lib.hid hN
    have hrank : ∀ i : Nat, i < rn → ∀ W, Below w.heap.size w W → Pure 122 #[.slice (some ⟨b, off + fn * i, none⟩) fn fn] W (.string (rankAt fn ps i)) := by
      intro i hi W hW
      have hle : fn * i + fn ≤ fn * rn := by rw [← Nat.mul_succ]; exact Nat.mul_le_mul_left fn hi
      have hl : ((ps.drop (fn * i)).take fn).length = fn := by simp; have := hlen'.out; omega
      have h := rank_c W (hK.out.below hW) ((ps.drop (fn * i)).take fn) b (off + fn * i) fn (fun j p hj => by
        have hj2 : ps[fn * i + j]? = some p := by
          rw [List.getElem?_take] at hj
          split at hj
          · rwa [List.getElem?_drop] at hj
          · cases hj
        have := below_at hW (hP.out (fn * i + j) p hj2)
        rwa [← Nat.add_assoc] at this) (by omega) (fun p hp => by
        have hm : p ∈ ps := List.mem_of_mem_drop (List.mem_of_mem_take hp)
        have h2 : badB p = false := by
          have h3 := hbad.out
          simp only [Bool.not_eq_true', List.any_eq_false, Bool.not_eq_true] at h3
          exact h3 p hm
        simp [badB] at h2
        omega)
      rw [hl] at h
      exact h
    have hck := fun W => Lib.hid (chunk_c W b off N cap fn (by omega) (by omega))
    unfold Pure
    refine (callsIn_wide (n := 10)).1 ?_
    refine callsIn_of_wp_marks Tryz.func72 rfl trivial ?_ rfl
    simp only [Tryz.ntmps72, List.size_toArray, List.length_cons, List.length_nil, Nat.reduceAdd, Nat.reduceSub, Array.replicate_succ, Array.replicate_zero, List.push_toArray, List.append_toArray, List.nil_append, List.cons_append]
    gi_wp2
    refine ⟨trivial, ?_⟩
    refine (callsIn_wide.2 (h1 _ ((Below.refl _ _).alloc (Nat.le_refl _) _)).out).mono ?_
    rintro e V ⟨rfl, hV⟩
    have hX := box_of hV
    have hB := Lib.hid (below_of_alloc hV)
    clear hV h1
    have y0 := cell_of hX 0 _ rfl
    have y1 := cell_of hX 1 _ rfl
    have y2 := cell_of hX 2 _ rfl
    have hBl := lt_of_blk hX
    obtain ⟨B, hBe⟩ : ∃ B, w.heap.size = B := ⟨_, rfl⟩
    rw [hBe] at hX y0 y1 y2 hBl ⊢
    replace hX := Lib.hid hX
    replace hBe := Lib.hid hBe
    gi_wp2
    refine ⟨trivial, ?_⟩
    refine (callsIn_wide.2 (hck _).out).mono ?_
    rintro e W2 ⟨rfl, hR2, hs2, hB2⟩
    simp only [World.size_alloc] at hR2 hs2
    obtain ⟨G, hG⟩ : ∃ G, G = V.heap.size := ⟨_, rfl⟩
    have hB3 := Lib.hid (hB.out.trans ((below_of_alloc hB2).mono hB.out.size))
    have hX2 := Lib.hid (below_blk (below_of_alloc hB2) hX.out)
    have hBx : Boxed W2 G 77 (.slice none 0 0) := by rw [hG]; exact box_of hB2
    clear hB2 y0 y1 y2 hck
    rw [← hG] at hR2 hs2 hBl
    replace hBx := Lib.hid hBx
    have hBw : w.heap.size ≤ G := by rw [hBe.out]; omega
    gi_wp2
    rw [← hG]
    replace hG := Lib.hid hG
    rw [← hN.out] at hR2 hc
    refine wpIn_rangeFunc_ownF rfl (by decide) (gf := 148) (lb := #[.pointer (some ⟨G + 1, 0, none⟩), .pointer (some ⟨G + 1 + 1, 0, none⟩)]) rfl trivial (enters_of Tryz.func148 (by kernel_rfl) rfl)
      (chunk_stops 9 (by decide) (G + 1) (G + 1 + 1) W2.heap.size G b off cap fn rn W2 (by omega) (by omega) (by omega) (by omega) hc hc2 (by omega) (by omega) (by omega) (by omega) (Nat.le_refl _) hR2) But.trans ?hKb (Below.refl _ _) (fun _ => rfl)
      (fun pre V => (∃ v, Boxed V G 77 v ∧ V.ownsRow W2.heap.size 9 1 v pre.length (pre.map fun x => strV (rankAt fn ps x.val))) ∧ V.heap[B]? = some (.cells #[.int .i64 (fn : Int), .int .i64 (rn : Int), .slice (some ⟨b, off, none⟩) N cap] 40 (0, 0)) ∧ Below w.heap.size w V ∧ W2.heap.size ≤ V.heap.size)
      (fun c pre V => False)
      ?hI (fun c pre A A' row h _ _ => h.elim) ⟨⟨_, hBx.out, by simpa using World.ownsRow_nil _ _ _ _⟩, hX2.out, hB3.out, Nat.le_refl _⟩
      (fun x => { tmps := #[.agg #[.int .i64 (fn : Int), .int .i64 (rn : Int), .slice (some ⟨b, off, none⟩) N cap], .pointer (some ⟨B, 0, none⟩), .string ⟨#[]⟩, .int .i64 0, .pointer (some ⟨G, 0, none⟩), (.slice (some ⟨b, off + fn * x.val, none⟩) fn fn), .agg #[.int .i64 (fn : Int), .int .i64 (rn : Int), .slice (some ⟨b, off, none⟩) N cap], .bool true, .bool false, .pointer (some ⟨B, 2, none⟩), .slice (some ⟨b, off, none⟩) N cap, .pointer (some ⟨B, 0, none⟩), .pointer (some ⟨B, 0, none⟩), .int .i64 (fn : Int), .func (.func 148) #[] #[.pointer (some ⟨G + 1, 0, none⟩), .pointer (some ⟨G + 1 + 1, 0, none⟩)], (.slice (some ⟨b, off + fn * x.val, none⟩) fn fn), undef, undef, undef, undef, undef, undef, undef, undef, undef], defers := [] }) ?assign ?body ?done ?stop
    case hKb => exact fun V l o o' hl ho _ _ => ⟨by simp, fun k hk _ => World.putObj_heap_other (by omega)⟩
    case hI =>
      intro pre A A' row ⟨⟨v, hv1, hv2⟩, hx, hb, hz⟩ hg hr
      refine ⟨⟨v, hv1.kept hg (fun e => ?_), hv2.kept hg ?_⟩, (hg.block B (lt_of_blk hx) (fun e => ?_)).trans hx, ?_, Nat.le_trans hz hg.size⟩
      · have := (hr G e.symm).1; omega
      · rcases hv2.2 with ⟨rfl, _⟩ | ⟨g, cap, cur, rfl, _, hgb, _⟩
        · exact .inl rfl
        · refine .inr fun e' => ?_
          obtain ⟨o, ho, hc⟩ := (hr g (by simpa [Value.ownBlock] using e'.symm)).2
          rw [hgb] at ho; cases ho; cases hc
      · have := (hr B e.symm).1; omega
      · exact hb.grown hg hb.size (fun k e => by have := (hr k e).1; have := hB3.out.size; omega)
    case assign =>
      intro l x W K hK
      gi_wp2
      exact hK
    case body =>
      rintro l pre x W ⟨⟨v, hv, hrow⟩, hx, hb, hVsz⟩ hpl
      replace hs2 := Lib.hid hs2
      have y := hv.cell
      have yf := hv.frozen
      have hrk := fun V hV => Lib.hid (hrank x.val x.2 V (hb.trans ((show Below W.heap.size W V from hV).mono hb.size)))
      refine wpIn_block ?_
      refine regionIn_any (by kernel_rfl) (by kernel_rfl) (fun ⟨_, _, h⟩ => h) ?_
      refine wpAny_take (i := 1) (v := (.slice (some ⟨b, off + fn * x.val, none⟩) fn fn)) rfl (by kernel_rfl) (by kernel_rfl) (by kernel_rfl) (fun _ _ _ h => h) (.inl ⟨by rfl, fun w' => by go_simp⟩) ?_
      refine wpAny_two (i := 0) (j := 2) (by kernel_rfl) rfl rfl rfl rfl ?_ ?_
      · go_simp
        refine wpAny_only (i := 2) (by kernel_rfl) rfl rfl ?_
        go_simp
        refine (hrk _ (Below.refl _ _).drew).out.mono ?_
        rintro e V2 ⟨rfl, hV2⟩
        replace hV2 : Below W.heap.size W V2 := below_undrew hV2
        refine wpAny_only (i := 3) (by kernel_rfl) rfl rfl ?_
        go_simp
        refine wpAny_only (i := 4) (by kernel_rfl) rfl rfl ?_
        refine wp_append_lies _ (.tmp 16) (.tmp 19) 77 rfl W2.heap.size 9 i0 (.string ⟨#[]⟩) 1 16 Tryz.underlying77 hi hz0 hz1 hz2 rfl (by decide) v pre.length _ rfl ((own_below hrow hV2).alloc _) ⟨V2.heap.size, 0, none⟩ 1 1 [.string (rankAt fn ps x.val)] rfl rfl (World.news_of_block (blk_new rfl _)) (by intro u hu; simp at hu; subst hu; rfl) (by omega) (by unfold maxLen; omega) (by omega) (by have := hV2.size; have := hVsz; simp; omega) _ rfl ?_
        intro g cap2 w1 hown' hgrow hat hlt
        obtain ⟨a1, a2, a3, a4, a5, a6⟩ := chunkStep (v' := .slice (some ⟨g, 0, none⟩) (pre.length + 1) cap2) hVsz (show G < W2.heap.size by have := hs2.out; omega) hV2 hv hrow hown' hgrow
        have z1 := a1.cell
        have z2 := a1.frozen
        refine wpAny_only (i := 5) (by kernel_rfl) rfl rfl ?_
        go_simp
        refine wpAny_done (by kernel_rfl) ?_ _
        refine ⟨a2, a3, ⟨_, a4, by simpa [strV] using a5⟩, (a6.block B hBl).trans hx, hb.trans (a6.mono hBw), Nat.le_trans hVsz a6.size⟩
      · go_simp
        refine (hrk _ (Below.refl _ _).drew).out.mono ?_
        rintro e V2 ⟨rfl, hV2⟩
        replace hV2 : Below W.heap.size W V2 := below_undrew hV2
        have yv2 := (show Boxed V2 G 77 v from below_blk hV2 hv).cell
        refine wpAny_two (i := 0) (j := 3) (by kernel_rfl) rfl rfl rfl rfl ?_ ?_
        · go_simp
          refine wpAny_only (i := 3) (by kernel_rfl) rfl rfl ?_
          go_simp
          refine wpAny_only (i := 4) (by kernel_rfl) rfl rfl ?_
          refine wp_append_lies _ (.tmp 16) (.tmp 19) 77 rfl W2.heap.size 9 i0 (.string ⟨#[]⟩) 1 16 Tryz.underlying77 hi hz0 hz1 hz2 rfl (by decide) v pre.length _ rfl ((own_below hrow hV2).alloc _) ⟨V2.heap.size, 0, none⟩ 1 1 [.string (rankAt fn ps x.val)] rfl rfl (World.news_of_block (blk_new rfl _)) (by intro u hu; simp at hu; subst hu; rfl) (by omega) (by unfold maxLen; omega) (by omega) (by have := hV2.size; have := hVsz; simp; omega) _ rfl ?_
          intro g cap2 w1 hown' hgrow hat hlt
          obtain ⟨a1, a2, a3, a4, a5, a6⟩ := chunkStep (v' := .slice (some ⟨g, 0, none⟩) (pre.length + 1) cap2) hVsz (show G < W2.heap.size by have := hs2.out; omega) hV2 hv hrow hown' hgrow
          have z1 := a1.cell
          have z2 := a1.frozen
          refine wpAny_only (i := 5) (by kernel_rfl) rfl rfl ?_
          go_simp
          refine wpAny_done (by kernel_rfl) ?_ _
          refine ⟨a2, a3, ⟨_, a4, by simpa [strV] using a5⟩, (a6.block B hBl).trans hx, hb.trans (a6.mono hBw), Nat.le_trans hVsz a6.size⟩
        · go_simp
          refine wpAny_only (i := 0) (by kernel_rfl) rfl rfl ?_
          have yv3 := (show Boxed (V2.alloc (.cells #[.string (rankAt fn ps x.val)] 9)) G 77 v from (show Boxed V2 G 77 v from below_blk hV2 hv).alloc _).cell
          go_simp
          refine wpAny_only (i := 4) (by kernel_rfl) rfl rfl ?_
          refine wp_append_lies _ (.tmp 16) (.tmp 19) 77 rfl W2.heap.size 9 i0 (.string ⟨#[]⟩) 1 16 Tryz.underlying77 hi hz0 hz1 hz2 rfl (by decide) v pre.length _ rfl ((own_below hrow hV2).alloc _) ⟨V2.heap.size, 0, none⟩ 1 1 [.string (rankAt fn ps x.val)] rfl rfl (World.news_of_block (blk_new rfl _)) (by intro u hu; simp at hu; subst hu; rfl) (by omega) (by unfold maxLen; omega) (by omega) (by have := hV2.size; have := hVsz; simp; omega) _ rfl ?_
          intro g cap2 w1 hown' hgrow hat hlt
          obtain ⟨a1, a2, a3, a4, a5, a6⟩ := chunkStep (v' := .slice (some ⟨g, 0, none⟩) (pre.length + 1) cap2) hVsz (show G < W2.heap.size by have := hs2.out; omega) hV2 hv hrow hown' hgrow
          have z1 := a1.cell
          have z2 := a1.frozen
          refine wpAny_only (i := 5) (by kernel_rfl) rfl rfl ?_
          go_simp
          refine wpAny_done (by kernel_rfl) ?_ _
          refine ⟨a2, a3, ⟨_, a4, by simpa [strV] using a5⟩, (a6.block B hBl).trans hx, hb.trans (a6.mono hBw), Nat.le_trans hVsz a6.size⟩
    case done =>
      rintro D ys W hD hys ⟨⟨v, hv, hrow⟩, hx, hb, hVsz⟩ hK
      replace hs2 := Lib.hid hs2
      have hyl : ys.length = rn := by have := congrArg List.length hys; simpa using this
      have hmap : ys.map (fun x => strV (rankAt fn ps x.val)) = (((List.range rn).map (rankAt fn ps))).map strV := by rw [← hys, List.map_map, List.map_map]; rfl
      rw [hyl, hmap] at hrow
      have hxl : ((List.range rn).map (rankAt fn ps)).length = rn := by simp
      have hjl := Lib.hid (joinL_len (((List.range rn).map (rankAt fn ps)).reverse.map (·.data.toList)) 8 (fun l hl => by
        simp only [List.mem_map, List.mem_reverse] at hl
        obtain ⟨s, ⟨i, hi, rfl⟩, rfl⟩ := hl
        simp only [rankAt]
        have := rankL_len ((ps.drop (fn * i)).take fn) fn
        rw [List.take_of_length_le (by simp; omega)] at this
        simpa using Nat.le_trans this (by omega)))
      have hbl : Hid (boardL fn rn ps = Lib.join (((List.range rn).map (rankAt fn ps)).reverse.map (·.data.toList)) [47]) := Lib.hid rfl
      obtain ⟨xs, hxs⟩ : ∃ xs, (List.range rn).map (rankAt fn ps) = xs := ⟨_, rfl⟩
      rw [hxs] at hrow hxl hjl hbl
      rw [← hxl] at hrow
      have hrv := hR W2.heap.size v xs W hrow (by omega)
      rw [hxl] at hrow hrv
      obtain ⟨g, cap3, rfl, hg1, hg2⟩ := hrow.form (by omega)
      have y := hv.cell
      have hnr := hv.not_row (by decide) hrow
      have hDr : some D ≠ (Value.slice (some ⟨g, 0, none⟩) rn cap3).ownBlock := fun e => by
        have e2 : D = g := by simpa [Value.ownBlock] using e
        rcases hrow.2 with ⟨h0, _⟩ | ⟨g', _, cur, h0, _, hgb, _⟩
        · cases h0
        · simp only [Value.slice.injEq, Option.some.injEq, Addr.mk.injEq, and_true, true_and] at h0
          rw [← h0.1, ← e2, hK] at hgb
          cases hgb
      replace hys := Lib.hid hys
      replace hmap := Lib.hid hmap
      replace hxs := Lib.hid hxs
      replace hrow := Lib.hid hrow
      replace hx := Lib.hid hx
      replace hrv := Lib.hid hrv
      gi_wp2
      refine ⟨trivial, ?_⟩
      refine (callsIn_wide.2 hrv.out).mono ?_
      rintro e W5 ⟨rfl, hrow5, hg5⟩
      have hv5 := hv.kept hg5 hnr
      have hK5 := (hg5.block D (lt_of_blk hK) hDr).trans hK
      have hb5 : Below w.heap.size w W5 := hb.grown hg5 hb.size (fun k e => by have := (hrow.out.lt k e).1; have := hB3.out.size; omega)
      have y5 := hv5.cell
      have hj := Lib.hid (hJ g 0 cap3 xs.reverse ⟨#[47]⟩ W5 (fun j s hs => by
        have hjr : j < rn := by have := (List.getElem?_eq_some_iff.1 hs).1; simp at this; omega
        rw [Nat.zero_add, hrow5.cellAt j (by omega), List.getElem?_map, hs]
        rfl) (by have := hg5.size; omega) (by simp; omega) (by simp; rcases hrow.out.2 with ⟨h0, _⟩ | ⟨_, _, _, h0, _, _, hc0, _⟩; (· cases h0); (· cases h0; omega)) (by have := hjl.out; simp at this ⊢; omega))
      simp only [List.length_reverse, hxl] at hj
      replace hrow5 := Lib.hid hrow5
      gi_wp2
      refine ⟨trivial, ?_⟩
      refine (callsIn_wide.2 hj.out).mono ?_
      rintro e W6 ⟨rfl, hb6⟩
      have hK6 := below_blk hb6 hK5
      have hb7 := hb5.trans (hb6.mono hb5.size)
      gi_wp2
      refine leaves_marks w.heap.size [D] W6 (by simp) (fun E hE => by simp at hE; subst hE; exact ⟨by have := hB3.out.size; omega, hK6⟩) (fun V7 hV7 => ⟨.tuple #[.string ⟨(Lib.join (List.map (fun x => x.data.toList) xs).reverse [47]).toArray⟩, .int .i64 0], ?_, ?_, hb7.trans hV7⟩)
      · simp [results, Tryz.results72, go_sem]
      · rw [hbl.out, List.map_reverse]
    case stop => exact fun D c pre V _ _ h _ => h.elim
end Go.Proofs.YtbhienpbfidgjaaGreatDoor
