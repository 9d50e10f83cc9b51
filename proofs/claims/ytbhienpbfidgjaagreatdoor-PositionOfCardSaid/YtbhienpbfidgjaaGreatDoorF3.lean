/- Boards: the iterator over the ranks of a list of pieces (slices.Chunk): its contract. Conditions: the pieces are as many as the ranks hold. -/
import Derived.Test.YtbhienpbfidgjaaGreatDoorF2
import Derived.Test.YtbhienpbfidgjaaGreatDoorP4
set_option linter.unusedVariables false
set_option linter.unusedSimpArgs false
namespace Go.Proofs.YtbhienpbfidgjaaGreatDoor
open Go.RowKit
attribute [local go_sem] Oper.semAt_some
structure CkAt (W : World) (b1 b2 b off n cap f : Nat) : Prop where
  sl : W.heap[b1]? = some (.cells #[.slice (some ⟨b, off, none⟩) n cap] 24 (0, 0))
  fl : W.heap[b2]? = some (.cells #[.int .i64 f] 3 (0, 0))
theorem CkAt.below {m : Nat} {W V : World} {b1 b2 b off n cap f : Nat} (h : CkAt W b1 b2 b off n cap f) (hb : Below m W V) (h1 : b1 < m) (h2 : b2 < m) : CkAt V b1 b2 b off n cap f :=
  ⟨(hb.block _ h1).trans h.sl, (hb.block _ h2).trans h.fl⟩
set_option maxRecDepth 100000 in
set_option maxHeartbeats 1000000 in
theorem chunk1_in (m : Nat) (hm : 1 ≤ m) (l n0 b1 b2 b off cap f r : Nat) (f1 : 1 ≤ f) (f2 : f ≤ 8) (r1 : 1 ≤ r) (r2 : r ≤ 8) (c1 : b1 < n0) (c2 : b2 < n0) (hcap : f * r ≤ cap) (hcap2 : cap ≤ 9223372036854775807)
    (Kp : World → World → Prop) (hK : ∀ A B, Kp A B → CkAt A b1 b2 b off (f * r) cap f → CkAt B b1 b2 b off (f * r) cap f) (hKs : ∀ A B, Kp A B → A.heap.size ≤ B.heap.size)
    (J Jx : List Nat → World → Prop) (W : World) (hJ : AbidesFrom W.heap.size J)
    (hY : ∀ pre x W, x < r → J pre W → pre.length < 8 → YieldAt Fence.wide (m - 1) Tryz.prog l #[.slice (some ⟨b, off + f * x, none⟩) f f] W fun e W' =>
      (e = .returned (.bool true) ∧ J (pre ++ [x]) W' ∧ Kp W W') ∨ (e = .returned (.bool false) ∧ Jx (pre ++ [x]) W'))
    (hR : CkAt W b1 b2 b off (f * r) cap f) (hn0 : n0 ≤ W.heap.size) (h0 : J [] W) :
    CallsIn Fence.wide m Tryz.prog 148 #[.func (.yield l) #[] #[], .pointer (some ⟨b1, 0, none⟩), .pointer (some ⟨b2, 0, none⟩)] W fun e W' => (∃ v, e = .returned v) ∧
      ((∃ ys, ys = List.range r ∧ J ys W') ∨ (∃ pre, pre <+: List.range r ∧ Jx pre W')) := by
  replace hJ := Lib.hid hJ
  replace hR := Lib.hid hR
  replace h0 := Lib.hid h0
  obtain ⟨N, hN⟩ : ∃ N, f * r = N := ⟨_, rfl⟩
  have hN2 : N ≤ 64 := by rw [← hN]; exact Nat.mul_le_mul f2 r2
  rw [hN] at hcap
  refine callsIn_of_wp Tryz.func148 rfl trivial ?_ rfl
  simp only [Tryz.ntmps148, List.size_toArray, List.length_cons, List.length_nil, Nat.reduceAdd, Nat.reduceSub, Array.replicate_succ, Array.replicate_zero, List.push_toArray, List.append_toArray, List.nil_append, List.cons_append]
  gi_wp2
  gi_loopw [4] (fun X wr => ∃ (k : Nat) (i : Nat), k ≤ r ∧ i = f * k ∧ X = .int .i64 i ∧ J (List.range k) wr ∧ CkAt wr b1 b2 b off (f * r) cap f ∧ W.heap.size ≤ wr.heap.size) (fun X _ => N - (intOf X).toNat)
  case atStart => exact ⟨0, 0, by omega, rfl, rfl, h0.out, hR.out, Nat.le_refl _⟩
  case round =>
    obtain ⟨k, i, hk, hi, rfl, hJr, hRr, hsz⟩ := hrel
    rw [hN] at hRr
    have v1 := cell_of hRr.sl 0 _ rfl
    have v2 := cell_of hRr.fl 0 _ rfl
    replace hRr := Lib.hid hRr
    replace hJr := Lib.hid hJr
    by_cases hkr : k = r
    · have hiN : i = N := by rw [hi, hkr, hN]
      replace hi := Lib.hid hi
      replace hN := Lib.hid hN
      subst hiN
      gi_wp2
      refine bodyPost_end (results_none rfl _ _ _) rfl ?_
      exact ⟨⟨_, rfl⟩, .inl ⟨_, by rw [hkr], hJr.out⟩⟩
    · have hkl : k < r := by omega
      have hiN : i + f ≤ N := by
        rw [hi, ← hN, ← Nat.mul_succ]
        exact Nat.mul_le_mul_left f hkl
      have hlen : (List.range k).length < 8 := by simp; omega
      have hk8 : k < 8 := by omega
      replace hN := Lib.hid hN
      replace hi := Lib.hid hi
      have hdec : decide (i < N) = true := by simp; omega
      have hdec2 : decide ((i : Int) < (N : Int)) = true := by simp; omega
      obtain ⟨fn, tmps, assign, body, hy, hRo⟩ := hY (List.range k) k wr.drew hkl (hJ.out (List.range k) wr wr.drew none hJr.out (grown_drew (grown_refl _ _)) (by simp)) hlen
      rw [← hi.out] at hy
      replace hRo := Lib.hid hRo
      have hdr : Hid ((CkAt wr b1 b2 b off N cap f) → CkAt wr.drew b1 b2 b off N cap f) := Lib.hid (fun h => ⟨h.sl, h.fl⟩)
      gi_wp2
      gi_region
      gi_wp2
      refine hRo.out.mono ?_
      rintro e W3 (⟨rfl, hJ3, hk3⟩ | ⟨rfl, hJx3⟩)
      · replace hJ3 := Lib.hid hJ3
        have hR3 := Lib.hid (hK _ _ hk3 (by rw [hN.out]; exact hdr.out hRr.out))
        have hz3 : wr.heap.size ≤ W3.heap.size := hKs wr.drew _ hk3
        have w2 := cell_of hR3.out.fl 0 _ rfl
        clear hk3 v1 v2 hy
        gi_wp2
        go_roundw
        case rel => exact ⟨k + 1, i + f, by omega, by rw [hi.out, Nat.mul_succ], by simp, by rw [List.range_succ]; exact hJ3.out, hR3.out, by omega⟩
        case measure => simp only [intOf]; omega
      · replace hJx3 := Lib.hid hJx3
        have hpre : Hid ((List.range k ++ [k]) <+: List.range r) := Lib.hid (by
          rw [← List.range_succ]
          exact ⟨(List.range (r - (k + 1))).map (k + 1 + ·), by rw [← List.range_add]; congr 1; omega⟩)
        gi_wp2
        refine bodyPost_ret (results_none rfl _ _ _) rfl ?_
        exact ⟨⟨_, rfl⟩, .inr ⟨_, hpre.out, hJx3.out⟩⟩
theorem chunk_stops (m : Nat) (hm : 1 ≤ m) (b1 b2 n0 g b off cap f r : Nat) (w : World) (f1 : 1 ≤ f) (f2 : f ≤ 8) (r1 : 1 ≤ r) (r2 : r ≤ 8) (hcap : f * r ≤ cap) (hcap2 : cap ≤ 9223372036854775807) (c1 : b1 < n0) (c2 : b2 < n0)
    (g1 : b1 ≠ g) (g2 : b2 ≠ g) (hn0 : n0 ≤ w.heap.size) (hR : CkAt w b1 b2 b off (f * r) cap f) :
    SeqStopsK Fence.wide m Tryz.prog 148 #[.pointer (some ⟨b1, 0, none⟩), .pointer (some ⟨b2, 0, none⟩)] (fun x : Fin r => #[Value.slice (some ⟨b, off + f * x.val, none⟩) f f]) (But n0 g) (fun ys => ys.map (·.val) = List.range r) (fun pre => pre.map (·.val) <+: List.range r) 8 w := by
  intro l J Jx W hW hJ _ hY h0
  have hbut : ∀ A B, But n0 g A B → CkAt A b1 b2 b off (f * r) cap f → CkAt B b1 b2 b off (f * r) cap f := fun A B hb h => ⟨(hb.block _ c1 g1).trans h.sl, (hb.block _ c2 g2).trans h.fl⟩
  refine (chunk1_in m hm l n0 b1 b2 b off cap f r f1 f2 r1 r2 c1 c2 hcap hcap2 (But n0 g) hbut (fun _ _ h => h.size)
    (fun pre V => ∃ p : List (Fin r), p.map (·.val) = pre ∧ J p V) (fun pre V => ∃ p : List (Fin r), p.map (·.val) = pre ∧ Jx p V) W
    (fun pre A A' row ⟨p, hp, hj⟩ hg hr => ⟨p, hp, hJ p A A' row hj hg hr⟩) ?_ (hR.below hW (by omega) (by omega)) (Nat.le_trans hn0 hW.size) ⟨[], rfl, h0⟩).mono ?_
  · rintro pre x V hx ⟨p, rfl, hj⟩ hlen
    refine (hY p ⟨x, hx⟩ V hj (by simpa using hlen)).mono ?_
    rintro e V' (⟨he, hj', hk⟩ | ⟨he, hj'⟩)
    · exact .inl ⟨he, ⟨_, by simp, hj'⟩, hk⟩
    · exact .inr ⟨he, ⟨_, by simp, hj'⟩⟩
  · rintro e V ⟨hv, ⟨ys, rfl, p, hp, hj⟩ | ⟨pre, hpre, p, rfl, hj⟩⟩
    · exact ⟨hv, .inl ⟨p, hp, hj⟩⟩
    · exact ⟨hv, .inr ⟨p, hpre, hj⟩⟩
theorem chunk_c (w : World) (b off n cap f : Nat) (f1 : 1 ≤ f) (f2 : f ≤ 8) : Calls Tryz.prog 121 #[.slice (some ⟨b, off, none⟩) n cap, .int .i64 f] w fun e w' =>
    e = .returned (.func (.func 148) #[] #[.pointer (some ⟨w.heap.size, 0, none⟩), .pointer (some ⟨w.heap.size + 1, 0, none⟩)]) ∧
    CkAt w' w.heap.size (w.heap.size + 1) b off n cap f ∧ w'.heap.size = w.heap.size + 1 + 1 ∧ Below w.heap.size w w' := by
  go_enter Tryz.func121, Tryz.ntmps121
  go_wp2
  go_ret
  refine ⟨rfl, ⟨?_, ?_⟩, by simp, ?_⟩
  · exact blk_alloc (blk_new (by simp) _) _
  · exact blk_new (by simp) _
  · exact ((Below.refl _ _).alloc (Nat.le_refl _) _).alloc (by simp) _
end Go.Proofs.YtbhienpbfidgjaaGreatDoor
