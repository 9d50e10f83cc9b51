/- Memory: slices appended to and cut. Conditions: as in each theorem. An operation on plain data is what the machine does. Conditions: as in each theorem. Calls on plain data. Conditions: as in each theorem. An operation on a frame. Conditions: as in each theorem. A region in the order of its text. Conditions: as in each theorem. A region in whatever order: what an operation rests on, what it turns. Conditions: as in each theorem. A region in whatever order. Conditions: as in each theorem. A region in whatever order, whole. Conditions: as in each theorem. Codes and functions on plain data are what the machine does. Conditions: as in each theorem. Walking in one word: the rules and what is known stand in the hypotheses. Conditions: as in each theorem. slices.Clone on pieces, on plain data. Conditions: as in each theorem. A nil slice in a block of the call's own. Conditions: as in each theorem. -/
import Derived.Test.YtbhienpbfidgjaaGreatDoorJ0
import Derived.Laws.BytesArg
import Derived.Deep.LoopGhost
import Derived.Scope
set_option linter.unusedVariables false
set_option linter.unusedSimpArgs false
namespace Go.Proofs.YtbhienpbfidgjaaGreatDoor
open Go.RowKit
section
namespace E
section
variable {P : Program} {w w' : World} {B : Nat} {G : Nat → Prop} {η η' : Nat → Option Value} {hp : Hp}
theorem row_list : ∀ {r : List AV} {b o : Nat}, RepRow w G r b o → ∃ xs : List Value, RepC w G no r xs ∧ ∀ j u, xs[j]? = some u → w.cell? ⟨b, o + j, none⟩ = some u
  | [], b, o, _ => ⟨[], trivial, by simp⟩
  | c :: r, b, o, h => by
    obtain ⟨⟨u, h1, h2, h3⟩, h4⟩ := h
    obtain ⟨xs, k1, k2⟩ := row_list h4
    refine ⟨u :: xs, ⟨⟨h2, h3⟩, k1⟩, fun j x hx => ?_⟩
    cases j with
    | zero =>
      simp only [List.getElem?_cons_zero, Option.some.injEq] at hx
      subst hx
      exact h1
    | succ j =>
      have := k2 j x (by simpa using hx)
      rwa [show o + (j + 1) = o + 1 + j by omega]
theorem rows_list : ∀ {rows : List (List AV)} {b o : Nat}, RepRows w G rows b o → ∃ xs : List Value, RepC w G no rows.flatten xs ∧ ∀ j u, xs[j]? = some u → w.cell? ⟨b, o + j, none⟩ = some u
  | [], b, o, _ => ⟨[], trivial, by simp⟩
  | r :: rows, b, o, h => by
    obtain ⟨xs, h1, h2⟩ := row_list h.1
    obtain ⟨ys, k1, k2⟩ := rows_list h.2
    refine ⟨xs ++ ys, repC_append h1 k1, fun j u hu => ?_⟩
    rw [List.getElem?_append] at hu
    split at hu
    · exact h2 j u hu
    · have := k2 _ u hu
      have hl := repC_len h1
      rwa [show o + r.length + (j - xs.length) = o + j by omega] at this
theorem flat_len {es : Nat} : ∀ {rows : List (List AV)}, (∀ r ∈ rows, r.length = es) → rows.flatten.length = rows.length * es
  | [], _ => by simp
  | r :: rows, h => by
    rw [List.flatten_cons, List.length_append, h r (by simp), flat_len (fun r hr => h r (by simp [hr])), List.length_cons, Nat.add_mul]
    omega
theorem rowsOf_spec {y : AV} {yv : Value} {new : List (List AV)} {es : Nat} (h : rowsOf hp y = some new) (hy : Rep w G η y yv) (hm : Mem w B G η hp) (hes : ∀ r ∈ new, r.length = es) :
    ∃ a c, ∃ news : List Value, yv = .slice a new.length c ∧ news.length = new.length * es ∧ RepC w G no new.flatten news ∧ (a = none → new = []) ∧ ∀ ad, a = some ad → ∀ j u, news[j]? = some u → w.cell? (ad.add j) = some u := by
  unfold rowsOf at h
  split at h
  · simp only [Option.some.injEq] at h
    subst h
    obtain rfl : yv = .slice none 0 0 := hy
    exact ⟨none, 0, [], rfl, by simp, trivial, fun _ => rfl, by simp⟩
  · simp only [Option.some.injEq] at h
    subst h
    obtain ⟨a, n, c, es', rfl, hn, _, _, _, hc⟩ := hy
    subst hn
    rcases hc with rfl | ⟨b, o, rfl, hg, hr⟩
    · exact ⟨a, c, [], rfl, by simp, trivial, fun _ => rfl, by simp⟩
    · obtain ⟨xs, k1, k2⟩ := rows_list hr
      refine ⟨some ⟨b, o, none⟩, c, xs, rfl, by rw [← repC_len k1, flat_len hes], k1, by simp, fun ad had j u hu => ?_⟩
      simp only [Option.some.injEq] at had
      subst had
      rw [addr_add]
      exact k2 j u hu
  · rename_i id
    split at h
    · rename_i e es' rows hl
      simp only [Option.some.injEq] at h
      subst h
      obtain ⟨h1, a, n, c, rfl⟩ := hy
      obtain ⟨hd, h3, h4, _⟩ := hm.rep id _ hl
      rw [h1] at h3
      simp only [Option.some.injEq] at h3
      subst h3
      obtain ⟨xs, h5, h6, h7, h8⟩ := h4
      have hlen : xs.length = rows.length * es := by rw [← repC_len h6, flat_len hes]
      rcases h5.2 with ⟨hh, h0⟩ | ⟨g', cap', cur, h', _⟩
      · simp only [Value.slice.injEq] at hh
        obtain ⟨rfl, rfl, rfl⟩ := hh
        have : rows = [] := List.eq_nil_of_length_eq_zero h0
        subst this
        exact ⟨none, 0, xs, rfl, hlen, h6, fun _ => rfl, by simp⟩
      · simp only [Value.slice.injEq] at h'
        obtain ⟨rfl, rfl, rfl⟩ := h'
        refine ⟨some ⟨g', 0, none⟩, _, xs, rfl, hlen, h6, by simp, fun ad had j u hu => ?_⟩
        simp only [Option.some.injEq] at had
        subst had
        exact h5.cells rfl j u hu
    · simp at h
  · rename_i a c
    simp only [Option.some.injEq] at h
    subst h
    exact ⟨a, c, [], hy, by simp, trivial, fun _ => rfl, by simp⟩
  · simp at h
theorem bytesOf_spec : ∀ {rows : List (List AV)} {l : List Int} {news : List Value}, bytesOf rows = some l → RepC w G no rows.flatten news → (∀ r ∈ rows, r.length = 1) ∧ rows.length = l.length ∧ news = l.map (Value.int .u8)
  | [], l, news, h, hr => by
    simp only [bytesOf, Option.some.injEq] at h
    subst h
    cases news with
    | nil => exact ⟨by simp, rfl, rfl⟩
    | cons _ _ => exact hr.elim
  | r :: rs, l, news, h, hr => by
    unfold bytesOf at h
    split at h
    · rename_i e; cases e
    · rename_i n rs' e
      cases e
      split at h
      · rename_i l' hl
        simp only [Option.some.injEq] at h
        subst h
        cases news with
        | nil => exact hr.elim
        | cons v vs =>
          obtain ⟨⟨_, h1⟩, h2⟩ := hr
          obtain rfl : v = .int .u8 n := h1
          obtain ⟨i1, i2, rfl⟩ := bytesOf_spec (news := vs) hl h2
          refine ⟨fun r hr => ?_, by simp [i2], rfl⟩
          rcases List.mem_cons.1 hr with rfl | hr
          · rfl
          · exact i1 r hr
      · simp at h
    · simp at h
theorem bytesOf_one : ∀ {rows : List (List AV)} {l : List Int}, bytesOf rows = some l → ∀ r ∈ rows, r.length = 1
  | [], l, h => by simp
  | r :: rs, l, h => by
    unfold bytesOf at h
    split at h
    · rename_i e; cases e
    · rename_i n rs' e
      cases e
      split at h
      · rename_i l' hl
        intro r hr
        rcases List.mem_cons.1 hr with rfl | hr
        · rfl
        · exact bytesOf_one hl r hr
      · simp at h
    · simp at h
theorem sound_convB {s t : TypeId} {x r : AV} {u : Upd} {xv : Value} (h : aConvB hp (ti P (elemT (ti P s))) (ti P s) (ti P t) x = some (r, u)) (hx : Rep w G η x xv) (hm : Mem w B G η hp) : Yd P w G η r u (convert s t xv) := by
  unfold aConvB at h
  split at h
  · rename_i he hs ht
    split at h
    · rename_i rows hr
      split at h
      · rename_i l hl
        split at h
        · rename_i h1
          subst h1
          rw [hs] at he
          have he' := ti_int (show ti P _ = _ from he)
          obtain ⟨hu, _⟩ := ti_slice hs
          obtain ⟨a, c, news, rfl, k1, k2, k3, k4⟩ := rowsOf_spec hr hx hm (bytesOf_one hl)
          obtain ⟨_, j1, rfl⟩ := bytesOf_spec hl k2
          refine yd_val h ?_ rfl
          cases a with
          | none =>
            have e0 := k3 rfl
            subst e0
            have : l = [] := List.eq_nil_of_length_eq_zero (by simpa using j1.symm)
            subst this
            rw [run_convert_bytes_nil w s _ hu he' _ _ t (ti_str ht)]
            rfl
          | some ad =>
            have hld : (loadCells ad rows.length).run P w = .ok (l.map (Value.int .u8)).toArray w := by
              have := run_loadCells_list (P := P) w ad (l.map (Value.int .u8)) (fun j v hj => k4 ad rfl j v hj)
              simpa [j1] using this
            rw [run_convert_bytes_string w s t _ _ rows.length c hu he' (ti_str ht), run_bytesToString w _ rows.length c l hld, foldl_push_bytes]
            simp [strI, ByteArray.empty, ByteArray.emptyWithCapacity]
            rfl
        · simp at h
      · simp at h
    · simp at h
  · simp at h
theorem sound_convX {s t : TypeId} {x r : AV} {u : Upd} {xv : Value} (h : aConvX hp (ti P (elemT (ti P s))) (ti P s) (ti P t) x = some (r, u)) (hx : Rep w G η x xv) (hm : Mem w B G η hp) : Yd P w G η r u (convert s t xv) := by
  unfold aConvX at h
  split at h
  · exact sound_convB h hx hm
  · exact sound_convB h hx hm
  · exact sound_conv h hx
theorem run_append_zero {t ty e : TypeId} {i : TypeInfo} (ht : P.underlying t = some (.slice e)) (hi : P.info? e = some i) {n c : Nat} {v : Value} {xs : List Value} {base es : Nat} {a : Option Addr} (hown : w.ownsRow base e es v n xs) :
    (Builtin.append_ #[t, t] ty #[v, .slice a 0 c]).run P w = .ok v w := by
  have hf : ∀ sz, (Builtin.firstCells sz 0 (.slice a 0 c)).run P w = .ok #[] w := by
    intro sz
    cases a with
    | none => exact run_firstCells_none w sz 0 0 c
    | some ad => exact run_firstCells_some w sz 0 ad 0 c [] (by simp) (by simp)
  rcases hown.2 with ⟨rfl, rfl⟩ | ⟨g, cap, cur, rfl, _, _, hnc, _⟩
  · simp [Builtin.append_, run_underlying ht, sizeOf, typeInfo, hi, Builtin.lenOf, hf]
  · simp [Builtin.append_, run_underlying ht, sizeOf, typeInfo, hi, Builtin.lenOf, hnc, hf, storeCells]
theorem grown_row {e es n m cap : Nat} {i : TypeInfo} {z : Value} {xs news : List Value} (hxs : xs.length = n * es) (hl : news.length = m * es) (hzs : z.cells.size = es) (hcap : n + m ≤ cap) (hcm : cap ≤ maxLen) :
    (w.drew.alloc (.cells (xs.toArray ++ news.toArray ++ Builtin.zeroCells z.cells (cap - (n + m))) e)).ownsRow 0 e es (.slice (some ⟨w.heap.size, 0, none⟩) (n + m) cap) (n + m) (xs ++ news) := by
  have hlen : (xs ++ news).length = (n + m) * es := by rw [List.length_append, hxs, hl, Nat.add_mul]
  refine ⟨hlen, .inr ⟨w.heap.size, cap, _, rfl, Nat.zero_le _, heap_alloc_new w.drew _, hcap, hcm, ?_, ?_⟩⟩
  · simp only [Array.size_append, List.size_toArray, size_zeroCells, hzs, hxs, hl, ← Nat.add_mul]
    congr 1
    omega
  · simp only [Array.toList_append, List.append_assoc]
    rw [← List.append_assoc, ← hlen]
    exact List.take_left
set_option maxHeartbeats 400000 in
theorem sound_append {t ty : TypeId} {k : Nat} {x y r : AV} {u : Upd} {xv yv : Value} (h : aAppend hp k (ti P t) x y = some (r, u)) (hx : Rep w G η x xv) (hy : Rep w G η y yv)
    (hm : Mem w B G η hp) (hlt : ∀ b, G b → b < w.heap.size) (hB : B ≤ w.heap.size) (hk : η k = none) : ∃ v w', (Builtin.append_ #[t, t] ty #[xv, yv]).run P w = .ok v w' ∧ Done w B G η hp k r u v w' := by
  unfold aAppend maxR at h
  split at h
  · rename_i e es by' z0 _ _ _ new ht hnew
    obtain ⟨hu, i, z, hi, hz, hone, hzs, his, hby, hes, hz0⟩ := ti_slice ht
    split at h
    · rename_i hc
      obtain ⟨hb4, hall⟩ := hc
      have hrow : ∀ r ∈ new, r.length = es := fun r hr => by
        have := List.all_eq_true.1 hall r hr
        simp only [Bool.and_eq_true, beq_iff_eq] at this
        exact this.1
      obtain ⟨a, c, news, rfl, hnl, hnr, han, hcell⟩ := rowsOf_spec hnew hy hm hrow
      have hmul : ∀ q, q ≤ 4294967296 → q * i.bytes ≤ 140737488355328 := fun q hq => by
        have := Nat.mul_le_mul hq (show i.bytes ≤ 4096 by omega)
        omega
      have stay : ∀ (v : Value) (xs : List Value) (rows : List (List AV)), rows.length = 0 → w.ownsRow 0 e es v 0 xs → hb v = none → RepB w G (put1 η k v) (.row e es rows) v := by
        intro v xs rows hr hv hbv
        have : rows = [] := List.eq_nil_of_length_eq_zero hr
        subst this
        have hxs : xs = [] := List.eq_nil_of_length_eq_zero (by simpa using hv.1)
        subst hxs
        exact ⟨[], hv, trivial, by simp, hes⟩
      split at h
      · obtain rfl : xv = .slice none 0 0 := hx
        split at h
        · rename_i hlen
          simp only [Option.some.injEq, Prod.mk.injEq] at h
          obtain ⟨rfl, rfl⟩ := h
          by_cases h0 : new = []
          · subst h0
            refine ⟨.slice none 0 0, w, run_append_zero hu hi (World.ownsRow_nil w 0 e es), put1 η k (.slice none 0 0), put1_ge hk, fun id h => ?_, ⟨put1_same, _, _, _, rfl⟩, ?_, Below.refl _ _, fun _ _ => rfl⟩
            · unfold put1 at h
              split at h
              · exact .inr ‹_›
              · exact .inl h
            · exact hm.new hlt hB hk (fun _ _ => rfl) (fun g hg => by simp [hb] at hg) (stay _ [] [] rfl (World.ownsRow_nil w 0 e es) rfl)
          · have hpos : 0 < new.length := List.length_pos_iff.2 h0
            obtain ⟨ad, rfl⟩ : ∃ ad, a = some ad := by
              cases a with
              | none => exact absurd (han rfl) h0
              | some ad => exact ⟨ad, rfl⟩
            have hr := run_append_nil (P := P) w t ty e i z hu hi hz ad new.length c news (by rw [his]; exact hnl) (hcell ad rfl) hpos (by omega) (by have := hmul _ hlen; omega)
            have hge := grownCap_ge w new.length 0 e
            have hcm := grownCap_le_maxLen w new.length 0 e (by unfold maxLen; omega)
            have hrowN := grown_row (w := w) (e := e) (n := 0) (xs := []) (i := i) (by simp) hnl hzs (by simpa using hge) hcm
            simp only [Nat.zero_add, List.nil_append, Array.empty_append] at hrowN
            refine ⟨_, _, hr, done_new hm hlt hB hk (.inr rfl) (fun g hg => by simp [hb] at hg; omega) ⟨news, hrowN, ?_, hrow, hes⟩ ⟨put1_same, _, _, _, rfl⟩⟩
            have hUp : Up w (w.drew.alloc (.cells (news.toArray ++ Builtin.zeroCells z.cells (grownCap w new.length 0 e - new.length)) e)) G G := fun b hb => ⟨hb, Below.heap_alloc w.drew _ _ (hlt b hb)⟩
            exact RepC.up hUp (fun _ _ h => h) _ _ hnr
        · simp at h
      · rename_i id
        split at h
        · rename_i e' es' rows hl
          split at h
          · rename_i hc2
            obtain ⟨rfl, rfl, hlen⟩ := hc2
            simp only [Option.some.injEq, Prod.mk.injEq] at h
            obtain ⟨rfl, rfl⟩ := h
            obtain ⟨h1, a', n', c', rfl⟩ := hx
            obtain ⟨hd, h3, h4, h5⟩ := hm.rep id _ hl
            rw [h1] at h3
            simp only [Option.some.injEq] at h3
            subst h3
            obtain ⟨xs, j1, j2, j3, j4⟩ := h4
            have hrows' : ∀ r ∈ rows ++ new, r.length = es' := fun r hr => by
              rcases List.mem_append.1 hr with hr | hr
              · exact j3 r hr
              · exact hrow r hr
            have hfl : RepC w G no (rows ++ new).flatten (xs ++ news) := by
              rw [List.flatten_append]
              exact repC_append j2 hnr
            have hln : (rows ++ new).length = rows.length + new.length := by simp
            have fin : ∀ (v' : Value) (w1 : World), (Builtin.append_ #[t, t] ty #[.slice a' n' c', .slice a new.length c]).run P w = .ok v' w1 → w1.ownsRow 0 e' es' v' (rows.length + new.length) (xs ++ news) →
                (∀ i, i < w.heap.size → some i ≠ hb (.slice a' n' c') → w1.heap[i]? = w.heap[i]?) → (∀ g, hb v' = some g → hb (.slice a' n' c') = some g ∨ w.heap.size ≤ g) → Below B w w1 →
                (∃ A N C, v' = .slice A N C) → ∃ v w', (Builtin.append_ #[t, t] ty #[.slice a' n' c', .slice a new.length c]).run P w = .ok v w' ∧ Done w B G η hp k (.own k) (.move id k (.row e' es' (rows ++ new))) v w' := by
              intro v' w1 hr hrow1 hw1 hv1 hbel hsl
              have hUp : Up w w1 G G := fun b hG => ⟨hG, hw1 b (hlt b hG) (fun e => (h5 b e.symm).2 hG)⟩
              refine ⟨v', w1, hr, put1 η k v', put1_ge hk, fun id h => ?_, ⟨put1_same, hsl⟩, ?_, hbel, fun b hG => (hUp b hG).2⟩
              · unfold put1 at h
                split at h
                · exact .inr ‹_›
                · exact .inl h
              · refine hm.moved hlt hB hl h1 hk hw1 hv1 ⟨xs ++ news, by rw [hln]; exact hrow1, RepC.up hUp (fun _ _ h => h) _ _ hfl, hrows', j4⟩
            by_cases h0 : new = []
            · subst h0
              have hn0 : news = [] := List.eq_nil_of_length_eq_zero (by simpa using hnl)
              subst hn0
              refine fin _ w (run_append_zero hu hi j1) (by simpa using j1) (fun _ _ _ => rfl) (fun g hg => .inl hg) (Below.refl _ _) ⟨_, _, _, rfl⟩
            · have hpos : 0 < new.length := List.length_pos_iff.2 h0
              obtain ⟨ad, rfl⟩ : ∃ ad, a = some ad := by
                cases a with
                | none => exact absurd (han rfl) h0
                | some ad => exact ⟨ad, rfl⟩
              have h1n : ∀ u ∈ news, u.oneCell' = true := repC_one hnr
              rcases j1.2 with ⟨hh, hz0'⟩ | ⟨g, cap, cur, hh, b0, b1, b2, b3, b4, b5⟩
              · simp only [Value.slice.injEq] at hh
                obtain ⟨rfl, rfl, rfl⟩ := hh
                have hxs : xs = [] := List.eq_nil_of_length_eq_zero (by rw [j1.1, hz0']; simp)
                subst hxs
                have hr := run_append_nil (P := P) w t ty e' i z hu hi hz ad new.length c news (by rw [his]; exact hnl) (hcell ad rfl) hpos (by omega) (by have := hmul new.length (by omega); omega)
                have hge := grownCap_ge w new.length 0 e'
                have hcm := grownCap_le_maxLen w new.length 0 e' (by unfold maxLen; omega)
                have hrowN := grown_row (w := w) (e := e') (n := 0) (xs := []) (i := i) (by simp) hnl hzs (by simpa using hge) hcm
                simp only [Nat.zero_add, List.nil_append, Array.empty_append] at hrowN
                exact fin _ _ hr (by rw [hz0']; simpa using hrowN) (fun j hj _ => Below.heap_alloc w.drew _ _ hj) (fun g hg => .inr (by simp [hb] at hg; omega)) ((Below.refl _ _).drew.alloc hB _) ⟨_, _, _, rfl⟩
              · simp only [Value.slice.injEq] at hh
                obtain ⟨rfl, rfl, rfl⟩ := hh
                have hg2 := h5 g rfl
                by_cases hroom : rows.length + new.length ≤ c'
                · obtain ⟨w1, r1, r2, r3⟩ := run_append_fits (P := P) w 0 t ty e' i es' hu hi his g rows.length c' xs j1 ad new.length c news hnl (hcell ad rfl) h1n hroom
                  exact fin _ w1 r1 r2 (fun j hj hne => r3.block j hj hne) (fun g hg => .inl hg) ((Below.refl _ _).grown r3 hB (fun q hq => by simp only [Option.some.injEq] at hq; omega)) ⟨_, _, _, rfl⟩
                · have hr := run_append_grow (P := P) w t ty e' i z hu hi hz ⟨g, 0, none⟩ rows.length c' xs (by rw [his]; exact j1.1) (j1.cells rfl) ad new.length c news (by rw [his]; exact hnl) (hcell ad rfl) (by omega) (by omega)
                    (growslice_fits (by omega) (hmul _ hlen))
                  have hge := grownCap_ge w (rows.length + new.length) c' e'
                  have hcm := grownCap_le_maxLen w (rows.length + new.length) c' e' (by unfold maxLen; omega)
                  exact fin _ _ hr (grown_row (w := w) (e := e') (i := i) j1.1 hnl hzs hge hcm) (fun j hj _ => Below.heap_alloc w.drew _ _ hj) (fun g hg => .inr (by simp [hb] at hg; omega)) ((Below.refl _ _).drew.alloc hB _) ⟨_, _, _, rfl⟩
          · simp at h
        · simp at h
      · simp at h
    · simp at h
  · simp at h
theorem rows_drop {es : Nat} : ∀ {rows : List (List AV)} {b o l : Nat}, (∀ r ∈ rows, r.length = es) → RepRows w G rows b o → RepRows w G (rows.drop l) b (o + l * es)
  | rows, b, o, 0, h, hr => by simpa using hr
  | [], b, o, l + 1, h, hr => by simp [RepRows]
  | r :: rows, b, o, l + 1, h, hr => by
    have := rows_drop (es := es) (l := l) (fun r hr => h r (by simp [hr])) hr.2
    rw [h r (by simp)] at this
    rw [List.drop_succ_cons, show o + (l + 1) * es = o + es + l * es by rw [Nat.add_mul]; omega]
    exact this
theorem rows_take : ∀ {rows : List (List AV)} {b o l : Nat}, RepRows w G rows b o → RepRows w G (rows.take l) b o
  | rows, b, o, 0, hr => by simp [RepRows]
  | [], b, o, l + 1, hr => by simp [RepRows]
  | r :: rows, b, o, l + 1, hr => ⟨hr.1, rows_take hr.2⟩
theorem num_rep {v : AV} {n : Int} {x : Value} (h : num v = some n) (hx : Rep w G η v x) : ∃ k, x = .int k n := by
  unfold num at h
  split at h
  · simp only [Option.some.injEq] at h
    subst h
    exact ⟨_, hx⟩
  · simp at h
def Bd (ev : Operand → Value) (o : Option Operand) (d L : Int) : Prop :=
  match o with
  | none => L = d
  | some l => ∃ k, ev l = .int k L
theorem sound_slice {t : TypeId} {x : Operand} {lo hi mx : Option Operand} {ev : Operand → Value} {s : Operand → AV} {r : AV} {u : Upd} (hs : ∀ x, Rep w G η (s x) (ev x))
    (h : aSlice hp (ti P t) lo hi mx ((x :: (lo.toList ++ hi.toList ++ mx.toList)).map s) = some (r, u)) : Yd P w G η r u (Instr.sliceAt t (ev x) (lo.map ev) (hi.map ev) (mx.map ev)) := by
  have hx := hs x
  have bounds : ∀ (isS : Bool) (len cap : Nat) (L H : Int), mx = none → Bd ev lo 0 L → Bd ev hi len H →
      0 ≤ L → L ≤ H → H ≤ (len : Int) → len ≤ cap → (Instr.sliceBounds isS len cap (lo.map ev) (hi.map ev) none).run P w = .ok (L.toNat, H.toNat, cap) w := by
    intro isS len cap L H hmx hL hH h0 h1 h2 h3
    unfold Instr.sliceBounds
    cases lo with
    | none =>
      obtain rfl : L = 0 := hL
      cases hi with
      | none =>
        obtain rfl : H = len := hH
        simp
      | some q =>
        obtain ⟨k, hk⟩ := hH
        have : 0 ≤ H ∧ H ≤ (cap : Int) := ⟨by omega, by omega⟩
        simp [hk, Instr.sliceBound, asIntOf, this]
    | some l =>
      obtain ⟨k, hk⟩ := hL
      cases hi with
      | none =>
        obtain rfl : H = len := hH
        have : 0 ≤ L ∧ L ≤ (len : Int) := ⟨by omega, by omega⟩
        simp [hk, Instr.sliceBound, asIntOf, this]
      | some q =>
        obtain ⟨k', hk'⟩ := hH
        have a1 : 0 ≤ H ∧ H ≤ (cap : Int) := ⟨by omega, by omega⟩
        have a2 : 0 ≤ L ∧ L ≤ ((H.toNat : Nat) : Int) := ⟨by omega, by omega⟩
        simp [hk, hk', Instr.sliceBound, asIntOf, a1, h0]
        intro hh
        exfalso
        omega
  have pars : ∀ (d : Int) (L : Int) (vs : List AV) (H : Int) (vs' : List AV), mx = none → bnd lo 0 ((lo.toList ++ hi.toList ++ mx.toList).map s) = some (L, vs) → bnd hi d vs = some (H, vs') →
      Bd ev lo 0 L ∧ Bd ev hi d H := by
    intro d L vs H vs' hmx h1 h2
    subst hmx
    cases lo with
    | none =>
      simp only [bnd, Option.some.injEq, Prod.mk.injEq] at h1
      obtain ⟨rfl, rfl⟩ := h1
      refine ⟨rfl, ?_⟩
      cases hi with
      | none =>
        simp only [bnd, Option.some.injEq, Prod.mk.injEq] at h2
        exact h2.1.symm
      | some q =>
        simp only [Option.toList_none, Option.toList_some, List.nil_append, List.append_nil, List.map_cons, List.map_nil, bnd] at h2
        split at h2
        · simp only [Option.some.injEq, Prod.mk.injEq] at h2
          obtain ⟨rfl, rfl⟩ := h2
          exact num_rep ‹_› (hs q)
        · simp at h2
    | some l =>
      simp only [Option.toList_some, List.cons_append, List.nil_append, List.map_cons, bnd] at h1
      split at h1
      · rename_i n hn
        simp only [Option.some.injEq, Prod.mk.injEq] at h1
        obtain ⟨rfl, rfl⟩ := h1
        refine ⟨num_rep hn (hs l), ?_⟩
        cases hi with
        | none =>
          simp only [bnd, Option.some.injEq, Prod.mk.injEq] at h2
          exact h2.1.symm
        | some q =>
          simp only [Option.toList_none, Option.toList_some, List.nil_append, List.append_nil, List.map_cons, List.map_nil, bnd] at h2
          split at h2
          · simp only [Option.some.injEq, Prod.mk.injEq] at h2
            obtain ⟨rfl, rfl⟩ := h2
            exact num_rep ‹_› (hs q)
          · simp at h2
      · simp at h1
  unfold aSlice at h
  split at h
  · rename_i b vs ht hv
    simp only [List.map_cons, List.cons.injEq] at hv
    obtain ⟨hv1, hv2⟩ := hv
    subst hv2
    rw [hv1] at hx
    obtain hx : ev x = .string b := hx
    split at h
    · rename_i L vs' hb
      split at h
      · rename_i H vs'' hb2
        split at h
        · rename_i hc
          obtain ⟨p1, p2⟩ := pars _ _ _ _ _ rfl hb hb2
          refine yd_val h ?_ rfl
          have := bounds false b.size b.size L H rfl p1 p2 hc.1 hc.2.1 hc.2.2 (Nat.le_refl _)
          simp only [hx, Instr.sliceAt, Instr.slice, Sem.run_bind, run_underlying (ti_str ht), Result.andThen_ok, Option.map_none, Option.isSome_none, Bool.false_eq_true, if_false, Sem.run_pure, this]
        · simp at h
      · simp at h
    · simp at h
  · rename_i e es by' z0 _ _ _ rows vs ht hv
    simp only [List.map_cons, List.cons.injEq] at hv
    obtain ⟨hv1, hv2⟩ := hv
    subst hv2
    rw [hv1] at hx
    obtain ⟨a, n, c, es', hxv, hn, hnc, hc63, hrow, hcont⟩ := hx
    obtain ⟨hu, i, z, hi', hz, hone, hzs, his, hby, hes, hz0⟩ := ti_slice ht
    split at h
    · rename_i L vs' hb
      split at h
      · rename_i H vs'' hb2
        split at h
        · rename_i hc
          obtain ⟨p1, p2⟩ := pars _ _ _ _ _ rfl hb hb2
          obtain ⟨rfl, rfl⟩ := pure1_eq h
          subst hn
          have := bounds true rows.length c L H rfl p1 p2 hc.1 hc.2.1 hc.2.2.1 hnc
          have hlen : ((rows.take H.toNat).drop L.toNat).length = H.toNat - L.toNat := by
            rw [List.length_drop, List.length_take]
            omega
          refine ⟨rfl, .slice (if c = L.toNat then a else a.map (·.add (L.toNat * i.size))) (H.toNat - L.toNat) (c - L.toNat), ?_, ?_⟩
          · simp only [hxv, Instr.sliceAt, Instr.slice, Sem.run_bind, run_underlying hu, Result.andThen_ok, Option.map_none, Sem.run_pure, this, run_sizeOf hi']
          · refine ⟨_, _, _, es', rfl, hlen, by omega, by omega, fun r hr => hrow r (List.mem_of_mem_take (List.mem_of_mem_drop hr)), ?_⟩
            by_cases hnil : (rows.take H.toNat).drop L.toNat = []
            · exact .inl hnil
            · right
              have hpos : 0 < H.toNat - L.toNat := by rw [← hlen]; exact List.length_pos_iff.2 hnil
              rcases hcont with rfl | ⟨b, o, rfl, hg, hr⟩
              · simp at hnil
              · rw [if_neg (by omega)]
                refine ⟨b, o + L.toNat * es', ?_, hg, rows_drop (fun r hr => hrow r (List.mem_of_mem_take hr)) (rows_take hr)⟩
                rcases hc.2.2.2 with h0 | hall
                · subst h0
                  simp [addr_add]
                · have hese : es' = i.size := by
                    have hne : 0 < rows.length := by omega
                    have hm0 : rows[0] ∈ rows := List.getElem_mem hne
                    have := List.all_eq_true.1 hall _ hm0
                    simp only [beq_iff_eq] at this
                    rw [his, ← this, hrow _ hm0]
                  simp [addr_add, hese]
        · simp at h
      · simp at h
    · simp at h
  · simp at h
end
end E
end
section
namespace E
section
variable {P : Program} {w w' : World} {B : Nat} {G : Nat → Prop} {η η' : Nat → Option Value} {hp : Hp}
theorem Yd.exec {o : Oper} {ev : Operand → Value} {k : Nat} {r : AV} {u : Upd} {m : Sem Value} (h : Yd P w G η r u m) (hm : Mem w B G η hp) (he : execOp ev o = (do pure (.value (← m)))) :
    ∃ v w', ((execOp ev o).run P w = .ok (.value v) w' ∨ ((execOp ev o).run P w = .ok .skip w' ∧ v = undef)) ∧ Done w B G η hp k r u v w' := by
  obtain ⟨v, h1, h2⟩ := h.done (k := k) hm
  refine ⟨v, w, .inl ?_, h2⟩
  rw [he]
  simp only [Sem.run_bind, h1, Result.andThen_ok, Sem.run_pure]
theorem exec_val {o : Oper} {ev : Operand → Value} {k : Nat} {r : AV} {u : Upd} {m : Sem Value} (h : ∃ v w', m.run P w = .ok v w' ∧ Done w B G η hp k r u v w') (he : execOp ev o = (do pure (.value (← m)))) :
    ∃ v w', ((execOp ev o).run P w = .ok (.value v) w' ∨ ((execOp ev o).run P w = .ok .skip w' ∧ v = undef)) ∧ Done w B G η hp k r u v w' := by
  obtain ⟨v, w', h1, h2⟩ := h
  refine ⟨v, w', .inl ?_, h2⟩
  rw [he]
  simp only [Sem.run_bind, h1, Result.andThen_ok, Sem.run_pure]
theorem repL_map {s : Operand → AV} {ev : Operand → Value} (h : ∀ x, Rep w G η (s x) (ev x)) : ∀ l : List Operand, RepL w G η (l.map s) (l.map ev)
  | [] => trivial
  | x :: l => ⟨h x, repL_map h l⟩
set_option maxHeartbeats 2000000 in
theorem astep_exec {o : Oper} {s : Operand → AV} {ev : Operand → Value} {k : Nat} {r : AV} {u : Upd} (hs : ∀ x, Rep w G η (s x) (ev x)) (h : astep P o.op k ((opnds o.op).map s) hp = some (r, u))
    (hm : Mem w B G η hp) (hlt : ∀ b, G b → b < w.heap.size) (hB : B ≤ w.heap.size) (hk : η k = none) :
    ∃ v w', ((execOp ev o).run P w = .ok (.value v) w' ∨ ((execOp ev o).run P w = .ok .skip w' ∧ v = undef)) ∧ Done w B G η hp k r u v w' := by
  obtain ⟨dst, op, type, pos, after, guard⟩ := o
  cases op
  case move x =>
    simp only [opnds, List.map_cons, List.map_nil, astep] at h
    obtain ⟨rfl, rfl⟩ := pure1_eq h
    exact ⟨ev x, w, .inl rfl, η, fun _ _ h => h, fun _ h => .inl h, hs x, hm, Below.refl _ _, fun _ _ => rfl⟩
  case assign x =>
    simp only [opnds, List.map_cons, List.map_nil, astep] at h
    obtain ⟨rfl, rfl⟩ := pure1_eq h
    exact ⟨ev x, w, .inl rfl, η, fun _ _ h => h, fun _ h => .inl h, hs x, hm, Below.refl _ _, fun _ _ => rfl⟩
  case pick c a b =>
    simp only [opnds, List.map_cons, List.map_nil, astep] at h
    have hc := hs c
    have ha := hs a
    have hb := hs b
    generalize s c = sc at h hc
    generalize s a = sa at h ha
    generalize s b = sb at h hb
    unfold aPick at h
    split at h
    · obtain ⟨rfl, rfl⟩ := pure1_eq h
      obtain hc : ev c = .bool true := hc
      refine ⟨ev a, w, .inl ?_, η, fun _ _ h => h, fun _ h => .inl h, ha, hm, Below.refl _ _, fun _ _ => rfl⟩
      simp only [execOp, hc, asBool, Sem.run_bind, Sem.run_pure, Result.andThen_ok, if_true]
    · obtain ⟨rfl, rfl⟩ := pure1_eq h
      obtain hc : ev c = .bool false := hc
      refine ⟨ev b, w, .inl ?_, η, fun _ _ h => h, fun _ h => .inl h, hb, hm, Below.refl _ _, fun _ _ => rfl⟩
      simp only [execOp, hc, asBool, Sem.run_bind, Sem.run_pure, Result.andThen_ok, Bool.false_eq_true, if_false]
    · simp at h
  case alloc t =>
    simp only [opnds, List.map_nil, astep] at h
    split at h
    · rename_i x hx
      simp only [Option.some.injEq, Prod.mk.injEq] at h
      obtain ⟨rfl, rfl⟩ := h
      exact exec_val (sound_alloc hx hm hlt hB hk) rfl
    · simp at h
  case box t x =>
    simp only [opnds, List.map_cons, List.map_nil, astep] at h
    split at h
    · rename_i cs hc
      simp only [Option.some.injEq, Prod.mk.injEq] at h
      obtain ⟨rfl, rfl⟩ := h
      exact exec_val (sound_box hc (hs x) hm hlt hB hk) rfl
    · simp at h
  case build t ps =>
    simp only [opnds, astep] at h
    refine Yd.exec (m := Instr.build t (ps.map fun (i, x) => (i, ev x))) (sound_build h ?_) hm rfl
    have := zip_rel (ps := ps.toList) (az := (ps.toList.map (·.2)).map s) rfl hs
    simpa using this
  case buildSlice t n ps =>
    simp only [opnds, astep] at h
    refine exec_val (m := Instr.buildSlice t n (ps.map fun (i, x) => (i, ev x))) (sound_buildSlice h ?_ hm hlt hB hk) rfl
    have := zip_rel (ps := ps.toList) (az := (ps.toList.map (·.2)).map s) rfl hs
    simpa using this
  case load t a =>
    simp only [opnds, List.map_cons, List.map_nil, astep] at h
    exact Yd.exec (sound_load h (hs a) hm) hm rfl
  case store t a x =>
    simp only [opnds, List.map_cons, List.map_nil, astep] at h
    obtain ⟨w', h1, h2⟩ := sound_store (k := k) h (hs a) (hs x) hm
    refine ⟨undef, w', .inr ⟨?_, rfl⟩, h2⟩
    simp only [execOp, Sem.run_bind, h1, Result.andThen_ok, Sem.run_pure]
  case nilCheck x =>
    simp only [opnds, List.map_cons, List.map_nil, astep] at h
    have hx := hs x
    split at h
    · rename_i heq
      obtain ⟨rfl, rfl⟩ := pure1_eq h
      rw [heq] at hx
      have hx' := hx
      obtain ⟨b, _, hb2⟩ := hx
      exact ⟨ev x, w, .inl (by simp only [execOp, hb2, Sem.run_pure]), η, fun _ _ h => h, fun _ h => .inl h, heq ▸ hx', hm, Below.refl _ _, fun _ _ => rfl⟩
    · rename_i heq
      obtain ⟨rfl, rfl⟩ := pure1_eq h
      rw [heq] at hx
      have hx' := hx
      obtain ⟨b, n, c, _, hb2⟩ := hx
      exact ⟨ev x, w, .inl (by simp only [execOp, hb2, Sem.run_pure]), η, fun _ _ h => h, fun _ h => .inl h, heq ▸ hx', hm, Below.refl _ _, fun _ _ => rfl⟩
    · rename_i heq
      obtain ⟨rfl, rfl⟩ := pure1_eq h
      rw [heq] at hx
      have hx' := hx
      obtain ⟨b, o, hb2, _⟩ := hx
      exact ⟨ev x, w, .inl (by simp only [execOp, hb2, Sem.run_pure]), η, fun _ _ h => h, fun _ h => .inl h, heq ▸ hx', hm, Below.refl _ _, fun _ _ => rfl⟩
    · rename_i heq
      obtain ⟨rfl, rfl⟩ := pure1_eq h
      rw [heq] at hx
      have hx' := hx
      obtain ⟨v1, v2, hb2, _⟩ := hx
      exact ⟨ev x, w, .inl (by simp only [execOp, hb2, Sem.run_pure]), η, fun _ _ h => h, fun _ h => .inl h, heq ▸ hx', hm, Below.refl _ _, fun _ _ => rfl⟩
    · simp at h
  case binOp op t x y t' =>
    simp only [opnds, List.map_cons, List.map_nil, astep] at h
    exact Yd.exec (sound_binT (ox := x) (oy := y) h (hs x) (hs y)) hm rfl
  case unOp op t x =>
    simp only [opnds, List.map_cons, List.map_nil, astep] at h
    exact Yd.exec (sound_un h (hs x)) hm rfl
  case convert a b x =>
    simp only [opnds, List.map_cons, List.map_nil, astep] at h
    exact Yd.exec (sound_convX h (hs x) hm) hm rfl
  case makeFunc fn a c =>
    cases fn <;> try (simp only [astep, reduceCtorEq] at h; done)
    rename_i f
    simp only [opnds, List.map_append, astep] at h
    obtain ⟨rfl, rfl⟩ := pure1_eq h
    refine ⟨.func (.func f) (a.map ev) (c.map ev), w, .inl rfl, η, fun _ _ h => h, fun _ h => .inl h, ?_, hm, Below.refl _ _, fun _ _ => rfl⟩
    refine ⟨a.toList.map ev, c.toList.map ev, by congr 1 <;> (apply Array.ext'; simp), ?_, ?_⟩
    · have := repL_map hs a.toList
      simpa [List.take_append] using this
    · have := repL_map hs c.toList
      simpa [List.drop_append] using this
  case slice t x lo hi mx =>
    simp only [opnds, astep] at h
    exact Yd.exec (sound_slice hs h) hm rfl
  case fieldAddr t x f =>
    simp only [opnds, List.map_cons, List.map_nil, astep] at h
    exact Yd.exec (sound_fieldAddr h (hs x)) hm rfl
  case field t x f =>
    simp only [opnds, List.map_cons, List.map_nil, astep] at h
    exact Yd.exec (sound_field h (hs x)) hm rfl
  case indexAddr t x i =>
    simp only [opnds, List.map_cons, List.map_nil, astep] at h
    exact Yd.exec (sound_indexAddr h (hs x) (hs i) hm) hm rfl
  case index t x i =>
    simp only [opnds, List.map_cons, List.map_nil, astep] at h
    exact Yd.exec (sound_index h (hs x) (hs i)) hm rfl
  case extract x i =>
    simp only [opnds, List.map_cons, List.map_nil] at h
    have hx := hs x
    generalize s x = c at h hx
    cases c <;> try (simp only [astep, reduceCtorEq] at h; done)
    simp only [astep] at h
    split at h
    · rename_i v hv
      exact Yd.exec (sound_extract hv h hx) hm rfl
    · simp at h
  case call c =>
    obtain ⟨cal, args, ts⟩ := c
    cases cal <;> try (simp only [astep, reduceCtorEq] at h; done)
    rename_i b
    simp only [opnds, astep] at h
    unfold aBuiltin at h
    split at h
    · rename_i t x hts hvs
      have hts' : ts = #[t] := by rw [← Array.toArray_toList (xs := ts), hts]
      obtain ⟨x', hx', hxx⟩ : ∃ x', args = #[x'] ∧ s x' = x := by
        match hA : args.toList, hvs with
        | [x'], hvs => exact ⟨x', by rw [← Array.toArray_toList (xs := args), hA], by simpa [hA] using hvs⟩
        | [], hvs => simp [hA] at hvs
        | _ :: _ :: _, hvs => simp [hA] at hvs
      subst hx' hxx hts'
      refine exec_val (m := Builtin.len_ #[t] type #[ev x']) ((sound_len rfl h (hs x') hm).done hm |>.elim fun v hv => ⟨v, w, hv⟩) ?_
      simp [execOp, resolve, invoke, builtin]
    · rename_i t t' x y hts hvs
      have hts' : ts = #[t, t'] := by rw [← Array.toArray_toList (xs := ts), hts]
      obtain ⟨x', y', hx', hxx, hyy⟩ : ∃ x' y', args = #[x', y'] ∧ s x' = x ∧ s y' = y := by
        match hA : args.toList, hvs with
        | [x', y'], hvs => exact ⟨x', y', by rw [← Array.toArray_toList (xs := args), hA], by simp [hA] at hvs; exact hvs⟩
        | [], hvs => simp [hA] at hvs
        | [_], hvs => simp [hA] at hvs
        | _ :: _ :: _ :: _, hvs => simp [hA] at hvs
      subst hx' hxx hyy hts'
      split at h
      · rename_i htt
        subst htt
        refine exec_val (m := Builtin.append_ #[t, t] type #[ev x', ev y']) (sound_append h (hs x') (hs y') hm hlt hB hk) ?_
        simp [execOp, resolve, invoke, builtin]
      · simp at h
    · rename_i x y hvs
      obtain ⟨x', y', hx', hxx, hyy⟩ : ∃ x' y', args = #[x', y'] ∧ s x' = x ∧ s y' = y := by
        match hA : args.toList, hvs with
        | [x', y'], hvs => exact ⟨x', y', by rw [← Array.toArray_toList (xs := args), hA], by simp [hA] at hvs; exact hvs⟩
        | [], hvs => simp [hA] at hvs
        | [_], hvs => simp [hA] at hvs
        | _ :: _ :: _ :: _, hvs => simp [hA] at hvs
      subst hx' hxx hyy
      refine Yd.exec (m := Builtin.max_ ts type #[ev x', ev y']) ((sound_mm h (hs x') (hs y')).1 rfl) hm ?_
      simp [execOp, resolve, invoke, builtin]
    · rename_i x y hvs
      obtain ⟨x', y', hx', hxx, hyy⟩ : ∃ x' y', args = #[x', y'] ∧ s x' = x ∧ s y' = y := by
        match hA : args.toList, hvs with
        | [x', y'], hvs => exact ⟨x', y', by rw [← Array.toArray_toList (xs := args), hA], by simp [hA] at hvs; exact hvs⟩
        | [], hvs => simp [hA] at hvs
        | [_], hvs => simp [hA] at hvs
        | _ :: _ :: _ :: _, hvs => simp [hA] at hvs
      subst hx' hxx hyy
      refine Yd.exec (m := Builtin.min_ ts type #[ev x', ev y']) ((sound_mm h (hs x') (hs y')).2 rfl) hm ?_
      simp [execOp, resolve, invoke, builtin]
    · simp at h
  all_goals (simp only [astep, reduceCtorEq] at h)
end
end E
end
section
namespace E
section
variable {P : Program} {Ev : World → Prop} {w w' : World} {B : Nat} {G G' : Nat → Prop} {η η' : Nat → Option Value} {hp : Hp}
def OwnB (η : Nat → Option Value) (hp : Hp) (g : Nat) : Prop := ∃ id b v, look id hp = some b ∧ η id = some v ∧ hb v = some g
theorem rows_of_list : ∀ {r : List AV} {b o : Nat} {xs : List Value}, RepC w G no r xs → (∀ j u, xs[j]? = some u → w.cell? ⟨b, o + j, none⟩ = some u) → RepRow w G r b o
  | [], b, o, xs, _, _ => trivial
  | c :: r, b, o, [], h, _ => h.elim
  | c :: r, b, o, x :: xs, h, hc => ⟨⟨x, by simpa using hc 0 x rfl, h.1.1, h.1.2⟩, rows_of_list h.2 fun j u hu => by
      have := hc (j + 1) u (by simpa using hu)
      rwa [show o + (j + 1) = o + 1 + j by omega] at this⟩
theorem rowss_of_list : ∀ {rows : List (List AV)} {b o : Nat} {xs : List Value}, RepC w G no rows.flatten xs → (∀ j u, xs[j]? = some u → w.cell? ⟨b, o + j, none⟩ = some u) → RepRows w G rows b o
  | [], b, o, xs, _, _ => trivial
  | r :: rows, b, o, xs, h, hc => by
    rw [List.flatten_cons] at h
    obtain ⟨h1, h2⟩ := repC_split h
    refine ⟨rows_of_list h1 fun j u hu => ?_, rowss_of_list h2 fun j u hu => ?_⟩
    · rw [List.getElem?_take] at hu
      split at hu
      · exact hc j u hu
      · simp at hu
    · rw [List.getElem?_drop] at hu
      have := hc _ u hu
      rwa [show o + (r.length + j) = o + r.length + j by omega] at this
mutual
theorem soft_rep (hm : Mem w B G η hp) (hG : ∀ b, G b → G' b) : ∀ (a : AV) (v : Value), (owns a = true → ∀ g, OwnB η hp g → G' g) → Rep w G η a v → Rep w G' no (soft hp a) v
  | .val _, _, _, h => h
  | .nil, v, _, h => by
    obtain rfl : v = .slice none 0 0 := h
    exact ⟨none, 0, 0, 0, rfl, rfl, Nat.le_refl _, by omega, by simp, .inl rfl⟩
  | .lst rows, v, _, h => by
    obtain ⟨a, n, c, es, h1, h2, h3, h4, h5, h6⟩ := h
    refine ⟨a, n, c, es, h1, h2, h3, h4, h5, ?_⟩
    rcases h6 with h6 | ⟨b, o, h6, h7, h8⟩
    · exact .inl h6
    · exact .inr ⟨b, o, h6, hG b h7, RepRows.up (fun b hb => ⟨hG b hb, rfl⟩) rows b o h7 h8⟩
  | .elm row off, v, _, h => by
    obtain ⟨b, o, h1, h2, h3⟩ := h
    exact ⟨b, o, h1, hG b h2, RepRow.up (fun b hb => ⟨hG b hb, rfl⟩) row b o h2 h3⟩
  | .ref _ _, _, _, _ => trivial
  | .rel _ _ _ _, _, _, _ => trivial
  | .own id, v, ho, h => by
    unfold soft
    split
    · rename_i e es rows hl
      obtain ⟨h1, a, n, c, rfl⟩ := h
      obtain ⟨hd, h3, h4, h5⟩ := hm.rep id _ hl
      rw [h1] at h3
      simp only [Option.some.injEq] at h3
      subst h3
      obtain ⟨xs, j1, j2, j3, j4⟩ := h4
      rcases j1.2 with ⟨hh, h0⟩ | ⟨g, cap, cur, hh, b0, b1, b2, b3, b4, b5⟩
      · simp only [Value.slice.injEq] at hh
        obtain ⟨rfl, rfl, rfl⟩ := hh
        exact ⟨none, 0, 0, es, rfl, h0, Nat.le_refl _, by omega, j3, .inl (List.eq_nil_of_length_eq_zero h0)⟩
      · simp only [Value.slice.injEq] at hh
        obtain ⟨rfl, rfl, rfl⟩ := hh
        refine ⟨_, _, _, es, rfl, rfl, b2, by unfold maxLen at b3; omega, j3, .inr ⟨g, 0, rfl, ho rfl g ⟨id, _, _, hl, h1, rfl⟩, ?_⟩⟩
        refine rowss_of_list (RepC.up (fun b hb => ⟨hG b hb, rfl⟩) (fun _ _ h => h) _ _ j2) fun j u hu => ?_
        have := j1.cells rfl j u hu
        rwa [addr_add] at this
    · trivial
  | .agg cs, v, ho, h => by
    obtain ⟨vs, rfl, h2⟩ := h
    exact ⟨vs, rfl, softC_rep hm hG cs vs (fun h => ho h) h2⟩
  | .tup cs, v, ho, h => by
    obtain ⟨vs, rfl, h2⟩ := h
    exact ⟨vs, rfl, softL_rep hm hG cs vs (fun h => ho h) h2⟩
  | .fn f fs cs, v, ho, h => by
    obtain ⟨v1, v2, rfl, h2, h3⟩ := h
    exact ⟨v1, v2, rfl, softL_rep hm hG fs v1 (fun h => ho (by simp [owns, h])) h2, softL_rep hm hG cs v2 (fun h => ho (by simp [owns, h])) h3⟩
  | .top, _, _, _ => trivial
theorem softL_rep (hm : Mem w B G η hp) (hG : ∀ b, G b → G' b) : ∀ (az : List AV) (vs : List Value), (ownsL az = true → ∀ g, OwnB η hp g → G' g) → RepL w G η az vs → RepL w G' no (softL hp az) vs
  | [], [], _, _ => trivial
  | [], _ :: _, _, h => h.elim
  | _ :: _, [], _, h => h.elim
  | a :: az, v :: vs, ho, h => ⟨soft_rep hm hG a v (fun h => ho (by simp [ownsL, h])) h.1, softL_rep hm hG az vs (fun h => ho (by simp [ownsL, h])) h.2⟩
theorem softC_rep (hm : Mem w B G η hp) (hG : ∀ b, G b → G' b) : ∀ (az : List AV) (vs : List Value), (ownsL az = true → ∀ g, OwnB η hp g → G' g) → RepC w G η az vs → RepC w G' no (softL hp az) vs
  | [], [], _, _ => trivial
  | [], _ :: _, _, h => h.elim
  | _ :: _, [], _, h => h.elim
  | a :: az, v :: vs, ho, h => ⟨⟨h.1.1, soft_rep hm hG a v (fun h => ho (by simp [ownsL, h])) h.1.2⟩, softC_rep hm hG az vs (fun h => ho (by simp [ownsL, h])) h.2⟩
end
mutual
theorem flat_rep : ∀ (a : AV) (v : Value), flat a = true → Rep w G η a v → Rep w G' η a v
  | .val _, _, _, h => h
  | .nil, _, _, h => h
  | .lst rows, v, hf, h => by
    have h0 : rows = [] := by simpa [flat] using hf
    subst h0
    obtain ⟨a, n, c, es, h1, h2, h3, h4, h5, _⟩ := h
    exact ⟨a, n, c, es, h1, h2, h3, h4, h5, .inl rfl⟩
  | .elm _ _, _, hf, _ => by simp [flat] at hf
  | .ref _ _, _, _, h => h
  | .rel _ _ _ _, _, _, h => h
  | .own _, _, _, h => h
  | .agg cs, v, hf, h => by
    obtain ⟨vs, rfl, h2⟩ := h
    exact ⟨vs, rfl, flatC_rep cs vs hf h2⟩
  | .tup cs, v, hf, h => by
    obtain ⟨vs, rfl, h2⟩ := h
    exact ⟨vs, rfl, flatL_rep cs vs hf h2⟩
  | .fn f fs cs, v, hf, h => by
    obtain ⟨v1, v2, rfl, h2, h3⟩ := h
    simp only [flat, Bool.and_eq_true] at hf
    exact ⟨v1, v2, rfl, flatL_rep fs v1 hf.1 h2, flatL_rep cs v2 hf.2 h3⟩
  | .top, _, _, _ => trivial
theorem flatL_rep : ∀ (az : List AV) (vs : List Value), flatL az = true → RepL w G η az vs → RepL w G' η az vs
  | [], [], _, _ => trivial
  | [], _ :: _, _, h => h.elim
  | _ :: _, [], _, h => h.elim
  | a :: az, v :: vs, hf, h => by
    simp only [flatL, Bool.and_eq_true] at hf
    exact ⟨flat_rep a v hf.1 h.1, flatL_rep az vs hf.2 h.2⟩
theorem flatC_rep : ∀ (az : List AV) (vs : List Value), flatL az = true → RepC w G η az vs → RepC w G' η az vs
  | [], [], _, _ => trivial
  | [], _ :: _, _, h => h.elim
  | _ :: _, [], _, h => h.elim
  | a :: az, v :: vs, hf, h => by
    simp only [flatL, Bool.and_eq_true] at hf
    exact ⟨⟨h.1.1, flat_rep a v hf.1 h.1.2⟩, flatC_rep az vs hf.2 h.2⟩
end
theorem flatL_app : ∀ (a b : List AV), flatL (a ++ b) = (flatL a && flatL b)
  | [], b => by simp [flatL]
  | x :: a, b => by simp [flatL, flatL_app a b, Bool.and_assoc]
theorem flatL_flatten : ∀ (rows : List (List AV)), rows.all flatL = true → flatL rows.flatten = true
  | [], _ => rfl
  | r :: rows, h => by
    simp only [List.all_cons, Bool.and_eq_true] at h
    rw [List.flatten_cons, flatL_app, h.1, flatL_flatten rows h.2]
    rfl
theorem flatB_rep {b : Blk} {v : Value} (hf : flatB b = true) (h : RepB w G η b v) : RepB w G' η b v := by
  cases b with
  | box cs =>
    obtain ⟨b, T, vs, h1, h2, h3⟩ := h
    exact ⟨b, T, vs, h1, h2, flatC_rep cs vs hf h3⟩
  | row e es rows =>
    obtain ⟨xs, h1, h2, h3⟩ := h
    exact ⟨xs, h1, flatC_rep _ _ (flatL_flatten rows hf) h2, h3⟩
mutual
theorem ren_rep {f : Nat → Option Nat} (hf : ∀ i j, f i = some j → ∀ v, η i = some v → η' j = some v) : ∀ (a : AV) (v : Value), Rep w G η a v → Rep w G η' (ren f a) v
  | .val _, _, h => h
  | .nil, _, h => h
  | .lst _, _, h => h
  | .elm _ _, _, h => h
  | .ref id o, v, h => by
    unfold ren
    split
    · obtain ⟨b, h1, h2⟩ := h
      exact ⟨b, hf _ _ ‹_› _ h1, h2⟩
    · trivial
  | .rel id es i o, v, h => by
    unfold ren
    split
    · obtain ⟨b, n, c, h1, h2⟩ := h
      exact ⟨b, n, c, hf _ _ ‹_› _ h1, h2⟩
    · trivial
  | .own id, v, h => by
    unfold ren
    split
    · exact ⟨hf _ _ ‹_› _ h.1, h.2⟩
    · trivial
  | .agg cs, v, h => by
    obtain ⟨vs, rfl, h2⟩ := h
    exact ⟨vs, rfl, renC_rep hf cs vs h2⟩
  | .tup cs, v, h => by
    obtain ⟨vs, rfl, h2⟩ := h
    exact ⟨vs, rfl, renL_rep hf cs vs h2⟩
  | .fn g fs cs, v, h => by
    obtain ⟨v1, v2, rfl, h2, h3⟩ := h
    exact ⟨v1, v2, rfl, renL_rep hf fs v1 h2, renL_rep hf cs v2 h3⟩
  | .top, _, _ => trivial
theorem renL_rep {f : Nat → Option Nat} (hf : ∀ i j, f i = some j → ∀ v, η i = some v → η' j = some v) : ∀ (az : List AV) (vs : List Value), RepL w G η az vs → RepL w G η' (renL f az) vs
  | [], [], _ => trivial
  | [], _ :: _, h => h.elim
  | _ :: _, [], h => h.elim
  | a :: az, v :: vs, h => ⟨ren_rep hf a v h.1, renL_rep hf az vs h.2⟩
theorem renC_rep {f : Nat → Option Nat} (hf : ∀ i j, f i = some j → ∀ v, η i = some v → η' j = some v) : ∀ (az : List AV) (vs : List Value), RepC w G η az vs → RepC w G η' (renL f az) vs
  | [], [], _ => trivial
  | [], _ :: _, h => h.elim
  | _ :: _, [], h => h.elim
  | a :: az, v :: vs, h => ⟨⟨h.1.1, ren_rep hf a v h.1.2⟩, renC_rep hf az vs h.2⟩
end
theorem renB_rep {f : Nat → Option Nat} (hf : ∀ i j, f i = some j → ∀ v, η i = some v → η' j = some v) {b : Blk} {v : Value} (h : RepB w G η b v) : RepB w G η' (renB f b) v := by
  cases b with
  | box cs =>
    obtain ⟨b, T, vs, h1, h2, h3⟩ := h
    exact ⟨b, T, vs, h1, h2, renC_rep hf cs vs h3⟩
  | row e es rows => exact h
theorem look_adopt (k : Nat) : ∀ (nb : Hp) (id : Nat) (c : Blk), look id (adopt k nb) = some c → ∃ j b, id = k + j ∧ look j nb = some b ∧ c = renB (sh k) b
  | [], id, c, h => by simp [adopt, look] at h
  | (j, b) :: nb, id, c, h => by
    simp only [adopt, look] at h
    split at h
    · rename_i e
      simp only [beq_iff_eq] at e
      simp only [Option.some.injEq] at h
      exact ⟨j, b, e.symm, by simp [look], h.symm⟩
    · rename_i e
      obtain ⟨j', b', h1, h2, h3⟩ := look_adopt k nb id c h
      refine ⟨j', b', h1, ?_, h3⟩
      simp only [look]
      rw [if_neg]
      · exact h2
      · intro e'
        simp only [beq_iff_eq] at e' e
        omega
theorem look_append (id : Nat) : ∀ (a b : Hp), look id (a ++ b) = match look id a with | some c => some c | none => look id b
  | [], b => rfl
  | (j, c) :: a, b => by
    simp only [List.cons_append, look]
    split
    · rfl
    · exact look_append id a b
theorem look_lt {p : Nat → Bool} : ∀ (nb : Hp) (j : Nat) (b : Blk), (nb.all fun x => p x.1) = true → look j nb = some b → p j = true
  | [], j, b, _, h => by simp [look] at h
  | (i, c) :: nb, j, b, ha, h => by
    simp only [List.all_cons, Bool.and_eq_true] at ha
    simp only [look] at h
    split at h
    · rename_i e
      simp only [beq_iff_eq] at e
      rw [← e]
      exact ha.1
    · exact look_lt nb j b ha.2 h
theorem look_all {p : Blk → Bool} : ∀ (nb : Hp) (j : Nat) (b : Blk), (nb.all fun x => p x.2) = true → look j nb = some b → p b = true
  | [], j, b, _, h => by simp [look] at h
  | (i, c) :: nb, j, b, ha, h => by
    simp only [List.all_cons, Bool.and_eq_true] at ha
    simp only [look] at h
    split at h
    · simp only [Option.some.injEq] at h
      rw [← h]
      exact ha.1
    · exact look_all nb j b ha.2 h
def put4 (η η2 : Nat → Option Value) (k : Nat) : Nat → Option Value := fun i => if k ≤ i ∧ i < k + 4 then η2 (i - k) else η i
theorem put4_ge {η2 : Nat → Option Value} {k : Nat} (h : ∀ i, k ≤ i → i < k + 4 → η i = none) : Ge η (put4 η η2 k) := by
  intro id v hv
  unfold put4
  split
  · rename_i hc
    rw [h id hc.1 hc.2] at hv
    simp at hv
  · exact hv
theorem put4_sh {η2 : Nat → Option Value} {k : Nat} : ∀ i j, sh k i = some j → ∀ v, η2 i = some v → put4 η η2 k j = some v := by
  intro i j h v hv
  unfold sh at h
  split at h
  · simp only [Option.some.injEq] at h
    subst h
    unfold put4
    rw [if_pos (by omega), show k + i - k = i by omega]
    exact hv
  · simp at h
theorem Mem.more (hm : Mem w B G η hp) (hlt : ∀ b, G b → b < w.heap.size) (hB : B ≤ w.heap.size) {k : Nat} (hk : ∀ i, k ≤ i → i < k + 4 → η i = none) {nb : Hp} {G2 : Nat → Prop} {η2 : Nat → Option Value}
    (hbel : Below w.heap.size w w') (hm2 : Mem w' w.heap.size G2 η2 nb) (h4 : (nb.all fun x => decide (x.1 < 4)) = true) (hG' : ∀ b, G' b → G b ∨ (G2 b ∧ w.heap.size ≤ b)) (hGG : ∀ b, G b → G' b)
    (hrep : ∀ j b v, look j nb = some b → η2 j = some v → RepB w' G' η2 b v) : Mem w' B G' (put4 η η2 k) (adopt k nb ++ hp) := by
  have hw : ∀ i, i < w.heap.size → w'.heap[i]? = w.heap[i]? := hbel.block
  have hUp : Up w w' G G' := fun b hb => ⟨hGG b hb, hw b (hlt b hb)⟩
  have key : ∀ id c, look id (adopt k nb ++ hp) = some c → (∃ j b, id = k + j ∧ j < 4 ∧ look j nb = some b ∧ c = renB (sh k) b) ∨ (look id hp = some c ∧ ¬ (k ≤ id ∧ id < k + 4)) := by
    intro id c h
    rw [look_append] at h
    split at h
    · rename_i c' hc'
      simp only [Option.some.injEq] at h
      subst h
      obtain ⟨j, b, h1, h2, h3⟩ := look_adopt k nb id _ hc'
      have := look_lt (p := fun x => decide (x < 4)) nb j b h4 h2
      exact .inl ⟨j, b, h1, by simpa using this, h2, h3⟩
    · right
      refine ⟨h, fun hc => ?_⟩
      rw [hm.none_of (hk id hc.1 hc.2)] at h
      simp at h
  have e1 : ∀ j v, j < 4 → (put4 η η2 k (k + j) = some v ↔ η2 j = some v) := by
    intro j v hj
    unfold put4
    rw [if_pos (by omega), show k + j - k = j by omega]
  have e2 : ∀ id, ¬ (k ≤ id ∧ id < k + 4) → put4 η η2 k id = η id := fun id h => by unfold put4; rw [if_neg h]
  constructor
  · intro id c hc
    rcases key id c hc with ⟨j, b, rfl, hj, hl, rfl⟩ | ⟨hl, hn⟩
    · obtain ⟨v, h1, h2, h3⟩ := hm2.rep j b hl
      refine ⟨v, (e1 j v hj).2 h1, renB_rep put4_sh (hrep j b v hl h1), fun g hg => ?_⟩
      obtain ⟨k1, k2⟩ := h3 g hg
      refine ⟨by omega, fun hG => ?_⟩
      rcases hG' g hG with h | h
      · have := hlt g h; omega
      · exact k2 h.1
    · obtain ⟨v, h1, h2, h3⟩ := hm.rep id c hl
      refine ⟨v, by rw [e2 id hn]; exact h1, RepB.up hUp (put4_ge hk) (fun g hg => hw g (h2.lt hg)) h2, fun g hg => ⟨(h3 g hg).1, fun hG => ?_⟩⟩
      rcases hG' g hG with h | h
      · exact (h3 g hg).2 h
      · have := h2.lt hg; omega
  · intro id id' c c' v v' g hc hc' hv hv' hg hg'
    rcases key id c hc with ⟨j, b, rfl, hj, hl, rfl⟩ | ⟨hl, hn⟩ <;> rcases key id' c' hc' with ⟨j', b', rfl, hj', hl', rfl⟩ | ⟨hl', hn'⟩
    · rw [hm2.inj j j' b b' v v' g hl hl' ((e1 j v hj).1 hv) ((e1 j' v' hj').1 hv') hg hg']
    · obtain ⟨x, h1, h2, h3⟩ := hm2.rep j b hl
      rw [(e1 j v hj).1 hv] at h1
      simp only [Option.some.injEq] at h1
      subst h1
      obtain ⟨y, k1, k2, _⟩ := hm.rep id' c' hl'
      rw [e2 id' hn', k1] at hv'
      simp only [Option.some.injEq] at hv'
      subst hv'
      have := (h3 g hg).1
      have := k2.lt hg'
      omega
    · obtain ⟨x, h1, h2, h3⟩ := hm2.rep j' b' hl'
      rw [(e1 j' v' hj').1 hv'] at h1
      simp only [Option.some.injEq] at h1
      subst h1
      obtain ⟨y, k1, k2, _⟩ := hm.rep id c hl
      rw [e2 id hn, k1] at hv
      simp only [Option.some.injEq] at hv
      subst hv
      have := (h3 g hg').1
      have := k2.lt hg
      omega
    · rw [e2 id hn] at hv
      rw [e2 id' hn'] at hv'
      exact hm.inj id id' c c' v v' g hl hl' hv hv' hg hg'
end
end E
end
section
namespace E
inductive Eff where
  | st (r : AV) (u : Upd)
  | cl (r : AV) (nb : Hp)
def app (dst : Option Tmp) (e : Eff) (s : St) : St :=
  match e with
  | .st r u => (s.put dst r).upd u
  | .cl r nb => (s.put dst r).more nb
def opE (P : Program) (Ev : World → Prop) (op : Op) (k : Nat) (s : St) : Eff → Prop
  | .st r u => ((∀ f az ts, op ≠ .call ⟨.value f, az, ts⟩) ∧ (∀ t g, op ≠ .load t (.global g)) ∧ astep P op k ((opnds op).map s.ev) s.heap = some (r, u)) ∨ (∃ t g, op = .load t (.global g) ∧ AGlob P Ev t (.pointer (some ⟨g, 0, none⟩)) r ∧ u = .none)
  | .cl r nb => ∃ f az ts, op = .call ⟨.value f, az, ts⟩ ∧ ∃ g fs cs args r0 nb0, softL s.heap (s.ev f :: az.toList.map s.ev) = .fn g fs cs :: args ∧ ACalls P Ev g (fs ++ (args ++ cs)) r0 nb0 ∧
      (ownsL (s.ev f :: az.toList.map s.ev) = false ∨ flat r0 = true ∧ (nb0.all fun x => flatB x.2) = true) ∧ (nb0.all fun x => decide (x.1 < 4)) = true ∧ r = ren (sh k) r0 ∧ nb = adopt k nb0
section
variable {P : Program} {Ev : World → Prop}
theorem opK_E {op : Op} {dst : Option Tmp} {k : Nat} {s : St} {K : St → Prop} (h : opK P Ev op dst k s K) : ∃ e, opE P Ev op k s e ∧ K (app dst e s) := by
  unfold opK at h
  split at h
  · rename_i f az ts
    unfold callK at h
    split at h
    · rename_i g fs cs args heq
      obtain ⟨r, nb, h1, h2, h3, h4⟩ := h
      exact ⟨.cl (ren (sh k) r) (adopt k nb), ⟨f, az, ts, rfl, g, fs, cs, args, r, nb, heq, h1, h2, h3, rfl, rfl⟩, h4⟩
    · exact h.elim
  · rename_i t g
    obtain ⟨r, h1, h2⟩ := h
    exact ⟨.st r .none, .inr ⟨t, g, rfl, h1, rfl⟩, h2⟩
  · rename_i n1 n2
    unfold stepK at h
    split at h
    · rename_i v u heq
      exact ⟨.st v u, .inl ⟨fun f az ts e => n1 f az ts e, fun t g e => n2 t g e, heq⟩, h⟩
    · exact h.elim
def InvA (S : Nat → Prop) (w0 : World) (A : Nat → Prop) (s : St) (a : Act) (w : World) : Prop :=
  Below w0.heap.size w0 w ∧ a.tmps.size = s.n ∧ a.defers = [] ∧ ∃ (G : Nat → Prop) (η : Nat → Option Value),
    (∀ b, G b → (S b ∨ w0.heap.size ≤ b) ∧ b < w.heap.size) ∧ (∀ t x, look t s.tmps = some x → Rep w G η x (a.tmps.getD t undef)) ∧
    Mem w w0.heap.size G η s.heap ∧ ∀ id, ¬ A id → η id = none
theorem inv_iff {S : Nat → Prop} {w0 : World} {s : St} {a : Act} {w : World} : Inv S w0 s a w ↔ InvA S w0 (· < s.next) s a w := by
  unfold Inv InvA
  simp only [Nat.not_lt]
theorem ev_rep {w : World} {G : Nat → Prop} {η : Nat → Option Value} {s : St} {a : Act} (h : ∀ t x, look t s.tmps = some x → Rep w G η x (a.tmps.getD t undef)) (x : Operand) : Rep w G η (s.ev x) (a.eval x) := by
  cases x with
  | tmp t =>
    unfold St.ev Act.eval
    dsimp only
    cases hl : look t s.tmps with
    | none => trivial
    | some c => exact h t c hl
  | const v => exact rep_ofV v
  | global g => rfl
  | func f => exact ⟨[], [], rfl, trivial, trivial⟩
def tk (A : Nat → Prop) (k : Nat) : Nat → Prop := fun id => A id ∨ (k ≤ id ∧ id < k + 4)
theorem look_put {s : St} {dst : Option Tmp} {r : AV} {t : Nat} : look t (s.put dst r).tmps = if dst = some t ∧ t < s.n then some r else look t s.tmps := by
  cases dst with
  | none => simp [St.put]
  | some d =>
    simp only [St.put]
    by_cases hd : d < s.n
    · rw [if_pos hd]
      simp only [look, beq_iff_eq]
      by_cases ht : d = t
      · subst ht
        simp [hd]
      · rw [if_neg ht, if_neg]
        intro h
        simp only [Option.some.injEq] at h
        exact ht h.1
    · rw [if_neg hd, if_neg]
      intro h
      simp only [Option.some.injEq] at h
      exact hd (h.1 ▸ h.2)
theorem put_rest {s : St} {dst : Option Tmp} {r : AV} : (s.put dst r).n = s.n ∧ (s.put dst r).heap = s.heap ∧ (s.put dst r).next = s.next := by
  cases dst with
  | none => exact ⟨rfl, rfl, rfl⟩
  | some d =>
    simp only [St.put]
    split <;> exact ⟨rfl, rfl, rfl⟩
theorem getD_put {a : Act} {dst : Option Tmp} {v : Value} {t : Nat} (h : t < a.tmps.size ∨ dst ≠ some t) : (a.put dst v).tmps.getD t undef = if dst = some t then v else a.tmps.getD t undef := by
  cases dst with
  | none => simp [Act.put]
  | some d =>
    simp only [Act.put, Option.some.injEq]
    by_cases hd : d = t
    · subst hd
      rcases h with h | h
      · simp [Array.getD_eq_getD_getElem?, h]
      · simp at h
    · simp [Array.getD_eq_getD_getElem?, Array.getElem?_setIfInBounds_ne hd, hd]
theorem rel_put {w : World} {G : Nat → Prop} {η : Nat → Option Value} {s : St} {a : Act} {dst : Option Tmp} {r : AV} {v : Value} (hn : a.tmps.size = s.n) (h : ∀ t x, look t s.tmps = some x → Rep w G η x (a.tmps.getD t undef)) (hr : Rep w G η r v) :
    ∀ t x, look t (s.put dst r).tmps = some x → Rep w G η x ((a.put dst v).tmps.getD t undef) := by
  intro t x hx
  rw [look_put] at hx
  split at hx
  · rename_i hc
    simp only [Option.some.injEq] at hx
    subst hx
    rw [getD_put (.inl (by omega)), if_pos hc.1]
    exact hr
  · rename_i hc
    by_cases hd : dst = some t
    · have : ¬ t < s.n := fun hlt => hc ⟨hd, hlt⟩
      have hrep := h t x hx
      subst hd
      have e : (a.put (some t) v).tmps.getD t undef = a.tmps.getD t undef := by
        simp only [Act.put]
        rw [Array.setIfInBounds_eq_of_size_le (by omega)]
      rw [e]
      exact hrep
    · rw [getD_put (.inr hd), if_neg hd]
      exact h t x hx
theorem act_size {a : Act} {dst : Option Tmp} {v : Value} : (a.put dst v).tmps.size = a.tmps.size ∧ (a.put dst v).defers = a.defers := by
  cases dst <;> simp [Act.put]
theorem upd_heap {s : St} {dst : Option Tmp} {r : AV} {u : Upd} : ((s.put dst r).upd u).heap = u.on s.heap ∧ ((s.put dst r).upd u).tmps = (s.put dst r).tmps ∧ ((s.put dst r).upd u).n = s.n ∧ ((s.put dst r).upd u).next = s.next := by
  obtain ⟨h1, h2, h3⟩ := put_rest (s := s) (dst := dst) (r := r)
  simp only [St.upd]
  exact ⟨by rw [h2], trivial, h1, h3⟩
theorem more_heap {s : St} {dst : Option Tmp} {r : AV} {nb : Hp} : ((s.put dst r).more nb).heap = nb ++ s.heap ∧ ((s.put dst r).more nb).tmps = (s.put dst r).tmps ∧ ((s.put dst r).more nb).n = s.n ∧ ((s.put dst r).more nb).next = s.next := by
  obtain ⟨h1, h2, h3⟩ := put_rest (s := s) (dst := dst) (r := r)
  simp only [St.more]
  exact ⟨by rw [h2], trivial, h1, h3⟩
theorem inv_done {S : Nat → Prop} {w0 w w' : World} {A : Nat → Prop} {s : St} {a : Act} {dst : Option Tmp} {k : Nat} {r : AV} {u : Upd} {v : Value} {G : Nat → Prop} {η : Nat → Option Value} (h1 : Below w0.heap.size w0 w) (h2 : a.tmps.size = s.n) (h3 : a.defers = [])
    (hG : ∀ b, G b → (S b ∨ w0.heap.size ≤ b) ∧ b < w.heap.size) (hrel : ∀ t x, look t s.tmps = some x → Rep w G η x (a.tmps.getD t undef)) (hA : ∀ id, ¬ A id → η id = none)
    (hd : Done w w0.heap.size G η s.heap k r u v w') : InvA S w0 (tk A k) (app dst (.st r u) s) (a.put dst v) w' := by
  obtain ⟨η', d1, d2, d3, d4, d5, d6⟩ := hd
  obtain ⟨e1, e2, e3, e4⟩ := upd_heap (s := s) (dst := dst) (r := r) (u := u)
  refine ⟨h1.trans d5, ?_, ?_, G, η', fun b hb => ⟨(hG b hb).1, Nat.lt_of_lt_of_le (hG b hb).2 d5.size⟩, ?_, ?_, fun id hid => ?_⟩
  · rw [act_size.1, h2]; exact e3.symm
  · rw [act_size.2, h3]
  · show ∀ t x, look t ((s.put dst r).upd u).tmps = some x → _
    rw [e2]
    exact rel_put h2 (fun t x hx => Rep.up (fun b hb => ⟨hb, d6 b hb⟩) d1 _ _ (hrel t x hx)) d3
  · show Mem w' _ _ _ ((s.put dst r).upd u).heap
    rw [e1]
    exact d4
  · cases hη : η' id with
    | none => rfl
    | some x =>
      exfalso
      rcases d2 id (by rw [hη]; simp) with h | h
      · exact h (hA id fun hA' => hid (.inl hA'))
      · exact hid (.inr (by omega))
theorem op_sound {S : Nat → Prop} {w0 w : World} {A : Nat → Prop} {s : St} {a : Act} {o : Oper} {k : Nat} {e : Eff} {Q : Exit → Act → World → Prop} {K : Act → World → Prop} (hev : Ev w) (hI : InvA S w0 A s a w) (hk : ∀ id, k ≤ id → id < k + 4 → ¬ A id)
    (he : opE P Ev o.op k s e) (hK : ∀ a' w', InvA S w0 (tk A k) (app o.dst e s) a' w' → K a' w') : o.wp P a w K Q := by
  obtain ⟨h1, h2, h3, G, η, hG, hrel, hm, hA⟩ := hI
  have hB : w0.heap.size ≤ w.heap.size := h1.size
  have hlt : ∀ b, G b → b < w.heap.size := fun b hb => (hG b hb).2
  have hs := fun x => ev_rep hrel x
  cases e with
  | st r u =>
    rcases he with ⟨_, _, hst⟩ | ⟨t, g, hop, hgl, rfl⟩
    · obtain ⟨v, w', hrun, hd⟩ := astep_exec hs hst hm hlt hB (hA k (hk k (Nat.le_refl _) (by omega)))
      have hI' := inv_done (dst := o.dst) h1 h2 h3 hG hrel hA hd
      unfold Oper.wp
      rcases hrun with hrun | ⟨hrun, rfl⟩
      · rw [hrun]; exact hK _ _ hI'
      · rw [hrun]; exact hK _ _ hI'
    · obtain ⟨v, hrun, hr⟩ := hgl w hev
      unfold Oper.wp
      have : (execOp a.eval o).run P w = .ok (.value v) w := by
        have hrun' : (Instr.loadAt t (a.eval (.global g))).run P w = .ok v w := hrun
        simp only [execOp, hop, Sem.run_bind, hrun', Result.andThen_ok, Sem.run_pure]
      rw [this]
      exact hK _ _ (inv_done (k := k) (dst := o.dst) h1 h2 h3 hG hrel hA ⟨η, fun _ _ h => h, fun _ h => .inl h, hr _ _, hm, Below.refl _ _, fun _ _ => rfl⟩)
  | cl r nb =>
    obtain ⟨f, az, ts, hop, g, fs, cs, args, r0, nb0, hsoft, hcall, hown, h4, rfl, rfl⟩ := he
    obtain ⟨⟨fn, hf1, hf2, hf3⟩, hc⟩ := hcall
    obtain ⟨Gc, hGc1, hGc2, hGc3⟩ : ∃ Gc : Nat → Prop, (∀ b, G b → Gc b) ∧ (∀ b, Gc b → b < w.heap.size) ∧ (((∀ b, Gc b → G b) ∧ ownsL (s.ev f :: az.toList.map s.ev) = false) ∨ (ownsL (s.ev f :: az.toList.map s.ev) = true ∧ ∀ b, OwnB η s.heap b → Gc b)) := by
      cases ho : ownsL (s.ev f :: az.toList.map s.ev) with
      | false => exact ⟨G, fun _ h => h, hlt, .inl ⟨fun _ h => h, rfl⟩⟩
      | true =>
        refine ⟨fun b => G b ∨ OwnB η s.heap b, fun _ h => .inl h, fun b hb => ?_, .inr ⟨rfl, fun _ h => .inr h⟩⟩
        rcases hb with hb | ⟨id, c, v, q1, q2, q3⟩
        · exact hlt b hb
        · obtain ⟨v', q4, q5, _⟩ := hm.rep id c q1
          rw [q2] at q4
          simp only [Option.some.injEq] at q4
          subst q4
          exact q5.lt q3
    have hall := softL_rep hm hGc1 (s.ev f :: az.toList.map s.ev) (a.eval f :: az.toList.map a.eval) (fun ho g hg => by
      rcases hGc3 with h | h
      · rw [h.2] at ho; simp at ho
      · exact h.2 g hg) ⟨hs f, repL_map hs az.toList⟩
    rw [hsoft] at hall
    obtain ⟨⟨v1, v2, hfv, hr1, hr2⟩, hr3⟩ := hall
    have happ : ∀ (a b : List AV) (us vs : List Value), RepL w Gc no a us → RepL w Gc no b vs → RepL w Gc no (a ++ b) (us ++ vs) := by
      intro a
      induction a with
      | nil =>
        intro b us vs h h'
        match us, h with
        | [], _ => exact h'
        | _ :: _, h => exact h.elim
      | cons c a ih =>
        intro b us vs h h'
        match us, h with
        | [], h => exact h.elim
        | u :: us, h => exact ⟨h.1, ih b us vs h.2 h'⟩
    have hargs := happ _ _ _ _ hr1 (happ _ _ _ _ hr3 hr2)
    have hrun : (execOp a.eval o).run P w = .ok (.enter g ((v1 ++ (az.toList.map a.eval ++ v2)).toArray)) w := by
      have e1 : (v1 ++ (az.toList.map a.eval ++ v2)).toArray = v1.toArray ++ az.map a.eval ++ v2.toArray := by
        apply Array.ext'
        simp
      rw [e1]
      simp only [execOp, hop, resolve, hfv, Deferred.ofValue, Sem.run_bind, Sem.run_pure, Result.andThen_ok, invoke, callFunc, run_program, hf1, hf3, hf2, Bool.false_eq_true, if_false]
    unfold Oper.wp
    rw [hrun]
    refine (hc w _ Gc hev hGc2 (by simpa using hargs)).mono fun ending w' hpost => ?_
    obtain ⟨v, rfl, hbel, G2, η2, hG2, hrep, hmem⟩ := hpost
    refine hK _ _ ?_
    have hfree : ∀ i, k ≤ i → i < k + 4 → η i = none := fun i h1 h2 => hA i (hk i h1 h2)
    let G' : Nat → Prop := fun b => G b ∨ (G2 b ∧ w.heap.size ≤ b)
    have hsz : w.heap.size ≤ w'.heap.size := hbel.size
    have hUp : Up w w' G G' := fun b hb => ⟨.inl hb, hbel.block b (hlt b hb)⟩
    have hres : Rep w' G' η2 r0 v ∧ ∀ j b x, look j nb0 = some b → η2 j = some x → RepB w' G' η2 b x := by
      rcases hown with ho | ⟨ho1, ho2⟩
      · have hU2 : Up w' w' G2 G' := fun b hb => ⟨by
          rcases (hG2 b hb).1 with h | h
          · rcases hGc3 with h' | h'
            · exact .inl (h'.1 b h)
            · rw [ho] at h'; simp at h'
          · exact .inr ⟨hb, h⟩, rfl⟩
        refine ⟨Rep.up hU2 (fun _ _ h => h) _ _ hrep, fun j b x hl hx => ?_⟩
        obtain ⟨y, q1, q2, _⟩ := hmem.rep j b hl
        rw [hx] at q1
        simp only [Option.some.injEq] at q1
        subst q1
        exact RepB.up hU2 (fun _ _ h => h) (fun _ _ => rfl) q2
      · refine ⟨flat_rep _ _ ho1 hrep, fun j b x hl hx => ?_⟩
        obtain ⟨y, q1, q2, _⟩ := hmem.rep j b hl
        rw [hx] at q1
        simp only [Option.some.injEq] at q1
        subst q1
        exact flatB_rep (look_all nb0 j b ho2 hl) q2
    obtain ⟨e1, e2, e3, e4⟩ := more_heap (s := s) (dst := o.dst) (r := ren (sh k) r0) (nb := adopt k nb0)
    refine ⟨h1.trans (hbel.mono hB), ?_, ?_, G', put4 η η2 k, fun b hb => ?_, ?_, ?_, fun id hid => ?_⟩
    · rw [act_size.1, h2]; exact e3.symm
    · rw [act_size.2, h3]
    · rcases hb with hb | ⟨hb, hb'⟩
      · exact ⟨(hG b hb).1, Nat.lt_of_lt_of_le (hG b hb).2 hsz⟩
      · exact ⟨.inr (Nat.le_trans hB hb'), (hG2 b hb).2⟩
    · show ∀ t x, look t ((s.put o.dst (ren (sh k) r0)).more (adopt k nb0)).tmps = some x → _
      rw [e2]
      exact rel_put h2 (fun t x hx => Rep.up hUp (put4_ge hfree) _ _ (hrel t x hx)) (ren_rep put4_sh _ _ hres.1)
    · show Mem w' _ _ _ ((s.put o.dst (ren (sh k) r0)).more (adopt k nb0)).heap
      rw [e1]
      exact hm.more hlt hB hfree hbel hmem h4 (fun b hb => hb) (fun b hb => .inl hb) hres.2
    · have hn : ¬ (k ≤ id ∧ id < k + 4) := fun h => hid (.inr h)
      unfold put4
      rw [if_neg hn]
      exact hA id fun h => hid (.inl h)
end
end E
end
section
namespace E
section
variable {P : Program} {Ev : World → Prop}
theorem InvA.mono {S : Nat → Prop} {w0 w : World} {A A' : Nat → Prop} {s : St} {a : Act} (h : InvA S w0 A s a w) (hA : ∀ id, A id → A' id) : InvA S w0 A' s a w := by
  obtain ⟨h1, h2, h3, G, η, hG, hrel, hm, h4⟩ := h
  exact ⟨h1, h2, h3, G, η, hG, hrel, hm, fun id h => h4 id fun h' => h (hA id h')⟩
def Stable (Ev : World → Prop) : Prop := ∀ w w' : World, Ev w → Below w.heap.size w w' → Ev w'
theorem InvA.ev {S : Nat → Prop} {w0 w : World} {A : Nat → Prop} {s : St} {a : Act} (hE : Stable Ev) (h0 : Ev w0) (h : InvA S w0 A s a w) : Ev w := hE _ _ h0 h.1
def opG (P : Program) (Ev : World → Prop) (ops : List Oper) (o : Oper) (k : Nat) (s : St) (e : Eff) : Prop :=
  match o.guard with
  | none => opE P Ev o.op k s e
  | some (j, want) => ∃ x c, dstOf ops j = some x ∧ gOf (s.ev x) = some c ∧ if (c == some want) = true then opE P Ev o.op k s e else e = .st skipA .none
theorem inv_skip {S : Nat → Prop} {w0 w : World} {A : Nat → Prop} {s : St} {a : Act} {dst : Option Tmp} (h : InvA S w0 A s a w) : InvA S w0 A (s.put dst skipA) (a.put dst undef) w := by
  obtain ⟨h1, h2, h3, G, η, hG, hrel, hm, h4⟩ := h
  obtain ⟨p1, p2, p3⟩ := put_rest (s := s) (dst := dst) (r := skipA)
  exact ⟨h1, by rw [act_size.1, h2, p1], by rw [act_size.2, h3], G, η, hG, rel_put h2 hrel rfl, by rw [p2]; exact hm, h4⟩
theorem gOf_some {a : AV} {c : Option Bool} (h : gOf a = some c) : (∃ b, c = some b ∧ a = .val (.bool b)) ∨ c = none ∧ a = skipA := by
  unfold gOf at h
  split at h
  · rename_i b
    simp only [Option.some.injEq] at h
    exact .inl ⟨b, h.symm, rfl⟩
  · simp only [Option.some.injEq] at h
    exact .inr ⟨h.symm, rfl⟩
  · cases h
theorem yielded_of {S : Nat → Prop} {w0 w : World} {A : Nat → Prop} {s : St} {a : Act} {ops : List Oper} {j : Nat} {x : Operand} {c : Option Bool} (h : InvA S w0 A s a w) (hd : dstOf ops j = some x) (hx : gOf (s.ev x) = some c) : yielded ops.toArray a.tmps j = c := by
  obtain ⟨h1, h2, h3, G, η, hG, hrel, hm, h4⟩ := h
  have hr := ev_rep hrel x
  unfold dstOf at hd
  rw [nth_eq] at hd
  split at hd
  · rename_i o ho
    split at hd
    · rename_i d hdst
      simp only [Option.some.injEq] at hd
      subst hd
      rcases gOf_some hx with ⟨b, rfl, e⟩ | ⟨rfl, e⟩
      · rw [e] at hr
        have hr' : a.tmps.getD d undef = .bool b := hr
        have : a.tmps[d]? = some (.bool b) := by
          rw [Array.getD_eq_getD_getElem?] at hr'
          cases hq : a.tmps[d]? with
          | none => rw [hq] at hr'; simp [undef] at hr'
          | some v => rw [hq] at hr'; simpa using hr'
        unfold yielded
        simp [ho, hdst, this]
      · rw [e] at hr
        have hr' : a.tmps.getD d undef = .tuple #[] := hr
        rw [Array.getD_eq_getD_getElem?] at hr'
        unfold yielded
        cases hq : a.tmps[d]? with
        | none => simp [ho, hdst, hq]
        | some v =>
          rw [hq] at hr'
          simp only [Option.getD_some] at hr'
          simp [ho, hdst, hq, hr']
    · simp at hd
  · simp at hd
theorem wpOp_sound {S : Nat → Prop} {w0 w : World} {A : Nat → Prop} {s : St} {a : Act} {ops : List Oper} {i : Nat} {o : Oper} {k : Nat} {e : Eff} {Q : Exit → Act → World → Prop} {K : Act → World → Prop} (hev : Ev w) (hI : InvA S w0 A s a w)
    (hk : ∀ id, k ≤ id → id < k + 4 → ¬ A id) (ho : ops[i]? = some o) (he : opG P Ev ops o k s e) (hK : ∀ a' w', InvA S w0 (tk A k) (app o.dst e s) a' w' → K a' w') : wpOp P ops.toArray Q i K a w := by
  unfold wpOp
  have ho' : ops.toArray[i]? = some o := by simpa using ho
  rw [ho']
  dsimp only
  unfold opG at he
  split at he
  · rename_i hg
    have : Region.wanted o (yielded ops.toArray a.tmps) = true := by simp [Region.wanted, hg]
    rw [if_pos this]
    exact .inl (op_sound hev hI hk he hK)
  · rename_i j want hg
    obtain ⟨x, c, hd, hx, he⟩ := he
    have hy := yielded_of hI hd hx
    have hw : Region.wanted o (yielded ops.toArray a.tmps) = (c == some want) := by
      simp only [Region.wanted, hg, hy]
    rw [hw]
    split at he
    · rename_i hb
      rw [if_pos hb]
      exact .inl (op_sound hev hI hk he hK)
    · rename_i hb
      rw [if_neg hb]
      subst he
      exact hK _ _ ((inv_skip hI).mono fun id h => .inl h)
def Chain (P : Program) (Ev : World → Prop) (ops : List Oper) : List Oper → List Eff → Nat → St → Prop
  | [], [], _, _ => True
  | o :: l, e :: es, k, s => opG P Ev ops o k s e ∧ Chain P Ev ops l es (k + 4) (app o.dst e s)
  | _, _, _, _ => False
def stX (X : Nat → Bool) : Nat → St → List Oper → List Eff → St
  | i, s, o :: l, e :: es => stX X (i + 1) (if X i then app o.dst e s else s) l es
  | _, s, _, _ => s
def stAll (s : St) (l : List Oper) (es : List Eff) : St := stX (fun _ => true) 0 s l es
def states : St → List Oper → List Eff → List St
  | s, o :: l, e :: es => s :: states (app o.dst e s) l es
  | _, _, _ => []
theorem stX_all (s : St) : ∀ (i j : Nat) (l : List Oper) (es : List Eff) (s : St), stX (fun _ => true) i s l es = stX (fun _ => true) j s l es
  | i, j, [], _, s => by simp [stX]
  | i, j, _ :: _, [], s => by simp [stX]
  | i, j, o :: l, e :: es, s => by simpa [stX] using stX_all s (i + 1) (j + 1) l es _
theorem run_ex {ops : List Oper} {K : Option (List St) → St → Prop} : ∀ (l : List Oper) (k : Nat) (lg : Option (List St)) (s : St), run P Ev ops l k lg s K →
    ∃ es : List Eff, es.length = l.length ∧ Chain P Ev ops l es k s ∧ K (lg.map fun x => (states s l es).reverse ++ x) { stAll s l es with next := k + 4 * l.length }
  | [], k, lg, s, h => ⟨[], rfl, trivial, by simpa [stAll, stX, states, run] using h⟩
  | o :: l, k, lg, s, h => by
    have step : ∀ e, opG P Ev ops o k s e → run P Ev ops l (k + 4) (lg.map (s :: ·)) (app o.dst e s) K → ∃ es : List Eff, es.length = (o :: l).length ∧ Chain P Ev ops (o :: l) es k s ∧ K (lg.map fun x => (states s (o :: l) es).reverse ++ x) { stAll s (o :: l) es with next := k + 4 * (o :: l).length } := by
      intro e he hr
      obtain ⟨es, h1, h2, h3⟩ := run_ex l _ _ _ hr
      refine ⟨e :: es, by simp [h1], ⟨he, h2⟩, ?_⟩
      have e1 : stAll s (o :: l) (e :: es) = stAll (app o.dst e s) l es := by
        simp only [stAll, stX, if_true]
        exact stX_all s _ _ _ _ _
      have e2 : k + 4 * (o :: l).length = k + 4 + 4 * l.length := by simp; omega
      rw [e1, e2]
      cases lg with
      | none => exact h3
      | some x => simpa [states] using h3
    unfold run at h
    split at h
    · rename_i hg
      obtain ⟨e, he, hr⟩ := opK_E h
      exact step e (by unfold opG; rw [hg]; exact he) hr
    · rename_i j want hg
      unfold gdK at h
      split at h
      · rename_i x hd
        split at h
        · rename_i b hx
          unfold br at h
          cases hb : b == want with
          | true =>
            rw [hb, if_pos rfl] at h
            obtain ⟨e, he, hr⟩ := opK_E h
            refine step e ?_ hr
            unfold opG
            rw [hg]
            exact ⟨x, some b, hd, hx, by rw [if_pos (by simpa using hb)]; exact he⟩
          | false =>
            rw [hb, if_neg (by simp)] at h
            refine step (.st skipA .none) ?_ h
            unfold opG
            rw [hg]
            exact ⟨x, some b, hd, hx, by rw [if_neg (by simpa using hb)]⟩
        · rename_i hx
          refine step (.st skipA .none) ?_ h
          unfold opG
          rw [hg]
          exact ⟨x, none, hd, hx, by rw [if_neg (by simp)]⟩
        · exact h.elim
      · exact h.elim
theorem chain_ops {S : Nat → Prop} {w0 : World} (hE : Stable Ev) (h0 : Ev w0) {ops : List Oper} {Q : Exit → Act → World → Prop} : ∀ (l : List Oper) (es : List Eff) (i k : Nat) (s : St) (a : Act) (w : World), (∀ j o, l[j]? = some o → ops[i + j]? = some o) → Chain P Ev ops l es k s →
    InvA S w0 (· < k) s a w → (∀ a' w', InvA S w0 (· < k + 4 * l.length) (stAll s l es) a' w' → Q .normal a' w') → wpOps P ops.toArray Q (List.range' i l.length) a w
  | [], es, i, k, s, a, w, _, hc, hI, hQ => by
    refine hQ a w ?_
    cases es with
    | nil => simpa [stAll, stX] using hI
    | cons _ _ => exact hc.elim
  | o :: l, [], i, k, s, a, w, _, hc, hI, hQ => hc.elim
  | o :: l, e :: es, i, k, s, a, w, hl, hc, hI, hQ => by
    obtain ⟨he, hc⟩ := hc
    simp only [List.length_cons, List.range'_succ, wpOps_cons]
    refine wpOp_sound (hI.ev hE h0) hI (fun id h1 h2 => by omega) (by simpa using hl 0 o rfl) he fun a' w' hI' => ?_
    refine chain_ops hE h0 l es (i + 1) (k + 4) _ a' w' (fun j o hj => by have := hl (j + 1) o (by simpa using hj); rwa [show i + 1 + j = i + (j + 1) by omega]) hc (hI'.mono fun id h => ?_) fun a'' w'' hI'' => hQ a'' w'' ?_
    · rcases h with h | h <;> omega
    · have e1 : stAll s (o :: l) (e :: es) = stAll (app o.dst e s) l es := by
        simp only [stAll, stX, if_true]
        exact stX_all s _ _ _ _ _
      rw [e1]
      exact hI''.mono fun id h => by simp; omega
theorem region_text {S : Nat → Prop} {w0 w : World} (hE : Stable Ev) (h0 : Ev w0) {l : List Oper} {id : Nat} {s : St} {a : Act} {lg : Option (List St)} {K : Option (List St) → St → Prop} {Q : Exit → Act → World → Prop} (h : run P Ev l l s.next lg s K) (hI : Inv S w0 s a w)
    (hK : ∀ lg s' a' w', K lg s' → Inv S w0 s' a' w' → Q .normal a' w') : (Code.region id l.toArray false).wp P Q a w := by
  obtain ⟨es, h1, h2, h3⟩ := run_ex l _ _ _ h
  refine wp_region ?_
  have := chain_ops (Q := Q) hE h0 l es 0 s.next s a w (fun j o hj => by simpa using hj) h2 (inv_iff.1 hI) fun a' w' hI' => hK _ _ a' w' h3 (inv_iff.2 hI')
  rw [List.size_toArray, List.range_eq_range']
  exact this
end
end E
end
section
namespace E
section
variable {P : Program} {Ev : World → Prop}
def effH : Eff → Nat → Option (Option Blk)
  | .st _ .none, _ => none
  | .st _ (.set i b), id => if id = i then some (some b) else none
  | .st _ (.move o i b), id => if id = i then some (some b) else if id = o then some none else none
  | .st _ (.del i), id => if id = i then some none else none
  | .cl _ nb, id => match look id nb with
    | some b => some (some b)
    | none => none
def effR : Eff → AV
  | .st r _ => r
  | .cl r _ => r
theorem app_T {dst : Option Tmp} {e : Eff} {s : St} {t : Nat} : look t (app dst e s).tmps = if dst = some t ∧ t < s.n then some (effR e) else look t s.tmps := by
  cases e with
  | st r u => show look t ((s.put dst r).upd u).tmps = _; rw [(upd_heap (s := s)).2.1]; exact look_put
  | cl r nb => show look t ((s.put dst r).more nb).tmps = _; rw [(more_heap (s := s)).2.1]; exact look_put
theorem app_H {dst : Option Tmp} {e : Eff} {s : St} {id : Nat} : look id (app dst e s).heap = match effH e id with | some x => x | none => look id s.heap := by
  cases e with
  | st r u =>
    show look id ((s.put dst r).upd u).heap = _
    rw [(upd_heap (s := s)).1]
    cases u with
    | none => rfl
    | set i b =>
      simp only [Upd.on, effH, look_hset]
      split <;> rfl
    | move o i b =>
      simp only [Upd.on, effH, look_hset, look_hdel]
      split
      · rfl
      · split <;> rfl
    | del i =>
      simp only [Upd.on, effH, look_hdel]
      split <;> rfl
  | cl r nb =>
    show look id ((s.put dst r).more nb).heap = _
    rw [(more_heap (s := s)).1, look_append]
    simp only [effH]
    cases look id nb <;> rfl
theorem app_rest {dst : Option Tmp} {e : Eff} {s : St} : (app dst e s).n = s.n ∧ (app dst e s).next = s.next := by
  cases e with
  | st r u => exact ⟨(upd_heap (s := s)).2.2.1, (upd_heap (s := s)).2.2.2⟩
  | cl r nb => exact ⟨(more_heap (s := s)).2.2.1, (more_heap (s := s)).2.2.2⟩
def Eqv (s s' : St) : Prop := s.n = s'.n ∧ s.next = s'.next ∧ (∀ t, look t s.tmps = look t s'.tmps) ∧ ∀ id, look id s.heap = look id s'.heap
theorem Eqv.refl (s : St) : Eqv s s := ⟨rfl, rfl, fun _ => rfl, fun _ => rfl⟩
theorem Eqv.trans {a b c : St} (h : Eqv a b) (h' : Eqv b c) : Eqv a c := ⟨h.1.trans h'.1, h.2.1.trans h'.2.1, fun t => (h.2.2.1 t).trans (h'.2.2.1 t), fun t => (h.2.2.2 t).trans (h'.2.2.2 t)⟩
theorem Eqv.symm {a b : St} (h : Eqv a b) : Eqv b a := ⟨h.1.symm, h.2.1.symm, fun t => (h.2.2.1 t).symm, fun t => (h.2.2.2 t).symm⟩
theorem Eqv.app {s s' : St} (h : Eqv s s') (dst : Option Tmp) (e : Eff) : Eqv (app dst e s) (app dst e s') := by
  obtain ⟨h1, h2, h3, h4⟩ := h
  refine ⟨by rw [app_rest.1, app_rest.1, h1], by rw [app_rest.2, app_rest.2, h2], fun t => ?_, fun id => ?_⟩
  · rw [app_T, app_T, h1, h3]
  · rw [app_H, app_H, h4]
theorem Eqv.inv {S : Nat → Prop} {w0 w : World} {A : Nat → Prop} {s s' : St} {a : Act} (h : Eqv s s') (hI : InvA S w0 A s a w) : InvA S w0 A s' a w := by
  obtain ⟨e1, e2, e3, e4⟩ := h
  obtain ⟨h1, h2, h3, G, η, hG, hrel, hm, h4⟩ := hI
  refine ⟨h1, by rw [h2, e1], h3, G, η, hG, fun t x hx => hrel t x (by rw [e3]; exact hx), ⟨fun id b hb => hm.rep id b (by rw [e4]; exact hb), fun id id' b b' v v' g hb hb' => hm.inj id id' b b' v v' g (by rw [e4]; exact hb) (by rw [e4]; exact hb')⟩, h4⟩
theorem stX_congr {X : Nat → Bool} : ∀ (l : List Oper) (es : List Eff) (i : Nat) {s s' : St}, Eqv s s' → Eqv (stX X i s l es) (stX X i s' l es)
  | [], _, _, _, _, h => by simpa [stX] using h
  | _ :: _, [], _, _, _, h => by simpa [stX] using h
  | o :: l, e :: es, i, s, s', h => by
    simp only [stX]
    refine stX_congr l es (i + 1) ?_
    split
    · exact h.app _ _
    · exact h
theorem app_comm {s : St} {d d' : Option Tmp} {e e' : Eff} (hd : ∀ t, d = some t → d' ≠ some t) (he : ∀ id, effH e id ≠ none → effH e' id = none) : Eqv (app d e (app d' e' s)) (app d' e' (app d e s)) := by
  refine ⟨by rw [app_rest.1, app_rest.1, app_rest.1, app_rest.1], by rw [app_rest.2, app_rest.2, app_rest.2, app_rest.2], fun t => ?_, fun id => ?_⟩
  · rw [app_T, app_T, app_T, app_T, app_rest.1, app_rest.1]
    by_cases h1 : d = some t
    · have h2 := hd t h1
      simp [h1, h2]
    · simp [h1]
  · rw [app_H, app_H, app_H, app_H]
    cases h1 : effH e id with
    | none => rfl
    | some x =>
      have := he id (by rw [h1]; simp)
      simp [this]
theorem stX_push {X : Nat → Bool} {d : Option Tmp} {e : Eff} : ∀ (l : List Oper) (es : List Eff) (i : Nat) (s : St), (∀ j o f, l[j]? = some o → es[j]? = some f → X (i + j) = true → (∀ t, d = some t → o.dst ≠ some t) ∧ ∀ id, effH e id ≠ none → effH f id = none) →
    Eqv (stX X i (app d e s) l es) (app d e (stX X i s l es))
  | [], _, _, s, _ => by simpa [stX] using Eqv.refl _
  | _ :: _, [], _, s, _ => by simpa [stX] using Eqv.refl _
  | o :: l, f :: es, i, s, h => by
    simp only [stX]
    have ih := fun s => stX_push (X := X) (d := d) (e := e) l es (i + 1) s fun j o f h1 h2 h3 => h (j + 1) o f (by simpa using h1) (by simpa using h2) (by rwa [show i + (j + 1) = i + 1 + j by omega])
    cases hX : X i with
    | false => simpa using ih s
    | true =>
      simp only [if_true]
      have h0 := h 0 o f rfl rfl (by simpa using hX)
      exact (stX_congr l es (i + 1) (app_comm h0.1 h0.2).symm).trans (ih _)
theorem stX_agree {X Y : Nat → Bool} : ∀ (l : List Oper) (es : List Eff) (i : Nat) (s : St), (∀ j, j < l.length → X (i + j) = Y (i + j)) → stX X i s l es = stX Y i s l es
  | [], _, _, s, _ => by simp [stX]
  | _ :: _, [], _, s, _ => by simp [stX]
  | o :: l, f :: es, i, s, h => by
    simp only [stX]
    have h0 := h 0 (by simp)
    simp only [Nat.add_zero] at h0
    rw [h0]
    exact stX_agree l es (i + 1) _ fun j hj => by have := h (j + 1) (by simp; omega); rwa [show i + 1 + j = i + (j + 1) by omega]
theorem stX_insert {X : Nat → Bool} {m : Nat} : ∀ (l : List Oper) (es : List Eff) (i : Nat) (s : St) (o : Oper) (e : Eff), l[m]? = some o → es[m]? = some e → X (i + m) = false →
    (∀ j o' f, m < j → l[j]? = some o' → es[j]? = some f → X (i + j) = true → (∀ t, o.dst = some t → o'.dst ≠ some t) ∧ ∀ id, effH e id ≠ none → effH f id = none) →
    Eqv (stX (fun j => X j || j == i + m) i s l es) (app o.dst e (stX X i s l es)) := by
  induction m with
  | zero =>
    intro l es i s o e ho he hX h
    match l, es, ho, he with
    | o' :: l, e' :: es, ho, he =>
      simp only [List.getElem?_cons_zero, Option.some.injEq] at ho he
      subst ho he
      simp only [Nat.add_zero] at hX
      simp only [stX, hX, Nat.add_zero, beq_self_eq_true, Bool.false_or, if_true, Bool.false_eq_true, if_false]
      rw [stX_agree (X := fun j => X j || j == i) (Y := X) l es (i + 1) _ (fun j hj => by
        have : (i + 1 + j == i) = false := by simp; omega
        simp [this])]
      exact stX_push l es (i + 1) s fun j o' f h1 h2 h3 => h (j + 1) o' f (by omega) (by simpa using h1) (by simpa using h2) (by rwa [show i + (j + 1) = i + 1 + j by omega])
  | succ m ih =>
    intro l es i s o e ho he hX h
    match l, es, ho, he with
    | o' :: l, e' :: es, ho, he =>
      simp only [List.getElem?_cons_succ] at ho he
      have hne : (i == i + (m + 1)) = false := by simp
      simp only [stX, hne, Bool.or_false]
      have := ih l es (i + 1) (if X i = true then app o'.dst e' s else s) o e ho he (by rwa [show i + 1 + m = i + (m + 1) by omega]) fun j o' f h1 h2 h3 h4 => h (j + 1) o' f (by omega) (by simpa using h2) (by simpa using h3) (by rwa [show i + (j + 1) = i + 1 + j by omega])
      rw [show i + (m + 1) = i + 1 + m by omega]
      exact this
theorem stX_slot {X Y : Nat → Bool} {t : Nat} : ∀ (l : List Oper) (es : List Eff) (i : Nat) (s s' : St), s.n = s'.n → look t s.tmps = look t s'.tmps → (∀ j o, l[j]? = some o → X (i + j) ≠ Y (i + j) → o.dst ≠ some t) → look t (stX X i s l es).tmps = look t (stX Y i s' l es).tmps
  | [], _, _, s, s', _, h, _ => by simpa [stX] using h
  | _ :: _, [], _, s, s', _, h, _ => by simpa [stX] using h
  | o :: l, f :: es, i, s, s', hn, h, hd => by
    simp only [stX]
    have h0 := hd 0 o rfl
    simp only [Nat.add_zero] at h0
    refine stX_slot l es (i + 1) _ _ ?_ ?_ fun j o h1 h2 => hd (j + 1) o (by simpa using h1) (by rwa [show i + (j + 1) = i + 1 + j by omega])
    · cases X i <;> cases Y i <;> simp [app_rest.1, hn]
    · cases hX : X i <;> cases hY : Y i
      · simpa using h
      · have := h0 (by rw [hX, hY]; simp)
        simp only [if_true, Bool.false_eq_true, if_false]
        rw [app_T, if_neg (fun e => this e.1)]
        exact h
      · have := h0 (by rw [hX, hY]; simp)
        simp only [if_true, Bool.false_eq_true, if_false]
        rw [app_T, if_neg (fun e => this e.1)]
        exact h
      · simp only [if_true]
        rw [app_T, app_T, hn, h]
theorem stX_blk {X Y : Nat → Bool} {id : Nat} : ∀ (l : List Oper) (es : List Eff) (i : Nat) (s s' : St), look id s.heap = look id s'.heap → (∀ j f, es[j]? = some f → j < l.length → X (i + j) ≠ Y (i + j) → effH f id = none) → look id (stX X i s l es).heap = look id (stX Y i s' l es).heap
  | [], _, _, s, s', h, _ => by simpa [stX] using h
  | _ :: _, [], _, s, s', h, _ => by simpa [stX] using h
  | o :: l, f :: es, i, s, s', h, hd => by
    simp only [stX]
    have h0 := hd 0 f rfl (by simp)
    simp only [Nat.add_zero] at h0
    refine stX_blk l es (i + 1) _ _ ?_ fun j f h1 h2 h3 => hd (j + 1) f (by simpa using h1) (by simp; omega) (by rwa [show i + (j + 1) = i + 1 + j by omega])
    cases hX : X i <;> cases hY : Y i
    · simpa using h
    · have := h0 (by rw [hX, hY]; simp)
      simp only [if_true, Bool.false_eq_true, if_false]
      rw [app_H, this]
      exact h
    · have := h0 (by rw [hX, hY]; simp)
      simp only [if_true, Bool.false_eq_true, if_false]
      rw [app_H, this]
      exact h
    · simp only [if_true]
      rw [app_H, app_H, h]
theorem stX_rest {X : Nat → Bool} : ∀ (l : List Oper) (es : List Eff) (i : Nat) (s : St), (stX X i s l es).n = s.n ∧ (stX X i s l es).next = s.next
  | [], _, _, s => by simp [stX]
  | _ :: _, [], _, s => by simp [stX]
  | o :: l, f :: es, i, s => by
    simp only [stX]
    have := stX_rest (X := X) l es (i + 1) (if X i = true then app o.dst f s else s)
    rw [this.1, this.2]
    split
    · exact app_rest
    · exact ⟨rfl, rfl⟩
theorem states_at : ∀ (l : List Oper) (es : List Eff) (s : St) (m : Nat) (o : Oper) (e : Eff), l[m]? = some o → es[m]? = some e → (states s l es)[m]? = some (stX (fun j => decide (j < m)) 0 s l es)
  | [], es, s, m, o, e, ho, _ => by simp at ho
  | _ :: _, [], s, m, o, e, _, he => by simp at he
  | o' :: l, e' :: es, s, 0, o, e, ho, he => by
    simp only [states, List.getElem?_cons_zero, Option.some.injEq, stX, Nat.lt_irrefl, decide_false, Bool.false_eq_true, if_false]
    have : ∀ (l : List Oper) (es : List Eff) (i : Nat), 0 < i → stX (fun j => decide (j < 0)) i s l es = s := by
      intro l
      induction l with
      | nil => intro es i _; simp [stX]
      | cons o l ih =>
        intro es i hi
        cases es with
        | nil => simp [stX]
        | cons e es => simpa [stX] using ih es (i + 1) (by omega)
    exact (this l es 1 (by omega)).symm
  | o' :: l, e' :: es, s, m + 1, o, e, ho, he => by
    simp only [states, List.getElem?_cons_succ]
    rw [states_at l es (app o'.dst e' s) m o e (by simpa using ho) (by simpa using he)]
    simp only [stX, Nat.zero_lt_succ, decide_true, if_true, Nat.zero_add]
    congr 1
    have : ∀ (l : List Oper) (es : List Eff) (i : Nat) (s : St), stX (fun j => decide (j < m)) i s l es = stX (fun j => decide (j < m + 1)) (i + 1) s l es := by
      intro l
      induction l with
      | nil => intro es i s; simp [stX]
      | cons o l ih =>
        intro es i s
        cases es with
        | nil => simp [stX]
        | cons e es =>
          simp only [stX]
          rw [ih es (i + 1)]
          by_cases hlt : i < m
          · rw [if_pos (by simpa using hlt), if_pos (by simpa using hlt)]
          · rw [if_neg (by simpa using hlt), if_neg (by simpa using hlt)]
    exact this l es 0 _
theorem chain_at {ops : List Oper} : ∀ (l : List Oper) (es : List Eff) (k : Nat) (s : St) (m : Nat) (o : Oper) (e : Eff), Chain P Ev ops l es k s → l[m]? = some o → es[m]? = some e → opG P Ev ops o (k + 4 * m) (stX (fun j => decide (j < m)) 0 s l es) e
  | [], es, k, s, m, o, e, _, ho, _ => by simp at ho
  | _ :: _, [], k, s, m, o, e, h, _, _ => h.elim
  | o' :: l, e' :: es, k, s, m, o, e, h, ho, he => by
    have hst := states_at (o' :: l) (e' :: es) s m o e ho he
    cases m with
    | zero =>
      simp only [states, List.getElem?_cons_zero, Option.some.injEq] at hst ho he
      subst ho he
      rw [← hst]
      exact h.1
    | succ m =>
      have ih := chain_at l es (k + 4) (app o'.dst e' s) m o e h.2 (by simpa using ho) (by simpa using he)
      have hst2 := states_at l es (app o'.dst e' s) m o e (by simpa using ho) (by simpa using he)
      simp only [states, List.getElem?_cons_succ] at hst
      rw [hst2] at hst
      simp only [Option.some.injEq] at hst
      rw [← hst, show k + 4 * (m + 1) = k + 4 + 4 * m by omega]
      exact ih
end
end E
end
section
namespace E
section
variable {P : Program} {Ev : World → Prop}
mutual
theorem soft_frame {hp hp' : Hp} : ∀ (a : AV), (∀ id ∈ idsOf a, look id hp' = look id hp) → soft hp' a = soft hp a
  | .val _, _ => rfl
  | .nil, _ => rfl
  | .lst _, _ => rfl
  | .elm _ _, _ => rfl
  | .ref _ _, _ => rfl
  | .rel _ _ _ _, _ => rfl
  | .own id, h => by
    unfold soft
    rw [h id (by simp [idsOf])]
  | .agg cs, h => by simp only [soft]; rw [softL_frame cs h]
  | .tup cs, h => by simp only [soft]; rw [softL_frame cs h]
  | .fn f a b, h => by
    simp only [soft]
    rw [softL_frame a fun id hi => h id (by simp [idsOf, hi]), softL_frame b fun id hi => h id (by simp [idsOf, hi])]
  | .top, _ => rfl
theorem softL_frame {hp hp' : Hp} : ∀ (az : List AV), (∀ id ∈ idsL az, look id hp' = look id hp) → softL hp' az = softL hp az
  | [], _ => rfl
  | a :: az, h => by
    simp only [softL]
    rw [soft_frame a fun id hi => h id (by simp [idsL, hi]), softL_frame az fun id hi => h id (by simp [idsL, hi])]
end
theorem rowsOf_frame {hp hp' : Hp} {a : AV} (h : ∀ id ∈ idsOf a, look id hp' = look id hp) : rowsOf hp' a = rowsOf hp a := by
  cases a with
  | own id => have e := h id (by simp [idsOf]); simp only [rowsOf, e]
  | val v => cases v with
    | slice a n c => cases n <;> rfl
    | _ => rfl
  | _ => rfl
theorem aLoad_frame {hp hp' : Hp} {t : Option TI} {a : AV} (h : ∀ id ∈ idsOf a, look id hp' = look id hp) : aLoad hp' t a = aLoad hp t a := by
  cases a with
  | ref id off => have e := h id (by simp [idsOf]); simp only [aLoad, e]
  | rel id es i off => have e := h id (by simp [idsOf]); simp only [aLoad, e]
  | _ => rfl
theorem aConvX_frame {hp hp' : Hp} {e t v : Option TI} {a : AV} (h : ∀ id ∈ idsOf a, look id hp' = look id hp) : aConvX hp' e t v a = aConvX hp e t v a := by
  cases a with
  | own id => simp only [aConvX, aConvB, rowsOf_frame h]
  | lst rows => simp only [aConvX, aConvB, rowsOf_frame h]
  | _ => rfl
theorem aStore_frame {hp hp' : Hp} {t : Option TI} {a x : AV} (h : ∀ id ∈ idsOf a, look id hp' = look id hp) : aStore hp' t a x = aStore hp t a x := by
  unfold aStore
  cases a with
  | ref id off => have e := h id (by simp [idsOf]); simp only [e]
  | rel id es i off => have e := h id (by simp [idsOf]); simp only [e]
  | _ => rfl
theorem aLen_frame {hp hp' : Hp} {t : Option TI} {a : AV} (h : ∀ id ∈ idsOf a, look id hp' = look id hp) : aLen hp' t a = aLen hp t a := by
  cases a with
  | own id => have e := h id (by simp [idsOf]); simp only [aLen, e]
  | val v => cases v <;> rfl
  | _ => rfl
theorem aIndexAddr_frame {hp hp' : Hp} {t : Option TI} {a i : AV} (h : ∀ id ∈ idsOf a, look id hp' = look id hp) : aIndexAddr hp' t a i = aIndexAddr hp t a i := by
  unfold aIndexAddr
  cases a with
  | own id => have e := h id (by simp [idsOf]); simp only [e]
  | _ => rfl
theorem aAppend_frame {hp hp' : Hp} {k : Nat} {t : Option TI} {x y : AV} (hx : ∀ id ∈ idsOf x, look id hp' = look id hp) (hy : ∀ id ∈ idsOf y, look id hp' = look id hp) : aAppend hp' k t x y = aAppend hp k t x y := by
  unfold aAppend
  rw [rowsOf_frame hy]
  cases x with
  | own id => have e := hx id (by simp [idsOf]); simp only [e]
  | _ => rfl
theorem aBuiltin_frame {hp hp' : Hp} {k : Nat} {b : Builtin} {ts : List TypeId} {vs : List AV} (h : ∀ id ∈ idsL vs, look id hp' = look id hp) : aBuiltin P hp' k b ts vs = aBuiltin P hp k b ts vs := by
  rcases vs with _ | ⟨x, _ | ⟨y, _ | ⟨z, l⟩⟩⟩
  · cases b <;> rcases ts with _ | ⟨t, _ | ⟨t', _ | ⟨t'', l⟩⟩⟩ <;> rfl
  · have e := fun t => aLen_frame (hp := hp) (hp' := hp') (t := t) (a := x) fun id hi => h id (by simp [idsL, hi])
    cases b <;> rcases ts with _ | ⟨t, _ | ⟨t', _ | ⟨t'', l⟩⟩⟩ <;> first | rfl | exact e _
  · have e := fun t => aAppend_frame (k := k) (hp := hp) (hp' := hp') (t := t) (x := x) (y := y) (fun id hi => h id (by simp [idsL, hi])) (fun id hi => h id (by simp [idsL, hi]))
    cases b <;> rcases ts with _ | ⟨t, _ | ⟨t', _ | ⟨t'', l⟩⟩⟩ <;> first | rfl | (simp only [aBuiltin, e]; done)
  · cases b <;> rcases ts with _ | ⟨t, _ | ⟨t', _ | ⟨t'', l⟩⟩⟩ <;> rfl
set_option maxHeartbeats 2000000 in
theorem astep_frame {op : Op} {k : Nat} {vs : List AV} {hp hp' : Hp} (h : ∀ id ∈ idsL vs, look id hp' = look id hp) : astep P op k vs hp' = astep P op k vs hp := by
  have hc : ∀ x l, vs = x :: l → ∀ id ∈ idsOf x, look id hp' = look id hp := fun x l e id hi => h id (by rw [e]; simp [idsL, hi])
  cases op
  case load t a =>
    rcases vs with _ | ⟨x, _ | ⟨y, l⟩⟩
    · rfl
    · exact aLoad_frame (hc x [] rfl)
    · rfl
  case convert t v a =>
    rcases vs with _ | ⟨x, _ | ⟨y, l⟩⟩
    · rfl
    · exact aConvX_frame (hc x [] rfl)
    · rfl
  case store t a x =>
    rcases vs with _ | ⟨x, _ | ⟨y, _ | ⟨z, l⟩⟩⟩
    · rfl
    · rfl
    · exact aStore_frame (hc x [y] rfl)
    · rfl
  case indexAddr t a x =>
    rcases vs with _ | ⟨x, _ | ⟨y, _ | ⟨z, l⟩⟩⟩
    · rfl
    · rfl
    · exact aIndexAddr_frame (hc x [y] rfl)
    · rfl
  case call c =>
    simp only [astep]
    split
    · exact aBuiltin_frame h
    · rfl
  all_goals rcases vs with _ | ⟨x, _ | ⟨y, _ | ⟨z, _ | ⟨q, l⟩⟩⟩⟩
  all_goals first | rfl | (cases x <;> first | rfl | (rename_i v; cases v <;> first | rfl | (cases y <;> first | rfl | (cases z <;> rfl)))) | (rename_i fn _ _; cases fn <;> rfl)
theorem opnds_mem {op : Op} {t : Tmp} (h : Operand.tmp t ∈ opnds op) : Operand.tmp t ∈ op.operands.toList := by
  cases op <;> simp only [opnds, Op.operands] at h ⊢ <;> first | (simp at h; done) | simpa using h | skip
  case call c =>
    obtain ⟨cal, az, ts⟩ := c
    cases cal <;> simpa [Call.operands] using h
theorem looks_of {ops : Array Oper} {o : Oper} {t : Tmp} (h : Operand.tmp t ∈ opnds o.op) : t ∈ o.looksAt ops := by
  unfold Oper.looksAt
  refine List.mem_append.2 (.inl ?_)
  exact List.mem_filterMap.2 ⟨_, opnds_mem h, rfl⟩
theorem ev_frame {s s' : St} {ops : Array Oper} {o : Oper} (h : ∀ t ∈ o.looksAt ops, look t s'.tmps = look t s.tmps) : (opnds o.op).map s'.ev = (opnds o.op).map s.ev := by
  apply List.map_congr_left
  intro x hx
  cases x with
  | tmp t =>
    unfold St.ev
    dsimp only
    rw [h t (looks_of hx)]
  | const _ => rfl
  | global _ => rfl
  | func _ => rfl
theorem opE_frame {o : Oper} {ops : Array Oper} {k : Nat} {s s' : St} {e : Eff} (hT : ∀ t ∈ o.looksAt ops, look t s'.tmps = look t s.tmps) (hH : ∀ id ∈ rdOf o s, look id s'.heap = look id s.heap) (h : opE P Ev o.op k s e) : opE P Ev o.op k s' e := by
  have hev := ev_frame hT
  cases e with
  | st r u =>
    rcases h with ⟨h1, h2, h3⟩ | h
    · refine .inl ⟨h1, h2, ?_⟩
      rw [hev, astep_frame (hp := s.heap) hH]
      exact h3
    · exact .inr h
  | cl r nb =>
    obtain ⟨f, az, ts, hop, g, fs, cs, args, r0, nb0, h1, h2, h3, h4⟩ := h
    have hl : s'.ev f :: az.toList.map s'.ev = s.ev f :: az.toList.map s.ev := by
      have := hev
      rw [hop] at this
      simpa [opnds] using this
    refine ⟨f, az, ts, hop, g, fs, cs, args, r0, nb0, ?_, h2, ?_, h4⟩
    · rw [hl, softL_frame (hp := s.heap) _ fun id hi => hH id (by
        unfold rdOf
        rw [hop]
        simpa [opnds] using hi)]
      exact h1
    · rw [hl]
      exact h3
theorem opG_frame {o : Oper} {ops : List Oper} {k : Nat} {s s' : St} {e : Eff} (hT : ∀ t ∈ o.looksAt ops.toArray, look t s'.tmps = look t s.tmps) (hH : ∀ id ∈ rdOf o s, look id s'.heap = look id s.heap) (h : opG P Ev ops o k s e) : opG P Ev ops o k s' e := by
  unfold opG at h ⊢
  split at h
  · exact opE_frame hT hH h
  · rename_i j want hg
    obtain ⟨x, b, hd, hx, h⟩ := h
    refine ⟨x, b, hd, ?_, ?_⟩
    · have hd' := hd
      unfold dstOf at hd
      rw [nth_eq] at hd
      split at hd
      · rename_i o' ho'
        split at hd
        · rename_i d hdst
          simp only [Option.some.injEq] at hd
          subst hd
          have : d ∈ o.looksAt ops.toArray := by
            unfold Oper.looksAt
            refine List.mem_append.2 (.inr ?_)
            simp [hg, ho', hdst]
          unfold St.ev at hx ⊢
          dsimp only at hx ⊢
          rw [hT d this]
          exact hx
        · simp at hd
      · simp at hd
    · split
      · rename_i hb
        rw [if_pos hb] at h
        exact opE_frame hT hH h
      · rename_i hb
        rw [if_neg hb] at h
        exact h
theorem aBin_u : ∀ {t : Option TI} {op : BinOp} {x y : AV} {r : AV} {u : Upd}, aBin t op x y = some (r, u) → u = .none := by
  intro t op x y r u h
  unfold aBin at h
  (repeat' (split at h)); all_goals (first | (simp at h; done) | (simp only [vI, vB, vS, pure1, Option.some.injEq, Prod.mk.injEq] at h; exact h.2.symm))
theorem aBinT_u {l : Option (List LK)} {t : Option TI} {op : BinOp} {x y r : AV} {u : Upd} (h : aBinT l t op x y = some (r, u)) : u = .none := by
  unfold aBinT at h
  split at h
  · unfold aEqA at h
    (repeat' (split at h)); all_goals (first | (simp at h; done) | (simp only [vB, pure1, Option.some.injEq, Prod.mk.injEq] at h; exact h.2.symm))
  · exact aBin_u h
theorem aUn_u : ∀ {op : UnOp} {x : AV} {r : AV} {u : Upd}, aUn op x = some (r, u) → u = .none := by
  intro op x r u h
  unfold aUn at h
  (repeat' (split at h)); all_goals (first | (simp at h; done) | (simp only [vI, vB, vS, pure1, Option.some.injEq, Prod.mk.injEq] at h; exact h.2.symm))
theorem aConv_u : ∀ {t v : Option TI} {x : AV} {r : AV} {u : Upd}, aConv t v x = some (r, u) → u = .none := by
  intro t v x r u h
  unfold aConv at h
  (repeat' (split at h)); all_goals (first | (simp at h; done) | (simp only [vI, vB, vS, pure1, Option.some.injEq, Prod.mk.injEq] at h; exact h.2.symm))
theorem aConvX_u : ∀ {hp : Hp} {e t v : Option TI} {x : AV} {r : AV} {u : Upd}, aConvX hp e t v x = some (r, u) → u = .none := by
  intro hp e t v x r u h
  unfold aConvX aConvB at h
  (repeat' (split at h)); all_goals (first | (simp at h; done) | exact aConv_u h | (simp only [vI, vB, vS, pure1, Option.some.injEq, Prod.mk.injEq] at h; exact h.2.symm))
theorem aLoad_u : ∀ {hp : Hp} {t : Option TI} {x : AV} {r : AV} {u : Upd}, aLoad hp t x = some (r, u) → u = .none := by
  intro hp t x r u h
  unfold aLoad at h
  (repeat' (split at h)); all_goals (first | (simp at h; done) | (simp only [vI, vB, vS, pure1, Option.some.injEq, Prod.mk.injEq] at h; exact h.2.symm))
theorem aBuild_u : ∀ {t : Option TI} {ps : List (Nat × AV)} {r : AV} {u : Upd}, aBuild t ps = some (r, u) → u = .none := by
  intro t ps r u h
  unfold aBuild at h
  (repeat' (split at h)); all_goals (first | (simp at h; done) | (simp only [vI, vB, vS, pure1, Option.some.injEq, Prod.mk.injEq] at h; exact h.2.symm))
theorem aFieldAddr_u : ∀ {t : Option TI} {f : Nat} {x : AV} {r : AV} {u : Upd}, aFieldAddr t f x = some (r, u) → u = .none := by
  intro t f x r u h
  unfold aFieldAddr at h
  (repeat' (split at h)); all_goals (first | (simp at h; done) | (simp only [vI, vB, vS, pure1, Option.some.injEq, Prod.mk.injEq] at h; exact h.2.symm))
theorem aField_u : ∀ {t : Option TI} {f : Nat} {x : AV} {r : AV} {u : Upd}, aField t f x = some (r, u) → u = .none := by
  intro t f x r u h
  unfold aField at h
  (repeat' (split at h)); all_goals (first | (simp at h; done) | (simp only [vI, vB, vS, pure1, Option.some.injEq, Prod.mk.injEq] at h; exact h.2.symm))
theorem aIndexAddr_u : ∀ {hp : Hp} {t : Option TI} {x y : AV} {r : AV} {u : Upd}, aIndexAddr hp t x y = some (r, u) → u = .none := by
  intro hp t x y r u h
  unfold aIndexAddr at h
  (repeat' (split at h)); all_goals (first | (simp at h; done) | (simp only [vI, vB, vS, pure1, Option.some.injEq, Prod.mk.injEq] at h; exact h.2.symm))
theorem aIndex_u : ∀ {t : Option TI} {x y : AV} {r : AV} {u : Upd}, aIndex t x y = some (r, u) → u = .none := by
  intro t x y r u h
  unfold aIndex at h
  (repeat' (split at h)); all_goals (first | (simp at h; done) | (simp only [vI, vB, vS, pure1, Option.some.injEq, Prod.mk.injEq] at h; exact h.2.symm))
theorem aSlice_u : ∀ {hp : Hp} {t : Option TI} {lo hi mx : Option Operand} {vs : List AV} {r : AV} {u : Upd}, aSlice hp t lo hi mx vs = some (r, u) → u = .none := by
  intro hp t lo hi mx vs r u h
  unfold aSlice at h
  (repeat' (split at h)); all_goals (first | (simp at h; done) | (simp only [vI, vB, vS, pure1, Option.some.injEq, Prod.mk.injEq] at h; exact h.2.symm))
set_option maxHeartbeats 4000000 in
theorem astep_upd {op : Op} {k : Nat} {vs : List AV} {hp : Hp} {r : AV} {u : Upd} (h : astep P op k vs hp = some (r, u)) :
    (u = .none) ∨ (∃ b, u = .set k b) ∨ (∃ j b, u = .set j b ∧ j ∈ idsW op vs) ∨ (∃ j b, u = .move j k b ∧ j ∈ idsW op vs) := by
  cases op
  case store t a x =>
    rcases vs with _ | ⟨x, _ | ⟨y, _ | ⟨z, l⟩⟩⟩
    · simp [astep] at h
    · simp [astep] at h
    · simp only [astep] at h
      unfold aStore at h
      repeat' (split at h)
      all_goals first | (simp at h; done) | skip
      all_goals
        simp only [Option.some.injEq, Prod.mk.injEq] at h
        obtain ⟨rfl, rfl⟩ := h
        exact .inr (.inr (.inl ⟨_, _, rfl, by simp [idsW, idsOf]⟩))
    · simp [astep] at h
  case call c =>
    obtain ⟨cal, az, ts⟩ := c
    cases cal <;> try (simp [astep] at h; done)
    rename_i b
    simp only [astep] at h
    unfold aBuiltin at h
    split at h
    · left
      unfold aLen at h
      repeat' (split at h)
      all_goals first | (simp at h; done) | (simp only [vI, pure1, Option.some.injEq, Prod.mk.injEq] at h; exact h.2.symm)
    · split at h
      · unfold aAppend at h
        repeat' (split at h)
        all_goals first | (simp at h; done) | skip
        · simp only [Option.some.injEq, Prod.mk.injEq] at h
          obtain ⟨rfl, rfl⟩ := h
          exact .inr (.inl ⟨_, rfl⟩)
        · simp only [Option.some.injEq, Prod.mk.injEq] at h
          obtain ⟨rfl, rfl⟩ := h
          exact .inr (.inr (.inr ⟨_, _, rfl, by simp [idsW, idsOf]⟩))
      · simp at h
    · left
      unfold mm at h
      repeat' (split at h)
      all_goals first | (simp at h; done) | (simp only [vI, pure1, Option.some.injEq, Prod.mk.injEq] at h; exact h.2.symm)
    · left
      unfold mm at h
      repeat' (split at h)
      all_goals first | (simp at h; done) | (simp only [vI, pure1, Option.some.injEq, Prod.mk.injEq] at h; exact h.2.symm)
    · simp at h
  case alloc t =>
    rcases vs with _ | ⟨x, l⟩
    · simp only [astep] at h
      split at h
      · simp only [Option.some.injEq, Prod.mk.injEq] at h
        obtain ⟨rfl, rfl⟩ := h
        exact .inr (.inl ⟨_, rfl⟩)
      · simp at h
    · simp [astep] at h
  case box t x =>
    rcases vs with _ | ⟨x, _ | ⟨y, l⟩⟩
    · simp [astep] at h
    · simp only [astep] at h
      split at h
      · simp only [Option.some.injEq, Prod.mk.injEq] at h
        obtain ⟨rfl, rfl⟩ := h
        exact .inr (.inl ⟨_, rfl⟩)
      · simp at h
    · simp [astep] at h
  case buildSlice t n ps =>
    simp only [astep] at h
    unfold aBuildSlice at h
    repeat' (split at h)
    all_goals first | (simp at h; done) | skip
    simp only [Option.some.injEq, Prod.mk.injEq] at h
    obtain ⟨rfl, rfl⟩ := h
    exact .inr (.inl ⟨_, rfl⟩)
  all_goals left
  all_goals rcases vs with _ | ⟨x, _ | ⟨y, _ | ⟨z, _ | ⟨q, l⟩⟩⟩⟩
  all_goals try (simp [astep] at h; done)
  all_goals try (simp only [astep] at h)
  all_goals first | exact aBinT_u h | exact aUn_u h | exact aConvX_u h | exact aLoad_u h | exact aBuild_u h | exact aFieldAddr_u h | exact aField_u h | exact aIndexAddr_u h | exact aIndex_u h | exact aSlice_u h | skip
  all_goals first | (simp only [pure1, Option.some.injEq, Prod.mk.injEq] at h; exact h.2.symm) | skip
  all_goals try ((repeat' (split at h)); all_goals (first | (simp at h; done) | (simp only [vI, vB, vS, pure1, Option.some.injEq, Prod.mk.injEq] at h; exact h.2.symm)))
  case pick =>
    unfold aPick at h
    (repeat' (split at h)); all_goals (first | (simp at h; done) | (simp only [pure1, Option.some.injEq, Prod.mk.injEq] at h; exact h.2.symm))
  case extract =>
    cases x <;> try (simp [astep] at h; done)
    simp only [astep] at h
    (repeat' (split at h)); all_goals (first | (simp at h; done) | (simp only [pure1, Option.some.injEq, Prod.mk.injEq] at h; exact h.2.symm))
  all_goals (rename Fn => fn; cases fn <;> first | (simp [astep] at h; done) | (simp only [astep, pure1, Option.some.injEq, Prod.mk.injEq] at h; exact h.2.symm))
theorem eff_dom {o : Oper} {ops : List Oper} {k : Nat} {s : St} {e : Eff} {i : Nat} (hk : k = s.next + 4 * i) (h : opG P Ev ops o k s e) : ∀ id, effH e id ≠ none → id ∈ wrOf o s i := by
  intro id hid
  have new : k ≤ id → id < k + 4 → id ∈ wrOf o s i := by
    intro h1 h2
    unfold wrOf
    refine List.mem_append.2 (.inl ?_)
    simp only [List.mem_cons, List.not_mem_nil, or_false]
    omega
  have hE : opE P Ev o.op k s e → id ∈ wrOf o s i := by
    intro h
    cases e with
    | cl r nb =>
      obtain ⟨f, az, ts, hop, g, fs, cs, args, r0, nb0, h1, h2, h3, h4, rfl, rfl⟩ := h
      simp only [effH] at hid
      split at hid
      · rename_i b hb
        obtain ⟨j, b', rfl, hl, _⟩ := look_adopt k nb0 id b hb
        have := look_lt (p := fun x => decide (x < 4)) nb0 j b' h4 hl
        simp only [decide_eq_true_eq] at this
        exact new (by omega) (by omega)
      · simp at hid
    | st r u =>
      rcases h with ⟨_, _, h⟩ | ⟨_, _, _, _, rfl⟩
      · have hw : ∀ j, j ∈ idsW o.op ((opnds o.op).map s.ev) → j = id → id ∈ wrOf o s i := by
          rintro j hj rfl
          unfold wrOf
          exact List.mem_append.2 (.inr hj)
        revert h
        generalize hvs : (opnds o.op).map s.ev = vs at hw
        intro h
        have hsets : (u = .none) ∨ (∃ b, u = .set k b) ∨ (∃ j b, u = .set j b ∧ j ∈ idsW o.op vs) ∨ (∃ j b, u = .move j k b ∧ j ∈ idsW o.op vs) := by
          exact astep_upd h
        rcases hsets with rfl | ⟨b, rfl⟩ | ⟨j, b, rfl, hj⟩ | ⟨j, b, rfl, hj⟩
        · simp [effH] at hid
        · simp only [effH] at hid
          split at hid
          · subst_vars; exact new (Nat.le_refl _) (by omega)
          · simp at hid
        · simp only [effH] at hid
          split at hid
          · exact hw j hj (Eq.symm ‹_›)
          · simp at hid
        · simp only [effH] at hid
          split at hid
          · subst_vars; exact new (Nat.le_refl _) (by omega)
          · split at hid
            · exact hw j hj (Eq.symm ‹_›)
            · simp at hid
      · simp [effH] at hid
  unfold opG at h
  split at h
  · exact hE h
  · obtain ⟨x, b, _, _, h⟩ := h
    split at h
    · exact hE h
    · subst h
      simp [effH] at hid
end
end E
end
section
namespace E
section
variable {P : Program} {Ev : World → Prop}
def unl (l : List Bool) : Nat := l.count false
theorem unl_set : ∀ (l : List Bool) (i : Nat), l[i]? = some false → unl (l.set i true) + 1 = unl l
  | [], i, h => by simp at h
  | b :: l, 0, h => by
    simp only [List.getElem?_cons_zero, Option.some.injEq] at h
    subst h
    simp [unl]
  | b :: l, i + 1, h => by
    have := unl_set l i (by simpa using h)
    simp only [List.set_cons_succ, unl, List.count_cons] at this ⊢
    omega
theorem unl_zero : ∀ (l : List Bool), unl l = 0 → ∀ i, i < l.length → l[i]? = some true
  | [], _, i, hi => by simp at hi
  | b :: l, h, 0, hi => by
    cases b with
    | true => rfl
    | false => simp [unl] at h
  | b :: l, h, i + 1, hi => by
    have : unl l = 0 := by simp only [unl, List.count_cons] at h ⊢; omega
    simpa using unl_zero l this i (by simpa using hi)
theorem anc_good {full : List Oper} {X : Nat → Bool} (hc : ∀ i o, full[i]? = some o → X i = true → ∀ j ∈ bindE o, X j = true) : ∀ (l : List Oper) (acc : List (List Nat)), (∀ j, full[acc.length + j]? = l[j]?) →
    (∀ i o, i < acc.length → full[i]? = some o → (∀ j ∈ bindE o, X j = true) → ∀ j ∈ acc.getD i [], X j = true) → ∀ i o, full[i]? = some o → (∀ j ∈ bindE o, X j = true) → ∀ j ∈ (ancGo acc l).getD i [], X j = true
  | [], acc, hl, hg, i, o, ho, hb, j, hj => by
    have : i < acc.length := by
      rcases Nat.lt_or_ge i acc.length with h | h
      · exact h
      · have := hl (i - acc.length)
        rw [show acc.length + (i - acc.length) = i by omega, ho] at this
        simp at this
    exact hg i o this ho hb j hj
  | q :: l, acc, hl, hg, i, o, ho, hb, j, hj => by
    refine anc_good hc l _ (fun j => ?_) ?_ i o ho hb j hj
    · have := hl (j + 1)
      simpa [Nat.add_assoc, Nat.add_comm 1 j] using this
    · intro i o hi ho hb j hj
      simp only [List.length_append, List.length_cons, List.length_nil] at hi
      by_cases hlt : i < acc.length
      · refine hg i o hlt ho hb j ?_
        simpa [List.getD, List.getElem?_append_left hlt] using hj
      · have hi' : i = acc.length := by omega
        subst hi'
        have h0 := hl 0
        simp only [Nat.add_zero, List.getElem?_cons_zero] at h0
        rw [h0] at ho
        simp only [Option.some.injEq] at ho
        subst ho
        simp only [List.getD, List.getElem?_append_right (Nat.le_refl _), Nat.sub_self, List.getElem?_cons_zero, Option.getD_some, List.mem_flatMap] at hj
        obtain ⟨m, hm, hj⟩ := hj
        have hXm := hb m hm
        rcases List.mem_cons.1 hj with rfl | hj
        · exact hXm
        · have hml : m < acc.length := by
            rcases Nat.lt_or_ge m acc.length with h | h
            · exact h
            · simp [List.getElem?_eq_none h] at hj
          have hfm : m < full.length := by
            have h1 : full[acc.length]? = some q := h0
            have := (List.getElem?_eq_some_iff.1 h1).1
            omega
          exact hg m full[m] hml (List.getElem?_eq_getElem hfm) (fun j hj => hc m full[m] (List.getElem?_eq_getElem hfm) hXm j hj) j hj
theorem anc_in {full : List Oper} {X : Nat → Bool} (hc : ∀ i o, full[i]? = some o → X i = true → ∀ j ∈ bindE o, X j = true) (i : Nat) (o : Oper) (ho : full[i]? = some o) (hb : ∀ j ∈ bindE o, X j = true) : ∀ j ∈ (ancGo [] full).getD i [], X j = true :=
  anc_good hc full [] (fun j => by simp) (fun i o h => by simp at h) i o ho hb
theorem disj_spec {a b : List Nat} (h : disj a b = true) : ∀ x ∈ a, x ∉ b := by
  intro x hx hb
  have := List.all_eq_true.1 h x hx
  simp [hb] at this
theorem ready_spec {ops : Array Oper} {listed : Array Bool} {i : Nat} : i ∈ Region.ready .any ops listed ↔ ∃ o, ops[i]? = some o ∧ listed.getD i true = false ∧ ∀ j ∈ bindE o, listed.getD j false = true := by
  unfold Region.ready
  simp only [List.mem_filter, List.mem_range, Bool.and_eq_true, Bool.not_eq_true']
  constructor
  · rintro ⟨hi, h1, h2⟩
    refine ⟨ops[i], Array.getElem?_eq_getElem hi, h1, fun j hj => ?_⟩
    simp only [Array.getElem?_eq_getElem hi, Option.map_some, Option.getD_some, Array.all_eq_true_iff_forall_mem] at h2
    unfold bindE at hj
    simp only [List.mem_map, List.mem_filter] at hj
    obtain ⟨e, ⟨he, hb⟩, rfl⟩ := hj
    have := h2 e (by simpa using he)
    simpa [hb] using this
  · rintro ⟨o, ho, h1, h2⟩
    have hi := (Array.getElem?_eq_some_iff.1 ho).1
    refine ⟨hi, h1, ?_⟩
    rw [ho]
    simp only [Option.map_some, Option.getD_some, Array.all_eq_true_iff_forall_mem]
    intro e he
    cases hb : Region.binds .any e with
    | false => rfl
    | true =>
      simp only [Bool.not_true, Bool.false_or]
      exact h2 e.on (by unfold bindE; simp only [List.mem_map, List.mem_filter]; exact ⟨e, ⟨by simpa using he, hb⟩, rfl⟩)
theorem InvA.drew {S : Nat → Prop} {w0 w : World} {A : Nat → Prop} {s : St} {a : Act} (h : InvA S w0 A s a w) : InvA S w0 A s a { w with drawn := w.drawn + 1 } := by
  obtain ⟨h1, h2, h3, G, η, hG, hrel, hm, h4⟩ := h
  have hUp : Up w { w with drawn := w.drawn + 1 } G G := fun b hb => ⟨hb, rfl⟩
  refine ⟨h1.drew, h2, h3, G, η, hG, fun t x hx => Rep.up hUp (fun _ _ h => h) _ _ (hrel t x hx), ⟨fun id b hb => ?_, fun id id' b b' v v' g => hm.inj id id' b b' v v' g⟩, h4⟩
  obtain ⟨v, k1, k2, k3⟩ := hm.rep id b hb
  exact ⟨v, k1, RepB.up hUp (fun _ _ h => h) (fun _ _ => rfl) k2, k3⟩
theorem okR_spec {l : List Oper} {es : List Eff} {s : St} (h : okR l.toArray (states s l es) = true) : ∀ i, i < l.length → ∃ oi si, l[i]? = some oi ∧ (states s l es)[i]? = some si ∧ (∀ j ∈ bindE oi, j < i) ∧
    ∀ j, j < i → j ∈ (ancGo [] l).getD i [] ∨ ∃ oj sj, l[j]? = some oj ∧ (states s l es)[j]? = some sj ∧ okPair l.toArray oi oj si sj i j = true := by
  intro i hi
  unfold okR at h
  simp only [Bool.and_eq_true, List.size_toArray] at h
  have h2 := List.all_eq_true.1 h.2 i (by simpa using hi)
  rw [nth_eq, nth_eq] at h2
  split at h2
  · rename_i oi si ho hs
    simp only [Bool.and_eq_true] at h2
    refine ⟨oi, si, ho, hs, fun j hj => by simpa using List.all_eq_true.1 h2.1 j hj, fun j hj => ?_⟩
    have h3 := List.all_eq_true.1 h2.2 j (by simpa using hj)
    simp only [Bool.or_eq_true] at h3
    rcases h3 with h3 | h3
    · left
      simpa using h3
    · right
      rw [nth_eq, nth_eq] at h3
      split at h3
      · exact ⟨_, _, ‹_›, ‹_›, h3⟩
      · simp at h3
  · simp at h2
def AX (s : St) (X : Nat → Bool) (n : Nat) : Nat → Prop := fun id => id < s.next ∨ ∃ i, i < n ∧ X i = true ∧ s.next + 4 * i ≤ id ∧ id < s.next + 4 * i + 4
set_option maxHeartbeats 1000000 in
theorem any_sound {S : Nat → Prop} {w0 : World} (hE : Stable Ev) (h0 : Ev w0) {l : List Oper} {es : List Eff} {s : St} {Q : Exit → Act → World → Prop} (hlen : es.length = l.length) (hch : Chain P Ev l l es s.next s) (hok : okR l.toArray (states s l es) = true)
    (hQ : ∀ a w, InvA S w0 (· < s.next + 4 * l.length) (stAll s l es) a w → Q .normal a w) : ∀ (fuel : Nat) (listed : Array Bool) (a : Act) (w : World), listed.size = l.length → unl listed.toList ≤ fuel →
    (∀ i o, l[i]? = some o → listed.getD i false = true → ∀ j ∈ bindE o, listed.getD j false = true) → InvA S w0 (AX s (fun i => listed.getD i false) l.length) (stX (fun i => listed.getD i false) 0 s l es) a w → wpAny P .any l.toArray Q fuel listed a w := by
  have spec := okR_spec hok
  -- when nothing is ready, all is done
  have done : ∀ (listed : Array Bool) (a : Act) (w : World), listed.size = l.length → Region.ready .any l.toArray listed = [] → InvA S w0 (AX s (fun i => listed.getD i false) l.length) (stX (fun i => listed.getD i false) 0 s l es) a w → Q .normal a w := by
    intro listed a w hsz hr hI
    have all : ∀ i, i < l.length → listed.getD i false = true := by
      intro i
      induction i using Nat.strongRecOn with
      | _ i ih =>
        intro hi
        obtain ⟨oi, si, ho, hs, hb, _⟩ := spec i hi
        cases hX : listed.getD i false with
        | true => rfl
        | false =>
          exfalso
          have : i ∈ Region.ready .any l.toArray listed := ready_spec.2 ⟨oi, by simpa using ho, by simpa [Array.getD, hsz, hi] using hX, fun j hj => ih j (hb j hj) (by have := hb j hj; omega)⟩
          rw [hr] at this
          simp at this
    refine hQ a w ?_
    have e : stX (fun i => listed.getD i false) 0 s l es = stAll s l es := stX_agree l es 0 s fun j hj => by simpa using all j hj
    rw [← e]
    refine hI.mono fun id hid => ?_
    rcases hid with h | ⟨i, h1, h2, h3, h4⟩ <;> omega
  intro fuel
  induction fuel with
  | zero =>
    intro listed a w hsz hun hcl hI
    have hr : Region.ready .any l.toArray listed = [] := by
      rw [List.eq_nil_iff_forall_not_mem]
      intro i hi
      obtain ⟨o, ho, h1, _⟩ := ready_spec.1 hi
      have hlt : i < l.length := by have := (Array.getElem?_eq_some_iff.1 ho).1; simpa using this
      have := unl_zero listed.toList (by omega) i (by simpa [hsz] using hlt)
      simp only [Array.getElem?_toList] at this
      rw [Array.getD_eq_getD_getElem?, this] at h1
      simp at h1
    exact ⟨hr, done listed a w hsz hr hI⟩
  | succ fuel ih =>
    intro listed a w hsz hun hcl hI
    refine ⟨fun hr => done listed a w hsz hr hI, fun i hi => ?_⟩
    obtain ⟨o, ho, h1, h2⟩ := ready_spec.1 hi
    have hlt : i < l.length := by have := (Array.getElem?_eq_some_iff.1 ho).1; simpa using this
    have ho' : l[i]? = some o := by simpa using ho
    have hXi : listed.getD i false = false := by simpa [Array.getD, hsz, hlt] using h1
    have hel : i < es.length := by omega
    have he : es[i]? = some es[i] := List.getElem?_eq_getElem hel
    have hst := states_at l es s i o es[i] ho' he
    have hG := chain_at l es s.next s i o es[i] hch ho' he
    obtain ⟨oi, si, q1, q2, q3, q4⟩ := spec i hlt
    rw [ho'] at q1
    simp only [Option.some.injEq] at q1
    subst q1
    rw [hst] at q2
    simp only [Option.some.injEq] at q2
    have hanc := anc_in (X := fun i => listed.getD i false) hcl i o ho' h2
    -- of whatever is done before its time or not yet done the i-th is apart
    have sep : ∀ j oj f, l[j]? = some oj → es[j]? = some f → j ≠ i → listed.getD j false ≠ decide (j < i) → (∀ t, oj.dst = some t → t ∉ o.looksAt l.toArray ∧ o.dst ≠ some t) ∧ (∀ id, effH f id ≠ none → id ∉ rdOf o si ∧ effH es[i] id = none) := by
      intro j oj f hj hf hji hX
      have hjl : j < l.length := (List.getElem?_eq_some_iff.1 hj).1
      have hsj := states_at l es s j oj f hj hf
      have hGj := chain_at l es s.next s j oj f hch hj hf
      have nx : ∀ m, (stX (fun j => decide (j < m)) 0 s l es).next = s.next := fun m => (stX_rest l es 0 s).2
      rcases Nat.lt_or_gt_of_ne hji with hlt' | hgt
      · have hXj : listed.getD j false = false := by
          cases hq : listed.getD j false with
          | false => rfl
          | true => rw [hq] at hX; simp [hlt'] at hX
        rcases q4 j hlt' with h | ⟨oj', sj, r1, r2, r3⟩
        · have this : listed.getD j false = true := hanc j h
          rw [hXj] at this
          simp at this
        · rw [hj] at r1
          simp only [Option.some.injEq] at r1
          subst r1
          rw [hsj] at r2
          simp only [Option.some.injEq] at r2
          unfold okPair at r3
          simp only [Bool.and_eq_true] at r3
          obtain ⟨⟨a1, a2⟩, a3⟩ := r3
          obtain ⟨b1, b2, b3⟩ := Oper.apart_spec a1
          refine ⟨fun t ht => ⟨b1 t ht, b2 t ht⟩, fun id hid => ?_⟩
          have hd := eff_dom (by rw [nx]) hGj id hid
          rw [r2] at hd
          have hn := disj_spec a2 id hd
          rw [List.mem_append, not_or] at hn
          refine ⟨hn.1, ?_⟩
          cases hq : effH es[i] id with
          | none => rfl
          | some x =>
            exfalso
            have := eff_dom (by rw [nx]) hG id (by rw [hq]; simp)
            rw [q2] at this
            exact hn.2 this
      · have hXj : listed.getD j false = true := by
          cases hq : listed.getD j false with
          | true => rfl
          | false => rw [hq] at hX; simp at hX; omega
        obtain ⟨oj', sj, p1, p2, p3, p4⟩ := spec j hjl
        rw [hj] at p1
        simp only [Option.some.injEq] at p1
        subst p1
        rw [hsj] at p2
        simp only [Option.some.injEq] at p2
        rcases p4 i hgt with h | ⟨oi', si', r1, r2, r3⟩
        · have this : listed.getD i false = true := anc_in (X := fun i => listed.getD i false) hcl j oj hj (hcl j oj hj hXj) i h
          rw [hXi] at this
          simp at this
        · rw [ho'] at r1
          simp only [Option.some.injEq] at r1
          subst r1
          rw [hst] at r2
          simp only [Option.some.injEq] at r2
          subst r2
          unfold okPair at r3
          simp only [Bool.and_eq_true] at r3
          obtain ⟨⟨a1, a2⟩, a3⟩ := r3
          obtain ⟨b1, b2, b3⟩ := Oper.apart_spec a1
          refine ⟨fun t ht => ⟨b3 t ht, fun h => b2 t h ht⟩, fun id hid => ?_⟩
          have hd := eff_dom (by rw [nx]) hGj id hid
          rw [p2] at hd
          have hn := disj_spec a3 id hd
          rw [q2] at hn
          refine ⟨hn, ?_⟩
          cases hq : effH es[i] id with
          | none => rfl
          | some x =>
            exfalso
            have h5 := eff_dom (by rw [nx]) hG id (by rw [hq]; simp)
            have := disj_spec a2 id h5
            rw [List.mem_append, not_or] at this
            exact this.2 hd
    -- so it does what it does in the text's order
    have hG' : opG P Ev l o (s.next + 4 * i) (stX (fun i => listed.getD i false) 0 s l es) es[i] := by
      refine opG_frame (s := stX (fun j => decide (j < i)) 0 s l es) (fun t ht => ?_) (fun id hid => ?_) hG
      · refine stX_slot l es 0 s s rfl rfl fun j oj hj hX hd => ?_
        simp only [Nat.zero_add] at hX
        by_cases hji : j = i
        · subst hji
          rw [hXi] at hX
          simp at hX
        · have hjl : j < es.length := by have := (List.getElem?_eq_some_iff.1 hj).1; omega
          exact ((sep j oj es[j] hj (List.getElem?_eq_getElem hjl) hji hX).1 t hd).1 ht
      · refine stX_blk l es 0 s s rfl fun j f hf hjl hX => ?_
        simp only [Nat.zero_add] at hX
        by_cases hji : j = i
        · subst hji
          rw [hXi] at hX
          simp at hX
        · cases hq : effH f id with
          | none => rfl
          | some x =>
            exfalso
            rw [q2] at hid
            exact ((sep j l[j] f (List.getElem?_eq_getElem hjl) hf hji hX).2 id (by rw [hq]; simp)).1 hid
    have hX' : ∀ j, (listed.setIfInBounds i true).getD j false = (listed.getD j false || j == i) := by
      intro j
      simp only [Array.getD_eq_getD_getElem?, Array.getElem?_setIfInBounds]
      by_cases hij : i = j
      · subst hij
        simp [hsz, hlt]
      · have : (j == i) = false := by simpa using fun e => hij e.symm
        simp [hij, this]
    refine wpOp_sound (hI.ev hE h0) hI (fun id k1 k2 hA => ?_) ho' hG' fun a' w' hI' => ?_
    · rcases hA with h | ⟨m, m1, m2, m3, m4⟩
      · omega
      · have : m = i := by omega
        subst this
        have m2 : listed.getD m false = true := m2
        rw [hXi] at m2
        simp at m2
    · refine ih _ a' w' (by simpa using hsz) ?_ (fun m om hm hXm j hj => ?_) ?_
      · have hf : listed.toList[i]? = some false := by
          have h1' := h1
          rw [Array.getD_eq_getD_getElem?] at h1'
          simp only [Array.getElem?_toList]
          cases hq : listed[i]? with
          | none => rw [hq] at h1'; simp at h1'
          | some b => rw [hq] at h1'; simp only [Option.getD_some] at h1'; rw [h1']
        have := unl_set listed.toList i hf
        rw [Array.toList_setIfInBounds]
        omega
      · rw [hX'] at hXm ⊢
        simp only [Bool.or_eq_true, beq_iff_eq] at hXm ⊢
        rcases hXm with hXm | rfl
        · exact .inl (hcl m om hm hXm j hj)
        · rw [ho'] at hm
          simp only [Option.some.injEq] at hm
          subst hm
          exact .inl (h2 j hj)
      · have hins := stX_insert (X := fun i => listed.getD i false) (m := i) l es 0 s o es[i] ho' he (by simpa using hXi) fun j oj f hij hj hf hX => by
          have hX2 : listed.getD j false = true := by simpa using hX
          have := sep j oj f hj hf (by omega) (by rw [hX2]; simp; omega)
          refine ⟨fun t ht hd => (this.1 t hd).2 ht, fun id hid => ?_⟩
          cases hq : effH f id with
          | none => rfl
          | some x =>
            exfalso
            exact hid (this.2 id (by rw [hq]; simp)).2
        have e : stX (fun j => (listed.setIfInBounds i true).getD j false) 0 s l es = stX (fun j => listed.getD j false || j == 0 + i) 0 s l es := by
          refine stX_agree l es 0 s fun j _ => ?_
          simp only [Nat.zero_add]
          exact hX' j
        rw [e]
        refine (hins.symm.inv hI').mono fun id hid => ?_
        rcases hid with (h | ⟨m, m1, m2, m3, m4⟩) | ⟨m3, m4⟩
        · exact .inl h
        · have m2 : listed.getD m false = true := m2
          exact .inr ⟨m, m1, (hX' m).trans (by rw [m2]; rfl), m3, m4⟩
        · exact .inr ⟨i, hlt, (hX' i).trans (by simp), m3, m4⟩
theorem region_any {S : Nat → Prop} {w0 w : World} (hE : Stable Ev) (h0 : Ev w0) (hf : P.follows .mixedOrders = true) {l : List Oper} {id : Nat} {s : St} {a : Act} {K : Option (List St) → St → Prop} {Q : Exit → Act → World → Prop} (h : run P Ev l l s.next (some []) s K) (hI : Inv S w0 s a w)
    (hK : ∀ lg s' a' w', K lg s' → Inv S w0 s' a' w' → Q .normal a' w') (hO : ∀ lg s', K lg s' → okL l.toArray lg) : (Code.region id l.toArray true).wp P Q a w := by
  obtain ⟨es, h1, h2, h3⟩ := run_ex l _ _ _ h
  have hok := hO _ _ h3
  simp only [Option.map_some, List.append_nil, okL, List.reverse_reverse] at hok
  refine wp_region_any hf ?_
  refine any_sound hE h0 h1 h2 hok (fun a w hI => hK _ _ a w h3 (inv_iff.2 hI)) _ _ a _ (by simp) ?_ (fun i o hi hX => ?_) ?_
  · have : unl (Array.replicate l.toArray.size false).toList = l.length := by simp [unl]
    rw [this]
    simp
  · simp [Array.getD_eq_getD_getElem?, Array.getElem?_replicate] at hX
    split at hX <;> simp at hX
  · have hX0 : ∀ j, (Array.replicate l.toArray.size false).getD j false = false := fun j => by
      simp only [Array.getD_eq_getD_getElem?, Array.getElem?_replicate]
      split <;> rfl
    have e : ∀ (l' : List Oper) (es' : List Eff) (i : Nat), stX (fun i => (Array.replicate l.toArray.size false).getD i false) i s l' es' = s := by
      intro l'
      induction l' with
      | nil => intro es' i; simp [stX]
      | cons o l' ih =>
        intro es' i
        cases es' with
        | nil => simp [stX]
        | cons e es' =>
          simp only [stX]
          rw [if_neg (by rw [hX0]; simp)]
          exact ih es' (i + 1)
    rw [e]
    exact (inv_iff.1 hI).drew.mono fun id h => .inl h
end
end E
end
section
namespace E
def aExt (i : Nat) : AV → Rs
  | .tup vs => match nth i vs with
    | some v => pure1 v
    | none => none
  | _ => none
theorem opsE {P : Program} {Ev : World → Prop} {F : Ex → St → Prop} {st : List Fr} {ops : List Oper} {d : Option (List St)} {dst : Option Tmp} {l : List Oper} {k : Nat} {s : St} (x : Operand) (i : Nat) : Go P Ev F st ops d dst l (.extract x i) k s = Gs P Ev F st ops d dst l k s (aExt i (s.ev x)) := by
  show stepK (astep P (.extract x i) k [s.ev x] s.heap) _ = _
  cases s.ev x <;> rfl
section
variable {P : Program} {Ev : World → Prop}
def toEx : Exit → Option Ex
  | .normal => some .normal
  | .exit id => some (.exit id)
  | .ret => some .ret
  | _ => none
def post (S : Nat → Prop) (w0 : World) (Q : Ex → St → Prop) : Exit → Act → World → Prop := fun e a w => ∃ x s, toEx e = some x ∧ Q x s ∧ Inv S w0 s a w
theorem AW_sound {S : Nat → Prop} {w0 : World} (hE : Stable Ev) (h0 : Ev w0) (hf : P.follows .mixedOrders = true) : ∀ (c : Code) (Q : Ex → St → Prop) (s : St) (a : Act) (w : World), AW P Ev c Q s → Inv S w0 s a w → c.wp P (post S w0 Q) a w := by
  intro c
  induction c with
  | skip => intro Q s a w h hI; exact wp_skip ⟨_, s, rfl, h, hI⟩
  | label l => intro Q s a w h hI; exact wp_label ⟨_, s, rfl, h, hI⟩
  | region id ops d =>
    intro Q s a w h hI
    have e : ops = ops.toList.toArray := by simp
    cases d with
    | false =>
      rw [e]
      exact region_text hE h0 h hI fun lg s' a' w' hk hI' => ⟨_, s', rfl, hk.2, hI'⟩
    | true =>
      rw [e]
      exact region_any hE h0 hf h hI (fun lg s' a' w' hk hI' => ⟨_, s', rfl, hk.2, hI'⟩) fun lg s' hk => by rw [← e]; exact hk.1
  | seq x y ihx ihy =>
    intro Q s a w h hI
    refine wp_seq (wp_mono (ihx _ s a w h hI) fun e a' w' hq => ?_)
    obtain ⟨ex, s', he, hQ, hI'⟩ := hq
    cases e with
    | normal =>
      simp only [toEx, Option.some.injEq] at he
      subst he
      exact ihy Q s' a' w' hQ hI'
    | exit id =>
      simp only [toEx, Option.some.injEq] at he
      subst he
      exact ⟨_, s', rfl, hQ, hI'⟩
    | ret =>
      simp only [toEx, Option.some.injEq] at he
      subst he
      exact ⟨_, s', rfl, hQ, hI'⟩
    | goto l => simp [toEx] at he
    | panic ch => simp [toEx] at he
    | outgrown => simp [toEx] at he
  | cond c x y ihx ihy =>
    intro Q s a w h hI
    have h' : brK (s.ev c) (AW P Ev x Q s) (AW P Ev y Q s) := h
    obtain ⟨_, _, _, G, η, _, hrel, _⟩ := hI
    have hr := ev_rep hrel c
    unfold brK at h'
    split at h'
    · rename_i t ht
      rw [ht] at hr
      have hc : a.eval c = .bool t := hr
      refine wp_cond hc ?_
      cases t with
      | true => exact ihx Q s a w h' ⟨‹_›, ‹_›, ‹_›, G, η, ‹_›, hrel, ‹_›⟩
      | false => exact ihy Q s a w h' ⟨‹_›, ‹_›, ‹_›, G, η, ‹_›, hrel, ‹_›⟩
    · exact h'.elim
  | block id c ih =>
    intro Q s a w h hI
    refine wp_block (wp_mono (ih _ s a w h hI) fun e a' w' hq => ?_)
    obtain ⟨ex, s', he, hQ, hI'⟩ := hq
    cases e with
    | normal =>
      simp only [toEx, Option.some.injEq] at he
      subst he
      exact ⟨_, s', rfl, hQ, hI'⟩
    | exit j =>
      simp only [toEx, Option.some.injEq] at he
      subst he
      simp only [blockK, beq_iff_eq] at hQ
      simp only [Exit.inBlock]
      by_cases hj : j = id
      · rw [if_pos hj]
        rw [if_pos hj] at hQ
        exact ⟨_, s', rfl, hQ, hI'⟩
      · rw [if_neg hj]
        rw [if_neg hj] at hQ
        exact ⟨_, s', rfl, hQ, hI'⟩
    | ret =>
      simp only [toEx, Option.some.injEq] at he
      subst he
      exact ⟨_, s', rfl, hQ, hI'⟩
    | goto l => simp [toEx] at he
    | panic ch => simp [toEx] at he
    | outgrown => simp [toEx] at he
  | exit id => intro Q s a w h hI; exact wp_exit ⟨_, s, rfl, h, hI⟩
  | ret => intro Q s a w h hI; exact wp_ret ⟨_, s, rfl, h, hI⟩
  | scope c ih =>
    intro Q s a w h hI
    refine wp_scope_straight (wp_mono (ih Q s a w h hI) fun e a' w' hq => ?_)
    obtain ⟨ex, s', he, hQ, hI'⟩ := hq
    cases e with
    | goto l => simp [toEx] at he
    | normal => exact ⟨ex, s', he, hQ, hI'⟩
    | exit id => exact ⟨ex, s', he, hQ, hI'⟩
    | ret => exact ⟨ex, s', he, hQ, hI'⟩
    | panic ch => simp [toEx] at he
    | outgrown => simp [toEx] at he
  | loop c ih =>
    intro Q s a w h hI
    obtain ⟨ι, T, μ, i, hle, hr⟩ := h
    refine wp_loop_ghost (fun n a w => ∃ i, μ i = n ∧ Inv S w0 (T i) a w) (μ i) ⟨i, rfl, hle _ _ _ _ hI⟩ ?_
    rintro n a w ⟨i, rfl, hI⟩
    refine wp_mono (ih _ (T i) a w (hr i) hI) fun e a' w' hq => ?_
    obtain ⟨ex, s', he, hQ, hI'⟩ := hq
    cases e with
    | normal =>
      simp only [toEx, Option.some.injEq] at he
      subst he
      obtain ⟨j, hj, hlt⟩ := hQ
      exact ⟨μ j, hlt, j, rfl, hj _ _ _ _ hI'⟩
    | exit id =>
      simp only [toEx, Option.some.injEq] at he
      subst he
      exact ⟨_, s', rfl, hQ, hI'⟩
    | ret =>
      simp only [toEx, Option.some.injEq] at he
      subst he
      exact ⟨_, s', rfl, hQ, hI'⟩
    | goto l => simp [toEx] at he
    | panic ch => simp [toEx] at he
    | outgrown => simp [toEx] at he
  | rangeFunc f ps a b => intro Q s a w h hI; exact h.elim
  | goto l => intro Q s a w h hI; exact h.elim
  | refuse why => intro Q s a w h hI; exact h.elim
def swap (ids : List (Nat × Nat)) : List (Nat × Nat) := ids.map fun x => (x.2, x.1)
def okIds (ids : List (Nat × Nat)) (nx : Nat) : Bool := ids.all fun x => look x.2 (swap ids) == some x.1 && look x.1 ids == some x.2 && decide (x.2 < nx)
def pickB (hp : Hp) (f : Nat → Option Nat) : List (Nat × Nat) → Hp
  | [] => []
  | (o, j) :: l => match look o hp with
    | some b => (j, renB f b) :: pickB hp f l
    | none => pickB hp f l
def pickT (s : St) (f : Nat → Option Nat) : List Nat → List (Nat × AV)
  | [] => []
  | t :: l => (t, ren f (s.ev (.tmp t))) :: pickT s f l
def idF (ids : List (Nat × Nat)) : Nat → Option Nat := fun o => look o ids
def pick (ts : List Nat) (ids : List (Nat × Nat)) (nx : Nat) (s : St) : St := ⟨s.n, pickT s (idF ids) ts, pickB s.heap (idF ids) ids, nx⟩
theorem look_mem : ∀ {α : Type} (l : List (Nat × α)) (k : Nat) (a : α), look k l = some a → (k, a) ∈ l
  | _, [], k, a, h => by simp [look] at h
  | _, (j, b) :: l, k, a, h => by
    simp only [look] at h
    split at h
    · rename_i e
      simp only [beq_iff_eq] at e
      simp only [Option.some.injEq] at h
      subst e h
      simp
    · exact List.mem_cons_of_mem _ (look_mem l k a h)
theorem look_pickT {s : St} {f : Nat → Option Nat} : ∀ (ts : List Nat) (t : Nat) (x : AV), look t (pickT s f ts) = some x → x = ren f (s.ev (.tmp t))
  | [], t, x, h => by simp [pickT, look] at h
  | q :: ts, t, x, h => by
    simp only [pickT, look] at h
    split at h
    · rename_i e
      simp only [beq_iff_eq] at e
      simp only [Option.some.injEq] at h
      rw [← e]
      exact h.symm
    · exact look_pickT ts t x h
theorem look_pickB {hp : Hp} {f : Nat → Option Nat} : ∀ (ids : List (Nat × Nat)) (j : Nat) (b : Blk), look j (pickB hp f ids) = some b → ∃ o c, (o, j) ∈ ids ∧ look o hp = some c ∧ b = renB f c
  | [], j, b, h => by simp [pickB, look] at h
  | (o, q) :: ids, j, b, h => by
    simp only [pickB] at h
    split at h
    · rename_i c hc
      simp only [look] at h
      split at h
      · rename_i e
        simp only [beq_iff_eq] at e
        simp only [Option.some.injEq] at h
        subst e
        exact ⟨o, c, by simp, hc, h.symm⟩
      · obtain ⟨o', c', h1, h2⟩ := look_pickB ids j b h
        exact ⟨o', c', List.mem_cons_of_mem _ h1, h2⟩
    · obtain ⟨o', c', h1, h2⟩ := look_pickB ids j b h
      exact ⟨o', c', List.mem_cons_of_mem _ h1, h2⟩
def reN (ids : List (Nat × Nat)) (η : Nat → Option Value) : Nat → Option Value := fun j => match look j (swap ids) with
  | some o => η o
  | none => none
theorem okIds_spec {ids : List (Nat × Nat)} {nx : Nat} (h : okIds ids nx = true) : ∀ o j, (o, j) ∈ ids → look j (swap ids) = some o ∧ look o ids = some j ∧ j < nx := by
  intro o j hm
  have := List.all_eq_true.1 h _ hm
  simp only [Bool.and_eq_true, beq_iff_eq, decide_eq_true_eq] at this
  exact ⟨this.1.1, this.1.2, this.2⟩
theorem reN_f {ids : List (Nat × Nat)} {nx : Nat} {η : Nat → Option Value} (h : okIds ids nx = true) : ∀ i j, idF ids i = some j → ∀ v, η i = some v → reN ids η j = some v := by
  intro i j hi v hv
  have := (okIds_spec h i j (look_mem ids i j hi)).1
  unfold reN
  rw [this]
  exact hv
theorem Le.pick {s s' : St} (ts : List Nat) (ids : List (Nat × Nat)) (nx : Nat) (hok : okIds ids nx = true) (h : pick ts ids nx s = s') : Le s s' := by
  subst h
  rintro S w0 a w ⟨h1, h2, h3, G, η, hG, hrel, hm, h4⟩
  have hspec := okIds_spec hok
  refine ⟨h1, h2, h3, G, reN ids η, hG, fun t x hx => ?_, ⟨fun j b hb => ?_, fun j j' b b' v v' g hb hb' hv hv' hg hg' => ?_⟩, fun id hid => ?_⟩
  · rw [look_pickT ts t x hx]
    exact ren_rep (reN_f hok) _ _ (ev_rep hrel (.tmp t))
  · obtain ⟨o, c, k1, k2, rfl⟩ := look_pickB ids j b hb
    obtain ⟨v, q1, q2, q3⟩ := hm.rep o c k2
    refine ⟨v, ?_, renB_rep (reN_f hok) q2, q3⟩
    unfold reN
    rw [(hspec o j k1).1]
    exact q1
  · obtain ⟨o, c, k1, k2, rfl⟩ := look_pickB ids j b hb
    obtain ⟨o', c', k1', k2', rfl⟩ := look_pickB ids j' b' hb'
    unfold reN at hv hv'
    rw [(hspec o j k1).1] at hv
    rw [(hspec o' j' k1').1] at hv'
    have := hm.inj o o' c c' v v' g k2 k2' hv hv' hg hg'
    subst this
    have e1 := (hspec o j k1).2.1
    have e2 := (hspec o j' k1').2.1
    rw [e1] at e2
    simpa using e2
  · unfold reN
    cases hl : look id (swap ids) with
    | none => rfl
    | some o =>
      exfalso
      have := look_mem _ _ _ hl
      unfold swap at this
      simp only [List.mem_map, Prod.mk.injEq] at this
      obtain ⟨x, hx, rfl, rfl⟩ := this
      have := (hspec x.1 x.2 hx).2.2
      have hid : nx ≤ x.2 := hid
      omega
theorem Le.trans {a b c : St} (h : Le a b) (h' : Le b c) : Le a c := fun S w0 x w hI => h' S w0 x w (h S w0 x w hI)
theorem Le.nil {n : Nat} {tm : List (Nat × AV)} {hp : Hp} {k : Nat} (t e es : Nat) (hes : 0 < es) (h : look t tm = some .nil) : Le ⟨n, tm, hp, k⟩ ⟨n, (t, .own k) :: tm, hset k (.row e es []) hp, k + 1⟩ := by
  rintro S w0 a w ⟨h1, h2, h3, G, η, hG, hrel, hm, h4⟩
  have hk : η k = none := h4 k (Nat.le_refl _)
  have hlt : ∀ b, G b → b < w.heap.size := fun b hb => (hG b hb).2
  refine ⟨h1, h2, h3, G, put1 η k (.slice none 0 0), hG, fun q x hx => ?_, ?_, fun id hid => ?_⟩
  · simp only [look] at hx
    split at hx
    · rename_i e
      simp only [beq_iff_eq] at e
      subst e
      simp only [Option.some.injEq] at hx
      subst hx
      have hr : a.tmps.getD t undef = .slice none 0 0 := hrel t _ h
      exact ⟨by rw [hr]; exact put1_same, ⟨none, 0, 0, hr⟩⟩
    · exact Rep.up (fun b hb => ⟨hb, rfl⟩) (put1_ge hk) _ _ (hrel q x hx)
  · exact hm.new hlt h1.size hk (fun _ _ => rfl) (fun g hg => by simp [hb] at hg) ⟨[], World.ownsRow_nil w 0 e es, trivial, by simp, hes⟩
  · unfold put1
    have hid : k + 1 ≤ id := hid
    rw [if_neg (by omega)]
    exact h4 id (by show k ≤ id; omega)
mutual
def fin (hp : Hp) (ids : List (Nat × Nat)) : AV → AV
  | .nil => .lst []
  | .own id => match look id ids with
    | some j => .own j
    | none => match look id hp with
      | some (.row _ _ rows) => .lst rows
      | _ => .top
  | .ref _ _ | .rel _ _ _ _ => .top
  | .agg cs => .agg (finL hp ids cs)
  | .tup cs => .tup (finL hp ids cs)
  | .fn f a b => .fn f (finL hp ids a) (finL hp ids b)
  | a => a
def finL (hp : Hp) (ids : List (Nat × Nat)) : List AV → List AV
  | [] => []
  | a :: az => fin hp ids a :: finL hp ids az
end
def nbOf (hp : Hp) : List (Nat × Nat) → Hp
  | [] => []
  | (o, j) :: l => match look o hp with
    | some (.row e es rows) => (j, .row e es rows) :: nbOf hp l
    | _ => nbOf hp l
theorem look_nbOf {hp : Hp} : ∀ (ids : List (Nat × Nat)) (j : Nat) (b : Blk), look j (nbOf hp ids) = some b → ∃ o e es rows, (o, j) ∈ ids ∧ look o hp = some b ∧ b = .row e es rows
  | [], j, b, h => by simp [nbOf, look] at h
  | (o, q) :: ids, j, b, h => by
    have rest : look j (nbOf hp ids) = some b → ∃ o' e es rows, (o', j) ∈ (o, q) :: ids ∧ look o' hp = some b ∧ b = .row e es rows := fun h => by
      obtain ⟨o', e, es, rows, h1, h2⟩ := look_nbOf ids j b h
      exact ⟨o', e, es, rows, List.mem_cons_of_mem _ h1, h2⟩
    simp only [nbOf] at h
    split at h
    · rename_i e es rows hc
      simp only [look] at h
      split at h
      · rename_i e'
        simp only [beq_iff_eq] at e'
        simp only [Option.some.injEq] at h
        subst e' h
        exact ⟨o, e, es, rows, by simp, hc, rfl⟩
      · exact rest h
    · exact rest h
mutual
theorem fin_rep {w : World} {B : Nat} {G G' : Nat → Prop} {η : Nat → Option Value} {hp : Hp} {ids : List (Nat × Nat)} {nx : Nat} (hok : okIds ids nx = true) (hm : Mem w B G η hp) (hG : ∀ b, G b → G' b) (ho : ∀ id b v g, look id hp = some b → look id ids = none → η id = some v → hb v = some g → G' g) :
    ∀ (a : AV) (v : Value), Rep w G η a v → Rep w G' (reN ids η) (fin hp ids a) v
  | .val _, _, h => h
  | .nil, v, h => by
    obtain rfl : v = .slice none 0 0 := h
    exact ⟨none, 0, 0, 0, rfl, rfl, Nat.le_refl _, by omega, by simp, .inl rfl⟩
  | .lst rows, v, h => by
    obtain ⟨a, n, c, es, h1, h2, h3, h4, h5, h6⟩ := h
    refine ⟨a, n, c, es, h1, h2, h3, h4, h5, ?_⟩
    rcases h6 with h6 | ⟨b, o, h6, h7, h8⟩
    · exact .inl h6
    · exact .inr ⟨b, o, h6, hG b h7, RepRows.up (fun b hb => ⟨hG b hb, rfl⟩) rows b o h7 h8⟩
  | .elm row off, v, h => by
    obtain ⟨b, o, h1, h2, h3⟩ := h
    exact ⟨b, o, h1, hG b h2, RepRow.up (fun b hb => ⟨hG b hb, rfl⟩) row b o h2 h3⟩
  | .ref _ _, _, _ => trivial
  | .rel _ _ _ _, _, _ => trivial
  | .own id, v, h => by
    unfold fin
    split
    · rename_i j hj
      exact ⟨reN_f hok id j hj v h.1, h.2⟩
    · rename_i hn
      split
      · rename_i e es rows hl
        obtain ⟨h1, a, n, c, rfl⟩ := h
        obtain ⟨hd, h3, h4, h5⟩ := hm.rep id _ hl
        rw [h1] at h3
        simp only [Option.some.injEq] at h3
        subst h3
        obtain ⟨xs, j1, j2, j3, j4⟩ := h4
        rcases j1.2 with ⟨hh, h0⟩ | ⟨g, cap, cur, hh, b0, b1, b2, b3, b4, b5⟩
        · simp only [Value.slice.injEq] at hh
          obtain ⟨rfl, rfl, rfl⟩ := hh
          exact ⟨none, 0, 0, es, rfl, h0, Nat.le_refl _, by omega, j3, .inl (List.eq_nil_of_length_eq_zero h0)⟩
        · simp only [Value.slice.injEq] at hh
          obtain ⟨rfl, rfl, rfl⟩ := hh
          refine ⟨_, _, _, es, rfl, rfl, b2, by unfold maxLen at b3; omega, j3, .inr ⟨g, 0, rfl, ho id _ _ g hl hn h1 rfl, ?_⟩⟩
          refine rowss_of_list (RepC.up (fun b hb => ⟨hG b hb, rfl⟩) (fun _ _ h => h) _ _ j2) fun j u hu => ?_
          have := j1.cells rfl j u hu
          rwa [addr_add] at this
      · trivial
  | .agg cs, v, h => by
    obtain ⟨vs, rfl, h2⟩ := h
    exact ⟨vs, rfl, finC_rep hok hm hG ho cs vs h2⟩
  | .tup cs, v, h => by
    obtain ⟨vs, rfl, h2⟩ := h
    exact ⟨vs, rfl, finL_rep hok hm hG ho cs vs h2⟩
  | .fn f fs cs, v, h => by
    obtain ⟨v1, v2, rfl, h2, h3⟩ := h
    exact ⟨v1, v2, rfl, finL_rep hok hm hG ho fs v1 h2, finL_rep hok hm hG ho cs v2 h3⟩
  | .top, _, _ => trivial
theorem finL_rep {w : World} {B : Nat} {G G' : Nat → Prop} {η : Nat → Option Value} {hp : Hp} {ids : List (Nat × Nat)} {nx : Nat} (hok : okIds ids nx = true) (hm : Mem w B G η hp) (hG : ∀ b, G b → G' b) (ho : ∀ id b v g, look id hp = some b → look id ids = none → η id = some v → hb v = some g → G' g) :
    ∀ (az : List AV) (vs : List Value), RepL w G η az vs → RepL w G' (reN ids η) (finL hp ids az) vs
  | [], [], _ => trivial
  | [], _ :: _, h => h.elim
  | _ :: _, [], h => h.elim
  | a :: az, v :: vs, h => ⟨fin_rep hok hm hG ho a v h.1, finL_rep hok hm hG ho az vs h.2⟩
theorem finC_rep {w : World} {B : Nat} {G G' : Nat → Prop} {η : Nat → Option Value} {hp : Hp} {ids : List (Nat × Nat)} {nx : Nat} (hok : okIds ids nx = true) (hm : Mem w B G η hp) (hG : ∀ b, G b → G' b) (ho : ∀ id b v g, look id hp = some b → look id ids = none → η id = some v → hb v = some g → G' g) :
    ∀ (az : List AV) (vs : List Value), RepC w G η az vs → RepC w G' (reN ids η) (finL hp ids az) vs
  | [], [], _ => trivial
  | [], _ :: _, h => h.elim
  | _ :: _, [], h => h.elim
  | a :: az, v :: vs, h => ⟨⟨h.1.1, fin_rep hok hm hG ho a v h.1.2⟩, finC_rep hok hm hG ho az vs h.2⟩
end
def resV (P : Program) (s : St) : ResultVar → Option AV
  | .tmp t => some (s.ev (.tmp t))
  | .cell a t => match aLoad s.heap (ti P t) (s.ev (.tmp a)) with
    | some (v, _) => some v
    | none => none
def resL (P : Program) (s : St) : List ResultVar → Option (List AV)
  | [] => some []
  | r :: rs => match resV P s r, resL P s rs with
    | some v, some vs => some (v :: vs)
    | _, _ => none
def out : List AV → AV
  | [a] => a
  | az => .tup az
def Ret (P : Program) (rs : List ResultVar) (r : AV) (nb : Hp) (s : St) : Prop := ∃ ids vs, okIds ids 4 = true ∧ resL P s rs = some vs ∧ fin s.heap ids (out vs) = r ∧ nbOf s.heap ids = nb
def num0 : Nat → List AV → List (Nat × AV)
  | _, [] => []
  | k, a :: az => (k, a) :: num0 (k + 1) az
def entry (args : List AV) (n : Nat) : St := ⟨n, num0 0 args, [], 0⟩
theorem look_num0 {w : World} {G : Nat → Prop} {η : Nat → Option Value} : ∀ (args : List AV) (vs : List Value) (k t : Nat) (x : AV), RepL w G η args vs → look t (num0 k args) = some x → k ≤ t ∧ ∃ v, vs[t - k]? = some v ∧ Rep w G η x v
  | [], _, k, t, x, _, h => by simp [num0, look] at h
  | a :: args, [], k, t, x, hr, h => hr.elim
  | a :: args, v :: vs, k, t, x, hr, h => by
    simp only [num0, look] at h
    split at h
    · rename_i e
      simp only [beq_iff_eq] at e
      simp only [Option.some.injEq] at h
      subst e h
      exact ⟨Nat.le_refl _, v, by simp, hr.1⟩
    · rename_i e
      obtain ⟨h1, u, h2, h3⟩ := look_num0 args vs (k + 1) t x hr.2 h
      refine ⟨by omega, u, ?_, h3⟩
      rw [show t - k = (t - (k + 1)) + 1 by omega, List.getElem?_cons_succ]
      exact h2
def resF (tmps : Array Value) : ResultVar → Sem Value
  | .tmp t => pure (tmps.getD t undef)
  | .cell b t => do loadVar t (← asAddr (tmps.getD b undef))
theorem results_eq (fn : Func) (tmps : Array Value) : results fn tmps = (do let vs ← fn.results.mapM (resF tmps); pure (if h : vs.size = 1 then vs[0] else .tuple vs)) := rfl
theorem res_run {S : Nat → Prop} {w0 w : World} {s : St} {a : Act} {G : Nat → Prop} {η : Nat → Option Value} {B : Nat} (hrel : ∀ t x, look t s.tmps = some x → Rep w G η x (a.tmps.getD t undef)) (hm : Mem w B G η s.heap) : ∀ (rs : List ResultVar) (vs : List AV), resL P s rs = some vs →
    ∃ us : List Value, (rs.mapM (resF a.tmps)).run P w = .ok us w ∧ RepL w G η vs us
  | [], vs, h => by
    simp only [resL, Option.some.injEq] at h
    subst h
    exact ⟨[], by simp, trivial⟩
  | r :: rs, vs, h => by
    simp only [resL] at h
    split at h
    · rename_i v vs' hv hvs
      simp only [Option.some.injEq] at h
      subst h
      obtain ⟨us, k1, k2⟩ := res_run (S := S) (w0 := w0) hrel hm rs vs' hvs
      cases r with
      | tmp t =>
        simp only [resV, Option.some.injEq] at hv
        subst hv
        refine ⟨a.tmps.getD t undef :: us, ?_, ev_rep hrel (.tmp t), k2⟩
        rw [List.mapM_cons]
        simp only [resF, Sem.run_bind, Sem.run_pure, Result.andThen_ok, k1]
      | cell b t =>
        simp only [resV] at hv
        split at hv
        · rename_i v' u hl
          simp only [Option.some.injEq] at hv
          subst hv
          obtain ⟨_, x, hx, hr⟩ := sound_load hl (ev_rep hrel (.tmp b)) hm
          refine ⟨x :: us, ?_, hr, k2⟩
          have hx' : (do loadVar t (← asAddr (a.tmps.getD b undef)) : Sem Value).run P w = .ok x w := by
            have e : a.eval (.tmp b) = a.tmps.getD b undef := rfl
            rw [e] at hx
            revert hx
            generalize a.tmps.getD b undef = q
            intro hx
            simp only [Instr.loadAt, Sem.run_bind] at hx ⊢
            cases q with
            | pointer p => cases p with
              | none => simp [Instr.sureAddr] at hx
              | some ad => simpa [Instr.sureAddr, asAddr] using hx
            | _ => simp [Instr.sureAddr] at hx
          rw [List.mapM_cons]
          have hx2 : (resF a.tmps (.cell b t)).run P w = .ok x w := hx'
          simp only [Sem.run_bind, hx2, Result.andThen_ok, k1, Sem.run_pure]
        · simp at hv
    · simp at h
theorem ACalls.ofL (hE : Stable Ev) (hf : P.follows .mixedOrders = true) {f : FuncId} {fn : Func} {c : Code} {args : List AV} {r : AV} {nb : Hp} (h1 : P.funcs[f]? = some fn) (h2 : fn.body = some c) (h3 : (fn.name == "runtime.NumGoroutine") = false) (hn : args.length ≤ fn.ntmps)
    (h : ∀ F : Ex → St → Prop, (∀ s s', Le s s' → Ret P fn.results.toList r nb s' → F .ret s ∧ F .normal s) → G P Ev F [] c (entry args fn.ntmps)) : ACalls P Ev f args r nb := by
  refine ⟨⟨fn, h1, by rw [h2]; rfl, h3⟩, fun w xs G0 hw hG0 hrep => ?_⟩
  let F : Ex → St → Prop := fun e s => (e = .normal ∨ e = .ret) ∧ ∃ s', Le s s' ∧ Ret P fn.results.toList r nb s'
  have hA := h F fun s s' hl hs => ⟨⟨.inr rfl, s', hl, hs⟩, ⟨.inl rfl, s', hl, hs⟩⟩
  have hlen : xs.size = args.length := by
    have : ∀ (az : List AV) (vs : List Value), RepL w G0 no az vs → az.length = vs.length := by
      intro az
      induction az with
      | nil => intro vs h; match vs, h with | [], _ => rfl | _ :: _, h => exact h.elim
      | cons a az ih => intro vs h; match vs, h with | [], h => exact h.elim | v :: vs, h => simp [ih vs h.2]
    have := this _ _ hrep
    simpa using this.symm
  have hsz : (xs ++ Array.replicate (fn.ntmps - xs.size) undef).size = fn.ntmps := by simp; omega
  have hI : Inv G0 w (entry args fn.ntmps) { tmps := xs ++ Array.replicate (fn.ntmps - xs.size) undef, defers := [] } w := by
    refine ⟨Below.refl _ _, hsz, rfl, G0, no, fun b hb => ⟨.inl hb, hG0 b hb⟩, fun t x hx => ?_, ⟨fun id b hb => by simp [entry, look] at hb, fun id id' b b' v v' g hb => by simp [entry, look] at hb⟩, fun _ _ => rfl⟩
    obtain ⟨_, v, hv, hr⟩ := look_num0 args xs.toList 0 t x hrep hx
    simp only [Nat.sub_zero, Array.getElem?_toList] at hv
    have hlt : t < xs.size := (Array.getElem?_eq_some_iff.1 hv).1
    have e : (xs ++ Array.replicate (fn.ntmps - xs.size) undef).getD t undef = v := by
      rw [Array.getD_eq_getD_getElem?, Array.getElem?_append_left hlt, hv]
      rfl
    rw [e]
    exact hr
  refine calls_of_wp h1 h2 (wp_mono (AW_sound hE hw hf c _ _ _ _ hA hI) fun e a w' hq => ?_)
  obtain ⟨ex, s0, hex, ⟨hEx, s, hle, ids, vs, q1, q2, q3, q4⟩, hI'⟩ := hq
  obtain ⟨j1, j2, j3, G, η, hG, hrel, hm, j4⟩ := hle _ _ _ _ hI'
  obtain ⟨us, k1, k2⟩ := res_run (P := P) (S := G0) (w0 := w) hrel hm fn.results.toList vs q2
  have hres : ∃ v, (results fn a.tmps).run P w' = .ok v w' ∧ Rep w' G η (out vs) v := by
    rw [results_eq, Array.mapM_eq_mapM_toList]
    simp only [Sem.run_bind, Sem.run_map, k1, Result.andThen_ok]
    match vs, us, k2 with
    | [x], [u], k2 => exact ⟨u, by simp, k2.1⟩
    | [], [], k2 => exact ⟨.tuple #[], by simp, [], rfl, trivial⟩
    | x :: y :: vs, u :: u' :: us, k2 => exact ⟨.tuple (u :: u' :: us).toArray, by simp, _, rfl, k2⟩
    | [], _ :: _, k2 => exact k2.elim
    | _ :: _, [], k2 => exact k2.elim
    | [_], _ :: _ :: _, k2 => exact k2.2.elim
    | _ :: _ :: _, [_], k2 => exact k2.2.elim
  obtain ⟨v, hv, hvr⟩ := hres
  let G' : Nat → Prop := fun b => G b ∨ ∃ id c x, look id s.heap = some c ∧ look id ids = none ∧ η id = some x ∧ hb x = some b
  have hGG : ∀ b, G' b → (G0 b ∨ w.heap.size ≤ b) ∧ b < w'.heap.size := by
    rintro b (hb | ⟨id, c, x, p1, p2, p3, p4⟩)
    · exact hG b hb
    · obtain ⟨y, z1, z2, z3⟩ := hm.rep id c p1
      rw [p3] at z1
      simp only [Option.some.injEq] at z1
      subst z1
      exact ⟨.inr (z3 b p4).1, z2.lt p4⟩
  have hspec := okIds_spec q1
  have hfin : ∃ v, (results fn a.tmps).run P w' = .ok v w' ∧ ∃ v', Ending.returned v = .returned v' ∧ Below w.heap.size w w' ∧ ∃ G' η, (∀ b, G' b → (G0 b ∨ w.heap.size ≤ b) ∧ b < w'.heap.size) ∧ Rep w' G' η r v' ∧ Mem w' w.heap.size G' η nb := by
    refine ⟨v, hv, v, rfl, j1, G', reN ids η, hGG, ?_, ?_⟩
    · rw [← q3]
      exact fin_rep q1 hm (fun b hb => .inl hb) (fun id b x g p1 p2 p3 p4 => .inr ⟨id, b, x, p1, p2, p3, p4⟩) _ _ hvr
    · rw [← q4]
      constructor
      · intro j b hb
        obtain ⟨o, e, es, rows, z1, z2, rfl⟩ := look_nbOf ids j b hb
        obtain ⟨x, p1, p2, p3⟩ := hm.rep o _ z2
        refine ⟨x, ?_, RepB.up (fun b hb => ⟨.inl hb, rfl⟩) (fun _ _ h => h) (fun _ _ => rfl) p2, fun g hg => ⟨(p3 g hg).1, fun hG' => ?_⟩⟩
        · unfold reN
          rw [(hspec o j z1).1]
          exact p1
        · rcases hG' with h | ⟨id, c, y, r1, r2, r3, r4⟩
          · exact (p3 g hg).2 h
          · have := hm.inj id o c _ y x g r1 z2 r3 p1 r4 hg
            subst this
            rw [(hspec id j z1).2.1] at r2
            simp at r2
      · intro j j' b b' x x' g hb hb' hx hx' hg hg'
        obtain ⟨o, e, es, rows, z1, z2, rfl⟩ := look_nbOf ids j b hb
        obtain ⟨o', e', es', rows', z1', z2', rfl⟩ := look_nbOf ids j' b' hb'
        unfold reN at hx hx'
        rw [(hspec o j z1).1] at hx
        rw [(hspec o' j' z1').1] at hx'
        have := hm.inj o o' _ _ x x' g z2 z2' hx hx' hg hg'
        subst this
        have e1 := (hspec o j z1).2.1
        rw [(hspec o j' z1').2.1] at e1
        simpa using e1.symm
  obtain ⟨v, hv, v', hvv, hrest⟩ := hfin
  cases e with
  | normal => exact ⟨j3, v, hv, v', hvv, hrest⟩
  | ret => exact ⟨j3, v, hv, v', hvv, hrest⟩
  | exit id =>
    simp only [toEx, Option.some.injEq] at hex
    subst hex
    rcases hEx with h | h <;> cases h
  | goto l => simp [toEx] at hex
  | panic ch => simp [toEx] at hex
  | outgrown => simp [toEx] at hex
theorem ACalls.of (hE : Stable Ev) (hf : P.follows .mixedOrders = true) {f : FuncId} {fn : Func} {c : Code} {args : List AV} {r : AV} {nb : Hp} (h1 : P.funcs[f]? = some fn) (h2 : fn.body = some c) (h3 : (fn.name == "runtime.NumGoroutine") = false) (hn : args.length ≤ fn.ntmps)
    (h : ∀ F : Ex → St → Prop, (∀ s, Ret P fn.results.toList r nb s → F .ret s ∧ F .normal s) → G P Ev F [] c (entry args fn.ntmps)) : ACalls P Ev f args r nb :=
  ACalls.ofL hE hf h1 h2 h3 hn fun F hF => h F fun s hs => hF s s (fun _ _ _ _ h => h) hs
theorem ACalls.lst0 {f : FuncId} {r : AV} {nb : Hp} (h : ∀ a c, ACalls P Ev f [.val (.slice a 0 c)] r nb) : ACalls P Ev f [.lst []] r nb := by
  refine ⟨(h none 0).1, fun w xs G hw hG hrep => ?_⟩
  match hx : xs.toList, hrep with
  | [x], hrep =>
    obtain ⟨⟨a, n, c, es, rfl, h2, h3⟩, _⟩ := hrep
    subst h2
    exact (h a c).2 w xs G hw hG (by rw [hx]; exact ⟨rfl, trivial⟩)
  | [], hrep => exact hrep.elim
  | _ :: _ :: _, hrep => exact hrep.2.elim
end
end E
end
section
namespace E
section
variable {e es b n : Nat} {z z' : List AV} {g : Bool}
theorem nilq0 : aBin (some ⟨.slice e es b z, n, g, z'⟩) .eql .nil .nil = vB true := by simp [aBin, nilOf, vB]
theorem nilq1 {r rs} : aBin (some ⟨.slice e es b z, n, g, z'⟩) .eql (.lst (r :: rs)) .nil = vB false := by simp [aBin, nilOf, vB]
theorem nilq2 {k c} : aBin (some ⟨.slice e es b z, n, g, z'⟩) .eql (.val (.slice none k c)) .nil = vB true := by simp [aBin, nilOf, vB]
theorem nilq3 {a k c} : aBin (some ⟨.slice e es b z, n, g, z'⟩) .eql (.val (.slice (some a) k c)) .nil = vB false := by simp [aBin, nilOf, vB]
end
structure Imp (B A : Prop) : Prop where
  out : B → A
theorem Imp.refl {A : Prop} : Imp A A := ⟨fun h => h⟩
section
variable {P : Program} {Ev : World → Prop} {F : Ex → St → Prop} {st : List Fr}
theorem iCall {B ops d dst l k s f fs cs az own r nb} (h : ACalls P Ev f (fs ++ (az ++ cs)) r nb) (ho : own = false ∨ flat r = true ∧ (nb.all fun x => flatB x.2) = true) (hn : (nb.all fun x => x.1 < 4) = true)
    (hK : Imp B (Gr P Ev F st ops d l (k + 4) ((s.put dst (ren (sh k) r)).more (adopt k nb)))) : Imp B (Gc P Ev F st ops d dst l k s (.fn f fs cs :: az) own) := ⟨fun h' => Gc_call h ho hn (hK.out h')⟩
theorem iGlob {B ops d dst l k s t g r} (h : AGlob P Ev t (.pointer (some ⟨g, 0, none⟩)) r) (hK : Imp B (Gr P Ev F st ops d l (k + 4) (s.put dst r))) : Imp B (Gv P Ev F st ops d dst l k s t g) := ⟨fun h' => Gv_glob h (hK.out h')⟩
theorem iDrawn {B ops lg s} (h : okR (List.toArray ops) lg.reverse = true) (hK : Imp B (Gx P Ev F st .normal s)) : Imp B (Gd P Ev F st ops lg s) := ⟨fun h' => ⟨h, hK.out h'⟩⟩
theorem loopK {c : Code} {s : St} {ι : Type} (T : ι → St) (μ : ι → Nat) (i : ι) (h0 : Le s (T i))
    (h : ∀ i, ∀ F' : Ex → St → Prop, (∀ s j, Le s (T j) → μ j < μ i → F' .normal s) → (∀ id s, F' (.exit id) s = Gx P Ev F st (.exit id) s) → (∀ s, F' .ret s = F .ret s) → G P Ev F' [] c (T i)) : Gl P Ev F st c s :=
  ⟨ι, T, μ, i, h0, fun i => h i _ (fun s j h1 h2 => ⟨j, h1, h2⟩) (fun id s => rfl) fun s => by
    show cont P Ev F st .ret s = _
    rw [cont_ret]⟩
end
set_option maxRecDepth 10000 in
theorem W {A B : Prop} (hB : B) (h : Imp B A := by
  repeat (first
    | simp only [flow0, flow1, flow2, flow3, flow4, flow5, flow6, flow7, flow8, flow9, flow10, flow11, flow12, flow13, flow14, flow15, flow16, flow17, flow18, flow19, flow20, flow21, flow22, flow23, flow24, flow25, flow26, flow27, flow28, flow29, bint0, bint1, bint2, bint3, bint4, bint5, opsR0, opsR1, opsR2, opsR3, opsR4, opsR5, opsR6, opsR7, opsR8, opsR9, opsR10, opsR11, opsR12, opsR13, opsR14, opsR15, opsR16, opsR17, opsR18, opsR19, opsE, aExt, slots0, slots1, slots2, slots3, slots4, slots5, slots6, slots7, slots8, slots9, slots10, slots11, nums0, nums1, nums2, nums3, nums4, nums5, nums6, nums7, nums8, nums9, nums10, nums11, nums12, nums13, nums14, nums15, nums16, nums17, nums18, nums19, nums20, nums21, nums22, nums23, pure1, vI, vB, vS, Gs_some, Gs_set, Gs_move, Go_pick, aPick_t, aPick_f, ofV, ofC, soft, softL, ownsL, owns, Gx_same, Gx_other, aSlice, bnd, num, aLoad, aStore, aField, aFieldAddr, aIndexAddr, aIndex, aLen, aBuiltin, aAppend, rowsOf, aConvX, aConvB, bytesOf, elemT, aConv, aBuild, aBuildSlice, fillA, zipP, placeOf, isSA, nth, rd, wr, pack, cellsOf, cell1, oneV, data, hset, hdel, reps, chunk, ren, renL, sh, adopt, renB, mm, nat_lt0, nat_ge0, Nat.reduceBEq, Nat.reduceLT, Nat.reduceAdd, Nat.reduceMul, ↓reduceIte, Bool.false_eq_true, List.map_cons, List.map_nil, Bool.not_true, Bool.not_false, beq_true, beq_false, Bool.or_self, Bool.or_false, Bool.false_or, Int.reduceEq, Int.reduceNe, Int.reduceLT, Option.getD_some, Option.getD_none, Option.toList_some, Option.toList_none, List.cons_append, List.nil_append, List.append_nil, List.drop_succ_cons, List.drop_zero, List.all_cons, List.all_nil, Bool.and_self, Bool.and_true, Bool.true_and, List.length_cons, List.length_nil, Nat.reduceEqDiff, Int.toNat_natCast, true_and, and_true, ti_2, ti_3, ti_4, ti_5, ti_6, ti_7, ti_8, ti_9, ti_10, ti_11, ti_12, ti_13, ti_14, ti_15, ti_16, ti_17, ti_18, ti_19, ti_21, ti_22, ti_23, ti_24, ti_25, ti_26, ti_29, ti_39, ti_40, ti_47, ti_48, ti_51, ti_52, ti_53, ti_54, ti_77, ti_80, ti_84, ti_85, ti_90, ti_91, ti_92, ti_104, ti_117, ti_118, ti_122, ti_129, ti_130, ti_136, ti_140, ti_145, ti_172, ti_173, ti_174, ti_178, ti_179, ti_180, ti_182, ti_185, ti_195, ti_200, ti_205, ti_209, ti_210, ti_221, ti_222, ti_223, ti_225, ti_231, ti_232, ti_233, ti_236, ti_237, ti_239, ti_240, ti_242, ti_246, ti_247, ti_248, ti_252, ti_254, ti_255, ti_257, ti_258, ti_259, ti_260, ti_261, ti_263, ti_264, ti_266, ti_267, ti_268, ti_269, cm_23, cm_54, cm_85, cm_91, cm_179, cm_237, decide_true, decide_false, nilq0, nilq1, nilq2, nilq3, not_true_eq_false, not_false_eq_true, bne_self_eq_false, beq_self_eq_true, Nat.lt_irrefl, ge_iff_le, gt_iff_lt, and_self, Nat.zero_le, Bool.true_or, Bool.or_true, Bool.true_beq, Bool.false_beq, Nat.reduceLeDiff, Int.reduceBEq, Int.reduceBNe, Int.reduceLE, Int.reduceAdd, Int.reduceSub, Int.reduceMul, Int.reduceToNat, Nat.reduceSub, Int.ofNat_lt, Int.ofNat_le, Nat.lt_add_one, Nat.le_refl, Nat.le_add_right, Int.cast_ofNat_Int, fitsA, LK.fitA, eqA, eqA1, *]
    | (apply iCall; (with_reducible assumption); (first | exact .inl rfl | exact .inr ⟨rfl, rfl⟩ | exact .inr ⟨rfl, by simp only [List.all_cons, List.all_nil, flatB, Bool.and_true, *]⟩); rfl)
    | (apply iCall; assumption; (first | exact .inl rfl | exact .inr ⟨rfl, rfl⟩ | exact .inr ⟨rfl, by simp only [List.all_cons, List.all_nil, flatB, Bool.and_true, *]⟩); rfl)
    | (apply iGlob; assumption)
    | (apply iDrawn; kernel_rfl))
  exact Imp.refl) : A := h.out hB
set_option maxRecDepth 10000 in
theorem R {A B : Prop} (hB : B) (h : Imp B A := by
  repeat (first
    | simp only [flow0, flow1, flow2, flow3, flow4, flow5, flow6, flow7, flow8, flow9, flow10, flow11, flow12, flow13, flow14, flow15, flow16, flow17, flow18, flow19, flow20, flow21, flow22, flow23, flow24, flow25, flow26, flow27, flow28, flow29, bint0, bint1, bint2, bint3, bint4, bint5, opsR0, opsR1, opsR2, opsR3, opsR4, opsR5, opsR6, opsR7, opsR8, opsR9, opsR10, opsR11, opsR12, opsR13, opsR14, opsR15, opsR16, opsR17, opsR18, opsR19, opsE, aExt, slots0, slots1, slots2, slots3, slots4, slots5, slots6, slots7, slots8, slots9, slots10, slots11, nums0, nums1, nums2, nums3, nums4, nums5, nums6, nums7, nums8, nums9, nums10, nums11, nums12, nums13, nums14, nums15, nums16, nums17, nums18, nums19, nums20, nums21, nums22, nums23, pure1, vI, vB, vS, Gs_some, Gs_set, Gs_move, Go_pick, aPick_t, aPick_f, ofV, ofC, soft, softL, ownsL, owns, Gx_same, Gx_other, aSlice, bnd, num, aLoad, aStore, aField, aFieldAddr, aIndexAddr, aIndex, aLen, aBuiltin, aAppend, rowsOf, aConvX, aConvB, bytesOf, elemT, aConv, aBuild, aBuildSlice, fillA, zipP, placeOf, isSA, nth, rd, wr, pack, cellsOf, cell1, oneV, data, hset, hdel, reps, chunk, ren, renL, sh, adopt, renB, mm, nat_lt0, nat_ge0, Nat.reduceBEq, Nat.reduceLT, Nat.reduceAdd, Nat.reduceMul, ↓reduceIte, Bool.false_eq_true, List.map_cons, List.map_nil, Bool.not_true, Bool.not_false, beq_true, beq_false, Bool.or_self, Bool.or_false, Bool.false_or, Int.reduceEq, Int.reduceNe, Int.reduceLT, Option.getD_some, Option.getD_none, Option.toList_some, Option.toList_none, List.cons_append, List.nil_append, List.append_nil, List.drop_succ_cons, List.drop_zero, List.all_cons, List.all_nil, Bool.and_self, Bool.and_true, Bool.true_and, List.length_cons, List.length_nil, Nat.reduceEqDiff, Int.toNat_natCast, true_and, and_true, ti_2, ti_3, ti_4, ti_5, ti_6, ti_7, ti_8, ti_9, ti_10, ti_11, ti_12, ti_13, ti_14, ti_15, ti_16, ti_17, ti_18, ti_19, ti_21, ti_22, ti_23, ti_24, ti_25, ti_26, ti_29, ti_39, ti_40, ti_47, ti_48, ti_51, ti_52, ti_53, ti_54, ti_77, ti_80, ti_84, ti_85, ti_90, ti_91, ti_92, ti_104, ti_117, ti_118, ti_122, ti_129, ti_130, ti_136, ti_140, ti_145, ti_172, ti_173, ti_174, ti_178, ti_179, ti_180, ti_182, ti_185, ti_195, ti_200, ti_205, ti_209, ti_210, ti_221, ti_222, ti_223, ti_225, ti_231, ti_232, ti_233, ti_236, ti_237, ti_239, ti_240, ti_242, ti_246, ti_247, ti_248, ti_252, ti_254, ti_255, ti_257, ti_258, ti_259, ti_260, ti_261, ti_263, ti_264, ti_266, ti_267, ti_268, ti_269, cm_23, cm_54, cm_85, cm_91, cm_179, cm_237, decide_true, decide_false, nilq0, nilq1, nilq2, nilq3, not_true_eq_false, not_false_eq_true, bne_self_eq_false, beq_self_eq_true, Nat.lt_irrefl, ge_iff_le, gt_iff_lt, and_self, Nat.zero_le, Bool.true_or, Bool.or_true, Bool.true_beq, Bool.false_beq, Nat.reduceLeDiff, Int.reduceBEq, Int.reduceBNe, Int.reduceLE, Int.reduceAdd, Int.reduceSub, Int.reduceMul, Int.reduceToNat, Nat.reduceSub, Nat.lt_add_one, Nat.le_refl, Nat.le_add_right, fitsA, LK.fitA, eqA, eqA1, *]
    | (apply iCall; (with_reducible assumption); (first | exact .inl rfl | exact .inr ⟨rfl, rfl⟩ | exact .inr ⟨rfl, by simp only [List.all_cons, List.all_nil, flatB, Bool.and_true, *]⟩); rfl)
    | (apply iCall; assumption; (first | exact .inl rfl | exact .inr ⟨rfl, rfl⟩ | exact .inr ⟨rfl, by simp only [List.all_cons, List.all_nil, flatB, Bool.and_true, *]⟩); rfl)
    | (apply iGlob; assumption)
    | (apply iDrawn; kernel_rfl))
  exact Imp.refl) : A := h.out hB
end E
end
section
namespace E
def pcs (ps : List Int) : List (List AV) := ps.map fun p => [.val (.int .i8 p)]
theorem pcs_len (ps : List Int) : (pcs ps).length = ps.length := by simp [pcs]
theorem pcs_ok (ps : List Int) : (pcs ps).all (fun r => r.length == 1 && r.all data) = true := by
  simp [pcs, data, oneV]
section
variable {e es b : Nat} {z : List AV} {n : Nat} {g : Bool} {z' : List AV}
end
set_option maxRecDepth 10000 in
theorem clone_a {Ev : World → Prop} (hE : Stable Ev) (hf : Tryz.prog.follows .mixedOrders = true) (ps : List Int) (hn : ps.length ≤ 1000) : ACalls Tryz.prog Ev 89 [.lst (pcs ps)] (.own 0) [(0, .row 48 1 (pcs ps))] := by
  cases ps with
  | nil =>
    refine ACalls.lst0 fun a c => ?_
    cases a with
    | none =>
      refine ACalls.ofL hE hf Tryz.func89 rfl (by simp [Tryz.f89]) (Nat.le_of_ble_eq_true rfl) fun F hF => ?_
      simp only [entry, num0, Tryz.ntmps89]
      refine R ?_
      exact (hF _ _ (Le.nil 2 48 1 (by omega) rfl) ⟨[(16, 0)], [.own 16], rfl, rfl, rfl, rfl⟩).1
    | some a =>
      refine ACalls.ofL hE hf Tryz.func89 rfl (by simp [Tryz.f89]) (Nat.le_of_ble_eq_true rfl) fun F hF => ?_
      simp only [entry, num0, Tryz.ntmps89]
      refine R ?_
      exact (hF _ _ (fun _ _ _ _ h => h) ⟨[(20, 0)], [.own 20], rfl, rfl, rfl, rfl⟩).1
  | cons p ps =>
    have hq : ∀ {e es b : Nat} {z : List AV} {n : Nat} {g : Bool} {z' : List AV}, aBin (some ⟨.slice e es b z, n, g, z'⟩) .eql (.lst (pcs (p :: ps))) .nil = vB false := nilq1
    have hl : 0 + (pcs (p :: ps)).length ≤ maxR := by rw [pcs_len]; unfold maxR; omega
    have hok := pcs_ok (p :: ps)
    generalize pcs (p :: ps) = rows at *
    refine ACalls.of hE hf Tryz.func89 rfl (by simp [Tryz.f89]) (Nat.le_of_ble_eq_true rfl) fun F hF => ?_
    simp only [entry, num0, Tryz.ntmps89]
    refine R ?_
    exact (hF _ ⟨[(20, 0)], [.own 20], rfl, rfl, rfl, rfl⟩).1
def posA (f r : Int) (x : AV) (b : Bool) (k e h n : Int) : AV := .agg [.val (.int .i64 f), .val (.int .i64 r), x, .val (.bool b), .val (.int .u8 k), .val (.int .i64 e), .val (.int .i64 h), .val (.int .i64 n)]
def bdA (f r : Int) (x : AV) : AV := .agg [.val (.int .i64 f), .val (.int .i64 r), x]
variable {f r k e h n : Int} {b : Bool} {ps : List Int} {Ev : World → Prop}
theorem len0 {ps : List Int} (hn : ps.length ≤ 1000) : (pcs ps).length ≤ maxR := by rw [pcs_len]; unfold maxR; omega
set_option maxRecDepth 10000 in
theorem small_a (hE : Stable Ev) (hf : Tryz.prog.follows .mixedOrders = true) : ACalls Tryz.prog Ev 16 [posA f r (.lst (pcs ps)) b k e h n] (.val (.bool (decide ((ps.length : Int) ≤ 70)))) [] := by
  simp only [posA]
  have hlen := pcs_len ps
  generalize pcs ps = rows at *
  refine ACalls.of hE hf Tryz.func16 rfl (by simp [Tryz.f16]) (Nat.le_of_ble_eq_true rfl) fun F hF => ?_
  simp only [entry, num0, Tryz.ntmps16]
  refine R ?_
  exact (hF _ ⟨[], _, rfl, rfl, rfl, rfl⟩).1
set_option maxRecDepth 10000 in
theorem rcopy6_a (hE : Stable Ev) (hf : Tryz.prog.follows .mixedOrders = true) (hn : ps.length ≤ 1000) : ACalls Tryz.prog Ev 25 [posA f r (.lst (pcs ps)) b k e h n] (posA f r (.own 0) b k e h n) [(0, .row 48 1 (pcs ps))] := by
  simp only [posA, bdA]
  have hl := len0 hn
  have hok := pcs_ok ps
  generalize pcs ps = rows at *
  refine ACalls.of hE hf Tryz.func25 rfl (by simp [Tryz.f25]) (Nat.le_of_ble_eq_true rfl) fun F hF => ?_
  simp only [entry, num0, Tryz.ntmps25]
  refine R ?_
  exact (hF _ ⟨[(16, 0)], _, rfl, rfl, rfl, rfl⟩).1
set_option maxRecDepth 10000 in
theorem rof6_a (hE : Stable Ev) (hf : Tryz.prog.follows .mixedOrders = true) : ACalls Tryz.prog Ev 30 [posA f r (.lst (pcs ps)) b k e h n] (bdA f r (.lst (pcs ps))) [] := by
  simp only [posA, bdA]
  generalize pcs ps = rows at *
  refine ACalls.of hE hf Tryz.func30 rfl (by simp [Tryz.f30]) (Nat.le_of_ble_eq_true rfl) fun F hF => ?_
  simp only [entry, num0, Tryz.ntmps30]
  refine R ?_
  exact (hF _ ⟨[], _, rfl, rfl, rfl, rfl⟩).1
set_option maxRecDepth 10000 in
theorem pboard_a (hE : Stable Ev) (hf : Tryz.prog.follows .mixedOrders = true) (hn : ps.length ≤ 1000) : ACalls Tryz.prog Ev 27 [posA f r (.lst (pcs ps)) b k e h n] (bdA f r (.own 0)) [(0, .row 48 1 (pcs ps))] := by
  simp only [posA, bdA]
  have hcl := clone_a hE hf ps hn
  generalize pcs ps = rows at *
  refine ACalls.of hE hf Tryz.func27 rfl (by simp [Tryz.f27]) (Nat.le_of_ble_eq_true rfl) fun F hF => ?_
  simp only [entry, num0, Tryz.ntmps27]
  refine R ?_
  exact (hF _ ⟨[(24, 0)], _, rfl, rfl, rfl, rfl⟩).1
def ofR (v : Bool) (f r : Int) (b : Bool) : AV := if v then .tup [posA f r (.own 0) b 0 (-1) 0 1, .val (.int .i64 0)] else .tup [posA 0 0 (.lst []) false 0 0 0 0, .val (.int .i64 2)]
set_option maxRecDepth 10000 in
theorem pof_a (hE : Stable Ev) (hf : Tryz.prog.follows .mixedOrders = true) (hn : ps.length ≤ 1000) {v : Bool} (hv : ACalls Tryz.prog Ev 18 [posA f r (.lst (pcs ps)) b 0 (-1) 0 1] (.val (.bool v)) []) :
    ACalls Tryz.prog Ev 28 [bdA f r (.lst (pcs ps)), .val (.bool b)] (ofR v f r b) (if v then [(0, .row 48 1 (pcs ps))] else []) := by
  have hcl := clone_a hE hf ps hn
  simp only [posA, bdA, ofR] at *
  generalize pcs ps = rows at *
  refine ACalls.of hE hf Tryz.func28 rfl (by simp [Tryz.f28]) (Nat.le_of_ble_eq_true rfl) fun F hF => ?_
  simp only [entry, num0, Tryz.ntmps28]
  cases v
  · refine R ?_
    exact (hF _ ⟨[], _, rfl, rfl, rfl, rfl⟩).1
  · refine R ?_
    exact (hF _ ⟨[(28, 0)], _, rfl, rfl, rfl, rfl⟩).1
end E
end
section
namespace E
section
variable {w : World} {B : Nat} {G : Nat → Prop} {η : Nat → Option Value} {hp : Hp}
end
end E
end
end Go.Proofs.YtbhienpbfidgjaaGreatDoor
