/- append(b.Pieces, make([]api.Piece, n)...) onto a slice that the call owns. Conditions: n from 1 to 8. -/
import Derived.Test.YtbhienpbfidgjaaGreatDoorF2
import Derived.Laws.OwnMore
import Derived.Maps.AppendAt
import Derived.Lib.AppendZeros
set_option linter.unusedVariables false
set_option linter.unusedSimpArgs false
namespace Go.Proofs.YtbhienpbfidgjaaGreatDoor
open Go.RowKit
theorem Tryz.infoPc : (Tryz.prog.info? 48).map (fun i => (i.zero, i.size, i.bytes)) = some (some (.int .i8 0), 1, 1) := by kernel_rfl
def zeros (m : Nat) : List Value := List.replicate m (.int .i8 0)
theorem zeroCells_one (m : Nat) : (Builtin.zeroCells (Value.int .i8 0).cells m).toList = zeros m := by
  apply List.ext_getElem?
  intro j
  by_cases hj : j < m
  · simp [Builtin.zeroCells, zeros, Value.cells, hj, Nat.mod_one]
  · simp [Builtin.zeroCells, zeros, Value.cells, hj]
theorem run_append_zeros (w : World) (base : Nat) (ty : TypeId) (v : Value) (n : Nat) (xs : List Value) (hown : w.ownsRow base 48 1 v n xs) (m : Nat) (hm0 : 0 < m) (hm : m ≤ 8) (hn : n ≤ 100000) (hbase : base ≤ w.heap.size) :
    ∃ g cap w', Sem.run Tryz.prog (Builtin.append_ #[24, 5] ty #[v, .int .u8 (m : Int)]) w = .ok (.slice (some ⟨g, 0, none⟩) (n + m) cap) w' ∧
      w'.ownsRow base 48 1 (.slice (some ⟨g, 0, none⟩) (n + m) cap) (n + m) (xs ++ zeros m) ∧ w.grownBy w' v.ownBlock ∧ g < w'.heap.size := by
  obtain ⟨i, hi, hz, hs, hb⟩ := info_parts Tryz.infoPc
  have ht := Tryz.underlying24
  have hu := Tryz.underlying5
  have hlz : (zeros m).length = m := by simp [zeros]
  have hlen : (xs ++ zeros m).length = (n + m) * 1 := by rw [List.length_append, hown.1, hlz]; omega
  have w0 : IntKind.i64.wrap (m : Int) = (m : Int) := by rw [IntKind.wrap_i64]; omega
  have c1 : ¬ ((m : Int) < 0) := by omega
  have c2 : ¬ (281474976710656 < (m : Int)) := by omega
  have hm' : m ≠ 0 := by omega
  have grown : ∀ (old : Nat), old < n + m → ∀ (row : Option Nat),
      (w.drew.alloc (.cells (xs.toArray ++ (zeros m).toArray ++ Builtin.zeroCells (Value.int .i8 0).cells (grownCap w (n + m) old 48 - (n + m))) 48)).ownsRow base 48 1
        (.slice (some ⟨w.heap.size, 0, none⟩) (n + m) (grownCap w (n + m) old 48)) (n + m) (xs ++ zeros m) ∧
      w.grownBy (w.drew.alloc (.cells (xs.toArray ++ (zeros m).toArray ++ Builtin.zeroCells (Value.int .i8 0).cells (grownCap w (n + m) old 48 - (n + m))) 48)) row := by
    intro old ho row
    have hge := grownCap_ge w (n + m) old 48
    have hcm : grownCap w (n + m) old 48 ≤ maxLen := grownCap_le_maxLen w (n + m) old 48 (by unfold maxLen; omega)
    refine ⟨⟨hlen, .inr ⟨w.heap.size, _, _, rfl, hbase, heap_alloc_new w.drew _, hge, hcm, ?_, ?_⟩⟩, ⟨rfl, rfl, rfl, by simp, fun k hk _ => Below.heap_alloc w.drew _ k hk⟩⟩
    · have := hown.1
      simp only [Array.size_append, List.size_toArray, size_zeroCells, hlz, Value.cells]
      simp
      omega
    · simp only [Array.toList_append, List.append_assoc]
      rw [← List.append_assoc, ← hlen]
      exact List.take_left
  rcases hown.2 with ⟨rfl, rfl⟩ | ⟨g, cap, cur, rfl, hbg, hg, hnc, hcm, hcs, htake⟩
  · have hx : xs = [] := List.eq_nil_of_length_eq_zero (by simpa using hown.1)
    subst hx
    have hgr := grown 0 (by omega) (Value.ownBlock (.slice none 0 0))
    have h48 : ¬ (281474976710656 < Builtin.nextslicecap m 0) := by rw [nextslicecap_zero hm0]; omega
    simp only [Nat.zero_add, List.nil_append, Array.empty_append] at hgr ⊢
    refine ⟨_, _, _, ?_, hgr.1, hgr.2, by simp⟩
    have c3 : ¬ (9223372036854775807 < (m : Int)) := by omega
    rw [← zeroCells_one]
    simp [Builtin.append_, run_underlying ht, run_underlying hu, sizeOf, typeInfo, zeroValue, hi, hz, hs, hb, w0, c1, c2, c3, hm', h48, Question.forced, run_firstCells_none, newRow, grownCap, asInt, asIntOf]
  · by_cases hroom : n + m ≤ cap
    · have hst := run_storeCells_at Tryz.prog g n 48 (zeros m) 0 cur w hg (by rw [hlz, hcs]; omega) (by intro u hu; simp [zeros] at hu; rw [hu.2]; rfl)
      simp only [Nat.add_zero] at hst
      refine ⟨g, cap, _, ?_, ⟨hlen, .inr ⟨g, cap, _, rfl, hbg, setRow_heap w g cur (cur.toList.take n ++ zeros m ++ cur.toList.drop (n + (zeros m).length)).toArray 48 _ hg, hroom, hcm, ?_, ?_⟩⟩, ⟨rfl, rfl, rfl, by simp, fun k _ hk => setRow_other w g k _ (fun e => hk (by simp [Value.ownBlock, e]))⟩, ?_⟩
      · rw [← zeroCells_one] at hst
        simp [Builtin.append_, run_underlying ht, run_underlying hu, sizeOf, typeInfo, zeroValue, hi, hz, hs, hb, w0, c1, c2, hm', hroom, asInt, asIntOf, Addr.add_lit, hst]
        rw [← zeroCells_one, Array.length_toList]
      · simp only [List.size_toArray, List.length_append, List.length_take, List.length_drop, Array.length_toList, hlz]
        omega
      · have e : cur.toList.take n = xs := by simpa using htake
        rw [e, ← hlen]
        exact List.take_left
      · have := (Array.getElem?_eq_some_iff.1 hg).1
        simpa using this
    · have holds : ∀ j u, xs[j]? = some u → w.cell? ((⟨g, 0, none⟩ : Addr).add j) = some u := hown.cells (g := g) rfl
      have hfo := run_firstCells_some (P := Tryz.prog) w.drew 1 n ⟨g, 0, none⟩ n cap xs hown.1 (by simpa using holds)
      have hgr := grown cap (by omega) (Value.ownBlock (.slice (some ⟨g, 0, none⟩) n cap))
      have h48 : Builtin.nextslicecap (n + m) cap * 1 ≤ 281474976710656 := growslice_fits (by omega) (by omega)
      have h48' : ¬ (281474976710656 < Builtin.nextslicecap (n + m) cap) := by omega
      refine ⟨_, _, _, ?_, hgr.1, hgr.2, by simp⟩
      have c3 : ¬ (9223372036854775807 < (n : Int) + (m : Int)) := by omega
      have e := zeroCells_one m
      have e2 : (zeros m).toArray = Builtin.zeroCells (Value.int .i8 0).cells m := by rw [← e]
      rw [e2]
      simp [Builtin.append_, run_underlying ht, run_underlying hu, sizeOf, typeInfo, zeroValue, hi, hz, hs, hb, w0, c1, c2, c3, hm', hroom, h48', hfo, Question.forced, newRow, grownCap, asInt, asIntOf]
end Go.Proofs.YtbhienpbfidgjaaGreatDoor
