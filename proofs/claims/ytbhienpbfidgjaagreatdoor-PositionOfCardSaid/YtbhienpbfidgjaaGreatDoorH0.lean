/- Old contracts as contracts on plain data, and back: positions and boards. Conditions: as in each theorem. -/
import Derived.Test.YtbhienpbfidgjaaGreatDoorJ1
import Derived.Test.YtbhienpbfidgjaaGreatDoorV1
set_option linter.unusedSimpArgs false
set_option linter.unusedVariables false
namespace Go.Proofs.YtbhienpbfidgjaaGreatDoor
namespace E
open Go.RowKit
def posP (p : Pos) (x : AV) : AV := posA p.f p.r x p.black p.castle p.passant p.half p.full
theorem rows_pc {w : World} {G : Nat → Prop} : ∀ {ps : List Int} {b o : Nat}, RepRows w G (pcs ps) b o → PcAt w b o ps
  | [], b, o, _ => fun i p hp => by simp at hp
  | q :: ps, b, o, h => by
    obtain ⟨⟨⟨u, h1, _, h2⟩, _⟩, h3⟩ := h
    obtain rfl : u = .int .i8 q := h2
    have ih := rows_pc h3
    intro i p hp
    cases i with
    | zero =>
      simp only [List.getElem?_cons_zero, Option.some.injEq] at hp
      subst hp
      exact h1
    | succ i =>
      have := ih i p (by simpa using hp)
      simpa [Nat.add_assoc, Nat.add_comm 1 i] using this
theorem pc_rows {w : World} {G : Nat → Prop} : ∀ {ps : List Int} {b o : Nat}, PcAt w b o ps → RepRows w G (pcs ps) b o
  | [], b, o, _ => trivial
  | q :: ps, b, o, h => by
    refine ⟨⟨⟨_, h 0 q rfl, rfl, rfl⟩, trivial⟩, pc_rows fun i p hp => ?_⟩
    have := h (i + 1) p (by simpa using hp)
    simpa [Nat.add_assoc, Nat.add_comm 1 i] using this
theorem rep_pcs {w : World} {G : Nat → Prop} {ps : List Int} {v : Value} (h : Rep w G no (.lst (pcs ps)) v) : ∃ po c, v = .slice po ps.length c ∧ SlcAt w po ps ∧ ps.length ≤ c ∧ c ≤ 9223372036854775807 := by
  obtain ⟨a, n, c, es, rfl, h1, h2, h3, _, h4⟩ := h
  rw [pcs_len] at h1
  subst h1
  refine ⟨a, c, rfl, ?_, h2, h3⟩
  rcases h4 with h4 | ⟨b, o, rfl, _, h5⟩
  · exact .inl (by simpa [pcs] using h4)
  · exact .inr ⟨b, o, rfl, rows_pc h5⟩
theorem pcs_rep {w : World} {ps : List Int} {po : Option Addr} {c : Nat} (h : SlcAt w po ps) (h1 : ps.length ≤ c) (h2 : c ≤ 9223372036854775807) : Rep w (fun b => b < w.heap.size) no (.lst (pcs ps)) (.slice po ps.length c) := by
  refine ⟨po, _, c, 1, rfl, pcs_len ps, h1, h2, by simp [pcs], ?_⟩
  rcases h with rfl | ⟨b, o, rfl, h⟩
  · exact .inl rfl
  · cases ps with
    | nil => exact .inl rfl
    | cons p ps =>
      refine .inr ⟨b, o, rfl, ?_, pc_rows h⟩
      have := h 0 p rfl
      unfold World.cell? at this
      cases hb : w.heap[b]? with
      | none => simp [hb] at this
      | some _ => exact (Array.getElem?_eq_some_iff.1 hb).1
theorem mem0 {w : World} {B : Nat} {G : Nat → Prop} {η : Nat → Option Value} : Mem w B G η [] := ⟨fun id b hb => by simp [look] at hb, fun id id' b b' v v' g hb => by simp [look] at hb⟩
theorem ac_of {Ev : World → Prop} {f : FuncId} {args : List AV} {v : Value} (hf : ∃ fn, Tryz.prog.funcs[f]? = some fn ∧ fn.body.isNone = false ∧ (fn.name == "runtime.NumGoroutine") = false)
    (h : ∀ w xs G, Ev w → RepL w G no args xs.toList → Pure f xs w v) : ACalls Tryz.prog Ev f args (.val v) [] :=
  ⟨hf, fun w xs G hw hG hr => (h w xs G hw hr).mono fun e V ⟨he, hb⟩ => ⟨v, he, hb, G, no, fun b hb' => ⟨.inl hb', Nat.lt_of_lt_of_le (hG b hb') hb.size⟩, rfl, mem0⟩⟩
theorem ac_pure {Ev : World → Prop} {f : FuncId} {args : List AV} {xs : Array Value} {v : Value} {w : World} (h : ACalls Tryz.prog Ev f args (.val v) []) (hw : Ev w) (hr : RepL w (fun b => b < w.heap.size) no args xs.toList) : Pure f xs w v :=
  (h.2 w xs _ hw (fun _ h => h) hr).mono fun e V ⟨u, he, hb, G, η, _, hu, _⟩ => by
    obtain rfl : u = v := hu
    exact ⟨he, hb⟩
theorem repL1 {w : World} {G : Nat → Prop} {η : Nat → Option Value} {a : AV} {xs : Array Value} (h : RepL w G η [a] xs.toList) : ∃ x, xs = #[x] ∧ Rep w G η a x := by
  rcases xs with ⟨_ | ⟨x, _ | ⟨y, l⟩⟩⟩
  · exact h.elim
  · exact ⟨x, rfl, h.1⟩
  · exact h.2.elim
theorem repL2 {w : World} {G : Nat → Prop} {η : Nat → Option Value} {a b : AV} {xs : Array Value} (h : RepL w G η [a, b] xs.toList) : ∃ x y, xs = #[x, y] ∧ Rep w G η a x ∧ Rep w G η b y := by
  rcases xs with ⟨_ | ⟨x, _ | ⟨y, _ | ⟨z, l⟩⟩⟩⟩
  · exact h.elim
  · exact h.2.elim
  · exact ⟨x, y, rfl, h.1, h.2.1⟩
  · exact h.2.2.elim
theorem rep_pos {w : World} {G : Nat → Prop} {p : Pos} {v : Value} (h : Rep w G no (posP p (.lst (pcs p.ps))) v) : ∃ po c, v = .agg (p.cells po c) ∧ SlcAt w po p.ps ∧ p.ps.length ≤ c ∧ c ≤ 9223372036854775807 := by
  obtain ⟨vs, rfl, h⟩ := h
  match vs, h with
  | [a, b, c, d, e, f, g, i], h =>
    obtain ⟨⟨_, h1⟩, ⟨_, h2⟩, ⟨_, h3⟩, ⟨_, h4⟩, ⟨_, h5⟩, ⟨_, h6⟩, ⟨_, h7⟩, ⟨_, h8⟩, _⟩ := h
    obtain ⟨po, k, rfl, hS, k1, k2⟩ := rep_pcs h3
    obtain rfl : a = _ := h1
    obtain rfl : b = _ := h2
    obtain rfl : d = _ := h4
    obtain rfl : e = _ := h5
    obtain rfl : f = _ := h6
    obtain rfl : g = _ := h7
    obtain rfl : i = _ := h8
    exact ⟨po, k, rfl, hS, k1, k2⟩
  | [], h | [_], h | [_, _], h | [_, _, _], h | [_, _, _, _], h | [_, _, _, _, _], h | [_, _, _, _, _, _], h | [_, _, _, _, _, _, _], h => simp [posP, posA, RepC] at h
  | _ :: _ :: _ :: _ :: _ :: _ :: _ :: _ :: _ :: _, h => simp [posP, posA, RepC] at h
theorem pos_rep {w : World} {p : Pos} {po : Option Addr} {c : Nat} (h : SlcAt w po p.ps) (h1 : p.ps.length ≤ c) (h2 : c ≤ 9223372036854775807) : Rep w (fun b => b < w.heap.size) no (posP p (.lst (pcs p.ps))) (.agg (p.cells po c)) :=
  ⟨_, rfl, ⟨rfl, rfl⟩, ⟨rfl, rfl⟩, ⟨rfl, pcs_rep h h1 h2⟩, ⟨rfl, rfl⟩, ⟨rfl, rfl⟩, ⟨rfl, rfl⟩, ⟨rfl, rfl⟩, ⟨rfl, rfl⟩, trivial⟩
theorem rep_bd {w : World} {G : Nat → Prop} {f r : Int} {ps : List Int} {v : Value} (h : Rep w G no (bdA f r (.lst (pcs ps))) v) : ∃ po c, v = bdV f r po ps.length c ∧ SlcAt w po ps ∧ ps.length ≤ c ∧ c ≤ 9223372036854775807 := by
  obtain ⟨vs, rfl, h⟩ := h
  match vs, h with
  | [a, b, c], h =>
    obtain ⟨⟨_, h1⟩, ⟨_, h2⟩, ⟨_, h3⟩, _⟩ := h
    obtain ⟨po, k, rfl, hS, k1, k2⟩ := rep_pcs h3
    obtain rfl : a = _ := h1
    obtain rfl : b = _ := h2
    exact ⟨po, k, rfl, hS, k1, k2⟩
  | [], h | [_], h | [_, _], h => simp [bdA, RepC] at h
  | _ :: _ :: _ :: _ :: _, h => simp [bdA, RepC] at h
theorem bd_rep {w : World} {f r : Int} {ps : List Int} {po : Option Addr} {c : Nat} (h : SlcAt w po ps) (h1 : ps.length ≤ c) (h2 : c ≤ 9223372036854775807) : Rep w (fun b => b < w.heap.size) no (bdA f r (.lst (pcs ps))) (bdV f r po ps.length c) :=
  ⟨_, rfl, ⟨rfl, rfl⟩, ⟨rfl, rfl⟩, ⟨rfl, pcs_rep h h1 h2⟩, trivial⟩
end E
end Go.Proofs.YtbhienpbfidgjaaGreatDoor
