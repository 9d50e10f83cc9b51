/- The law on copies returns true, whatever the control and the calls; the input reads as it did. No condition. -/
import Derived.Test.YtgigehlflgcdpaaRows
import Derived.Test.YtgigehlflgcdpaaZ3
import Derived.ProofKit
set_option linter.unusedVariables false
set_option linter.unusedSimpArgs false
namespace Go.Proofs.Ytgigehlflgcdpaa
open Go.ChangeShapes Go.WideShapes Go.ChangeAt Go.RowKit

theorem Try.own : ownKnob Try.prog.godebug = none := by kernel_rfl
theorem Try.laidOut : laidOutB Try.prog = true := by kernel_rfl
theorem copies_law {w : World} {k : Int} {ps : List Per} {po : Option Addr} {pn : Nat} (pcap : Nat) (o1 : Option Addr) (n1 d1 : Nat) (o2 : Option Addr) (n2 d2 : Nat) (o3 : Option Addr) (n3 d3 : Nat) (a1 a2 a3 : Nat → Int × Int × Int × Int) (hC : CtlArg w k ps po pn)
    (ho1 : n1 = 0 ∨ ∃ ab aoff, o1 = some ⟨ab, aoff, none⟩ ∧ ∀ i, i < n1 → ActAt w ab aoff i (a1 i)) (ho2 : n2 = 0 ∨ ∃ ab aoff, o2 = some ⟨ab, aoff, none⟩ ∧ ∀ i, i < n2 → ActAt w ab aoff i (a2 i)) (ho3 : n3 = 0 ∨ ∃ ab aoff, o3 = some ⟨ab, aoff, none⟩ ∧ ∀ i, i < n3 → ActAt w ab aoff i (a3 i)) :
    Calls Try.prog 6 #[.agg #[.int .i64 k, .slice po pn pcap], .slice o1 n1 d1, .slice o2 n2 d2, .slice o3 n3 d3] w fun e w' => e = .returned (.bool true) ∧ Below w.heap.size w w' := by
  by_cases hn : 15 < n1 ∨ 15 < n2 ∨ 15 < n3
  · exact copies_many k po pn pcap o1 n1 d1 o2 n2 d2 o3 n3 d3 hn
  · cases hv : vld k ps
    · exact copies_bad k ps po pn pcap o1 n1 d1 o2 n2 d2 o3 n3 d3 (by omega) (by omega) (by omega) hC hv
    · obtain ⟨rfl, h⟩ := hC
      rcases h with h | ⟨pb, off, rfl, hp⟩
      · have : ps = [] := List.eq_nil_of_length_eq_zero h
        subst this
        simp [vld, hdr] at hv
      · exact copies_main k ps pb off pcap o1 n1 d1 o2 n2 d2 o3 n3 d3 a1 a2 a3 (by omega) (by omega) (by omega) hp hv ho1 ho2 ho3
set_option maxRecDepth 100000 in
theorem copies_lifted (os : Os) (started : os.Started) (H : Type) (enc : TypeId × Value → H) :
    ReturnsInHanded {} Try.checked os 6 .any (Rows.clockCopiesSpec.pre6 enc Try.prog Try.f6 Rows.clockCopiesRow.domain false) (Rows.clockCopiesSpec.post enc Try.prog Try.f6 false true false false) := by
  refine returnsInHanded_of_change (C := Try.checked) Try.own started (by kernel_rfl) Try.func6
    (ChangeSpec.witness6 (enc := enc) (C := Try.checked) false ⟨#[], #[.agg #[.int .i64 0, .slice none 0 0], .slice none 0 0, .slice none 0 0, .slice none 0 0], []⟩ 8 (by kernel_rfl) (by kernel_rfl) (by kernel_rfl) (by kernel_rfl)) ?_
  intro W base args ds gs before hval0 hW hcnd _
  have hval : ∀ (j : Nat) t v, Try.f6.params[j]? = some t → args[j]? = some v → Value.okWide Try.prog W .any base t v := hval0
  have hW' := hW
  obtain ⟨p, q, hA0, hV, rfl, hfz, hnd⟩ := hW
  have hA : DataW.TrodAll enc Try.prog W 0 (fun _ => true) true Try.f6.params.toList args.toList ds p := hA0
  rw [Try.params6] at hA hval
  obtain ⟨v0, v1, v2, v3, d0, d1, d2, d3, p0, p1, p2, p3, rfl, rfl, rfl, h0, h1, h2, h3⟩ := trodAll_four hA
  obtain ⟨rfl, rfl⟩ := trodVars_none hV
  have k0 := h0
  have k1 := h1
  have k2 := h2
  have k3 := h3
  obtain ⟨k, ps, po, pn, pcap, rfl, hC, _⟩ := ctl_open (hval 0 25 v0 rfl rfl) h0
  obtain ⟨a1, o1, n1, c1, rfl, ho1, _⟩ := acts_open (hval 1 52 v1 rfl rfl) h1
  obtain ⟨a2, o2, n2, c2, rfl, ho2, _⟩ := acts_open (hval 2 52 v2 rfl rfl) h2
  obtain ⟨a3, o3, n3, c3, rfl, ho3, _⟩ := acts_open (hval 3 52 v3 rfl rfl) h3
  have hlt0 : ∀ x ∈ p0, x.block < W.heap.size := fun x hx => hW'.lt x (by simp [hx])
  have hlt1 : ∀ x ∈ p1, x.block < W.heap.size := fun x hx => hW'.lt x (by simp [hx])
  have hlt2 : ∀ x ∈ p2, x.block < W.heap.size := fun x hx => hW'.lt x (by simp [hx])
  have hlt3 : ∀ x ∈ p3, x.block < W.heap.size := fun x hx => hW'.lt x (by simp [hx])
  clear hA0 hval0
  refine (copies_law pcap o1 n1 c1 o2 n2 c2 o3 n3 c3 a1 a2 a3 hC ho1 ho2 ho3).mono fun e W' ⟨he, hw⟩ => ?_
  subst he
  refine ⟨_, rfl, _, _, _, [], p0 ++ (p1 ++ (p2 ++ p3)), [], hW', ?_, ?_, rfl, hw.frame _, fun h => by cases h⟩
  · exact trodAll_mk1 (shut_bool Try.underlying4 true)
  · exact trodAll_mk4 (Below.trod Try.laidOut (by kernel_rfl) (of_decide_eq_true (by kernel_rfl)) k0 hw hlt0) (Below.trod Try.laidOut (by kernel_rfl) (of_decide_eq_true (by kernel_rfl)) k1 hw hlt1) (Below.trod Try.laidOut (by kernel_rfl) (of_decide_eq_true (by kernel_rfl)) k2 hw hlt2) (Below.trod Try.laidOut (by kernel_rfl) (of_decide_eq_true (by kernel_rfl)) k3 hw hlt3)
theorem copies_holds : Rows.ClockCopiesSaid :=
  OpenClaim.holds_of_wide 6 Try.f6 rfl rfl rfl rfl rfl rfl rfl ⟨rfl, rfl, rfl, rfl, rfl⟩ rfl rfl rfl rfl rfl (by kernel_rfl) Try.func6 (by kernel_rfl)
    (of_decide_eq_true (by kernel_rfl)) (by unfold Func.isWrapper; first | (rw [if_pos (by decide +kernel)]; kernel_rfl) | (rw [if_neg (by decide +kernel)]; exact ⟨rfl, rfl⟩))
    (fun os started H enc _ => copies_lifted os started H enc)
#print axioms copies_holds
end Go.Proofs.Ytgigehlflgcdpaa
