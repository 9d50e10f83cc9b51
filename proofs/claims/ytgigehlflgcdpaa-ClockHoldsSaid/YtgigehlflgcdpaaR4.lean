/- The law on waits before presses returns true, whatever the control, the waits and the two numbers; the input reads as it did. No condition. -/
import Derived.Test.YtgigehlflgcdpaaRows
import Derived.Test.YtgigehlflgcdpaaZ4
import Derived.ProofKit
set_option linter.unusedVariables false
set_option linter.unusedSimpArgs false
namespace Go.Proofs.Ytgigehlflgcdpaa
open Go.ChangeShapes Go.WideShapes Go.ChangeAt Go.RowKit

theorem Try.own : ownKnob Try.prog.godebug = none := by kernel_rfl
theorem Try.laidOut : laidOutB Try.prog = true := by kernel_rfl
theorem holds_law {w : World} {k : Int} {ps : List Per} {po : Option Addr} {pn : Nat} (pcap : Nat) (o : Option Addr) (n cap : Nat) (us : Nat → Int) (one two : Int) (hC : CtlArg w k ps po pn)
    (ho : n = 0 ∨ ∃ wb woff, o = some ⟨wb, woff, none⟩ ∧ ∀ i, i < n → w.cell? ⟨wb, woff + i, none⟩ = some (.int .u16 (us i))) (hu : ∀ i, i < n → 0 ≤ us i ∧ us i ≤ 65535) (h1 : 0 ≤ one ∧ one ≤ 65535) (h2 : 0 ≤ two ∧ two ≤ 65535) :
    Calls Try.prog 4 #[.agg #[.int .i64 k, .slice po pn pcap], .slice o n cap, .int .u16 one, .int .u16 two] w fun e w' => e = .returned (.bool true) ∧ Below w.heap.size w w' := by
  by_cases hn : 20 < n
  · exact holds_many k po pn pcap o n cap one two hn
  · cases hv : vld k ps
    · exact holds_bad k ps po pn pcap o n cap one two (by omega) hC hv
    · obtain ⟨rfl, h⟩ := hC
      rcases h with h | ⟨pb, off, rfl, hp⟩
      · have : ps = [] := List.eq_nil_of_length_eq_zero h
        subst this
        simp [vld, hdr] at hv
      · exact holds_main k ps pb off pcap o n cap us one two (by omega) hp hv ho hu h1 h2
theorem wf16 {n : Int} (h : (Lit.int .u16 n).wf = true) : 0 ≤ n ∧ n ≤ 65535 := by
  have h' : (decide (0 ≤ n) && decide (n ≤ 65535)) = true := h
  simpa using h'
set_option maxRecDepth 100000 in
theorem holds_lifted (os : Os) (started : os.Started) (H : Type) (enc : TypeId × Value → H) :
    ReturnsInHanded {} Try.checked os 4 .any (Rows.clockHoldsSpec.pre6 enc Try.prog Try.f4 Rows.clockHoldsRow.domain false) (Rows.clockHoldsSpec.post enc Try.prog Try.f4 false true false false) := by
  refine returnsInHanded_of_change (C := Try.checked) Try.own started (by kernel_rfl) Try.func4
    (ChangeSpec.witness6 (enc := enc) (C := Try.checked) false ⟨#[], #[.agg #[.int .i64 0, .slice none 0 0], .slice none 0 0, .int .u16 0, .int .u16 0], []⟩ 8 (by kernel_rfl) (by kernel_rfl) (by kernel_rfl) (by kernel_rfl)) ?_
  intro W base args ds gs before hval0 hW hcnd _
  have hval : ∀ (j : Nat) t v, Try.f4.params[j]? = some t → args[j]? = some v → Value.okWide Try.prog W .any base t v := hval0
  have hW' := hW
  obtain ⟨p, q, hA0, hV, rfl, hfz, hnd⟩ := hW
  have hA : DataW.TrodAll enc Try.prog W 0 (fun _ => true) true Try.f4.params.toList args.toList ds p := hA0
  rw [Try.params4] at hA hval
  obtain ⟨v0, v1, v2, v3, d0, d1, d2, d3, p0, p1, p2, p3, rfl, rfl, rfl, h0, h1, h2, h3⟩ := trodAll_four hA
  obtain ⟨rfl, rfl⟩ := trodVars_none hV
  have k0 := h0
  have k1 := h1
  obtain ⟨k, ps, po, pn, pcap, rfl, hC, _⟩ := ctl_open (hval 0 25 v0 rfl rfl) h0
  obtain ⟨us, o, n, cap, rfl, ho, hu, _⟩ := u16s_open (hval 1 43 v1 rfl rfl) h1
  obtain ⟨a, rfl, rfl, rfl, wa⟩ := open_int Try.underlying44 (hval 2 44 v2 rfl rfl) h2
  obtain ⟨b, rfl, rfl, rfl, wb⟩ := open_int Try.underlying44 (hval 3 44 v3 rfl rfl) h3
  have hlt0 : ∀ x ∈ p0, x.block < W.heap.size := fun x hx => hW'.lt x (by simp [hx])
  have hlt1 : ∀ x ∈ p1, x.block < W.heap.size := fun x hx => hW'.lt x (by simp [hx])
  clear hA0 hval0
  refine (holds_law pcap o n cap us a b hC ho hu (wf16 wa) (wf16 wb)).mono fun e W' ⟨he, hw⟩ => ?_
  subst he
  refine ⟨_, rfl, _, _, _, [], p0 ++ (p1 ++ ([] ++ [])), [], hW', ?_, ?_, rfl, hw.frame _, fun h => by cases h⟩
  · exact trodAll_mk1 (shut_bool Try.underlying4 true)
  · exact trodAll_mk4 (Below.trod Try.laidOut (by kernel_rfl) (of_decide_eq_true (by kernel_rfl)) k0 hw hlt0) (Below.trod Try.laidOut (by kernel_rfl) (of_decide_eq_true (by kernel_rfl)) k1 hw hlt1) (shut_int Try.underlying44 wa) (shut_int Try.underlying44 wb)
theorem holds_holds : Rows.ClockHoldsSaid :=
  OpenClaim.holds_of_wide 4 Try.f4 rfl rfl rfl rfl rfl rfl rfl ⟨rfl, rfl, rfl, rfl, rfl⟩ rfl rfl rfl rfl rfl (by kernel_rfl) Try.func4 (by kernel_rfl)
    (of_decide_eq_true (by kernel_rfl)) (by unfold Func.isWrapper; first | (rw [if_pos (by decide +kernel)]; kernel_rfl) | (rw [if_neg (by decide +kernel)]; exact ⟨rfl, rfl⟩))
    (fun os started H enc _ => holds_lifted os started H enc)
#print axioms holds_holds
end Go.Proofs.Ytgigehlflgcdpaa
