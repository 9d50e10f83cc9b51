/- The card of a law: whatever the arguments, it returns true and the input reads as it did. No condition. -/
import Derived.Test.YtbhienpbfidgjaaGreatDoorJ51
import Derived.Test.YtbhienpbfidgjaaGreatDoorW9
import Derived.Test.YtbhienpbfidgjaaGreatDoorJ52
import Derived.Test.YtbhienpbfidgjaaGreatDoorTie
import Derived.Test.YtbhienpbfidgjaaGreatDoorCards
import Derived.ProofKit
set_option linter.unusedVariables false
set_option linter.unusedSimpArgs false
set_option maxRecDepth 1000000
namespace Go.Proofs.YtbhienpbfidgjaaGreatDoor
open Go.ChangeShapes Go.WideShapes Go.ChangeAt Go.RowKit Go.ChangeMaps
theorem positionOf_lifted (os : Os) (started : os.Started) (H : Type) (enc : TypeId × Value → H) :
    ReturnsInHanded {} Tryz.checked os 6 .any (fun w args => (Rows.positionOfSpec.pre enc Tryz.prog Tryz.f6 [] false w args ∧ laidMetH Tryz.prog laidL w) ∧ sizedMet enc Tryz.prog Tryz.f6 (OpenSpec.ofChange Rows.positionOfSpec) false w args)
      (Rows.positionOfSpec.post enc Tryz.prog Tryz.f6 false true false false) := by
  refine law_lifted Tryz.func6 (by kernel_rfl) ⟨_, rfl, Tryz.underlying4⟩ ?_ rfl ?_ os started
    (ChangeSpec.witness_shaped (enc := enc) (C := Tryz.checked) (os := os) (X := fun w _ => laidMetH Tryz.prog laidL w) false (startW os) #[.agg #[.int .i64 0, .int .i64 0, .slice none 0 0, .bool false, .int .u8 0, .int .i64 0, .int .i64 0, .int .i64 0], .agg #[.int .i64 0, .int .i64 0, .slice none 0 0], .bool false] 8 rfl (start_shaped os _) (by kernel_rfl) (by kernel_rfl) (by kernel_rfl) (start_met os _)) ?_
  · intro t ht
    have hall : ((Tryz.f6.params.toList).all fun t => Tryz.prog.readableRec t && decide (t < Tryz.prog.types.size)) = true := by kernel_rfl
    have := List.all_eq_true.1 hall t ht
    rw [Bool.and_eq_true] at this
    exact ⟨this.1, of_decide_eq_true this.2⟩
  · intro ds hd
    match ds, hd with
    | [_, _, _], _ => rfl
  intro W base args ds p hE hval0 hA0
  have hval : ∀ (j : Nat) t v, Tryz.f6.params[j]? = some t → args[j]? = some v → Value.okWide Tryz.prog W .any base t v := hval0
  have hA : DataW.TrodAll enc Tryz.prog W 0 (fun _ => true) true Tryz.f6.params.toList args.toList ds p := hA0
  rw [Tryz.params6] at hA hval
  obtain ⟨v0, v1, v2, d0, d1, d2, p0, p1, p2, rfl, rfl, rfl, h0, h1, h2⟩ := trodAll_three hA
  obtain ⟨p, po, c1, rfl, hS1, hl1, hl2, _⟩ := pos_open (hval 0 _ v0 rfl rfl) h0
  obtain ⟨f, r, ps, qo, c2, rfl, hS2, hl3, hl4⟩ := bd_open (hval 1 _ v1 rfl rfl) h1
  obtain ⟨b, rfl, rfl, rfl⟩ := open_bool Tryz.underlying4 (hval 2 _ v2 rfl rfl) h2
  clear hA0 hval0
  exact E.posof_law libs W hE p po c1 f r ps qo c2 b hS1 hl1 hl2 hS2 hl3 hl4
set_option maxHeartbeats 8000000 in
theorem positionOf_facts : joinedFacts Tryz.prog 6 Tryz.f6 Rows.positionOfSpec Rows.positionOfRow = true :=
  facts_of (by as_aux_lemma => kernel_rfl) fa_laid fa_maps (by as_aux_lemma => kernel_rfl) (by as_aux_lemma => kernel_rfl) (by as_aux_lemma => kernel_rfl) fa_stops (by as_aux_lemma => kernel_rfl) fa_knobs
    (by as_aux_lemma => kernel_rfl) (by as_aux_lemma => kernel_rfl) (by as_aux_lemma => kernel_rfl) (by as_aux_lemma => kernel_rfl) (by as_aux_lemma => kernel_rfl) (by as_aux_lemma => kernel_rfl) (by as_aux_lemma => kernel_rfl)
    (by as_aux_lemma => kernel_rfl) (by as_aux_lemma => kernel_rfl) (by as_aux_lemma => kernel_rfl) (by as_aux_lemma => kernel_rfl) (by as_aux_lemma => kernel_rfl) (by as_aux_lemma => kernel_rfl)
    fa_plain (by as_aux_lemma => kernel_rfl) fa_heard fa_enter fa_lifted fa_make (by as_aux_lemma => kernel_rfl) fa_pinned (by as_aux_lemma => kernel_rfl) (by as_aux_lemma => kernel_rfl)
theorem positionOf_named : Tryz.prog.funcNamed Rows.positionOfRow.func = some 6 := by kernel_rfl
theorem positionOf_inst : Tryz.f6.isInstance Tryz.prog Rows.positionOfRow.origin Rows.positionOfRow.targs := of_decide_eq_true (by kernel_rfl)
theorem positionOf_wrap : Tryz.f6.isWrapper Tryz.prog Rows.positionOfRow.wrapper Rows.positionOfRow.mainSum := by unfold Func.isWrapper; first | (rw [if_pos (by decide +kernel)]; kernel_rfl) | (rw [if_neg (by decide +kernel)]; exact ⟨rfl, rfl⟩)
theorem positionOf_form {H : Type} (enc : TypeId × Value → H) : Rows.positionOfRow.pre enc Tryz.prog Tryz.f6 (OpenSpec.ofChange Rows.positionOfSpec) = (fun w args => (Rows.positionOfSpec.pre enc Tryz.prog Tryz.f6 [] false w args ∧ laidMetH Tryz.prog laidL w) ∧ sizedMet enc Tryz.prog Tryz.f6 (OpenSpec.ofChange Rows.positionOfSpec) false w args) := rfl
theorem positionOf_holds : Rows.PositionOfSaid :=
  OpenClaim.holds_of_wide (p := Tryz.pinned) (s := Rows.positionOfSpec) (c := Rows.positionOfRow) 6 Tryz.f6 rfl rfl rfl rfl rfl rfl rfl ⟨rfl, rfl, rfl, rfl, rfl⟩ rfl rfl rfl rfl rfl positionOf_named Tryz.func6 positionOf_facts positionOf_inst positionOf_wrap
    (fun os started H enc _ => (congrArg (fun X => ReturnsInHanded {} Tryz.checked os 6 .any X (Rows.positionOfSpec.post enc Tryz.prog Tryz.f6 false true false false)) (positionOf_form enc)).mpr (positionOf_lifted os started H enc))
theorem positionOf_card : Rows.PositionOfCardSaid :=
  Claim7.holds_tied_plain_at .later [] [.data, .data, .data, .data, .data, .widerDeep, .widerDeep, .widerDeep, .sentinel, .sentinel, .data, .pinned] true Rows.positionOfCard.stood.harness true
    positionOf_holds (fun _ h => by cases h) (by kernel_rfl) (fun _ h => by cases h) positionOf_row_tie rfl ⟨rfl, rfl⟩ (by kernel_rfl) rfl
    (fun f fn hf hfn => by
      obtain rfl : f = 6 := Option.some.inj ((show Tryz.prog.funcNamed Rows.positionOfRow.func = some 6 by kernel_rfl).symm.trans hf) |>.symm
      obtain rfl : fn = Tryz.f6 := (Option.some.inj (Tryz.func6.symm.trans hfn)).symm
      exact ⟨by kernel_rfl, fun j t ht => by
        rw [Tryz.params6] at ht
        have hm : t ∈ Tryz.f6.params.toList := by rw [Tryz.params6]; simpa using Array.mem_of_getElem? ht
        have hall : ((Tryz.f6.params.toList).all fun u => !Tryz.prog.wantsStandIn u) = true := by kernel_rfl
        exact (show Tryz.prog.wantsStandIn t = false by simpa using List.all_eq_true.1 hall t hm)⟩)
    (by kernel_rfl)
#print axioms positionOf_card
end Go.Proofs.YtbhienpbfidgjaaGreatDoor
