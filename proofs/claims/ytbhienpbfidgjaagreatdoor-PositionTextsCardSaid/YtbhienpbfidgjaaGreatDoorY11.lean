/- The card of a law: whatever the arguments, it returns true and the input reads as it did. No condition. -/
import Derived.Test.YtbhienpbfidgjaaGreatDoorJ51
import Derived.Test.YtbhienpbfidgjaaGreatDoorW9
import Derived.Test.YtbhienpbfidgjaaGreatDoorJ52
import Derived.Test.YtbhienpbfidgjaaGreatDoorTie
import Derived.Test.YtbhienpbfidgjaaGreatDoorCards
import Derived.ProofKit
set_option linter.unusedVariables false
set_option linter.unusedSimpArgs false
set_option maxRecDepth 1000000
namespace Go.Proofs.YtbhienpbfidgjaaGreatDoor
open Go.ChangeShapes Go.WideShapes Go.ChangeAt Go.RowKit Go.ChangeMaps
theorem positionTexts_lifted (os : Os) (started : os.Started) (H : Type) (enc : TypeId × Value → H) :
    ReturnsInHanded {} Tryz.checked os 4 .any (fun w args => (Rows.positionTextsSpec.pre enc Tryz.prog Tryz.f4 [] false w args ∧ laidMetH Tryz.prog laidL w) ∧ sizedMet enc Tryz.prog Tryz.f4 (OpenSpec.ofChange Rows.positionTextsSpec) false w args)
      (Rows.positionTextsSpec.post enc Tryz.prog Tryz.f4 false true false false) := by
  refine law_lifted Tryz.func4 (by kernel_rfl) ⟨_, rfl, Tryz.underlying4⟩ ?_ rfl ?_ os started
    (ChangeSpec.witness_shaped (enc := enc) (C := Tryz.checked) (os := os) (X := fun w _ => laidMetH Tryz.prog laidL w) false (startW os) #[.agg #[.int .i64 0, .int .i64 0, .slice none 0 0, .bool false, .int .u8 0, .int .i64 0, .int .i64 0, .int .i64 0]] 8 rfl (start_shaped os _) (by kernel_rfl) (by kernel_rfl) (by kernel_rfl) (start_met os _)) ?_
  · intro t ht
    have hall : ((Tryz.f4.params.toList).all fun t => Tryz.prog.readableRec t && decide (t < Tryz.prog.types.size)) = true := by kernel_rfl
    have := List.all_eq_true.1 hall t ht
    rw [Bool.and_eq_true] at this
    exact ⟨this.1, of_decide_eq_true this.2⟩
  · intro ds hd
    match ds, hd with
    | [_], _ => rfl
  intro W base args ds p hE hval0 hA0
  have hval : ∀ (j : Nat) t v, Tryz.f4.params[j]? = some t → args[j]? = some v → Value.okWide Tryz.prog W .any base t v := hval0
  have hA : DataW.TrodAll enc Tryz.prog W 0 (fun _ => true) true Tryz.f4.params.toList args.toList ds p := hA0
  rw [Tryz.params4] at hA hval
  obtain ⟨v0, d0, rfl, rfl, h0⟩ := trodAll_one hA
  obtain ⟨q, po, cap, rfl, hS, hl1, hl2, hcs⟩ := pos_open (hval 0 _ v0 rfl rfl) h0
  clear hA0 hval0
  exact E.postexts_law libs W hE q po cap hcs hS hl1 hl2
set_option maxHeartbeats 8000000 in
theorem positionTexts_facts : joinedFacts Tryz.prog 4 Tryz.f4 Rows.positionTextsSpec Rows.positionTextsRow = true :=
  facts_of (by as_aux_lemma => kernel_rfl) fa_laid fa_maps (by as_aux_lemma => kernel_rfl) (by as_aux_lemma => kernel_rfl) (by as_aux_lemma => kernel_rfl) fa_stops (by as_aux_lemma => kernel_rfl) fa_knobs
    (by as_aux_lemma => kernel_rfl) (by as_aux_lemma => kernel_rfl) (by as_aux_lemma => kernel_rfl) (by as_aux_lemma => kernel_rfl) (by as_aux_lemma => kernel_rfl) (by as_aux_lemma => kernel_rfl) (by as_aux_lemma => kernel_rfl)
    (by as_aux_lemma => kernel_rfl) (by as_aux_lemma => kernel_rfl) (by as_aux_lemma => kernel_rfl) (by as_aux_lemma => kernel_rfl) (by as_aux_lemma => kernel_rfl) (by as_aux_lemma => kernel_rfl)
    fa_plain (by as_aux_lemma => kernel_rfl) fa_heard fa_enter fa_lifted fa_make (by as_aux_lemma => kernel_rfl) fa_pinned (by as_aux_lemma => kernel_rfl) (by as_aux_lemma => kernel_rfl)
theorem positionTexts_named : Tryz.prog.funcNamed Rows.positionTextsRow.func = some 4 := by kernel_rfl
theorem positionTexts_inst : Tryz.f4.isInstance Tryz.prog Rows.positionTextsRow.origin Rows.positionTextsRow.targs := of_decide_eq_true (by kernel_rfl)
theorem positionTexts_wrap : Tryz.f4.isWrapper Tryz.prog Rows.positionTextsRow.wrapper Rows.positionTextsRow.mainSum := by unfold Func.isWrapper; first | (rw [if_pos (by decide +kernel)]; kernel_rfl) | (rw [if_neg (by decide +kernel)]; exact ⟨rfl, rfl⟩)
theorem positionTexts_form {H : Type} (enc : TypeId × Value → H) : Rows.positionTextsRow.pre enc Tryz.prog Tryz.f4 (OpenSpec.ofChange Rows.positionTextsSpec) = (fun w args => (Rows.positionTextsSpec.pre enc Tryz.prog Tryz.f4 [] false w args ∧ laidMetH Tryz.prog laidL w) ∧ sizedMet enc Tryz.prog Tryz.f4 (OpenSpec.ofChange Rows.positionTextsSpec) false w args) := rfl
theorem positionTexts_holds : Rows.PositionTextsSaid :=
  OpenClaim.holds_of_wide (p := Tryz.pinned) (s := Rows.positionTextsSpec) (c := Rows.positionTextsRow) 4 Tryz.f4 rfl rfl rfl rfl rfl rfl rfl ⟨rfl, rfl, rfl, rfl, rfl⟩ rfl rfl rfl rfl rfl positionTexts_named Tryz.func4 positionTexts_facts positionTexts_inst positionTexts_wrap
    (fun os started H enc _ => (congrArg (fun X => ReturnsInHanded {} Tryz.checked os 4 .any X (Rows.positionTextsSpec.post enc Tryz.prog Tryz.f4 false true false false)) (positionTexts_form enc)).mpr (positionTexts_lifted os started H enc))
theorem positionTexts_card : Rows.PositionTextsCardSaid :=
  Claim7.holds_tied_plain_at .later [] [.data, .data, .data, .data, .data, .widerDeep, .widerDeep, .widerDeep, .sentinel, .sentinel, .data, .pinned] true Rows.positionTextsCard.stood.harness true
    positionTexts_holds (fun _ h => by cases h) (by kernel_rfl) (fun _ h => by cases h) positionTexts_row_tie rfl ⟨rfl, rfl⟩ (by kernel_rfl) rfl
    (fun f fn hf hfn => by
      obtain rfl : f = 4 := Option.some.inj ((show Tryz.prog.funcNamed Rows.positionTextsRow.func = some 4 by kernel_rfl).symm.trans hf) |>.symm
      obtain rfl : fn = Tryz.f4 := (Option.some.inj (Tryz.func4.symm.trans hfn)).symm
      exact ⟨by kernel_rfl, fun j t ht => by
        rw [Tryz.params4] at ht
        have hm : t ∈ Tryz.f4.params.toList := by rw [Tryz.params4]; simpa using Array.mem_of_getElem? ht
        have hall : ((Tryz.f4.params.toList).all fun u => !Tryz.prog.wantsStandIn u) = true := by kernel_rfl
        exact (show Tryz.prog.wantsStandIn t = false by simpa using List.all_eq_true.1 hall t hm)⟩)
    (by kernel_rfl)
#print axioms positionTexts_card
end Go.Proofs.YtbhienpbfidgjaaGreatDoor
