/- The card of a law: whatever the arguments, it returns true and the input reads as it did. No condition. -/
import Derived.Test.YtbhienpbfidgjaaGreatDoorJ51
import Derived.Test.YtbhienpbfidgjaaGreatDoorW9
import Derived.Test.YtbhienpbfidgjaaGreatDoorTie
import Derived.Test.YtbhienpbfidgjaaGreatDoorCards
import Derived.ProofKit
set_option linter.unusedVariables false
set_option linter.unusedSimpArgs false
set_option maxRecDepth 1000000
namespace Go.Proofs.YtbhienpbfidgjaaGreatDoor
open Go.ChangeShapes Go.WideShapes Go.ChangeAt Go.RowKit Go.ChangeMaps
theorem positionHolds_lifted (os : Os) (started : os.Started) (H : Type) (enc : TypeId × Value → H) :
    ReturnsInHanded {} Tryz.checked os 7 .any (fun w args => (Rows.positionHoldsSpec.pre enc Tryz.prog Tryz.f7 [] false w args ∧ laidMetH Tryz.prog laidL w) ∧ sizedMet enc Tryz.prog Tryz.f7 (OpenSpec.ofChange Rows.positionHoldsSpec) false w args)
      (Rows.positionHoldsSpec.post enc Tryz.prog Tryz.f7 false true false false) := by
  refine law_lifted Tryz.func7 (by kernel_rfl) ⟨_, rfl, Tryz.underlying4⟩ ?_ rfl ?_ os started
    (ChangeSpec.witness_shaped (enc := enc) (C := Tryz.checked) (os := os) (X := fun w _ => laidMetH Tryz.prog laidL w) false (startW os) #[.agg #[.int .i64 0, .int .i64 0, .slice none 0 0, .bool false, .int .u8 0, .int .i64 0, .int .i64 0, .int .i64 0], .string ⟨#[]⟩] 8 rfl (start_shaped os _) (by kernel_rfl) (by kernel_rfl) (by kernel_rfl) (start_met os _)) ?_
  · intro t ht
    have hall : ((Tryz.f7.params.toList).all fun t => Tryz.prog.readableRec t && decide (t < Tryz.prog.types.size)) = true := by kernel_rfl
    have := List.all_eq_true.1 hall t ht
    rw [Bool.and_eq_true] at this
    exact ⟨this.1, of_decide_eq_true this.2⟩
  · intro ds hd
    match ds, hd with
    | [_, _], _ => rfl
  intro W base args ds p hE hval0 hA0
  have hval : ∀ (j : Nat) t v, Tryz.f7.params[j]? = some t → args[j]? = some v → Value.okWide Tryz.prog W .any base t v := hval0
  have hA : DataW.TrodAll enc Tryz.prog W 0 (fun _ => true) true Tryz.f7.params.toList args.toList ds p := hA0
  rw [Tryz.params7] at hA hval
  obtain ⟨v0, v1, d0, d1, p0, p1, rfl, rfl, rfl, h0, h1⟩ := trodAll_two hA
  obtain ⟨q, po, cap, rfl, hS, hl1, hl2, hcs⟩ := pos_open (hval 0 _ v0 rfl rfl) h0
  obtain ⟨t, rfl, rfl, rfl, ht⟩ := open_string Tryz.underlying9 (hval 1 _ v1 rfl rfl) h1
  clear hA0 hval0
  exact E.posholds_law libs W hE q po cap t hcs hS hl1 hl2
set_option maxHeartbeats 8000000 in
theorem positionHolds_facts : joinedFacts Tryz.prog 7 Tryz.f7 Rows.positionHoldsSpec Rows.positionHoldsRow = true :=
  facts_of (by as_aux_lemma => kernel_rfl) fa_laid fa_maps (by as_aux_lemma => kernel_rfl) (by as_aux_lemma => kernel_rfl) (by as_aux_lemma => kernel_rfl) fa_stops (by as_aux_lemma => kernel_rfl) fa_knobs
    (by as_aux_lemma => kernel_rfl) (by as_aux_lemma => kernel_rfl) (by as_aux_lemma => kernel_rfl) (by as_aux_lemma => kernel_rfl) (by as_aux_lemma => kernel_rfl) (by as_aux_lemma => kernel_rfl) (by as_aux_lemma => kernel_rfl)
    (by as_aux_lemma => kernel_rfl) (by as_aux_lemma => kernel_rfl) (by as_aux_lemma => kernel_rfl) (by as_aux_lemma => kernel_rfl) (by as_aux_lemma => kernel_rfl) (by as_aux_lemma => kernel_rfl)
    fa_plain (by as_aux_lemma => kernel_rfl) fa_heard fa_enter fa_lifted fa_make (by as_aux_lemma => kernel_rfl) fa_pinned (by as_aux_lemma => kernel_rfl) (by as_aux_lemma => kernel_rfl)
theorem positionHolds_named : Tryz.prog.funcNamed Rows.positionHoldsRow.func = some 7 := by kernel_rfl
theorem positionHolds_inst : Tryz.f7.isInstance Tryz.prog Rows.positionHoldsRow.origin Rows.positionHoldsRow.targs := of_decide_eq_true (by kernel_rfl)
theorem positionHolds_wrap : Tryz.f7.isWrapper Tryz.prog Rows.positionHoldsRow.wrapper Rows.positionHoldsRow.mainSum := by unfold Func.isWrapper; first | (rw [if_pos (by decide +kernel)]; kernel_rfl) | (rw [if_neg (by decide +kernel)]; exact ⟨rfl, rfl⟩)
theorem positionHolds_form {H : Type} (enc : TypeId × Value → H) : Rows.positionHoldsRow.pre enc Tryz.prog Tryz.f7 (OpenSpec.ofChange Rows.positionHoldsSpec) = (fun w args => (Rows.positionHoldsSpec.pre enc Tryz.prog Tryz.f7 [] false w args ∧ laidMetH Tryz.prog laidL w) ∧ sizedMet enc Tryz.prog Tryz.f7 (OpenSpec.ofChange Rows.positionHoldsSpec) false w args) := rfl
theorem positionHolds_holds : Rows.PositionHoldsSaid :=
  OpenClaim.holds_of_wide (p := Tryz.pinned) (s := Rows.positionHoldsSpec) (c := Rows.positionHoldsRow) 7 Tryz.f7 rfl rfl rfl rfl rfl rfl rfl ⟨rfl, rfl, rfl, rfl, rfl⟩ rfl rfl rfl rfl rfl positionHolds_named Tryz.func7 positionHolds_facts positionHolds_inst positionHolds_wrap
    (fun os started H enc _ => (congrArg (fun X => ReturnsInHanded {} Tryz.checked os 7 .any X (Rows.positionHoldsSpec.post enc Tryz.prog Tryz.f7 false true false false)) (positionHolds_form enc)).mpr (positionHolds_lifted os started H enc))
theorem positionHolds_card : Rows.PositionHoldsCardSaid :=
  Claim7.holds_tied_plain_at .later [] [.data, .data, .data, .data, .data, .widerDeep, .widerDeep, .widerDeep, .sentinel, .sentinel, .data, .pinned] true Rows.positionHoldsCard.stood.harness true
    positionHolds_holds (fun _ h => by cases h) (by kernel_rfl) (fun _ h => by cases h) positionHolds_row_tie rfl ⟨rfl, rfl⟩ (by kernel_rfl) rfl
    (fun f fn hf hfn => by
      obtain rfl : f = 7 := Option.some.inj ((show Tryz.prog.funcNamed Rows.positionHoldsRow.func = some 7 by kernel_rfl).symm.trans hf) |>.symm
      obtain rfl : fn = Tryz.f7 := (Option.some.inj (Tryz.func7.symm.trans hfn)).symm
      exact ⟨by kernel_rfl, fun j t ht => by
        rw [Tryz.params7] at ht
        have hm : t ∈ Tryz.f7.params.toList := by rw [Tryz.params7]; simpa using Array.mem_of_getElem? ht
        have hall : ((Tryz.f7.params.toList).all fun u => !Tryz.prog.wantsStandIn u) = true := by kernel_rfl
        exact (show Tryz.prog.wantsStandIn t = false by simpa using List.all_eq_true.1 hall t hm)⟩)
    (by kernel_rfl)
#print axioms positionHolds_card
end Go.Proofs.YtbhienpbfidgjaaGreatDoor
