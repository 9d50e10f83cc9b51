/- The card of a law: whatever the arguments, it returns true and the input reads as it did. No condition. -/
import Derived.Test.YtbhienpbfidgjaaGreatDoorW5
import Derived.Test.YtbhienpbfidgjaaGreatDoorW9
import Derived.Test.YtbhienpbfidgjaaGreatDoorJ54
import Derived.Test.YtbhienpbfidgjaaGreatDoorTie
import Derived.Test.YtbhienpbfidgjaaGreatDoorCards
import Derived.ProofKit
set_option linter.unusedVariables false
set_option linter.unusedSimpArgs false
set_option maxRecDepth 1000000
namespace Go.Proofs.YtbhienpbfidgjaaGreatDoor
open Go.ChangeShapes Go.WideShapes Go.ChangeAt Go.RowKit Go.ChangeMaps
theorem positionEqual_lifted (os : Os) (started : os.Started) (H : Type) (enc : TypeId × Value → H) :
    ReturnsInHanded {} Tryz.checked os 8 .any (fun w args => (Rows.positionEqualSpec.pre enc Tryz.prog Tryz.f8 [] false w args ∧ laidMetH Tryz.prog laidL w) ∧ sizedMet enc Tryz.prog Tryz.f8 (OpenSpec.ofChange Rows.positionEqualSpec) false w args)
      (Rows.positionEqualSpec.post enc Tryz.prog Tryz.f8 false true false false) := by
  refine law_lifted Tryz.func8 (by kernel_rfl) ⟨_, rfl, Tryz.underlying4⟩ ?_ rfl ?_ os started
    (ChangeSpec.witness_shaped (enc := enc) (C := Tryz.checked) (os := os) (X := fun w _ => laidMetH Tryz.prog laidL w) false (startW os) #[.agg #[.int .i64 0, .int .i64 0, .slice none 0 0, .bool false, .int .u8 0, .int .i64 0, .int .i64 0, .int .i64 0], .agg #[.int .i64 0, .int .i64 0, .slice none 0 0, .bool false, .int .u8 0, .int .i64 0, .int .i64 0, .int .i64 0]] 8 rfl (start_shaped os _) (by kernel_rfl) (by kernel_rfl) (by kernel_rfl) (start_met os _)) ?_
  · intro t ht
    have hall : ((Tryz.f8.params.toList).all fun t => Tryz.prog.readableRec t && decide (t < Tryz.prog.types.size)) = true := by kernel_rfl
    have := List.all_eq_true.1 hall t ht
    rw [Bool.and_eq_true] at this
    exact ⟨this.1, of_decide_eq_true this.2⟩
  · intro ds hd
    match ds, hd with
    | [_, _], _ => rfl
  intro W base args ds p hE hval0 hA0
  have hval : ∀ (j : Nat) t v, Tryz.f8.params[j]? = some t → args[j]? = some v → Value.okWide Tryz.prog W .any base t v := hval0
  have hA : DataW.TrodAll enc Tryz.prog W 0 (fun _ => true) true Tryz.f8.params.toList args.toList ds p := hA0
  rw [Tryz.params8] at hA hval
  obtain ⟨v0, v1, d0, d1, p0, p1, rfl, rfl, rfl, h0, h1⟩ := trodAll_two hA
  obtain ⟨p, po, c1, rfl, hS1, _, _, _⟩ := pos_open (hval 0 _ v0 rfl rfl) h0
  obtain ⟨q, qo, c2, rfl, hS2, _, _, _⟩ := pos_open (hval 1 _ v1 rfl rfl) h1
  clear hA0 hval0
  exact posequal_law libs W hE p q po qo c1 c2 hS1 hS2
set_option maxHeartbeats 8000000 in
theorem positionEqual_facts : joinedFacts Tryz.prog 8 Tryz.f8 Rows.positionEqualSpec Rows.positionEqualRow = true :=
  facts_of (by as_aux_lemma => kernel_rfl) fa_laid fa_maps (by as_aux_lemma => kernel_rfl) (by as_aux_lemma => kernel_rfl) (by as_aux_lemma => kernel_rfl) fa_stops (by as_aux_lemma => kernel_rfl) fa_knobs
    (by as_aux_lemma => kernel_rfl) (by as_aux_lemma => kernel_rfl) (by as_aux_lemma => kernel_rfl) (by as_aux_lemma => kernel_rfl) (by as_aux_lemma => kernel_rfl) (by as_aux_lemma => kernel_rfl) (by as_aux_lemma => kernel_rfl)
    (by as_aux_lemma => kernel_rfl) (by as_aux_lemma => kernel_rfl) (by as_aux_lemma => kernel_rfl) (by as_aux_lemma => kernel_rfl) (by as_aux_lemma => kernel_rfl) (by as_aux_lemma => kernel_rfl)
    fa_plain (by as_aux_lemma => kernel_rfl) fa_heard fa_enter fa_lifted fa_make (by as_aux_lemma => kernel_rfl) fa_pinned (by as_aux_lemma => kernel_rfl) (by as_aux_lemma => kernel_rfl)
theorem positionEqual_named : Tryz.prog.funcNamed Rows.positionEqualRow.func = some 8 := by kernel_rfl
theorem positionEqual_inst : Tryz.f8.isInstance Tryz.prog Rows.positionEqualRow.origin Rows.positionEqualRow.targs := of_decide_eq_true (by kernel_rfl)
theorem positionEqual_wrap : Tryz.f8.isWrapper Tryz.prog Rows.positionEqualRow.wrapper Rows.positionEqualRow.mainSum := by unfold Func.isWrapper; first | (rw [if_pos (by decide +kernel)]; kernel_rfl) | (rw [if_neg (by decide +kernel)]; exact ⟨rfl, rfl⟩)
theorem positionEqual_form {H : Type} (enc : TypeId × Value → H) : Rows.positionEqualRow.pre enc Tryz.prog Tryz.f8 (OpenSpec.ofChange Rows.positionEqualSpec) = (fun w args => (Rows.positionEqualSpec.pre enc Tryz.prog Tryz.f8 [] false w args ∧ laidMetH Tryz.prog laidL w) ∧ sizedMet enc Tryz.prog Tryz.f8 (OpenSpec.ofChange Rows.positionEqualSpec) false w args) := rfl
theorem positionEqual_holds : Rows.PositionEqualSaid :=
  OpenClaim.holds_of_wide (p := Tryz.pinned) (s := Rows.positionEqualSpec) (c := Rows.positionEqualRow) 8 Tryz.f8 rfl rfl rfl rfl rfl rfl rfl ⟨rfl, rfl, rfl, rfl, rfl⟩ rfl rfl rfl rfl rfl positionEqual_named Tryz.func8 positionEqual_facts positionEqual_inst positionEqual_wrap
    (fun os started H enc _ => (congrArg (fun X => ReturnsInHanded {} Tryz.checked os 8 .any X (Rows.positionEqualSpec.post enc Tryz.prog Tryz.f8 false true false false)) (positionEqual_form enc)).mpr (positionEqual_lifted os started H enc))
/-- THE CARD -/
theorem positionEqual_card : Rows.PositionEqualCardSaid :=
  Claim7.holds_tied_plain_at .later [] [.data, .data, .data, .data, .data, .widerDeep, .widerDeep, .widerDeep, .sentinel, .sentinel, .data, .pinned] true Rows.positionEqualCard.stood.harness true
    positionEqual_holds (fun _ h => by cases h) (by kernel_rfl) (fun _ h => by cases h) positionEqual_row_tie rfl ⟨rfl, rfl⟩ (by kernel_rfl) rfl
    (fun f fn hf hfn => by
      obtain rfl : f = 8 := Option.some.inj ((show Tryz.prog.funcNamed Rows.positionEqualRow.func = some 8 by kernel_rfl).symm.trans hf) |>.symm
      obtain rfl : fn = Tryz.f8 := (Option.some.inj (Tryz.func8.symm.trans hfn)).symm
      exact ⟨by kernel_rfl, fun j t ht => by
        rw [Tryz.params8] at ht
        have hm : t ∈ Tryz.f8.params.toList := by rw [Tryz.params8]; simpa using Array.mem_of_getElem? ht
        have hall : ((Tryz.f8.params.toList).all fun u => !Tryz.prog.wantsStandIn u) = true := by kernel_rfl
        exact (show Tryz.prog.wantsStandIn t = false by simpa using List.all_eq_true.1 hall t hm)⟩)
    (by kernel_rfl)
#print axioms positionEqual_card
end Go.Proofs.YtbhienpbfidgjaaGreatDoor
