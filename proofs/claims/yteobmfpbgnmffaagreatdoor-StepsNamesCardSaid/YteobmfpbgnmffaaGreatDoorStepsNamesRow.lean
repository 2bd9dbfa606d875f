/- StepsNames holds for every input: the row's step round the walk, and its card, tied to the program's text. -/
import Derived.Test.YteobmfpbgnmffaaGreatDoorStepsNamesRowG47
import Derived.Test.YteobmfpbgnmffaaGreatDoorStepsNamesRowG05
import Derived.Test.YteobmfpbgnmffaaGreatDoorStepsNamesRowG48
import Derived.Test.YteobmfpbgnmffaaGreatDoorStepsNamesRowG06
import Derived.Test.YteobmfpbgnmffaaGreatDoorStepsNamesRowG16
import Derived.Test.YteobmfpbgnmffaaGreatDoorStepsNamesRowG15
import Derived.Test.YteobmfpbgnmffaaGreatDoorStepsNamesRowG28
import Derived.Test.YteobmfpbgnmffaaGreatDoorCards
import Derived.Test.YteobmfpbgnmffaaGreatDoorTie
import Derived.Lay
import Derived.LaidMore
import Derived.SevenTiedAt
set_option linter.unusedSimpArgs false
set_option linter.unusedVariables false
namespace Go.Proofs.YteobmfpbgnmffaaGreatDoor.stepsNamesRow
open Go.ChangeShapes Go.WideShapes Go.ChangeAt Go.RowKit
set_option linter.unusedVariables false

theorem domain_nil : Rows.stepsNamesRow.domain = [] := rfl
set_option maxRecDepth 100000 in
theorem lifted (os : Os) (started : os.Started) (H : Type) (enc : TypeId × Value → H) :
    ReturnsInHanded {} Tryz.checked os 5 .any (fun w args => (Rows.stepsNamesSpec.pre enc Tryz.prog Tryz.f5 [] false w args ∧ laidMetH Tryz.prog Rows.stepsNamesRow.laid w) ∧ sizedMet enc Tryz.prog Tryz.f5 (OpenSpec.ofChange Rows.stepsNamesSpec) false w args) (Rows.stepsNamesSpec.post enc Tryz.prog Tryz.f5 false true false false) := by
  refine returnsInHanded_of_change_and (C := Tryz.checked) (X := fun w _ => laidMetH Tryz.prog Rows.stepsNamesRow.laid w) (fun _ _ _ hh h => h.of_heap hh) own started (by kernel_rfl) Tryz.func5
    (ChangeSpec.witness_shaped (enc := enc) (C := Tryz.checked) (os := os) (X := fun w _ => laidMetH Tryz.prog Rows.stepsNamesRow.laid w) false (laidStart os) #[] 8 (laidStart_os _)
      (World.shaped_of_ZipB (by kernel_rfl) (by kernel_rfl)) (by kernel_rfl) (by kernel_rfl) (by kernel_rfl) (laidStart_met os _)) ?_
  intro W base args ds gs before hval0 hW hcnd hsz0 hL hShape
  have hsz : (DataW.weightsEach Tryz.prog (Tryz.f5.params.toList ++ Rows.stepsNamesSpec.plain.varTypes Tryz.prog) (ds ++ gs)).all (· ≤ reachBytes) = true := hsz0
  have hval : ∀ (j : Nat) t v, Tryz.f5.params[j]? = some t → args[j]? = some v → Value.okWide Tryz.prog W .any base t v := hval0
  clear hsz0
  have hW' := hW
  obtain ⟨p, q, hA0, hV, rfl, hfz, hnd⟩ := hW
  have hA : DataW.TrodAll enc Tryz.prog W 0 (fun _ => true) true Tryz.f5.params.toList args.toList ds p := hA0
  rw [Tryz.params5] at hA hval hsz
  obtain ⟨rfl, rfl, rfl⟩ := trodAll_none hA
  obtain ⟨rfl, rfl⟩ := trodVars_none hV
  clear hA0 hval0
  refine (stepsNames_row W (pkIn_of hL) ).mono fun e W' ⟨he, bel⟩ => ?_
  subst he
  exact ⟨_, rfl, _, _, _, [], _, [], hW', trodAll_mk1 (shut_bool Tryz.underlying4 _), rfl, rfl, bel.frame _, fun h => by cases h⟩

set_option maxRecDepth 100000 in
set_option maxHeartbeats 4000000 in
theorem closed : joinedFacts Tryz.prog 5 Tryz.f5 Rows.stepsNamesSpec Rows.stepsNamesRow = true := by
  unfold joinedFacts
  repeat' (with_reducible refine and_true_of ?_ ?_)
  all_goals first | (with_reducible exact mayEnter_true) | (rw [liftsFinal_no]; as_aux_lemma => kernel_rfl) | (rw [make_cut]; as_aux_lemma => kernel_rfl) | (as_aux_lemma => kernel_rfl)

theorem over : Rows.stepsNamesRow.holds Tryz.pinned (OpenSpec.ofChange Rows.stepsNamesSpec) :=
  OpenClaim.holds_of_wide 5 Tryz.f5 rfl rfl rfl rfl rfl rfl rfl ⟨rfl, rfl, rfl, rfl, rfl⟩ rfl rfl rfl rfl rfl (by kernel_rfl) Tryz.func5 closed
    (of_decide_eq_true (by kernel_rfl)) (by unfold Func.isWrapper; first | (rw [if_pos (by decide +kernel)]; kernel_rfl) | (rw [if_neg (by decide +kernel)]; exact ⟨rfl, rfl⟩))
    (fun os started H enc _ => lifted os started H enc)

/-- THE TIED CARD. -/
theorem proved : Rows.StepsNamesCardSaid :=
  Claim7.holds_tied_plain_at .later [] [.data, .mapped, .data, .pinned] true Rows.stepsNamesCard.stood.harness Rows.stepsNamesCard.stood.looks over (fun _ h => by cases h) (by kernel_rfl) (fun _ h => by cases h) stepsNames_row_tie rfl ⟨rfl, rfl⟩ mainIs_sum rfl
    (fun f fn hf hfn => by
      obtain rfl : f = 5 := Option.some.inj ((show Tryz.prog.funcNamed "chandlery/chandlerylaw30.StepsNames" = some 5 by kernel_rfl).symm.trans hf) |>.symm
      obtain rfl : fn = Tryz.f5 := (Option.some.inj (Tryz.func5.symm.trans hfn)).symm
      exact ⟨by kernel_rfl, fun j t ht => by
        rw [Tryz.params5] at ht
        simp at ht⟩)
    (by kernel_rfl)
end Go.Proofs.YteobmfpbgnmffaaGreatDoor.stepsNamesRow
