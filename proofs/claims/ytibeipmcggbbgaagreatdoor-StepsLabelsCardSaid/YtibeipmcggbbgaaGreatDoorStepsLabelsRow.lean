/- StepsLabels holds for every input: the row's step round the walk, and its card, tied to the program's text. -/
import Derived.Test.YtibeipmcggbbgaaGreatDoorStepsLabelsW
import Derived.Test.YtibeipmcggbbgaaGreatDoorStepsThereRowG05
import Derived.Test.YtibeipmcggbbgaaGreatDoorStepsThereRowG48
import Derived.Test.YtibeipmcggbbgaaGreatDoorStepsThereRowG43
import Derived.Test.YtibeipmcggbbgaaGreatDoorCards
import Derived.Test.YtibeipmcggbbgaaGreatDoorTie
import Derived.Lay
import Derived.LaidMore
import Derived.SevenTiedAt
namespace Go.Proofs.YtibeipmcggbbgaaGreatDoor.stepsLabelsRow
open Go.ChangeShapes Go.WideShapes Go.ChangeAt Go.RowKit
set_option linter.unusedVariables false

theorem domain_nil : Rows.stepsLabelsRow.domain = [] := rfl
set_option maxRecDepth 100000 in
theorem lifted (os : Os) (started : os.Started) (H : Type) (enc : TypeId × Value → H) :
    ReturnsInHanded {} Tryz.checked os 7 .any (fun w args => (Rows.stepsLabelsSpec.pre enc Tryz.prog Tryz.f7 [] false w args ∧ laidMetH Tryz.prog Rows.stepsLabelsRow.laid w) ∧ sizedMet enc Tryz.prog Tryz.f7 (OpenSpec.ofChange Rows.stepsLabelsSpec) false w args) (Rows.stepsLabelsSpec.post enc Tryz.prog Tryz.f7 false true false false) := by
  refine returnsInHanded_of_change_and (C := Tryz.checked) (X := fun w _ => laidMetH Tryz.prog Rows.stepsLabelsRow.laid w) (fun _ _ _ hh h => h.of_heap hh) own started (by kernel_rfl) Tryz.func7
    (ChangeSpec.witness_shaped (enc := enc) (C := Tryz.checked) (os := os) (X := fun w _ => laidMetH Tryz.prog Rows.stepsLabelsRow.laid w) false (laidStart os) #[.slice none 0 0, .slice none 0 0, .slice none 0 0] 8 (laidStart_os _)
      (World.shaped_of_ZipB (by kernel_rfl) (by kernel_rfl)) (by kernel_rfl) (by kernel_rfl) (by kernel_rfl) (laidStart_met os _)) ?_
  intro W base args ds gs before hval0 hW hcnd hsz0 hL hShape
  have hsz : (DataW.weightsEach Tryz.prog (Tryz.f7.params.toList ++ Rows.stepsLabelsSpec.plain.varTypes Tryz.prog) (ds ++ gs)).all (· ≤ reachBytes) = true := hsz0
  have hval : ∀ (j : Nat) t v, Tryz.f7.params[j]? = some t → args[j]? = some v → Value.okWide Tryz.prog W .any base t v := hval0
  clear hsz0
  have hW' := hW
  obtain ⟨p, q, hA0, hV, rfl, hfz, hnd⟩ := hW
  have hA : DataW.TrodAll enc Tryz.prog W 0 (fun _ => true) true Tryz.f7.params.toList args.toList ds p := hA0
  rw [Tryz.params7] at hA hval hsz
  obtain ⟨v0, vs0, d0, ds0, p0, q0, hargs, rfl, rfl, h0, r0⟩ := trodAll_cons hA
  obtain ⟨v1, vs1, d1, ds1, p1, q1, rfl, rfl, rfl, h1, r1⟩ := trodAll_cons r0
  obtain ⟨v2, vs2, d2, ds2, p2, q2, rfl, rfl, rfl, h2, r2⟩ := trodAll_cons r1
  obtain ⟨rfl, rfl, rfl⟩ := trodAll_nil r2
  obtain rfl : args = #[v0, v1, v2] := by cases args; simp_all
  obtain ⟨rfl, rfl⟩ := trodVars_none hV
  have k0 := h0
  have lt0 : ∀ x ∈ p0, x.block < W.heap.size := by obtain ⟨m, hm⟩ := k0; exact DataW.trod_lt m _ _ _ hm
  have k1 := h1
  have lt1 : ∀ x ∈ p1, x.block < W.heap.size := by obtain ⟨m, hm⟩ := k1; exact DataW.trod_lt m _ _ _ hm
  have k2 := h2
  have lt2 : ∀ x ∈ p2, x.block < W.heap.size := by obtain ⟨m, hm⟩ := k2; exact DataW.trod_lt m _ _ _ hm
  have z0 : ∀ m ∈ d0.weights Tryz.prog 40, m ≤ reachBytes := fun m hm => of_decide_eq_true (List.all_eq_true.1 hsz _ (DataW.weights_mem_each (j := 0) rfl rfl _ hm))
  obtain ⟨A0, c0, l0, rfl, w0, x0⟩ := arg_repos Tryz.underlying40 Tryz.underlying66 rfl Tryz.underlying41 Tryz.underlying3 (by kernel_rfl) (by rw [show Tryz.prog.bytesOf 28 = 296 by kernel_rfl]; decide) (fun m cs x h => trod_pkK Tryz.underlying28 rfl Tryz.underlying24 Tryz.underlying26 (by kernel_rfl) Tryz.underlying39 rfl Tryz.underlying25 Tryz.underlying37 rfl Tryz.underlying23 rfl Tryz.underlying3 Tryz.underlying9 Tryz.underlying5 (by kernel_rfl) (by kernel_rfl) h) z0 (hval 0 40 v0 rfl rfl) h0
  obtain ⟨A1, c1, l1, rfl, w1, x1, _⟩ := arg_pks Tryz.underlying41 (by kernel_rfl) (fun m cs x h => trod_pkK Tryz.underlying28 rfl Tryz.underlying24 Tryz.underlying26 (by kernel_rfl) Tryz.underlying39 rfl Tryz.underlying25 Tryz.underlying37 rfl Tryz.underlying23 rfl Tryz.underlying3 Tryz.underlying9 Tryz.underlying5 (by kernel_rfl) (by kernel_rfl) h) (hval 1 41 v1 rfl rfl) h1
  have z2 : ∀ m ∈ d2.weights Tryz.prog 42, m ≤ reachBytes := fun m hm => of_decide_eq_true (List.all_eq_true.1 hsz _ (DataW.weights_mem_each (j := 2) rfl rfl _ hm))
  obtain ⟨A2, c2, l2, rfl, w2⟩ := arg_ints Tryz.underlying42 Tryz.underlying3 (by kernel_rfl) (by rw [show Tryz.prog.bytesOf 3 = 8 by kernel_rfl]; decide) z2 (hval 2 42 v2 rfl rfl) h2
  clear hA0 hval0
  refine (stepsLabels_row W (pkIn_of hL) A0 c0 l0 w0 x0 A1 c1 l1 w1 x1 A2 c2 l2 w2).mono fun e W' ⟨he, bel⟩ => ?_
  subst he
  exact ⟨_, rfl, _, _, _, [], _, [], hW', trodAll_mk1 (shut_bool Tryz.underlying4 _), (trodAll_cons_mk (Below.trod laidOut (by kernel_rfl) (of_decide_eq_true (by kernel_rfl)) k0 bel lt0) (trodAll_cons_mk (Below.trod laidOut (by kernel_rfl) (of_decide_eq_true (by kernel_rfl)) k1 bel lt1) (trodAll_cons_mk (Below.trod laidOut (by kernel_rfl) (of_decide_eq_true (by kernel_rfl)) k2 bel lt2) trodAll_mk0))), rfl, bel.frame _, fun h => by cases h⟩

set_option maxRecDepth 100000 in
set_option maxHeartbeats 4000000 in
theorem closed : joinedFacts Tryz.prog 7 Tryz.f7 Rows.stepsLabelsSpec Rows.stepsLabelsRow = true := by
  unfold joinedFacts
  repeat' (with_reducible refine and_true_of ?_ ?_)
  all_goals first | (with_reducible exact mayEnter_true) | (rw [liftsFinal_no]; as_aux_lemma => kernel_rfl) | (rw [make_cut]; as_aux_lemma => kernel_rfl) | (as_aux_lemma => kernel_rfl)

theorem over : Rows.stepsLabelsRow.holds Tryz.pinned (OpenSpec.ofChange Rows.stepsLabelsSpec) :=
  OpenClaim.holds_of_wide 7 Tryz.f7 rfl rfl rfl rfl rfl rfl rfl ⟨rfl, rfl, rfl, rfl, rfl⟩ rfl rfl rfl rfl rfl (by kernel_rfl) Tryz.func7 closed
    (of_decide_eq_true (by kernel_rfl)) (by unfold Func.isWrapper; first | (rw [if_pos (by decide +kernel)]; kernel_rfl) | (rw [if_neg (by decide +kernel)]; exact ⟨rfl, rfl⟩))
    (fun os started H enc _ => lifted os started H enc)

/-- THE TIED CARD. -/
theorem proved : Rows.StepsLabelsCardSaid :=
  Claim7.holds_tied_plain_at .later [] [.data, .mapped, .data, .pinned] true Rows.stepsLabelsCard.stood.harness Rows.stepsLabelsCard.stood.looks over (fun _ h => by cases h) (by kernel_rfl) (fun _ h => by cases h) stepsLabels_row_tie rfl ⟨rfl, rfl⟩ mainIs_sum rfl
    (fun f fn hf hfn => by
      obtain rfl : f = 7 := Option.some.inj ((show Tryz.prog.funcNamed "chandlery/chandlerylaw30.StepsLabels" = some 7 by kernel_rfl).symm.trans hf) |>.symm
      obtain rfl : fn = Tryz.f7 := (Option.some.inj (Tryz.func7.symm.trans hfn)).symm
      exact ⟨by kernel_rfl, fun j t ht => by
        rw [Tryz.params7] at ht
        have hm : t ∈ [40, 41, 42] := by simpa using Array.mem_of_getElem? ht
        have hall : ([40, 41, 42].all fun u => !Tryz.prog.wantsStandIn u) = true := by kernel_rfl
        exact (show Tryz.prog.wantsStandIn t = false by simpa using List.all_eq_true.1 hall t hm)⟩)
    (by kernel_rfl)
end Go.Proofs.YtibeipmcggbbgaaGreatDoor.stepsLabelsRow
