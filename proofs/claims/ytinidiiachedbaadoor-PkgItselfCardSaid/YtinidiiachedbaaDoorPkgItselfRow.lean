/- PkgItself holds for every input: the row's step round the walk, and its card, tied to the program's text. -/
import Derived.Test.YtinidiiachedbaaDoorPkItself
import Derived.Test.YtinidiiachedbaaDoorRowOpen
import Derived.Test.YtinidiiachedbaaDoorRowLaid
import Derived.Test.YtinidiiachedbaaDoorPkLaid
import Derived.Test.YtinidiiachedbaaDoorPkArgs
import Derived.Test.YtinidiiachedbaaDoorCards
import Derived.Test.YtinidiiachedbaaDoorTie
import Derived.Test.YtinidiiachedbaaDoorEnter
import Derived.Lay
import Derived.LaidMore
import Derived.SevenTiedAt
namespace Go.Proofs.YtinidiiachedbaaDoor.pkgItselfRow
open Go.ChangeShapes Go.WideShapes Go.ChangeAt Go.RowKit
set_option linter.unusedVariables false

theorem domain_nil : Rows.pkgItselfRow.domain = [] := rfl
set_option maxRecDepth 100000 in
theorem lifted (os : Os) (started : os.Started) (H : Type) (enc : TypeId × Value → H) :
    ReturnsInHanded {} Tryd.checked os 8 .any (fun w args => (Rows.pkgItselfSpec.pre enc Tryd.prog Tryd.f8 [] false w args ∧ laidMetH Tryd.prog Rows.pkgItselfRow.laid w) ∧ sizedMet enc Tryd.prog Tryd.f8 (OpenSpec.ofChange Rows.pkgItselfSpec) false w args) (Rows.pkgItselfSpec.post enc Tryd.prog Tryd.f8 false true false false) := by
  refine returnsInHanded_of_change_and (C := Tryd.checked) (X := fun w _ => laidMetH Tryd.prog Rows.pkgItselfRow.laid w) (fun _ _ _ hh h => h.of_heap hh) own started (by kernel_rfl) Tryd.func8
    (ChangeSpec.witness_shaped (enc := enc) (C := Tryd.checked) (os := os) (X := fun w _ => laidMetH Tryd.prog Rows.pkgItselfRow.laid w) false (laidStart os) #[.agg #[.string ByteArray.empty, .int .i64 0, .string ByteArray.empty, .string ByteArray.empty, .int .u8 0, .string ByteArray.empty, .slice none 0 0, .slice none 0 0, .slice none 0 0, .slice none 0 0, .slice none 0 0, .slice none 0 0, .slice none 0 0, .slice none 0 0, .slice none 0 0], .agg #[.string ByteArray.empty, .int .i64 0, .string ByteArray.empty, .string ByteArray.empty, .int .u8 0, .string ByteArray.empty, .slice none 0 0, .slice none 0 0, .slice none 0 0, .slice none 0 0, .slice none 0 0, .slice none 0 0, .slice none 0 0, .slice none 0 0, .slice none 0 0], .agg #[.string ByteArray.empty, .int .u8 0, .int .i64 0, .string ByteArray.empty, .string ByteArray.empty]] 8 (laidStart_os _)
      (World.shaped_of_ZipB (by kernel_rfl) (by kernel_rfl)) (by kernel_rfl) (by kernel_rfl) (by kernel_rfl) (laidStart_met os _)) ?_
  intro W base args ds gs before hval0 hW hcnd hsz0 hL hShape
  have hsz : (DataW.weightsEach Tryd.prog (Tryd.f8.params.toList ++ Rows.pkgItselfSpec.plain.varTypes Tryd.prog) (ds ++ gs)).all (· ≤ reachBytes) = true := hsz0
  have hval : ∀ (j : Nat) t v, Tryd.f8.params[j]? = some t → args[j]? = some v → Value.okWide Tryd.prog W .any base t v := hval0
  clear hsz0
  have hW' := hW
  obtain ⟨p, q, hA0, hV, rfl, hfz, hnd⟩ := hW
  have hA : DataW.TrodAll enc Tryd.prog W 0 (fun _ => true) true Tryd.f8.params.toList args.toList ds p := hA0
  rw [Tryd.params8] at hA hval hsz
  obtain ⟨v0, vs0, d0, ds0, p0, q0, hargs, rfl, rfl, h0, r0⟩ := trodAll_cons hA
  obtain ⟨v1, vs1, d1, ds1, p1, q1, rfl, rfl, rfl, h1, r1⟩ := trodAll_cons r0
  obtain ⟨v2, vs2, d2, ds2, p2, q2, rfl, rfl, rfl, h2, r2⟩ := trodAll_cons r1
  obtain ⟨rfl, rfl, rfl⟩ := trodAll_nil r2
  obtain rfl : args = #[v0, v1, v2] := by cases args; simp_all
  obtain ⟨rfl, rfl⟩ := trodVars_none hV
  have k0 := h0
  have lt0 : ∀ x ∈ p0, x.block < W.heap.size := by obtain ⟨m, hm⟩ := k0; exact DataW.trod_lt m _ _ _ hm
  have k1 := h1
  have lt1 : ∀ x ∈ p1, x.block < W.heap.size := by obtain ⟨m, hm⟩ := k1; exact DataW.trod_lt m _ _ _ hm
  have k2 := h2
  have lt2 : ∀ x ∈ p2, x.block < W.heap.size := by obtain ⟨m, hm⟩ := k2; exact DataW.trod_lt m _ _ _ hm
  obtain ⟨x0, rfl, w0⟩ := arg_pk Tryd.underlying51 rfl Tryd.underlying41 Tryd.underlying22 (by kernel_rfl) Tryd.underlying61 rfl Tryd.underlying49 Tryd.underlying37 rfl Tryd.underlying35 rfl Tryd.underlying3 Tryd.underlying9 Tryd.underlying5 (by kernel_rfl) (by kernel_rfl) (hval 0 51 v0 rfl rfl) h0
  obtain ⟨x1, rfl, w1⟩ := arg_pk Tryd.underlying51 rfl Tryd.underlying41 Tryd.underlying22 (by kernel_rfl) Tryd.underlying61 rfl Tryd.underlying49 Tryd.underlying37 rfl Tryd.underlying35 rfl Tryd.underlying3 Tryd.underlying9 Tryd.underlying5 (by kernel_rfl) (by kernel_rfl) (hval 1 51 v1 rfl rfl) h1
  obtain ⟨x2, rfl, w2, m2, g2⟩ := arg_depw Tryd.underlying37 rfl Tryd.underlying35 rfl Tryd.underlying3 Tryd.underlying9 Tryd.underlying5 (by kernel_rfl) (hval 2 37 v2 rfl rfl) h2
  have z2a := of_decide_eq_true (List.all_eq_true.1 hsz _ (DataW.weights_mem_each (j := 2) rfl rfl _ m2))
  have z2b := of_decide_eq_true (List.all_eq_true.1 hsz _ (DataW.weights_mem_each (j := 2) rfl rfl _ g2))
  clear hA0 hval0
  refine (pkgItself_row W (pkIn_of hL) x0 w0 x1 w1 x2 w2 z2a z2b).mono fun e W' ⟨he, bel⟩ => ?_
  subst he
  exact ⟨_, rfl, _, _, _, [], _, [], hW', trodAll_mk1 (shut_bool Tryd.underlying4 _), (trodAll_cons_mk (Below.trod laidOut (by kernel_rfl) (of_decide_eq_true (by kernel_rfl)) k0 bel lt0) (trodAll_cons_mk (Below.trod laidOut (by kernel_rfl) (of_decide_eq_true (by kernel_rfl)) k1 bel lt1) (trodAll_cons_mk (Below.trod laidOut (by kernel_rfl) (of_decide_eq_true (by kernel_rfl)) k2 bel lt2) trodAll_mk0))), rfl, bel.frame _, fun h => by cases h⟩

set_option maxRecDepth 100000 in
set_option maxHeartbeats 4000000 in
theorem closed : joinedFacts Tryd.prog 8 Tryd.f8 Rows.pkgItselfSpec Rows.pkgItselfRow = true := by
  unfold joinedFacts
  repeat' (with_reducible refine and_true_of ?_ ?_)
  all_goals first | (with_reducible exact mayEnter_true) | (rw [liftsFinal_no]; as_aux_lemma => kernel_rfl) | (rw [make_cut]; as_aux_lemma => kernel_rfl) | (as_aux_lemma => kernel_rfl)

theorem over : Rows.pkgItselfRow.holds Tryd.pinned (OpenSpec.ofChange Rows.pkgItselfSpec) :=
  OpenClaim.holds_of_wide 8 Tryd.f8 rfl rfl rfl rfl rfl rfl rfl ⟨rfl, rfl, rfl, rfl, rfl⟩ rfl rfl rfl rfl rfl (by kernel_rfl) Tryd.func8 closed
    (of_decide_eq_true (by kernel_rfl)) (by unfold Func.isWrapper; first | (rw [if_pos (by decide +kernel)]; kernel_rfl) | (rw [if_neg (by decide +kernel)]; exact ⟨rfl, rfl⟩))
    (fun os started H enc _ => lifted os started H enc)

/-- THE TIED CARD. -/
theorem proved : Rows.PkgItselfCardSaid :=
  Claim7.holds_tied_plain_at .later [] [.data, .mapped, .data, .pinned] true Rows.pkgItselfCard.stood.harness true over (fun _ h => by cases h) (by kernel_rfl) (fun _ h => by cases h) pkgItself_row_tie rfl ⟨rfl, rfl⟩ mainIs_sum rfl
    (fun f fn hf hfn => by
      obtain rfl : f = 8 := Option.some.inj ((show Tryd.prog.funcNamed "chandlery/chandlerylaw10.PkgItself" = some 8 by kernel_rfl).symm.trans hf) |>.symm
      obtain rfl : fn = Tryd.f8 := (Option.some.inj (Tryd.func8.symm.trans hfn)).symm
      exact ⟨by kernel_rfl, fun j t ht => by
        rw [Tryd.params8] at ht
        have hm : t ∈ [51, 51, 37] := by simpa using Array.mem_of_getElem? ht
        have hall : ([51, 51, 37].all fun u => !Tryd.prog.wantsStandIn u) = true := by kernel_rfl
        exact (show Tryd.prog.wantsStandIn t = false by simpa using List.all_eq_true.1 hall t hm)⟩)
    (by kernel_rfl)
end Go.Proofs.YtinidiiachedbaaDoor.pkgItselfRow
