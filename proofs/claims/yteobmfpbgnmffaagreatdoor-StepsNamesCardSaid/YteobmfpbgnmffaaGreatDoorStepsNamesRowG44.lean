/- StNil -/
import Derived.Test.YteobmfpbgnmffaaGreatDoorStepsNamesRowG42
import Derived.Test.YteobmfpbgnmffaaGreatDoorStepsNamesRowG43
set_option linter.unusedSimpArgs false
set_option linter.unusedVariables false
/- Walks: steps.Of and steps.Apply of no pool. -/


namespace Go.Proofs.YteobmfpbgnmffaaGreatDoor
open Go.RowKit Go.Shelf
set_option linter.unusedVariables false
attribute [local go_sem] Oper.semAt_some
attribute [local go_sem ↓ high] asked_wide

set_option maxRecDepth 100000 in
theorem stapply_nil (w : World) : Calls Tryz.prog 27 #[.pointer none, .slice none 0 0] w fun e w' => e = .returned (.tuple #[.slice none 0 0, .int .i64 2]) ∧ Below w.heap.size w w' := by
  go_enter Tryz.func27, Tryz.ntmps27
  go_wp2_with fail
  go_ret2
  exact ⟨rfl, Below.refl _ _⟩
set_option maxRecDepth 100000 in
set_option maxHeartbeats 4000000 in
theorem stof_nil (w : World) : Calls Tryz.prog 25 #[.pointer none, .slice none 0 0] w fun e w' => e = .returned (.tuple #[.slice none 0 0, .int .i64 2]) ∧ Below w.heap.size w w' := by
  refine (callsIn_wide (n := 8)).1 ?_
  refine callsIn_of_wp_marks Tryz.func25 rfl trivial ?_ rfl
  simp only [Tryz.ntmps25, List.size_toArray, List.length_cons, List.length_nil, Nat.reduceAdd, Nat.reduceSub, Array.replicate_succ, Array.replicate_zero, List.push_toArray, List.append_toArray, List.nil_append, List.cons_append]
  gi_wp2_with fail
  exact ⟨.tuple #[.slice none 0 0, .int .i64 2], by simp [results, Tryz.results25, go_sem], rfl, (Below.refl _ _).alloc (Nat.le_refl _) _⟩
end Go.Proofs.YteobmfpbgnmffaaGreatDoor
