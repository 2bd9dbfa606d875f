/- Walks: how two EVRs compare, by the document. -/
import Derived.Test.YtinidiiachedbaaDoorEvCmp
namespace Go.Proofs.YtinidiiachedbaaDoor
open Go.RowKit Go.Shelf

theorem ecmp_lt {a b : Evr} (h : a.epoch < b.epoch) : ecmp a b = -1 := by unfold ecmp cmpI; simp [h]
theorem ecmp_gt {a b : Evr} (h : b.epoch < a.epoch) : ecmp a b = 1 := by
  have e : cmpI a.epoch b.epoch = 1 := by unfold cmpI; rw [if_neg (by omega), if_pos h]
  unfold ecmp; simp [e]
theorem ecmp_eq {a b : Evr} (h : a.epoch = b.epoch) : ecmp a b = if comp a.ver b.ver ≠ 0 ∨ a.rel = [] ∨ b.rel = [] then comp a.ver b.ver else comp a.rel b.rel := by
  have e : cmpI a.epoch b.epoch = 0 := by unfold cmpI; rw [if_neg (by omega), if_neg (by omega)]
  unfold ecmp; simp [e]

end Go.Proofs.YtinidiiachedbaaDoor
