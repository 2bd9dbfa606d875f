/- RichSame -/
import Derived.Test.YtcpjignlhlcnpaaDoorPkgNamesRowG18
import Derived.Test.YtcpjignlhlcnpaaDoorPkgNamesRowG17
import Derived.Deep.QuietTactic
import Derived.BigQuiet
import Derived.StillTailTactics
set_option linter.unusedSimpArgs false
set_option linter.unusedVariables false
/- Walks: are two rich dependencies the same (chandleryref08.Same). -/





namespace Go.Proofs.YtcpjignlhlcnpaaDoor
open Go.RowKit Go.Shelf
set_option linter.unusedVariables false

mutual
def RV.ht : RV → Nat | .node _ _ _ _ l => htL l + 1
def htL : List RV → Nat | [] => 0 | a :: l => max a.ht (htL l)
end
theorem ht_mem {a : RV} : ∀ {l : List RV}, a ∈ l → a.ht ≤ htL l
  | [], h => by simp at h
  | b :: l, h => by
    simp only [htL]
    rcases List.mem_cons.1 h with rfl | h
    · exact Nat.le_max_left _ _
    · exact Nat.le_trans (ht_mem h) (Nat.le_max_right _ _)
theorem ht_args (t : RV) : t.ht = htL t.args + 1 := by obtain ⟨k, d, A, c, l⟩ := t; rfl
theorem tree_parts (t : RV) : t.tree = .mk t.kind t.dep (treeL t.args) := by obtain ⟨k, d, A, c, l⟩ := t; rfl
theorem RTree.rrow {B : Nat} {W : World} {t : RV} (h : RTree B W t) : RRow B W t.addr t.cap t.args := ⟨h.row, h.sub⟩
theorem treeL_get (l : List RV) (k : Nat) (h : k < l.length) : (treeL l)[k]'(by rw [treeL_len]; exact h) = l[k].tree := by
  induction l generalizing k with
  | nil => simp at h
  | cons a l ih => cases k with
    | zero => simp [treeL]
    | succ k => simp only [treeL, List.getElem_cons_succ]; exact ih k (by simpa using h)
end Go.Proofs.YtcpjignlhlcnpaaDoor
