/- EvParse -/
import Derived.Test.YtnfagaccbkeikaaGreatDoorRichReadsRowG06
/- Walks: the EVR of a text, by the program. -/

namespace Go.Proofs.YtnfagaccbkeikaaGreatDoor
open Go.RowKit Go.Shelf

def zeroE : Evr := ⟨0, [], []⟩
/-- what Parse hands back -/
def parseV (s : Bytes) : Value := match evOf s with | some e => .tuple #[e.val, .int .i64 0] | none => .tuple #[zeroE.val, .int .i64 4]
theorem atoi_wf {s : Bytes} {v : Int} (h : Lib.atoiAll s = .ok v) : (Lit.int .i64 v).wf = true := by
  have hb : -9223372036854775808 ≤ v ∧ v ≤ 9223372036854775807 := by
    unfold Lib.atoiAll at h
    split at h
    · cases h
    · dsimp only at h
      split at h
      · cases h
      · cases h
      · rename_i u hu
        split at h
        · cases h
        · split at h
          · cases h
          · rename_i c r g1 g2
            injection h with h
            split at h <;> rename_i g3 <;> simp only [g3, not_true_eq_false, not_false_eq_true, true_and, false_and] at g1 g2 <;> omega
  exact WalkArith.wf_i64 hb
theorem cut_lens (s : Bytes) (d : UInt8) : (Lib.cut s [d]).1.length ≤ s.length ∧ (Lib.cut s [d]).2.1.length ≤ s.length := by
  rcases cut_cases d s with ⟨a, b, rfl, h⟩ | h
  · rw [cut_here h]; simp; omega
  · rw [cut_no h]; simp
theorem behind_wf {v : Int} {t : Bytes} (hv : (Lit.int .i64 v).wf = true) (ht : t.length ≤ 4000000000) : (behind v t).wf := by
  have h := cut_lens t 45
  have hm : (4000000000 : Nat) ≤ maxLen := by decide
  exact ⟨hv, Nat.le_trans h.1 (Nat.le_trans ht hm), Nat.le_trans h.2 (Nat.le_trans ht hm)⟩
theorem keep_pe {a0 a1 a2 b0 b1 b2 : Value} {n : Nat} {w W W' : World} (h : W.cell? ⟨n, 0, none⟩ = some (a0) ∧ W.cell? ⟨n, 1, none⟩ = some (a1) ∧ W.cell? ⟨n, 2, none⟩ = some (a2) ∧ W.cell? ⟨n + 1, 0, none⟩ = some (b0) ∧ W.cell? ⟨n + 1, 1, none⟩ = some (b1) ∧ W.cell? ⟨n + 1, 2, none⟩ = some (b2) ∧ n < W.heap.size ∧ n + 1 < W.heap.size ∧ W.frozen? ⟨n, 0, none⟩ = false ∧ W.frozen? ⟨n, 1, none⟩ = false ∧ W.frozen? ⟨n, 2, none⟩ = false ∧ W.frozen? ⟨n + 1, 0, none⟩ = false ∧ W.frozen? ⟨n + 1, 1, none⟩ = false ∧ W.frozen? ⟨n + 1, 2, none⟩ = false ∧ Below n w W) (hb : Below W.heap.size W W') :
    W'.cell? ⟨n, 0, none⟩ = some (a0) ∧ W'.cell? ⟨n, 1, none⟩ = some (a1) ∧ W'.cell? ⟨n, 2, none⟩ = some (a2) ∧ W'.cell? ⟨n + 1, 0, none⟩ = some (b0) ∧ W'.cell? ⟨n + 1, 1, none⟩ = some (b1) ∧ W'.cell? ⟨n + 1, 2, none⟩ = some (b2) ∧ n < W'.heap.size ∧ n + 1 < W'.heap.size ∧ W'.frozen? ⟨n, 0, none⟩ = false ∧ W'.frozen? ⟨n, 1, none⟩ = false ∧ W'.frozen? ⟨n, 2, none⟩ = false ∧ W'.frozen? ⟨n + 1, 0, none⟩ = false ∧ W'.frozen? ⟨n + 1, 1, none⟩ = false ∧ W'.frozen? ⟨n + 1, 2, none⟩ = false ∧ Below n w W' := by
  obtain ⟨c0_0, c0_1, c0_2, c1_0, c1_1, c1_2, l0, l1, f0_0, f0_1, f0_2, f1_0, f1_1, f1_2, hB⟩ := h
  have hB_le : n ≤ W.heap.size := by omega
  exact ⟨(hb.cell (p := ⟨n, 0, none⟩) l0).trans c0_0, (hb.cell (p := ⟨n, 1, none⟩) l0).trans c0_1, (hb.cell (p := ⟨n, 2, none⟩) l0).trans c0_2, (hb.cell (p := ⟨n + 1, 0, none⟩) l1).trans c1_0, (hb.cell (p := ⟨n + 1, 1, none⟩) l1).trans c1_1, (hb.cell (p := ⟨n + 1, 2, none⟩) l1).trans c1_2, Nat.lt_of_lt_of_le l0 hb.size, Nat.lt_of_lt_of_le l1 hb.size, (hb.frozen (p := ⟨n, 0, none⟩) l0).trans f0_0, (hb.frozen (p := ⟨n, 1, none⟩) l0).trans f0_1, (hb.frozen (p := ⟨n, 2, none⟩) l0).trans f0_2, (hb.frozen (p := ⟨n + 1, 0, none⟩) l1).trans f1_0, (hb.frozen (p := ⟨n + 1, 1, none⟩) l1).trans f1_1, (hb.frozen (p := ⟨n + 1, 2, none⟩) l1).trans f1_2, hB.trans (hb.mono hB_le)⟩
theorem set_pe00 {a0 a1 a2 b0 b1 b2 : Value} {n : Nat} {w W : World} (h : W.cell? ⟨n, 0, none⟩ = some (a0) ∧ W.cell? ⟨n, 1, none⟩ = some (a1) ∧ W.cell? ⟨n, 2, none⟩ = some (a2) ∧ W.cell? ⟨n + 1, 0, none⟩ = some (b0) ∧ W.cell? ⟨n + 1, 1, none⟩ = some (b1) ∧ W.cell? ⟨n + 1, 2, none⟩ = some (b2) ∧ n < W.heap.size ∧ n + 1 < W.heap.size ∧ W.frozen? ⟨n, 0, none⟩ = false ∧ W.frozen? ⟨n, 1, none⟩ = false ∧ W.frozen? ⟨n, 2, none⟩ = false ∧ W.frozen? ⟨n + 1, 0, none⟩ = false ∧ W.frozen? ⟨n + 1, 1, none⟩ = false ∧ W.frozen? ⟨n + 1, 2, none⟩ = false ∧ Below n w W) (v : Value) : (W.setCell ⟨n, 0, none⟩ v).cell? ⟨n, 0, none⟩ = some (v) ∧ (W.setCell ⟨n, 0, none⟩ v).cell? ⟨n, 1, none⟩ = some (a1) ∧ (W.setCell ⟨n, 0, none⟩ v).cell? ⟨n, 2, none⟩ = some (a2) ∧ (W.setCell ⟨n, 0, none⟩ v).cell? ⟨n + 1, 0, none⟩ = some (b0) ∧ (W.setCell ⟨n, 0, none⟩ v).cell? ⟨n + 1, 1, none⟩ = some (b1) ∧ (W.setCell ⟨n, 0, none⟩ v).cell? ⟨n + 1, 2, none⟩ = some (b2) ∧ n < (W.setCell ⟨n, 0, none⟩ v).heap.size ∧ n + 1 < (W.setCell ⟨n, 0, none⟩ v).heap.size ∧ (W.setCell ⟨n, 0, none⟩ v).frozen? ⟨n, 0, none⟩ = false ∧ (W.setCell ⟨n, 0, none⟩ v).frozen? ⟨n, 1, none⟩ = false ∧ (W.setCell ⟨n, 0, none⟩ v).frozen? ⟨n, 2, none⟩ = false ∧ (W.setCell ⟨n, 0, none⟩ v).frozen? ⟨n + 1, 0, none⟩ = false ∧ (W.setCell ⟨n, 0, none⟩ v).frozen? ⟨n + 1, 1, none⟩ = false ∧ (W.setCell ⟨n, 0, none⟩ v).frozen? ⟨n + 1, 2, none⟩ = false ∧ Below n w (W.setCell ⟨n, 0, none⟩ v) := by
  obtain ⟨c0_0, c0_1, c0_2, c1_0, c1_1, c1_2, l0, l1, f0_0, f0_1, f0_2, f1_0, f1_1, f1_2, hB⟩ := h
  refine ⟨?_, ?_, ?_, ?_, ?_, ?_, ?_, ?_, ?_, ?_, ?_, ?_, ?_, ?_, ?_⟩
  all_goals first | (rw [World.cell?_setCell_other _ _ _ _ (by simp)]; assumption) | exact World.cell?_setCell_same _ _ _ (by assumption) | (rw [World.frozen?_setCell]; assumption) | (simp [World.setCell]; assumption) | exact hB.setCell (by simp) _
theorem set_pe01 {a0 a1 a2 b0 b1 b2 : Value} {n : Nat} {w W : World} (h : W.cell? ⟨n, 0, none⟩ = some (a0) ∧ W.cell? ⟨n, 1, none⟩ = some (a1) ∧ W.cell? ⟨n, 2, none⟩ = some (a2) ∧ W.cell? ⟨n + 1, 0, none⟩ = some (b0) ∧ W.cell? ⟨n + 1, 1, none⟩ = some (b1) ∧ W.cell? ⟨n + 1, 2, none⟩ = some (b2) ∧ n < W.heap.size ∧ n + 1 < W.heap.size ∧ W.frozen? ⟨n, 0, none⟩ = false ∧ W.frozen? ⟨n, 1, none⟩ = false ∧ W.frozen? ⟨n, 2, none⟩ = false ∧ W.frozen? ⟨n + 1, 0, none⟩ = false ∧ W.frozen? ⟨n + 1, 1, none⟩ = false ∧ W.frozen? ⟨n + 1, 2, none⟩ = false ∧ Below n w W) (v : Value) : (W.setCell ⟨n, 1, none⟩ v).cell? ⟨n, 0, none⟩ = some (a0) ∧ (W.setCell ⟨n, 1, none⟩ v).cell? ⟨n, 1, none⟩ = some (v) ∧ (W.setCell ⟨n, 1, none⟩ v).cell? ⟨n, 2, none⟩ = some (a2) ∧ (W.setCell ⟨n, 1, none⟩ v).cell? ⟨n + 1, 0, none⟩ = some (b0) ∧ (W.setCell ⟨n, 1, none⟩ v).cell? ⟨n + 1, 1, none⟩ = some (b1) ∧ (W.setCell ⟨n, 1, none⟩ v).cell? ⟨n + 1, 2, none⟩ = some (b2) ∧ n < (W.setCell ⟨n, 1, none⟩ v).heap.size ∧ n + 1 < (W.setCell ⟨n, 1, none⟩ v).heap.size ∧ (W.setCell ⟨n, 1, none⟩ v).frozen? ⟨n, 0, none⟩ = false ∧ (W.setCell ⟨n, 1, none⟩ v).frozen? ⟨n, 1, none⟩ = false ∧ (W.setCell ⟨n, 1, none⟩ v).frozen? ⟨n, 2, none⟩ = false ∧ (W.setCell ⟨n, 1, none⟩ v).frozen? ⟨n + 1, 0, none⟩ = false ∧ (W.setCell ⟨n, 1, none⟩ v).frozen? ⟨n + 1, 1, none⟩ = false ∧ (W.setCell ⟨n, 1, none⟩ v).frozen? ⟨n + 1, 2, none⟩ = false ∧ Below n w (W.setCell ⟨n, 1, none⟩ v) := by
  obtain ⟨c0_0, c0_1, c0_2, c1_0, c1_1, c1_2, l0, l1, f0_0, f0_1, f0_2, f1_0, f1_1, f1_2, hB⟩ := h
  refine ⟨?_, ?_, ?_, ?_, ?_, ?_, ?_, ?_, ?_, ?_, ?_, ?_, ?_, ?_, ?_⟩
  all_goals first | (rw [World.cell?_setCell_other _ _ _ _ (by simp)]; assumption) | exact World.cell?_setCell_same _ _ _ (by assumption) | (rw [World.frozen?_setCell]; assumption) | (simp [World.setCell]; assumption) | exact hB.setCell (by simp) _
theorem set_pe02 {a0 a1 a2 b0 b1 b2 : Value} {n : Nat} {w W : World} (h : W.cell? ⟨n, 0, none⟩ = some (a0) ∧ W.cell? ⟨n, 1, none⟩ = some (a1) ∧ W.cell? ⟨n, 2, none⟩ = some (a2) ∧ W.cell? ⟨n + 1, 0, none⟩ = some (b0) ∧ W.cell? ⟨n + 1, 1, none⟩ = some (b1) ∧ W.cell? ⟨n + 1, 2, none⟩ = some (b2) ∧ n < W.heap.size ∧ n + 1 < W.heap.size ∧ W.frozen? ⟨n, 0, none⟩ = false ∧ W.frozen? ⟨n, 1, none⟩ = false ∧ W.frozen? ⟨n, 2, none⟩ = false ∧ W.frozen? ⟨n + 1, 0, none⟩ = false ∧ W.frozen? ⟨n + 1, 1, none⟩ = false ∧ W.frozen? ⟨n + 1, 2, none⟩ = false ∧ Below n w W) (v : Value) : (W.setCell ⟨n, 2, none⟩ v).cell? ⟨n, 0, none⟩ = some (a0) ∧ (W.setCell ⟨n, 2, none⟩ v).cell? ⟨n, 1, none⟩ = some (a1) ∧ (W.setCell ⟨n, 2, none⟩ v).cell? ⟨n, 2, none⟩ = some (v) ∧ (W.setCell ⟨n, 2, none⟩ v).cell? ⟨n + 1, 0, none⟩ = some (b0) ∧ (W.setCell ⟨n, 2, none⟩ v).cell? ⟨n + 1, 1, none⟩ = some (b1) ∧ (W.setCell ⟨n, 2, none⟩ v).cell? ⟨n + 1, 2, none⟩ = some (b2) ∧ n < (W.setCell ⟨n, 2, none⟩ v).heap.size ∧ n + 1 < (W.setCell ⟨n, 2, none⟩ v).heap.size ∧ (W.setCell ⟨n, 2, none⟩ v).frozen? ⟨n, 0, none⟩ = false ∧ (W.setCell ⟨n, 2, none⟩ v).frozen? ⟨n, 1, none⟩ = false ∧ (W.setCell ⟨n, 2, none⟩ v).frozen? ⟨n, 2, none⟩ = false ∧ (W.setCell ⟨n, 2, none⟩ v).frozen? ⟨n + 1, 0, none⟩ = false ∧ (W.setCell ⟨n, 2, none⟩ v).frozen? ⟨n + 1, 1, none⟩ = false ∧ (W.setCell ⟨n, 2, none⟩ v).frozen? ⟨n + 1, 2, none⟩ = false ∧ Below n w (W.setCell ⟨n, 2, none⟩ v) := by
  obtain ⟨c0_0, c0_1, c0_2, c1_0, c1_1, c1_2, l0, l1, f0_0, f0_1, f0_2, f1_0, f1_1, f1_2, hB⟩ := h
  refine ⟨?_, ?_, ?_, ?_, ?_, ?_, ?_, ?_, ?_, ?_, ?_, ?_, ?_, ?_, ?_⟩
  all_goals first | (rw [World.cell?_setCell_other _ _ _ _ (by simp)]; assumption) | exact World.cell?_setCell_same _ _ _ (by assumption) | (rw [World.frozen?_setCell]; assumption) | (simp [World.setCell]; assumption) | exact hB.setCell (by simp) _
theorem set_pe10 {a0 a1 a2 b0 b1 b2 : Value} {n : Nat} {w W : World} (h : W.cell? ⟨n, 0, none⟩ = some (a0) ∧ W.cell? ⟨n, 1, none⟩ = some (a1) ∧ W.cell? ⟨n, 2, none⟩ = some (a2) ∧ W.cell? ⟨n + 1, 0, none⟩ = some (b0) ∧ W.cell? ⟨n + 1, 1, none⟩ = some (b1) ∧ W.cell? ⟨n + 1, 2, none⟩ = some (b2) ∧ n < W.heap.size ∧ n + 1 < W.heap.size ∧ W.frozen? ⟨n, 0, none⟩ = false ∧ W.frozen? ⟨n, 1, none⟩ = false ∧ W.frozen? ⟨n, 2, none⟩ = false ∧ W.frozen? ⟨n + 1, 0, none⟩ = false ∧ W.frozen? ⟨n + 1, 1, none⟩ = false ∧ W.frozen? ⟨n + 1, 2, none⟩ = false ∧ Below n w W) (v : Value) : (W.setCell ⟨n + 1, 0, none⟩ v).cell? ⟨n, 0, none⟩ = some (a0) ∧ (W.setCell ⟨n + 1, 0, none⟩ v).cell? ⟨n, 1, none⟩ = some (a1) ∧ (W.setCell ⟨n + 1, 0, none⟩ v).cell? ⟨n, 2, none⟩ = some (a2) ∧ (W.setCell ⟨n + 1, 0, none⟩ v).cell? ⟨n + 1, 0, none⟩ = some (v) ∧ (W.setCell ⟨n + 1, 0, none⟩ v).cell? ⟨n + 1, 1, none⟩ = some (b1) ∧ (W.setCell ⟨n + 1, 0, none⟩ v).cell? ⟨n + 1, 2, none⟩ = some (b2) ∧ n < (W.setCell ⟨n + 1, 0, none⟩ v).heap.size ∧ n + 1 < (W.setCell ⟨n + 1, 0, none⟩ v).heap.size ∧ (W.setCell ⟨n + 1, 0, none⟩ v).frozen? ⟨n, 0, none⟩ = false ∧ (W.setCell ⟨n + 1, 0, none⟩ v).frozen? ⟨n, 1, none⟩ = false ∧ (W.setCell ⟨n + 1, 0, none⟩ v).frozen? ⟨n, 2, none⟩ = false ∧ (W.setCell ⟨n + 1, 0, none⟩ v).frozen? ⟨n + 1, 0, none⟩ = false ∧ (W.setCell ⟨n + 1, 0, none⟩ v).frozen? ⟨n + 1, 1, none⟩ = false ∧ (W.setCell ⟨n + 1, 0, none⟩ v).frozen? ⟨n + 1, 2, none⟩ = false ∧ Below n w (W.setCell ⟨n + 1, 0, none⟩ v) := by
  obtain ⟨c0_0, c0_1, c0_2, c1_0, c1_1, c1_2, l0, l1, f0_0, f0_1, f0_2, f1_0, f1_1, f1_2, hB⟩ := h
  refine ⟨?_, ?_, ?_, ?_, ?_, ?_, ?_, ?_, ?_, ?_, ?_, ?_, ?_, ?_, ?_⟩
  all_goals first | (rw [World.cell?_setCell_other _ _ _ _ (by simp)]; assumption) | exact World.cell?_setCell_same _ _ _ (by assumption) | (rw [World.frozen?_setCell]; assumption) | (simp [World.setCell]; assumption) | exact hB.setCell (by simp) _
theorem set_pe11 {a0 a1 a2 b0 b1 b2 : Value} {n : Nat} {w W : World} (h : W.cell? ⟨n, 0, none⟩ = some (a0) ∧ W.cell? ⟨n, 1, none⟩ = some (a1) ∧ W.cell? ⟨n, 2, none⟩ = some (a2) ∧ W.cell? ⟨n + 1, 0, none⟩ = some (b0) ∧ W.cell? ⟨n + 1, 1, none⟩ = some (b1) ∧ W.cell? ⟨n + 1, 2, none⟩ = some (b2) ∧ n < W.heap.size ∧ n + 1 < W.heap.size ∧ W.frozen? ⟨n, 0, none⟩ = false ∧ W.frozen? ⟨n, 1, none⟩ = false ∧ W.frozen? ⟨n, 2, none⟩ = false ∧ W.frozen? ⟨n + 1, 0, none⟩ = false ∧ W.frozen? ⟨n + 1, 1, none⟩ = false ∧ W.frozen? ⟨n + 1, 2, none⟩ = false ∧ Below n w W) (v : Value) : (W.setCell ⟨n + 1, 1, none⟩ v).cell? ⟨n, 0, none⟩ = some (a0) ∧ (W.setCell ⟨n + 1, 1, none⟩ v).cell? ⟨n, 1, none⟩ = some (a1) ∧ (W.setCell ⟨n + 1, 1, none⟩ v).cell? ⟨n, 2, none⟩ = some (a2) ∧ (W.setCell ⟨n + 1, 1, none⟩ v).cell? ⟨n + 1, 0, none⟩ = some (b0) ∧ (W.setCell ⟨n + 1, 1, none⟩ v).cell? ⟨n + 1, 1, none⟩ = some (v) ∧ (W.setCell ⟨n + 1, 1, none⟩ v).cell? ⟨n + 1, 2, none⟩ = some (b2) ∧ n < (W.setCell ⟨n + 1, 1, none⟩ v).heap.size ∧ n + 1 < (W.setCell ⟨n + 1, 1, none⟩ v).heap.size ∧ (W.setCell ⟨n + 1, 1, none⟩ v).frozen? ⟨n, 0, none⟩ = false ∧ (W.setCell ⟨n + 1, 1, none⟩ v).frozen? ⟨n, 1, none⟩ = false ∧ (W.setCell ⟨n + 1, 1, none⟩ v).frozen? ⟨n, 2, none⟩ = false ∧ (W.setCell ⟨n + 1, 1, none⟩ v).frozen? ⟨n + 1, 0, none⟩ = false ∧ (W.setCell ⟨n + 1, 1, none⟩ v).frozen? ⟨n + 1, 1, none⟩ = false ∧ (W.setCell ⟨n + 1, 1, none⟩ v).frozen? ⟨n + 1, 2, none⟩ = false ∧ Below n w (W.setCell ⟨n + 1, 1, none⟩ v) := by
  obtain ⟨c0_0, c0_1, c0_2, c1_0, c1_1, c1_2, l0, l1, f0_0, f0_1, f0_2, f1_0, f1_1, f1_2, hB⟩ := h
  refine ⟨?_, ?_, ?_, ?_, ?_, ?_, ?_, ?_, ?_, ?_, ?_, ?_, ?_, ?_, ?_⟩
  all_goals first | (rw [World.cell?_setCell_other _ _ _ _ (by simp)]; assumption) | exact World.cell?_setCell_same _ _ _ (by assumption) | (rw [World.frozen?_setCell]; assumption) | (simp [World.setCell]; assumption) | exact hB.setCell (by simp) _
theorem set_pe12 {a0 a1 a2 b0 b1 b2 : Value} {n : Nat} {w W : World} (h : W.cell? ⟨n, 0, none⟩ = some (a0) ∧ W.cell? ⟨n, 1, none⟩ = some (a1) ∧ W.cell? ⟨n, 2, none⟩ = some (a2) ∧ W.cell? ⟨n + 1, 0, none⟩ = some (b0) ∧ W.cell? ⟨n + 1, 1, none⟩ = some (b1) ∧ W.cell? ⟨n + 1, 2, none⟩ = some (b2) ∧ n < W.heap.size ∧ n + 1 < W.heap.size ∧ W.frozen? ⟨n, 0, none⟩ = false ∧ W.frozen? ⟨n, 1, none⟩ = false ∧ W.frozen? ⟨n, 2, none⟩ = false ∧ W.frozen? ⟨n + 1, 0, none⟩ = false ∧ W.frozen? ⟨n + 1, 1, none⟩ = false ∧ W.frozen? ⟨n + 1, 2, none⟩ = false ∧ Below n w W) (v : Value) : (W.setCell ⟨n + 1, 2, none⟩ v).cell? ⟨n, 0, none⟩ = some (a0) ∧ (W.setCell ⟨n + 1, 2, none⟩ v).cell? ⟨n, 1, none⟩ = some (a1) ∧ (W.setCell ⟨n + 1, 2, none⟩ v).cell? ⟨n, 2, none⟩ = some (a2) ∧ (W.setCell ⟨n + 1, 2, none⟩ v).cell? ⟨n + 1, 0, none⟩ = some (b0) ∧ (W.setCell ⟨n + 1, 2, none⟩ v).cell? ⟨n + 1, 1, none⟩ = some (b1) ∧ (W.setCell ⟨n + 1, 2, none⟩ v).cell? ⟨n + 1, 2, none⟩ = some (v) ∧ n < (W.setCell ⟨n + 1, 2, none⟩ v).heap.size ∧ n + 1 < (W.setCell ⟨n + 1, 2, none⟩ v).heap.size ∧ (W.setCell ⟨n + 1, 2, none⟩ v).frozen? ⟨n, 0, none⟩ = false ∧ (W.setCell ⟨n + 1, 2, none⟩ v).frozen? ⟨n, 1, none⟩ = false ∧ (W.setCell ⟨n + 1, 2, none⟩ v).frozen? ⟨n, 2, none⟩ = false ∧ (W.setCell ⟨n + 1, 2, none⟩ v).frozen? ⟨n + 1, 0, none⟩ = false ∧ (W.setCell ⟨n + 1, 2, none⟩ v).frozen? ⟨n + 1, 1, none⟩ = false ∧ (W.setCell ⟨n + 1, 2, none⟩ v).frozen? ⟨n + 1, 2, none⟩ = false ∧ Below n w (W.setCell ⟨n + 1, 2, none⟩ v) := by
  obtain ⟨c0_0, c0_1, c0_2, c1_0, c1_1, c1_2, l0, l1, f0_0, f0_1, f0_2, f1_0, f1_1, f1_2, hB⟩ := h
  refine ⟨?_, ?_, ?_, ?_, ?_, ?_, ?_, ?_, ?_, ?_, ?_, ?_, ?_, ?_, ?_⟩
  all_goals first | (rw [World.cell?_setCell_other _ _ _ _ (by simp)]; assumption) | exact World.cell?_setCell_same _ _ _ (by assumption) | (rw [World.frozen?_setCell]; assumption) | (simp [World.setCell]; assumption) | exact hB.setCell (by simp) _
theorem new_pe (w : World) : let W := ((w.alloc (.cells #[.int .i64 0, .string ⟨#[]⟩, .string ⟨#[]⟩] 24)).alloc (.cells #[.int .i64 0, .string ⟨#[]⟩, .string ⟨#[]⟩] 24)); let n := w.heap.size; W.cell? ⟨n, 0, none⟩ = some (.int .i64 0) ∧ W.cell? ⟨n, 1, none⟩ = some (.string ⟨#[]⟩) ∧ W.cell? ⟨n, 2, none⟩ = some (.string ⟨#[]⟩) ∧ W.cell? ⟨n + 1, 0, none⟩ = some (.int .i64 0) ∧ W.cell? ⟨n + 1, 1, none⟩ = some (.string ⟨#[]⟩) ∧ W.cell? ⟨n + 1, 2, none⟩ = some (.string ⟨#[]⟩) ∧ n < W.heap.size ∧ n + 1 < W.heap.size ∧ W.frozen? ⟨n, 0, none⟩ = false ∧ W.frozen? ⟨n, 1, none⟩ = false ∧ W.frozen? ⟨n, 2, none⟩ = false ∧ W.frozen? ⟨n + 1, 0, none⟩ = false ∧ W.frozen? ⟨n + 1, 1, none⟩ = false ∧ W.frozen? ⟨n + 1, 2, none⟩ = false ∧ Below n w W := by
  exact ⟨(World.cell?_alloc_past _ _ _ (by simp)).trans ((World.cell?_alloc_at _ _ _ _ rfl).trans rfl), (World.cell?_alloc_past _ _ _ (by simp)).trans ((World.cell?_alloc_at _ _ _ _ rfl).trans rfl), (World.cell?_alloc_past _ _ _ (by simp)).trans ((World.cell?_alloc_at _ _ _ _ rfl).trans rfl), (World.cell?_alloc_at _ _ _ _ (by simp)).trans rfl, (World.cell?_alloc_at _ _ _ _ (by simp)).trans rfl, (World.cell?_alloc_at _ _ _ _ (by simp)).trans rfl, by simp; omega, by simp, (World.frozen?_alloc_past _ _ _ (by simp)).trans (World.frozen?_alloc_at _ _ _ _ rfl), (World.frozen?_alloc_past _ _ _ (by simp)).trans (World.frozen?_alloc_at _ _ _ _ rfl), (World.frozen?_alloc_past _ _ _ (by simp)).trans (World.frozen?_alloc_at _ _ _ _ rfl), World.frozen?_alloc_at _ _ _ _ (by simp), World.frozen?_alloc_at _ _ _ _ (by simp), World.frozen?_alloc_at _ _ _ _ (by simp), ((Below.refl _ _).alloc (by simp) _).alloc (by simp) _⟩
set_option maxRecDepth 100000 in
set_option maxHeartbeats 8000000 in
theorem evParse_any (s : ByteArray) (w : World) (hs : s.size ≤ 4000000000) (hI : EvIn w) : Calls Tryz.prog 172 #[.string s] w fun r w' => r = .returned (parseV s.toList) ∧ Below w.heap.size w w' := by
  have S0 := new_pe w
  dsimp only at S0
  have CC := Lib.hid (fun W (h : Below w.heap.size w W) => cut_any s 58 W (hI.below h) hs)
  have hl : s.toList.length ≤ 4000000000 := by rw [size_toList]; exact hs
  have cl := cut_lens s.toList 58
  have AT := Lib.hid (fun W (h : Below w.heap.size w W) => atoi_any (bs (Lib.cut s.toList [58]).1) W (hI.below h) (by rw [bs_size]; omega))
  have C1 := Lib.hid (fun W (h : Below w.heap.size w W) => cut_any (bs (Lib.cut s.toList [58]).2.1) 45 W (hI.below h) (by rw [bs_size]; omega))
  rw [bs_toList] at AT C1
  unfold AtoiPost at AT
  have C0 := Lib.hid (fun W (h : Below w.heap.size w W) => cut_any s 45 W (hI.below h) hs)
  have SH := Lib.hid (fun (e : Evr) (h : e.wf) W (hb : Below w.heap.size w W) => evShow_any e W h (hI.below hb))
  unfold showV at SH
  have h2 : (Lib.cut s.toList [58]).2.1.length ≤ 4000000000 := Nat.le_trans cl.2 hl
  clear hI cl
  obtain ⟨q1, hq1⟩ : ∃ q, q = (Lib.cut s.toList [58]).1 := ⟨_, rfl⟩
  obtain ⟨q2, hq2⟩ : ∃ q, q = (Lib.cut s.toList [58]).2.1 := ⟨_, rfl⟩
  obtain ⟨q3, hq3⟩ : ∃ q, q = (Lib.cut s.toList [58]).2.2 := ⟨_, rfl⟩
  have hp : pcand s.toList = if q3 = true then (match Lib.atoiAll q1 with | .ok n => some (behind n q2) | _ => none) else some (behind 0 s.toList) := by rw [hq1, hq2, hq3]; rfl
  rw [← hq1, ← hq2, ← hq3] at CC
  rw [← hq1] at AT
  rw [← hq2] at C1 h2
  clear hq1 hq2 hq3
  cases q3 with
  | true =>
    rw [if_pos rfl] at hp
    cases ha : Lib.atoiAll q1 with
    | ok v =>
      rw [ha] at hp
      dsimp only at hp
      have hv : atoiN q1 = v := by unfold atoiN; rw [ha]
      rw [hv] at AT
      have hwf := behind_wf (t := q2) (atoi_wf ha) h2
      have SE := Lib.hid (SH.out _ hwf)
      obtain ⟨E, hE⟩ : ∃ E, E = behind v q2 := ⟨_, rfl⟩
      obtain ⟨v1, hv1⟩ : ∃ x, x = (Lib.cut q2 [45]).1 := ⟨_, rfl⟩
      obtain ⟨v2, hv2⟩ : ∃ x, x = (Lib.cut q2 [45]).2.1 := ⟨_, rfl⟩
      have hno : ¬ ∀ x, Lib.atoiAll q1 ≠ .ok x := fun h => h v ha
      rw [← hv1, ← hv2] at C1
      generalize (Lib.cut q2 [45]).2.2 = v3 at *
      clear hwf SH C0 ha hv h2 hl
      have hev : E.val = .agg #[.int .i64 v, .string (bs v1), .string (bs v2)] := by rw [hE]; unfold behind Evr.val; dsimp only; rw [hv1, hv2]
      rw [← hE] at hp SE
      rw [hev] at SE
      clear hE hv1 hv2
      cases hm : mayB E true with
      | false =>
        have HV := Lib.hid (show parseV s.toList = .tuple #[.agg #[.int .i64 0, .string ⟨#[]⟩, .string ⟨#[]⟩], .int .i64 4] from by unfold parseV evOf; rw [hp]; dsimp only; rw [if_neg (by rw [hm]; simp)]; rfl)
        rw [HV.out]
        rw [hm, if_neg (by decide)] at SE
        clear HV hp hm hev
        go_enter Tryz.func172, Tryz.ntmps172
        go_wp2_with fail
        go_at_call 195
        generalize (w.alloc (.cells #[.int .i64 0, .string ⟨#[]⟩, .string ⟨#[]⟩] 24)).alloc (.cells #[.int .i64 0, .string ⟨#[]⟩, .string ⟨#[]⟩] 24) = W at *
        generalize hn : w.heap.size = n at *
        obtain ⟨c0_0, c0_1, c0_2, c1_0, c1_1, c1_2, l0, l1, f0_0, f0_1, f0_2, f1_0, f1_1, f1_2, hB⟩ := id S0
        refine (CC.out _ hB).mono ?_
        rintro e1 w1 ⟨rfl, h⟩
        have S1 := keep_pe S0 h
        clear c0_0 c0_1 c0_2 c1_0 c1_1 c1_2 l0 l1 f0_0 f0_1 f0_2 f1_0 f1_1 f1_2 hB
        clear S0 h
        obtain ⟨c0_0, c0_1, c0_2, c1_0, c1_1, c1_2, l0, l1, f0_0, f0_1, f0_2, f1_0, f1_1, f1_2, hB⟩ := id S1
        go_wp2_with fail
        go_at_call 196
        refine (AT.out _ hB).mono ?_
        rintro e2 w2 ⟨x, rfl, hx, h⟩
        have S2 := keep_pe S1 h
        clear c0_0 c0_1 c0_2 c1_0 c1_1 c1_2 l0 l1 f0_0 f0_1 f0_2 f1_0 f1_1 f1_2 hB
        clear S1 h
        obtain ⟨c0_0, c0_1, c0_2, c1_0, c1_1, c1_2, l0, l1, f0_0, f0_1, f0_2, f1_0, f1_1, f1_2, hB⟩ := id S2
        rcases hx with ⟨_, rfl⟩ | ⟨hx, _⟩
        rotate_left
        · exact absurd hx hno
        clear hno
        go_wp2_with fail
        go_at_call 195
        have S3 := set_pe10 S2 (.int .i64 v)
        generalize w2.setCell { block := n + 1, off := 0 } (Value.int IntKind.i64 v) = x3 at *
        clear c0_0 c0_1 c0_2 c1_0 c1_1 c1_2 l0 l1 f0_0 f0_1 f0_2 f1_0 f1_1 f1_2 hB
        clear S2
        obtain ⟨c0_0, c0_1, c0_2, c1_0, c1_1, c1_2, l0, l1, f0_0, f0_1, f0_2, f1_0, f1_1, f1_2, hB⟩ := id S3
        refine (C1.out _ hB).mono ?_
        rintro e4 w4 ⟨rfl, h⟩
        have S4 := keep_pe S3 h
        clear c0_0 c0_1 c0_2 c1_0 c1_1 c1_2 l0 l1 f0_0 f0_1 f0_2 f1_0 f1_1 f1_2 hB
        clear S3 h
        obtain ⟨c0_0, c0_1, c0_2, c1_0, c1_1, c1_2, l0, l1, f0_0, f0_1, f0_2, f1_0, f1_1, f1_2, hB⟩ := id S4
        go_wp2_with fail
        go_at_call 193
        have S5 := set_pe12 (set_pe11 S4 (.string (bs v1))) (.string (bs v2))
        generalize (w4.setCell { block := n + 1, off := 1 } (Value.string (bs v1))).setCell { block := n + 1, off := 2 } (Value.string (bs v2)) = x5 at *
        clear c0_0 c0_1 c0_2 c1_0 c1_1 c1_2 l0 l1 f0_0 f0_1 f0_2 f1_0 f1_1 f1_2 hB
        clear S4
        obtain ⟨c0_0, c0_1, c0_2, c1_0, c1_1, c1_2, l0, l1, f0_0, f0_1, f0_2, f1_0, f1_1, f1_2, hB⟩ := id S5
        refine (SE.out _ hB).mono ?_
        rintro e5 w5 ⟨rfl, h⟩
        have S6 := keep_pe S5 h
        clear c0_0 c0_1 c0_2 c1_0 c1_1 c1_2 l0 l1 f0_0 f0_1 f0_2 f1_0 f1_1 f1_2 hB
        clear S5 h
        obtain ⟨c0_0, c0_1, c0_2, c1_0, c1_1, c1_2, l0, l1, f0_0, f0_1, f0_2, f1_0, f1_1, f1_2, hB⟩ := id S6
        go_wp2_with fail
        have SF := set_pe02 (set_pe01 (set_pe00 S6 (.int .i64 0)) (.string ⟨#[]⟩)) (.string ⟨#[]⟩)
        generalize ((w5.setCell { block := n, off := 0 } (Value.int IntKind.i64 0)).setCell { block := n, off := 1 } (Value.string { data := #[] })).setCell { block := n, off := 2 } (Value.string { data := #[] }) = U at *
        clear c0_0 c0_1 c0_2 c1_0 c1_1 c1_2 l0 l1 f0_0 f0_1 f0_2 f1_0 f1_1 f1_2 hB
        obtain ⟨c0_0, c0_1, c0_2, c1_0, c1_1, c1_2, l0, l1, f0_0, f0_1, f0_2, f1_0, f1_1, f1_2, hB⟩ := id SF
        exact bodyPost_ret (v := .tuple #[.agg #[.int .i64 0, .string ⟨#[]⟩, .string ⟨#[]⟩], .int .i64 4]) (by simp [results, Tryz.results172, go_sem, c0_0, c0_1, c0_2]) rfl ⟨rfl, by rw [hn]; exact hB⟩
      | true =>
        rw [hm, if_pos rfl] at SE
        by_cases hs2 : showL E = s.toList
        · have HV := Lib.hid (show parseV s.toList = .tuple #[.agg #[.int .i64 v, .string (bs v1), .string (bs v2)], .int .i64 0] from by unfold parseV evOf; rw [hp]; dsimp only; rw [if_pos ⟨hm, hs2⟩]; dsimp only; rw [hev])
          rw [HV.out]
          rw [hs2, bs_of] at SE
          clear HV hp hm hev hs2
          go_enter Tryz.func172, Tryz.ntmps172
          go_wp2_with fail
          go_at_call 195
          generalize (w.alloc (.cells #[.int .i64 0, .string ⟨#[]⟩, .string ⟨#[]⟩] 24)).alloc (.cells #[.int .i64 0, .string ⟨#[]⟩, .string ⟨#[]⟩] 24) = W at *
          generalize hn : w.heap.size = n at *
          obtain ⟨c0_0, c0_1, c0_2, c1_0, c1_1, c1_2, l0, l1, f0_0, f0_1, f0_2, f1_0, f1_1, f1_2, hB⟩ := id S0
          refine (CC.out _ hB).mono ?_
          rintro e1 w1 ⟨rfl, h⟩
          have S1 := keep_pe S0 h
          clear c0_0 c0_1 c0_2 c1_0 c1_1 c1_2 l0 l1 f0_0 f0_1 f0_2 f1_0 f1_1 f1_2 hB
          clear S0 h
          obtain ⟨c0_0, c0_1, c0_2, c1_0, c1_1, c1_2, l0, l1, f0_0, f0_1, f0_2, f1_0, f1_1, f1_2, hB⟩ := id S1
          go_wp2_with fail
          go_at_call 196
          refine (AT.out _ hB).mono ?_
          rintro e2 w2 ⟨x, rfl, hx, h⟩
          have S2 := keep_pe S1 h
          clear c0_0 c0_1 c0_2 c1_0 c1_1 c1_2 l0 l1 f0_0 f0_1 f0_2 f1_0 f1_1 f1_2 hB
          clear S1 h
          obtain ⟨c0_0, c0_1, c0_2, c1_0, c1_1, c1_2, l0, l1, f0_0, f0_1, f0_2, f1_0, f1_1, f1_2, hB⟩ := id S2
          rcases hx with ⟨_, rfl⟩ | ⟨hx, _⟩
          rotate_left
          · exact absurd hx hno
          clear hno
          go_wp2_with fail
          go_at_call 195
          have S3 := set_pe10 S2 (.int .i64 v)
          generalize w2.setCell { block := n + 1, off := 0 } (Value.int IntKind.i64 v) = x3 at *
          clear c0_0 c0_1 c0_2 c1_0 c1_1 c1_2 l0 l1 f0_0 f0_1 f0_2 f1_0 f1_1 f1_2 hB
          clear S2
          obtain ⟨c0_0, c0_1, c0_2, c1_0, c1_1, c1_2, l0, l1, f0_0, f0_1, f0_2, f1_0, f1_1, f1_2, hB⟩ := id S3
          refine (C1.out _ hB).mono ?_
          rintro e4 w4 ⟨rfl, h⟩
          have S4 := keep_pe S3 h
          clear c0_0 c0_1 c0_2 c1_0 c1_1 c1_2 l0 l1 f0_0 f0_1 f0_2 f1_0 f1_1 f1_2 hB
          clear S3 h
          obtain ⟨c0_0, c0_1, c0_2, c1_0, c1_1, c1_2, l0, l1, f0_0, f0_1, f0_2, f1_0, f1_1, f1_2, hB⟩ := id S4
          go_wp2_with fail
          go_at_call 193
          have S5 := set_pe12 (set_pe11 S4 (.string (bs v1))) (.string (bs v2))
          generalize (w4.setCell { block := n + 1, off := 1 } (Value.string (bs v1))).setCell { block := n + 1, off := 2 } (Value.string (bs v2)) = x5 at *
          clear c0_0 c0_1 c0_2 c1_0 c1_1 c1_2 l0 l1 f0_0 f0_1 f0_2 f1_0 f1_1 f1_2 hB
          clear S4
          obtain ⟨c0_0, c0_1, c0_2, c1_0, c1_1, c1_2, l0, l1, f0_0, f0_1, f0_2, f1_0, f1_1, f1_2, hB⟩ := id S5
          refine (SE.out _ hB).mono ?_
          rintro e5 w5 ⟨rfl, h⟩
          have S6 := keep_pe S5 h
          clear c0_0 c0_1 c0_2 c1_0 c1_1 c1_2 l0 l1 f0_0 f0_1 f0_2 f1_0 f1_1 f1_2 hB
          clear S5 h
          obtain ⟨c0_0, c0_1, c0_2, c1_0, c1_1, c1_2, l0, l1, f0_0, f0_1, f0_2, f1_0, f1_1, f1_2, hB⟩ := id S6
          go_wp2_with fail
          have SF := set_pe02 (set_pe01 (set_pe00 S6 (.int .i64 v)) (.string (bs v1))) (.string (bs v2))
          generalize ((w5.setCell { block := n, off := 0 } (Value.int IntKind.i64 v)).setCell { block := n, off := 1 } (Value.string (bs v1))).setCell { block := n, off := 2 } (Value.string (bs v2)) = U at *
          clear c0_0 c0_1 c0_2 c1_0 c1_1 c1_2 l0 l1 f0_0 f0_1 f0_2 f1_0 f1_1 f1_2 hB
          obtain ⟨c0_0, c0_1, c0_2, c1_0, c1_1, c1_2, l0, l1, f0_0, f0_1, f0_2, f1_0, f1_1, f1_2, hB⟩ := id SF
          exact bodyPost_ret (v := .tuple #[.agg #[.int .i64 v, .string (bs v1), .string (bs v2)], .int .i64 0]) (by simp [results, Tryz.results172, go_sem, c0_0, c0_1, c0_2]) rfl ⟨rfl, by rw [hn]; exact hB⟩
        · have HV := Lib.hid (show parseV s.toList = .tuple #[.agg #[.int .i64 0, .string ⟨#[]⟩, .string ⟨#[]⟩], .int .i64 4] from by unfold parseV evOf; rw [hp]; dsimp only; rw [if_neg (fun h => hs2 h.2)]; rfl)
          rw [HV.out]
          have d1 : ¬ (bs (showL E)).toList = s.toList := by rw [bs_toList]; exact hs2
          have d2 : ((bs (showL E)).toList == s.toList) = false := beq_eq_false_iff_ne.2 d1
          generalize bs (showL E) = TT at *
          clear HV hp hm hev hs2
          go_enter Tryz.func172, Tryz.ntmps172
          go_wp2_with fail
          go_at_call 195
          generalize (w.alloc (.cells #[.int .i64 0, .string ⟨#[]⟩, .string ⟨#[]⟩] 24)).alloc (.cells #[.int .i64 0, .string ⟨#[]⟩, .string ⟨#[]⟩] 24) = W at *
          generalize hn : w.heap.size = n at *
          obtain ⟨c0_0, c0_1, c0_2, c1_0, c1_1, c1_2, l0, l1, f0_0, f0_1, f0_2, f1_0, f1_1, f1_2, hB⟩ := id S0
          refine (CC.out _ hB).mono ?_
          rintro e1 w1 ⟨rfl, h⟩
          have S1 := keep_pe S0 h
          clear c0_0 c0_1 c0_2 c1_0 c1_1 c1_2 l0 l1 f0_0 f0_1 f0_2 f1_0 f1_1 f1_2 hB
          clear S0 h
          obtain ⟨c0_0, c0_1, c0_2, c1_0, c1_1, c1_2, l0, l1, f0_0, f0_1, f0_2, f1_0, f1_1, f1_2, hB⟩ := id S1
          go_wp2_with fail
          go_at_call 196
          refine (AT.out _ hB).mono ?_
          rintro e2 w2 ⟨x, rfl, hx, h⟩
          have S2 := keep_pe S1 h
          clear c0_0 c0_1 c0_2 c1_0 c1_1 c1_2 l0 l1 f0_0 f0_1 f0_2 f1_0 f1_1 f1_2 hB
          clear S1 h
          obtain ⟨c0_0, c0_1, c0_2, c1_0, c1_1, c1_2, l0, l1, f0_0, f0_1, f0_2, f1_0, f1_1, f1_2, hB⟩ := id S2
          rcases hx with ⟨_, rfl⟩ | ⟨hx, _⟩
          rotate_left
          · exact absurd hx hno
          clear hno
          go_wp2_with fail
          go_at_call 195
          have S3 := set_pe10 S2 (.int .i64 v)
          generalize w2.setCell { block := n + 1, off := 0 } (Value.int IntKind.i64 v) = x3 at *
          clear c0_0 c0_1 c0_2 c1_0 c1_1 c1_2 l0 l1 f0_0 f0_1 f0_2 f1_0 f1_1 f1_2 hB
          clear S2
          obtain ⟨c0_0, c0_1, c0_2, c1_0, c1_1, c1_2, l0, l1, f0_0, f0_1, f0_2, f1_0, f1_1, f1_2, hB⟩ := id S3
          refine (C1.out _ hB).mono ?_
          rintro e4 w4 ⟨rfl, h⟩
          have S4 := keep_pe S3 h
          clear c0_0 c0_1 c0_2 c1_0 c1_1 c1_2 l0 l1 f0_0 f0_1 f0_2 f1_0 f1_1 f1_2 hB
          clear S3 h
          obtain ⟨c0_0, c0_1, c0_2, c1_0, c1_1, c1_2, l0, l1, f0_0, f0_1, f0_2, f1_0, f1_1, f1_2, hB⟩ := id S4
          go_wp2_with fail
          go_at_call 193
          have S5 := set_pe12 (set_pe11 S4 (.string (bs v1))) (.string (bs v2))
          generalize (w4.setCell { block := n + 1, off := 1 } (Value.string (bs v1))).setCell { block := n + 1, off := 2 } (Value.string (bs v2)) = x5 at *
          clear c0_0 c0_1 c0_2 c1_0 c1_1 c1_2 l0 l1 f0_0 f0_1 f0_2 f1_0 f1_1 f1_2 hB
          clear S4
          obtain ⟨c0_0, c0_1, c0_2, c1_0, c1_1, c1_2, l0, l1, f0_0, f0_1, f0_2, f1_0, f1_1, f1_2, hB⟩ := id S5
          refine (SE.out _ hB).mono ?_
          rintro e5 w5 ⟨rfl, h⟩
          have S6 := keep_pe S5 h
          clear c0_0 c0_1 c0_2 c1_0 c1_1 c1_2 l0 l1 f0_0 f0_1 f0_2 f1_0 f1_1 f1_2 hB
          clear S5 h
          obtain ⟨c0_0, c0_1, c0_2, c1_0, c1_1, c1_2, l0, l1, f0_0, f0_1, f0_2, f1_0, f1_1, f1_2, hB⟩ := id S6
          go_wp2_with fail
          have SF := set_pe02 (set_pe01 (set_pe00 S6 (.int .i64 0)) (.string ⟨#[]⟩)) (.string ⟨#[]⟩)
          generalize ((w5.setCell { block := n, off := 0 } (Value.int IntKind.i64 0)).setCell { block := n, off := 1 } (Value.string { data := #[] })).setCell { block := n, off := 2 } (Value.string { data := #[] }) = U at *
          clear c0_0 c0_1 c0_2 c1_0 c1_1 c1_2 l0 l1 f0_0 f0_1 f0_2 f1_0 f1_1 f1_2 hB
          obtain ⟨c0_0, c0_1, c0_2, c1_0, c1_1, c1_2, l0, l1, f0_0, f0_1, f0_2, f1_0, f1_1, f1_2, hB⟩ := id SF
          exact bodyPost_ret (v := .tuple #[.agg #[.int .i64 0, .string ⟨#[]⟩, .string ⟨#[]⟩], .int .i64 4]) (by simp [results, Tryz.results172, go_sem, c0_0, c0_1, c0_2]) rfl ⟨rfl, by rw [hn]; exact hB⟩
    | «syntax» =>
      rw [ha] at hp
      dsimp only at hp
      have HV := Lib.hid (show parseV s.toList = .tuple #[.agg #[.int .i64 0, .string ⟨#[]⟩, .string ⟨#[]⟩], .int .i64 4] from by unfold parseV evOf; rw [hp]; rfl)
      rw [HV.out]
      have hno : ¬ ∃ x, Lib.atoiAll q1 = .ok x := by rintro ⟨x, hx⟩; rw [hx] at ha; cases ha
      clear HV hp ha C0 C1 SH h2 hl
      go_enter Tryz.func172, Tryz.ntmps172
      go_wp2_with fail
      go_at_call 195
      generalize (w.alloc (.cells #[.int .i64 0, .string ⟨#[]⟩, .string ⟨#[]⟩] 24)).alloc (.cells #[.int .i64 0, .string ⟨#[]⟩, .string ⟨#[]⟩] 24) = W at *
      generalize hn : w.heap.size = n at *
      obtain ⟨c0_0, c0_1, c0_2, c1_0, c1_1, c1_2, l0, l1, f0_0, f0_1, f0_2, f1_0, f1_1, f1_2, hB⟩ := id S0
      refine (CC.out _ hB).mono ?_
      rintro e1 w1 ⟨rfl, h⟩
      have S1 := keep_pe S0 h
      clear c0_0 c0_1 c0_2 c1_0 c1_1 c1_2 l0 l1 f0_0 f0_1 f0_2 f1_0 f1_1 f1_2 hB
      clear S0 h
      obtain ⟨c0_0, c0_1, c0_2, c1_0, c1_1, c1_2, l0, l1, f0_0, f0_1, f0_2, f1_0, f1_1, f1_2, hB⟩ := id S1
      go_wp2_with fail
      go_at_call 196
      refine (AT.out _ hB).mono ?_
      rintro e2 w2 ⟨x, rfl, hx, h⟩
      have S2 := keep_pe S1 h
      clear c0_0 c0_1 c0_2 c1_0 c1_1 c1_2 l0 l1 f0_0 f0_1 f0_2 f1_0 f1_1 f1_2 hB
      clear S1 h
      obtain ⟨c0_0, c0_1, c0_2, c1_0, c1_1, c1_2, l0, l1, f0_0, f0_1, f0_2, f1_0, f1_1, f1_2, hB⟩ := id S2
      rcases hx with ⟨hx, _⟩ | ⟨_, N, rfl⟩
      · exact absurd hx hno
      clear hno
      go_wp2_with fail
      have SF := set_pe02 (set_pe01 (set_pe00 S2 (.int .i64 0)) (.string ⟨#[]⟩)) (.string ⟨#[]⟩)
      generalize ((w2.setCell { block := n, off := 0 } (Value.int IntKind.i64 0)).setCell { block := n, off := 1 } (Value.string { data := #[] })).setCell { block := n, off := 2 } (Value.string { data := #[] }) = U at *
      clear c0_0 c0_1 c0_2 c1_0 c1_1 c1_2 l0 l1 f0_0 f0_1 f0_2 f1_0 f1_1 f1_2 hB
      obtain ⟨c0_0, c0_1, c0_2, c1_0, c1_1, c1_2, l0, l1, f0_0, f0_1, f0_2, f1_0, f1_1, f1_2, hB⟩ := id SF
      exact bodyPost_ret (v := .tuple #[.agg #[.int .i64 0, .string ⟨#[]⟩, .string ⟨#[]⟩], .int .i64 4]) (by simp [results, Tryz.results172, go_sem, c0_0, c0_1, c0_2]) rfl ⟨rfl, by rw [hn]; exact hB⟩
    | range =>
      rw [ha] at hp
      dsimp only at hp
      have HV := Lib.hid (show parseV s.toList = .tuple #[.agg #[.int .i64 0, .string ⟨#[]⟩, .string ⟨#[]⟩], .int .i64 4] from by unfold parseV evOf; rw [hp]; rfl)
      rw [HV.out]
      have hno : ¬ ∃ x, Lib.atoiAll q1 = .ok x := by rintro ⟨x, hx⟩; rw [hx] at ha; cases ha
      clear HV hp ha C0 C1 SH h2 hl
      go_enter Tryz.func172, Tryz.ntmps172
      go_wp2_with fail
      go_at_call 195
      generalize (w.alloc (.cells #[.int .i64 0, .string ⟨#[]⟩, .string ⟨#[]⟩] 24)).alloc (.cells #[.int .i64 0, .string ⟨#[]⟩, .string ⟨#[]⟩] 24) = W at *
      generalize hn : w.heap.size = n at *
      obtain ⟨c0_0, c0_1, c0_2, c1_0, c1_1, c1_2, l0, l1, f0_0, f0_1, f0_2, f1_0, f1_1, f1_2, hB⟩ := id S0
      refine (CC.out _ hB).mono ?_
      rintro e1 w1 ⟨rfl, h⟩
      have S1 := keep_pe S0 h
      clear c0_0 c0_1 c0_2 c1_0 c1_1 c1_2 l0 l1 f0_0 f0_1 f0_2 f1_0 f1_1 f1_2 hB
      clear S0 h
      obtain ⟨c0_0, c0_1, c0_2, c1_0, c1_1, c1_2, l0, l1, f0_0, f0_1, f0_2, f1_0, f1_1, f1_2, hB⟩ := id S1
      go_wp2_with fail
      go_at_call 196
      refine (AT.out _ hB).mono ?_
      rintro e2 w2 ⟨x, rfl, hx, h⟩
      have S2 := keep_pe S1 h
      clear c0_0 c0_1 c0_2 c1_0 c1_1 c1_2 l0 l1 f0_0 f0_1 f0_2 f1_0 f1_1 f1_2 hB
      clear S1 h
      obtain ⟨c0_0, c0_1, c0_2, c1_0, c1_1, c1_2, l0, l1, f0_0, f0_1, f0_2, f1_0, f1_1, f1_2, hB⟩ := id S2
      rcases hx with ⟨hx, _⟩ | ⟨_, N, rfl⟩
      · exact absurd hx hno
      clear hno
      go_wp2_with fail
      have SF := set_pe02 (set_pe01 (set_pe00 S2 (.int .i64 0)) (.string ⟨#[]⟩)) (.string ⟨#[]⟩)
      generalize ((w2.setCell { block := n, off := 0 } (Value.int IntKind.i64 0)).setCell { block := n, off := 1 } (Value.string { data := #[] })).setCell { block := n, off := 2 } (Value.string { data := #[] }) = U at *
      clear c0_0 c0_1 c0_2 c1_0 c1_1 c1_2 l0 l1 f0_0 f0_1 f0_2 f1_0 f1_1 f1_2 hB
      obtain ⟨c0_0, c0_1, c0_2, c1_0, c1_1, c1_2, l0, l1, f0_0, f0_1, f0_2, f1_0, f1_1, f1_2, hB⟩ := id SF
      exact bodyPost_ret (v := .tuple #[.agg #[.int .i64 0, .string ⟨#[]⟩, .string ⟨#[]⟩], .int .i64 4]) (by simp [results, Tryz.results172, go_sem, c0_0, c0_1, c0_2]) rfl ⟨rfl, by rw [hn]; exact hB⟩
  | false =>
    rw [if_neg (by decide)] at hp
    have hwf := behind_wf (v := 0) (t := s.toList) (by decide) hl
    have SE := Lib.hid (SH.out _ hwf)
    obtain ⟨E, hE⟩ : ∃ E, E = behind 0 s.toList := ⟨_, rfl⟩
    obtain ⟨v1, hv1⟩ : ∃ x, x = (Lib.cut s.toList [45]).1 := ⟨_, rfl⟩
    obtain ⟨v2, hv2⟩ : ∃ x, x = (Lib.cut s.toList [45]).2.1 := ⟨_, rfl⟩
    rw [← hv1, ← hv2] at C0
    generalize (Lib.cut s.toList [45]).2.2 = v3 at *
    clear hwf SH C1 AT h2 hl
    have hev : E.val = .agg #[.int .i64 0, .string (bs v1), .string (bs v2)] := by rw [hE]; unfold behind Evr.val; dsimp only; rw [hv1, hv2]
    rw [← hE] at hp SE
    rw [hev] at SE
    clear hE hv1 hv2
    cases hm : mayB E true with
    | false =>
      have HV := Lib.hid (show parseV s.toList = .tuple #[.agg #[.int .i64 0, .string ⟨#[]⟩, .string ⟨#[]⟩], .int .i64 4] from by unfold parseV evOf; rw [hp]; dsimp only; rw [if_neg (by rw [hm]; simp)]; rfl)
      rw [HV.out]
      rw [hm, if_neg (by decide)] at SE
      clear HV hp hm hev
      go_enter Tryz.func172, Tryz.ntmps172
      go_wp2_with fail
      go_at_call 195
      generalize (w.alloc (.cells #[.int .i64 0, .string ⟨#[]⟩, .string ⟨#[]⟩] 24)).alloc (.cells #[.int .i64 0, .string ⟨#[]⟩, .string ⟨#[]⟩] 24) = W at *
      generalize hn : w.heap.size = n at *
      obtain ⟨c0_0, c0_1, c0_2, c1_0, c1_1, c1_2, l0, l1, f0_0, f0_1, f0_2, f1_0, f1_1, f1_2, hB⟩ := id S0
      refine (CC.out _ hB).mono ?_
      rintro e1 w1 ⟨rfl, h⟩
      have S1 := keep_pe S0 h
      clear c0_0 c0_1 c0_2 c1_0 c1_1 c1_2 l0 l1 f0_0 f0_1 f0_2 f1_0 f1_1 f1_2 hB
      clear S0 h
      obtain ⟨c0_0, c0_1, c0_2, c1_0, c1_1, c1_2, l0, l1, f0_0, f0_1, f0_2, f1_0, f1_1, f1_2, hB⟩ := id S1
      go_wp2_with fail
      go_at_call 195
      refine (C0.out _ hB).mono ?_
      rintro e4 w4 ⟨rfl, h⟩
      have S2 := keep_pe S1 h
      clear c0_0 c0_1 c0_2 c1_0 c1_1 c1_2 l0 l1 f0_0 f0_1 f0_2 f1_0 f1_1 f1_2 hB
      clear S1 h
      obtain ⟨c0_0, c0_1, c0_2, c1_0, c1_1, c1_2, l0, l1, f0_0, f0_1, f0_2, f1_0, f1_1, f1_2, hB⟩ := id S2
      go_wp2_with fail
      go_at_call 193
      have S3 := set_pe12 (set_pe11 S2 (.string (bs v1))) (.string (bs v2))
      generalize (w4.setCell { block := n + 1, off := 1 } (Value.string (bs v1))).setCell { block := n + 1, off := 2 } (Value.string (bs v2)) = x3 at *
      clear c0_0 c0_1 c0_2 c1_0 c1_1 c1_2 l0 l1 f0_0 f0_1 f0_2 f1_0 f1_1 f1_2 hB
      clear S2
      obtain ⟨c0_0, c0_1, c0_2, c1_0, c1_1, c1_2, l0, l1, f0_0, f0_1, f0_2, f1_0, f1_1, f1_2, hB⟩ := id S3
      refine (SE.out _ hB).mono ?_
      rintro e5 w5 ⟨rfl, h⟩
      have S4 := keep_pe S3 h
      clear c0_0 c0_1 c0_2 c1_0 c1_1 c1_2 l0 l1 f0_0 f0_1 f0_2 f1_0 f1_1 f1_2 hB
      clear S3 h
      obtain ⟨c0_0, c0_1, c0_2, c1_0, c1_1, c1_2, l0, l1, f0_0, f0_1, f0_2, f1_0, f1_1, f1_2, hB⟩ := id S4
      go_wp2_with fail
      have SF := set_pe02 (set_pe01 (set_pe00 S4 (.int .i64 0)) (.string ⟨#[]⟩)) (.string ⟨#[]⟩)
      generalize ((w5.setCell { block := n, off := 0 } (Value.int IntKind.i64 0)).setCell { block := n, off := 1 } (Value.string { data := #[] })).setCell { block := n, off := 2 } (Value.string { data := #[] }) = U at *
      clear c0_0 c0_1 c0_2 c1_0 c1_1 c1_2 l0 l1 f0_0 f0_1 f0_2 f1_0 f1_1 f1_2 hB
      obtain ⟨c0_0, c0_1, c0_2, c1_0, c1_1, c1_2, l0, l1, f0_0, f0_1, f0_2, f1_0, f1_1, f1_2, hB⟩ := id SF
      exact bodyPost_ret (v := .tuple #[.agg #[.int .i64 0, .string ⟨#[]⟩, .string ⟨#[]⟩], .int .i64 4]) (by simp [results, Tryz.results172, go_sem, c0_0, c0_1, c0_2]) rfl ⟨rfl, by rw [hn]; exact hB⟩
    | true =>
      rw [hm, if_pos rfl] at SE
      by_cases hs2 : showL E = s.toList
      · have HV := Lib.hid (show parseV s.toList = .tuple #[.agg #[.int .i64 0, .string (bs v1), .string (bs v2)], .int .i64 0] from by unfold parseV evOf; rw [hp]; dsimp only; rw [if_pos ⟨hm, hs2⟩]; dsimp only; rw [hev])
        rw [HV.out]
        rw [hs2, bs_of] at SE
        clear HV hp hm hev hs2
        go_enter Tryz.func172, Tryz.ntmps172
        go_wp2_with fail
        go_at_call 195
        generalize (w.alloc (.cells #[.int .i64 0, .string ⟨#[]⟩, .string ⟨#[]⟩] 24)).alloc (.cells #[.int .i64 0, .string ⟨#[]⟩, .string ⟨#[]⟩] 24) = W at *
        generalize hn : w.heap.size = n at *
        obtain ⟨c0_0, c0_1, c0_2, c1_0, c1_1, c1_2, l0, l1, f0_0, f0_1, f0_2, f1_0, f1_1, f1_2, hB⟩ := id S0
        refine (CC.out _ hB).mono ?_
        rintro e1 w1 ⟨rfl, h⟩
        have S1 := keep_pe S0 h
        clear c0_0 c0_1 c0_2 c1_0 c1_1 c1_2 l0 l1 f0_0 f0_1 f0_2 f1_0 f1_1 f1_2 hB
        clear S0 h
        obtain ⟨c0_0, c0_1, c0_2, c1_0, c1_1, c1_2, l0, l1, f0_0, f0_1, f0_2, f1_0, f1_1, f1_2, hB⟩ := id S1
        go_wp2_with fail
        go_at_call 195
        refine (C0.out _ hB).mono ?_
        rintro e4 w4 ⟨rfl, h⟩
        have S2 := keep_pe S1 h
        clear c0_0 c0_1 c0_2 c1_0 c1_1 c1_2 l0 l1 f0_0 f0_1 f0_2 f1_0 f1_1 f1_2 hB
        clear S1 h
        obtain ⟨c0_0, c0_1, c0_2, c1_0, c1_1, c1_2, l0, l1, f0_0, f0_1, f0_2, f1_0, f1_1, f1_2, hB⟩ := id S2
        go_wp2_with fail
        go_at_call 193
        have S3 := set_pe12 (set_pe11 S2 (.string (bs v1))) (.string (bs v2))
        generalize (w4.setCell { block := n + 1, off := 1 } (Value.string (bs v1))).setCell { block := n + 1, off := 2 } (Value.string (bs v2)) = x3 at *
        clear c0_0 c0_1 c0_2 c1_0 c1_1 c1_2 l0 l1 f0_0 f0_1 f0_2 f1_0 f1_1 f1_2 hB
        clear S2
        obtain ⟨c0_0, c0_1, c0_2, c1_0, c1_1, c1_2, l0, l1, f0_0, f0_1, f0_2, f1_0, f1_1, f1_2, hB⟩ := id S3
        refine (SE.out _ hB).mono ?_
        rintro e5 w5 ⟨rfl, h⟩
        have S4 := keep_pe S3 h
        clear c0_0 c0_1 c0_2 c1_0 c1_1 c1_2 l0 l1 f0_0 f0_1 f0_2 f1_0 f1_1 f1_2 hB
        clear S3 h
        obtain ⟨c0_0, c0_1, c0_2, c1_0, c1_1, c1_2, l0, l1, f0_0, f0_1, f0_2, f1_0, f1_1, f1_2, hB⟩ := id S4
        go_wp2_with fail
        have SF := set_pe02 (set_pe01 (set_pe00 S4 (.int .i64 0)) (.string (bs v1))) (.string (bs v2))
        generalize ((w5.setCell { block := n, off := 0 } (Value.int IntKind.i64 0)).setCell { block := n, off := 1 } (Value.string (bs v1))).setCell { block := n, off := 2 } (Value.string (bs v2)) = U at *
        clear c0_0 c0_1 c0_2 c1_0 c1_1 c1_2 l0 l1 f0_0 f0_1 f0_2 f1_0 f1_1 f1_2 hB
        obtain ⟨c0_0, c0_1, c0_2, c1_0, c1_1, c1_2, l0, l1, f0_0, f0_1, f0_2, f1_0, f1_1, f1_2, hB⟩ := id SF
        exact bodyPost_ret (v := .tuple #[.agg #[.int .i64 0, .string (bs v1), .string (bs v2)], .int .i64 0]) (by simp [results, Tryz.results172, go_sem, c0_0, c0_1, c0_2]) rfl ⟨rfl, by rw [hn]; exact hB⟩
      · have HV := Lib.hid (show parseV s.toList = .tuple #[.agg #[.int .i64 0, .string ⟨#[]⟩, .string ⟨#[]⟩], .int .i64 4] from by unfold parseV evOf; rw [hp]; dsimp only; rw [if_neg (fun h => hs2 h.2)]; rfl)
        rw [HV.out]
        have d1 : ¬ (bs (showL E)).toList = s.toList := by rw [bs_toList]; exact hs2
        have d2 : ((bs (showL E)).toList == s.toList) = false := beq_eq_false_iff_ne.2 d1
        generalize bs (showL E) = TT at *
        clear HV hp hm hev hs2
        go_enter Tryz.func172, Tryz.ntmps172
        go_wp2_with fail
        go_at_call 195
        generalize (w.alloc (.cells #[.int .i64 0, .string ⟨#[]⟩, .string ⟨#[]⟩] 24)).alloc (.cells #[.int .i64 0, .string ⟨#[]⟩, .string ⟨#[]⟩] 24) = W at *
        generalize hn : w.heap.size = n at *
        obtain ⟨c0_0, c0_1, c0_2, c1_0, c1_1, c1_2, l0, l1, f0_0, f0_1, f0_2, f1_0, f1_1, f1_2, hB⟩ := id S0
        refine (CC.out _ hB).mono ?_
        rintro e1 w1 ⟨rfl, h⟩
        have S1 := keep_pe S0 h
        clear c0_0 c0_1 c0_2 c1_0 c1_1 c1_2 l0 l1 f0_0 f0_1 f0_2 f1_0 f1_1 f1_2 hB
        clear S0 h
        obtain ⟨c0_0, c0_1, c0_2, c1_0, c1_1, c1_2, l0, l1, f0_0, f0_1, f0_2, f1_0, f1_1, f1_2, hB⟩ := id S1
        go_wp2_with fail
        go_at_call 195
        refine (C0.out _ hB).mono ?_
        rintro e4 w4 ⟨rfl, h⟩
        have S2 := keep_pe S1 h
        clear c0_0 c0_1 c0_2 c1_0 c1_1 c1_2 l0 l1 f0_0 f0_1 f0_2 f1_0 f1_1 f1_2 hB
        clear S1 h
        obtain ⟨c0_0, c0_1, c0_2, c1_0, c1_1, c1_2, l0, l1, f0_0, f0_1, f0_2, f1_0, f1_1, f1_2, hB⟩ := id S2
        go_wp2_with fail
        go_at_call 193
        have S3 := set_pe12 (set_pe11 S2 (.string (bs v1))) (.string (bs v2))
        generalize (w4.setCell { block := n + 1, off := 1 } (Value.string (bs v1))).setCell { block := n + 1, off := 2 } (Value.string (bs v2)) = x3 at *
        clear c0_0 c0_1 c0_2 c1_0 c1_1 c1_2 l0 l1 f0_0 f0_1 f0_2 f1_0 f1_1 f1_2 hB
        clear S2
        obtain ⟨c0_0, c0_1, c0_2, c1_0, c1_1, c1_2, l0, l1, f0_0, f0_1, f0_2, f1_0, f1_1, f1_2, hB⟩ := id S3
        refine (SE.out _ hB).mono ?_
        rintro e5 w5 ⟨rfl, h⟩
        have S4 := keep_pe S3 h
        clear c0_0 c0_1 c0_2 c1_0 c1_1 c1_2 l0 l1 f0_0 f0_1 f0_2 f1_0 f1_1 f1_2 hB
        clear S3 h
        obtain ⟨c0_0, c0_1, c0_2, c1_0, c1_1, c1_2, l0, l1, f0_0, f0_1, f0_2, f1_0, f1_1, f1_2, hB⟩ := id S4
        go_wp2_with fail
        have SF := set_pe02 (set_pe01 (set_pe00 S4 (.int .i64 0)) (.string ⟨#[]⟩)) (.string ⟨#[]⟩)
        generalize ((w5.setCell { block := n, off := 0 } (Value.int IntKind.i64 0)).setCell { block := n, off := 1 } (Value.string { data := #[] })).setCell { block := n, off := 2 } (Value.string { data := #[] }) = U at *
        clear c0_0 c0_1 c0_2 c1_0 c1_1 c1_2 l0 l1 f0_0 f0_1 f0_2 f1_0 f1_1 f1_2 hB
        obtain ⟨c0_0, c0_1, c0_2, c1_0, c1_1, c1_2, l0, l1, f0_0, f0_1, f0_2, f1_0, f1_1, f1_2, hB⟩ := id SF
        exact bodyPost_ret (v := .tuple #[.agg #[.int .i64 0, .string ⟨#[]⟩, .string ⟨#[]⟩], .int .i64 4]) (by simp [results, Tryz.results172, go_sem, c0_0, c0_1, c0_2]) rfl ⟨rfl, by rw [hn]; exact hB⟩
end Go.Proofs.YtnfagaccbkeikaaGreatDoor
