/- DepReads, walked. -/
import Derived.Test.YtmmebheciolnoaaDoorDepAwake
import Derived.Test.YtmmebheciolnoaaDoorDepLaid
import Derived.Test.YtmmebheciolnoaaDoorAppendTR
namespace Go.Proofs.YtmmebheciolnoaaDoor
open Go.RowKit Go.Shelf
set_option linter.unusedVariables false

theorem flat_enc (D : List ByteArray) : D.flatMap encS6 = D.map Value.string := by
  induction D with
  | nil => rfl
  | cons x D ih => simp only [List.flatMap_cons, List.map_cons, ih]; rfl
theorem own_of_map {w : World} {base : Nat} {e : TypeId} {v : Value} {D : List ByteArray} (h : w.ownsRow base e 1 v (0 + D.length) ([] ++ D.map Value.string)) : Own encS6 1 base e v D w := by
  unfold Own
  rw [flat_enc]
  simpa using h
theorem own_some {w : World} {base : Nat} {e : TypeId} {v : Value} {D : List ByteArray} (h : Own encS6 1 base e v D w) : ∃ A c, v = .slice A D.length c ∧ TR w A D := TR.of_own h
theorem keep_r1 {a0 : ByteArray} {a1 a2 : Int} {a3 a4 : ByteArray} {p : Nat} {n : Nat} {w W W' : World} (h : W.cell? ⟨p, 0, none⟩ = some (.string a0) ∧ W.cell? ⟨p, 1, none⟩ = some (.int .u8 a1) ∧ W.cell? ⟨p, 2, none⟩ = some (.int .i64 a2) ∧ W.cell? ⟨p, 3, none⟩ = some (.string a3) ∧ W.cell? ⟨p, 4, none⟩ = some (.string a4) ∧ p < W.heap.size ∧ n ≤ p ∧ Below n w W) (hb : Below W.heap.size W W') :
    W'.cell? ⟨p, 0, none⟩ = some (.string a0) ∧ W'.cell? ⟨p, 1, none⟩ = some (.int .u8 a1) ∧ W'.cell? ⟨p, 2, none⟩ = some (.int .i64 a2) ∧ W'.cell? ⟨p, 3, none⟩ = some (.string a3) ∧ W'.cell? ⟨p, 4, none⟩ = some (.string a4) ∧ p < W'.heap.size ∧ n ≤ p ∧ Below n w W' := by
  obtain ⟨c0_0, c0_1, c0_2, c0_3, c0_4, l0, lp, hB⟩ := h
  have hB_le : n ≤ W.heap.size := by omega
  exact ⟨(hb.cell (p := ⟨p, 0, none⟩) l0).trans c0_0, (hb.cell (p := ⟨p, 1, none⟩) l0).trans c0_1, (hb.cell (p := ⟨p, 2, none⟩) l0).trans c0_2, (hb.cell (p := ⟨p, 3, none⟩) l0).trans c0_3, (hb.cell (p := ⟨p, 4, none⟩) l0).trans c0_4, Nat.lt_of_lt_of_le l0 hb.size, lp, hB.trans (hb.mono hB_le)⟩
theorem keep_r2 {a0 : ByteArray} {a1 a2 : Int} {a3 a4 : ByteArray} {p : Nat} {q : Nat} {n : Nat} {w W W' : World} (h : W.cell? ⟨p, 0, none⟩ = some (.string a0) ∧ W.cell? ⟨p, 1, none⟩ = some (.int .u8 a1) ∧ W.cell? ⟨p, 2, none⟩ = some (.int .i64 a2) ∧ W.cell? ⟨p, 3, none⟩ = some (.string a3) ∧ W.cell? ⟨p, 4, none⟩ = some (.string a4) ∧ W.cell? ⟨q, 0, none⟩ = some (.string a0) ∧ W.cell? ⟨q, 1, none⟩ = some (.int .u8 a1) ∧ W.cell? ⟨q, 2, none⟩ = some (.int .i64 a2) ∧ W.cell? ⟨q, 3, none⟩ = some (.string a3) ∧ W.cell? ⟨q, 4, none⟩ = some (.string a4) ∧ p < W.heap.size ∧ q < W.heap.size ∧ n ≤ p ∧ Below n w W) (hb : Below W.heap.size W W') :
    W'.cell? ⟨p, 0, none⟩ = some (.string a0) ∧ W'.cell? ⟨p, 1, none⟩ = some (.int .u8 a1) ∧ W'.cell? ⟨p, 2, none⟩ = some (.int .i64 a2) ∧ W'.cell? ⟨p, 3, none⟩ = some (.string a3) ∧ W'.cell? ⟨p, 4, none⟩ = some (.string a4) ∧ W'.cell? ⟨q, 0, none⟩ = some (.string a0) ∧ W'.cell? ⟨q, 1, none⟩ = some (.int .u8 a1) ∧ W'.cell? ⟨q, 2, none⟩ = some (.int .i64 a2) ∧ W'.cell? ⟨q, 3, none⟩ = some (.string a3) ∧ W'.cell? ⟨q, 4, none⟩ = some (.string a4) ∧ p < W'.heap.size ∧ q < W'.heap.size ∧ n ≤ p ∧ Below n w W' := by
  obtain ⟨c0_0, c0_1, c0_2, c0_3, c0_4, c1_0, c1_1, c1_2, c1_3, c1_4, l0, l1, lp, hB⟩ := h
  have hB_le : n ≤ W.heap.size := by omega
  exact ⟨(hb.cell (p := ⟨p, 0, none⟩) l0).trans c0_0, (hb.cell (p := ⟨p, 1, none⟩) l0).trans c0_1, (hb.cell (p := ⟨p, 2, none⟩) l0).trans c0_2, (hb.cell (p := ⟨p, 3, none⟩) l0).trans c0_3, (hb.cell (p := ⟨p, 4, none⟩) l0).trans c0_4, (hb.cell (p := ⟨q, 0, none⟩) l1).trans c1_0, (hb.cell (p := ⟨q, 1, none⟩) l1).trans c1_1, (hb.cell (p := ⟨q, 2, none⟩) l1).trans c1_2, (hb.cell (p := ⟨q, 3, none⟩) l1).trans c1_3, (hb.cell (p := ⟨q, 4, none⟩) l1).trans c1_4, Nat.lt_of_lt_of_le l0 hb.size, Nat.lt_of_lt_of_le l1 hb.size, lp, hB.trans (hb.mono hB_le)⟩
theorem keep_r3 {a0 : ByteArray} {a1 a2 : Int} {a3 a4 : ByteArray} {p : Nat} {q : Nat} {b0 : ByteArray} {b1 b2 : Int} {b3 b4 : ByteArray} {r : Nat} {n : Nat} {w W W' : World} (h : W.cell? ⟨p, 0, none⟩ = some (.string a0) ∧ W.cell? ⟨p, 1, none⟩ = some (.int .u8 a1) ∧ W.cell? ⟨p, 2, none⟩ = some (.int .i64 a2) ∧ W.cell? ⟨p, 3, none⟩ = some (.string a3) ∧ W.cell? ⟨p, 4, none⟩ = some (.string a4) ∧ W.cell? ⟨q, 0, none⟩ = some (.string a0) ∧ W.cell? ⟨q, 1, none⟩ = some (.int .u8 a1) ∧ W.cell? ⟨q, 2, none⟩ = some (.int .i64 a2) ∧ W.cell? ⟨q, 3, none⟩ = some (.string a3) ∧ W.cell? ⟨q, 4, none⟩ = some (.string a4) ∧ W.cell? ⟨r, 0, none⟩ = some (.string b0) ∧ W.cell? ⟨r, 1, none⟩ = some (.int .u8 b1) ∧ W.cell? ⟨r, 2, none⟩ = some (.int .i64 b2) ∧ W.cell? ⟨r, 3, none⟩ = some (.string b3) ∧ W.cell? ⟨r, 4, none⟩ = some (.string b4) ∧ p < W.heap.size ∧ q < W.heap.size ∧ r < W.heap.size ∧ n ≤ p ∧ Below n w W) (hb : Below W.heap.size W W') :
    W'.cell? ⟨p, 0, none⟩ = some (.string a0) ∧ W'.cell? ⟨p, 1, none⟩ = some (.int .u8 a1) ∧ W'.cell? ⟨p, 2, none⟩ = some (.int .i64 a2) ∧ W'.cell? ⟨p, 3, none⟩ = some (.string a3) ∧ W'.cell? ⟨p, 4, none⟩ = some (.string a4) ∧ W'.cell? ⟨q, 0, none⟩ = some (.string a0) ∧ W'.cell? ⟨q, 1, none⟩ = some (.int .u8 a1) ∧ W'.cell? ⟨q, 2, none⟩ = some (.int .i64 a2) ∧ W'.cell? ⟨q, 3, none⟩ = some (.string a3) ∧ W'.cell? ⟨q, 4, none⟩ = some (.string a4) ∧ W'.cell? ⟨r, 0, none⟩ = some (.string b0) ∧ W'.cell? ⟨r, 1, none⟩ = some (.int .u8 b1) ∧ W'.cell? ⟨r, 2, none⟩ = some (.int .i64 b2) ∧ W'.cell? ⟨r, 3, none⟩ = some (.string b3) ∧ W'.cell? ⟨r, 4, none⟩ = some (.string b4) ∧ p < W'.heap.size ∧ q < W'.heap.size ∧ r < W'.heap.size ∧ n ≤ p ∧ Below n w W' := by
  obtain ⟨c0_0, c0_1, c0_2, c0_3, c0_4, c1_0, c1_1, c1_2, c1_3, c1_4, c2_0, c2_1, c2_2, c2_3, c2_4, l0, l1, l2, lp, hB⟩ := h
  have hB_le : n ≤ W.heap.size := by omega
  exact ⟨(hb.cell (p := ⟨p, 0, none⟩) l0).trans c0_0, (hb.cell (p := ⟨p, 1, none⟩) l0).trans c0_1, (hb.cell (p := ⟨p, 2, none⟩) l0).trans c0_2, (hb.cell (p := ⟨p, 3, none⟩) l0).trans c0_3, (hb.cell (p := ⟨p, 4, none⟩) l0).trans c0_4, (hb.cell (p := ⟨q, 0, none⟩) l1).trans c1_0, (hb.cell (p := ⟨q, 1, none⟩) l1).trans c1_1, (hb.cell (p := ⟨q, 2, none⟩) l1).trans c1_2, (hb.cell (p := ⟨q, 3, none⟩) l1).trans c1_3, (hb.cell (p := ⟨q, 4, none⟩) l1).trans c1_4, (hb.cell (p := ⟨r, 0, none⟩) l2).trans c2_0, (hb.cell (p := ⟨r, 1, none⟩) l2).trans c2_1, (hb.cell (p := ⟨r, 2, none⟩) l2).trans c2_2, (hb.cell (p := ⟨r, 3, none⟩) l2).trans c2_3, (hb.cell (p := ⟨r, 4, none⟩) l2).trans c2_4, Nat.lt_of_lt_of_le l0 hb.size, Nat.lt_of_lt_of_le l1 hb.size, Nat.lt_of_lt_of_le l2 hb.size, lp, hB.trans (hb.mono hB_le)⟩
theorem keep_r4 {a0 : ByteArray} {a1 a2 : Int} {a3 a4 : ByteArray} {p : Nat} {q : Nat} {b0 : ByteArray} {b1 b2 : Int} {b3 b4 : ByteArray} {r : Nat} {t : Nat} {n : Nat} {w W W' : World} (h : W.cell? ⟨p, 0, none⟩ = some (.string a0) ∧ W.cell? ⟨p, 1, none⟩ = some (.int .u8 a1) ∧ W.cell? ⟨p, 2, none⟩ = some (.int .i64 a2) ∧ W.cell? ⟨p, 3, none⟩ = some (.string a3) ∧ W.cell? ⟨p, 4, none⟩ = some (.string a4) ∧ W.cell? ⟨q, 0, none⟩ = some (.string a0) ∧ W.cell? ⟨q, 1, none⟩ = some (.int .u8 a1) ∧ W.cell? ⟨q, 2, none⟩ = some (.int .i64 a2) ∧ W.cell? ⟨q, 3, none⟩ = some (.string a3) ∧ W.cell? ⟨q, 4, none⟩ = some (.string a4) ∧ W.cell? ⟨r, 0, none⟩ = some (.string b0) ∧ W.cell? ⟨r, 1, none⟩ = some (.int .u8 b1) ∧ W.cell? ⟨r, 2, none⟩ = some (.int .i64 b2) ∧ W.cell? ⟨r, 3, none⟩ = some (.string b3) ∧ W.cell? ⟨r, 4, none⟩ = some (.string b4) ∧ W.cell? ⟨t, 0, none⟩ = some (.string b0) ∧ W.cell? ⟨t, 1, none⟩ = some (.int .u8 b1) ∧ W.cell? ⟨t, 2, none⟩ = some (.int .i64 b2) ∧ W.cell? ⟨t, 3, none⟩ = some (.string b3) ∧ W.cell? ⟨t, 4, none⟩ = some (.string b4) ∧ p < W.heap.size ∧ q < W.heap.size ∧ r < W.heap.size ∧ t < W.heap.size ∧ n ≤ p ∧ Below n w W) (hb : Below W.heap.size W W') :
    W'.cell? ⟨p, 0, none⟩ = some (.string a0) ∧ W'.cell? ⟨p, 1, none⟩ = some (.int .u8 a1) ∧ W'.cell? ⟨p, 2, none⟩ = some (.int .i64 a2) ∧ W'.cell? ⟨p, 3, none⟩ = some (.string a3) ∧ W'.cell? ⟨p, 4, none⟩ = some (.string a4) ∧ W'.cell? ⟨q, 0, none⟩ = some (.string a0) ∧ W'.cell? ⟨q, 1, none⟩ = some (.int .u8 a1) ∧ W'.cell? ⟨q, 2, none⟩ = some (.int .i64 a2) ∧ W'.cell? ⟨q, 3, none⟩ = some (.string a3) ∧ W'.cell? ⟨q, 4, none⟩ = some (.string a4) ∧ W'.cell? ⟨r, 0, none⟩ = some (.string b0) ∧ W'.cell? ⟨r, 1, none⟩ = some (.int .u8 b1) ∧ W'.cell? ⟨r, 2, none⟩ = some (.int .i64 b2) ∧ W'.cell? ⟨r, 3, none⟩ = some (.string b3) ∧ W'.cell? ⟨r, 4, none⟩ = some (.string b4) ∧ W'.cell? ⟨t, 0, none⟩ = some (.string b0) ∧ W'.cell? ⟨t, 1, none⟩ = some (.int .u8 b1) ∧ W'.cell? ⟨t, 2, none⟩ = some (.int .i64 b2) ∧ W'.cell? ⟨t, 3, none⟩ = some (.string b3) ∧ W'.cell? ⟨t, 4, none⟩ = some (.string b4) ∧ p < W'.heap.size ∧ q < W'.heap.size ∧ r < W'.heap.size ∧ t < W'.heap.size ∧ n ≤ p ∧ Below n w W' := by
  obtain ⟨c0_0, c0_1, c0_2, c0_3, c0_4, c1_0, c1_1, c1_2, c1_3, c1_4, c2_0, c2_1, c2_2, c2_3, c2_4, c3_0, c3_1, c3_2, c3_3, c3_4, l0, l1, l2, l3, lp, hB⟩ := h
  have hB_le : n ≤ W.heap.size := by omega
  exact ⟨(hb.cell (p := ⟨p, 0, none⟩) l0).trans c0_0, (hb.cell (p := ⟨p, 1, none⟩) l0).trans c0_1, (hb.cell (p := ⟨p, 2, none⟩) l0).trans c0_2, (hb.cell (p := ⟨p, 3, none⟩) l0).trans c0_3, (hb.cell (p := ⟨p, 4, none⟩) l0).trans c0_4, (hb.cell (p := ⟨q, 0, none⟩) l1).trans c1_0, (hb.cell (p := ⟨q, 1, none⟩) l1).trans c1_1, (hb.cell (p := ⟨q, 2, none⟩) l1).trans c1_2, (hb.cell (p := ⟨q, 3, none⟩) l1).trans c1_3, (hb.cell (p := ⟨q, 4, none⟩) l1).trans c1_4, (hb.cell (p := ⟨r, 0, none⟩) l2).trans c2_0, (hb.cell (p := ⟨r, 1, none⟩) l2).trans c2_1, (hb.cell (p := ⟨r, 2, none⟩) l2).trans c2_2, (hb.cell (p := ⟨r, 3, none⟩) l2).trans c2_3, (hb.cell (p := ⟨r, 4, none⟩) l2).trans c2_4, (hb.cell (p := ⟨t, 0, none⟩) l3).trans c3_0, (hb.cell (p := ⟨t, 1, none⟩) l3).trans c3_1, (hb.cell (p := ⟨t, 2, none⟩) l3).trans c3_2, (hb.cell (p := ⟨t, 3, none⟩) l3).trans c3_3, (hb.cell (p := ⟨t, 4, none⟩) l3).trans c3_4, Nat.lt_of_lt_of_le l0 hb.size, Nat.lt_of_lt_of_le l1 hb.size, Nat.lt_of_lt_of_le l2 hb.size, Nat.lt_of_lt_of_le l3 hb.size, lp, hB.trans (hb.mono hB_le)⟩
theorem tail_r4 {a0 : ByteArray} {a1 a2 : Int} {a3 a4 : ByteArray} {p : Nat} {q : Nat} {b0 : ByteArray} {b1 b2 : Int} {b3 b4 : ByteArray} {r : Nat} {t : Nat} {n : Nat} {w W : World} (h : W.cell? ⟨p, 0, none⟩ = some (.string a0) ∧ W.cell? ⟨p, 1, none⟩ = some (.int .u8 a1) ∧ W.cell? ⟨p, 2, none⟩ = some (.int .i64 a2) ∧ W.cell? ⟨p, 3, none⟩ = some (.string a3) ∧ W.cell? ⟨p, 4, none⟩ = some (.string a4) ∧ W.cell? ⟨q, 0, none⟩ = some (.string a0) ∧ W.cell? ⟨q, 1, none⟩ = some (.int .u8 a1) ∧ W.cell? ⟨q, 2, none⟩ = some (.int .i64 a2) ∧ W.cell? ⟨q, 3, none⟩ = some (.string a3) ∧ W.cell? ⟨q, 4, none⟩ = some (.string a4) ∧ W.cell? ⟨r, 0, none⟩ = some (.string b0) ∧ W.cell? ⟨r, 1, none⟩ = some (.int .u8 b1) ∧ W.cell? ⟨r, 2, none⟩ = some (.int .i64 b2) ∧ W.cell? ⟨r, 3, none⟩ = some (.string b3) ∧ W.cell? ⟨r, 4, none⟩ = some (.string b4) ∧ W.cell? ⟨t, 0, none⟩ = some (.string b0) ∧ W.cell? ⟨t, 1, none⟩ = some (.int .u8 b1) ∧ W.cell? ⟨t, 2, none⟩ = some (.int .i64 b2) ∧ W.cell? ⟨t, 3, none⟩ = some (.string b3) ∧ W.cell? ⟨t, 4, none⟩ = some (.string b4) ∧ p < W.heap.size ∧ q < W.heap.size ∧ r < W.heap.size ∧ t < W.heap.size ∧ n ≤ p ∧ Below n w W) : Below n w W := h.2.2.2.2.2.2.2.2.2.2.2.2.2.2.2.2.2.2.2.2.2.2.2.2.2
theorem grow_r2 {a0 : ByteArray} {a1 a2 : Int} {a3 a4 : ByteArray} {p : Nat} {n : Nat} {w W : World} (h : W.cell? ⟨p, 0, none⟩ = some (.string a0) ∧ W.cell? ⟨p, 1, none⟩ = some (.int .u8 a1) ∧ W.cell? ⟨p, 2, none⟩ = some (.int .i64 a2) ∧ W.cell? ⟨p, 3, none⟩ = some (.string a3) ∧ W.cell? ⟨p, 4, none⟩ = some (.string a4) ∧ p < W.heap.size ∧ n ≤ p ∧ Below n w W) : let V := W.alloc (.cells #[.string a0, .int .u8 a1, .int .i64 a2, .string a3, .string a4] 40); let q := W.heap.size; V.cell? ⟨p, 0, none⟩ = some (.string a0) ∧ V.cell? ⟨p, 1, none⟩ = some (.int .u8 a1) ∧ V.cell? ⟨p, 2, none⟩ = some (.int .i64 a2) ∧ V.cell? ⟨p, 3, none⟩ = some (.string a3) ∧ V.cell? ⟨p, 4, none⟩ = some (.string a4) ∧ V.cell? ⟨q, 0, none⟩ = some (.string a0) ∧ V.cell? ⟨q, 1, none⟩ = some (.int .u8 a1) ∧ V.cell? ⟨q, 2, none⟩ = some (.int .i64 a2) ∧ V.cell? ⟨q, 3, none⟩ = some (.string a3) ∧ V.cell? ⟨q, 4, none⟩ = some (.string a4) ∧ p < V.heap.size ∧ q < V.heap.size ∧ n ≤ p ∧ Below n w V := by
  obtain ⟨c0_0, c0_1, c0_2, c0_3, c0_4, l0, lp, hB⟩ := h
  exact ⟨(World.cell?_alloc_lt W _ ⟨p, 0, none⟩ l0).trans c0_0, (World.cell?_alloc_lt W _ ⟨p, 1, none⟩ l0).trans c0_1, (World.cell?_alloc_lt W _ ⟨p, 2, none⟩ l0).trans c0_2, (World.cell?_alloc_lt W _ ⟨p, 3, none⟩ l0).trans c0_3, (World.cell?_alloc_lt W _ ⟨p, 4, none⟩ l0).trans c0_4, (World.cell?_alloc_at _ _ _ _ rfl).trans rfl, (World.cell?_alloc_at _ _ _ _ rfl).trans rfl, (World.cell?_alloc_at _ _ _ _ rfl).trans rfl, (World.cell?_alloc_at _ _ _ _ rfl).trans rfl, (World.cell?_alloc_at _ _ _ _ rfl).trans rfl, by simp; omega, by simp, lp, hB.alloc (by omega) _⟩
theorem grow_r3 {a0 : ByteArray} {a1 a2 : Int} {a3 a4 : ByteArray} {p : Nat} {q : Nat} (b0 : ByteArray) (b1 b2 : Int) (b3 b4 : ByteArray) {n : Nat} {w W : World} (h : W.cell? ⟨p, 0, none⟩ = some (.string a0) ∧ W.cell? ⟨p, 1, none⟩ = some (.int .u8 a1) ∧ W.cell? ⟨p, 2, none⟩ = some (.int .i64 a2) ∧ W.cell? ⟨p, 3, none⟩ = some (.string a3) ∧ W.cell? ⟨p, 4, none⟩ = some (.string a4) ∧ W.cell? ⟨q, 0, none⟩ = some (.string a0) ∧ W.cell? ⟨q, 1, none⟩ = some (.int .u8 a1) ∧ W.cell? ⟨q, 2, none⟩ = some (.int .i64 a2) ∧ W.cell? ⟨q, 3, none⟩ = some (.string a3) ∧ W.cell? ⟨q, 4, none⟩ = some (.string a4) ∧ p < W.heap.size ∧ q < W.heap.size ∧ n ≤ p ∧ Below n w W) : let V := W.alloc (.cells #[.string b0, .int .u8 b1, .int .i64 b2, .string b3, .string b4] 40); let r := W.heap.size; V.cell? ⟨p, 0, none⟩ = some (.string a0) ∧ V.cell? ⟨p, 1, none⟩ = some (.int .u8 a1) ∧ V.cell? ⟨p, 2, none⟩ = some (.int .i64 a2) ∧ V.cell? ⟨p, 3, none⟩ = some (.string a3) ∧ V.cell? ⟨p, 4, none⟩ = some (.string a4) ∧ V.cell? ⟨q, 0, none⟩ = some (.string a0) ∧ V.cell? ⟨q, 1, none⟩ = some (.int .u8 a1) ∧ V.cell? ⟨q, 2, none⟩ = some (.int .i64 a2) ∧ V.cell? ⟨q, 3, none⟩ = some (.string a3) ∧ V.cell? ⟨q, 4, none⟩ = some (.string a4) ∧ V.cell? ⟨r, 0, none⟩ = some (.string b0) ∧ V.cell? ⟨r, 1, none⟩ = some (.int .u8 b1) ∧ V.cell? ⟨r, 2, none⟩ = some (.int .i64 b2) ∧ V.cell? ⟨r, 3, none⟩ = some (.string b3) ∧ V.cell? ⟨r, 4, none⟩ = some (.string b4) ∧ p < V.heap.size ∧ q < V.heap.size ∧ r < V.heap.size ∧ n ≤ p ∧ Below n w V := by
  obtain ⟨c0_0, c0_1, c0_2, c0_3, c0_4, c1_0, c1_1, c1_2, c1_3, c1_4, l0, l1, lp, hB⟩ := h
  exact ⟨(World.cell?_alloc_lt W _ ⟨p, 0, none⟩ l0).trans c0_0, (World.cell?_alloc_lt W _ ⟨p, 1, none⟩ l0).trans c0_1, (World.cell?_alloc_lt W _ ⟨p, 2, none⟩ l0).trans c0_2, (World.cell?_alloc_lt W _ ⟨p, 3, none⟩ l0).trans c0_3, (World.cell?_alloc_lt W _ ⟨p, 4, none⟩ l0).trans c0_4, (World.cell?_alloc_lt W _ ⟨q, 0, none⟩ l1).trans c1_0, (World.cell?_alloc_lt W _ ⟨q, 1, none⟩ l1).trans c1_1, (World.cell?_alloc_lt W _ ⟨q, 2, none⟩ l1).trans c1_2, (World.cell?_alloc_lt W _ ⟨q, 3, none⟩ l1).trans c1_3, (World.cell?_alloc_lt W _ ⟨q, 4, none⟩ l1).trans c1_4, (World.cell?_alloc_at _ _ _ _ rfl).trans rfl, (World.cell?_alloc_at _ _ _ _ rfl).trans rfl, (World.cell?_alloc_at _ _ _ _ rfl).trans rfl, (World.cell?_alloc_at _ _ _ _ rfl).trans rfl, (World.cell?_alloc_at _ _ _ _ rfl).trans rfl, by simp; omega, by simp; omega, by simp, lp, hB.alloc (by omega) _⟩
theorem grow_r4 {a0 : ByteArray} {a1 a2 : Int} {a3 a4 : ByteArray} {p : Nat} {q : Nat} {b0 : ByteArray} {b1 b2 : Int} {b3 b4 : ByteArray} {r : Nat} {n : Nat} {w W : World} (h : W.cell? ⟨p, 0, none⟩ = some (.string a0) ∧ W.cell? ⟨p, 1, none⟩ = some (.int .u8 a1) ∧ W.cell? ⟨p, 2, none⟩ = some (.int .i64 a2) ∧ W.cell? ⟨p, 3, none⟩ = some (.string a3) ∧ W.cell? ⟨p, 4, none⟩ = some (.string a4) ∧ W.cell? ⟨q, 0, none⟩ = some (.string a0) ∧ W.cell? ⟨q, 1, none⟩ = some (.int .u8 a1) ∧ W.cell? ⟨q, 2, none⟩ = some (.int .i64 a2) ∧ W.cell? ⟨q, 3, none⟩ = some (.string a3) ∧ W.cell? ⟨q, 4, none⟩ = some (.string a4) ∧ W.cell? ⟨r, 0, none⟩ = some (.string b0) ∧ W.cell? ⟨r, 1, none⟩ = some (.int .u8 b1) ∧ W.cell? ⟨r, 2, none⟩ = some (.int .i64 b2) ∧ W.cell? ⟨r, 3, none⟩ = some (.string b3) ∧ W.cell? ⟨r, 4, none⟩ = some (.string b4) ∧ p < W.heap.size ∧ q < W.heap.size ∧ r < W.heap.size ∧ n ≤ p ∧ Below n w W) : let V := W.alloc (.cells #[.string b0, .int .u8 b1, .int .i64 b2, .string b3, .string b4] 40); let t := W.heap.size; V.cell? ⟨p, 0, none⟩ = some (.string a0) ∧ V.cell? ⟨p, 1, none⟩ = some (.int .u8 a1) ∧ V.cell? ⟨p, 2, none⟩ = some (.int .i64 a2) ∧ V.cell? ⟨p, 3, none⟩ = some (.string a3) ∧ V.cell? ⟨p, 4, none⟩ = some (.string a4) ∧ V.cell? ⟨q, 0, none⟩ = some (.string a0) ∧ V.cell? ⟨q, 1, none⟩ = some (.int .u8 a1) ∧ V.cell? ⟨q, 2, none⟩ = some (.int .i64 a2) ∧ V.cell? ⟨q, 3, none⟩ = some (.string a3) ∧ V.cell? ⟨q, 4, none⟩ = some (.string a4) ∧ V.cell? ⟨r, 0, none⟩ = some (.string b0) ∧ V.cell? ⟨r, 1, none⟩ = some (.int .u8 b1) ∧ V.cell? ⟨r, 2, none⟩ = some (.int .i64 b2) ∧ V.cell? ⟨r, 3, none⟩ = some (.string b3) ∧ V.cell? ⟨r, 4, none⟩ = some (.string b4) ∧ V.cell? ⟨t, 0, none⟩ = some (.string b0) ∧ V.cell? ⟨t, 1, none⟩ = some (.int .u8 b1) ∧ V.cell? ⟨t, 2, none⟩ = some (.int .i64 b2) ∧ V.cell? ⟨t, 3, none⟩ = some (.string b3) ∧ V.cell? ⟨t, 4, none⟩ = some (.string b4) ∧ p < V.heap.size ∧ q < V.heap.size ∧ r < V.heap.size ∧ t < V.heap.size ∧ n ≤ p ∧ Below n w V := by
  obtain ⟨c0_0, c0_1, c0_2, c0_3, c0_4, c1_0, c1_1, c1_2, c1_3, c1_4, c2_0, c2_1, c2_2, c2_3, c2_4, l0, l1, l2, lp, hB⟩ := h
  exact ⟨(World.cell?_alloc_lt W _ ⟨p, 0, none⟩ l0).trans c0_0, (World.cell?_alloc_lt W _ ⟨p, 1, none⟩ l0).trans c0_1, (World.cell?_alloc_lt W _ ⟨p, 2, none⟩ l0).trans c0_2, (World.cell?_alloc_lt W _ ⟨p, 3, none⟩ l0).trans c0_3, (World.cell?_alloc_lt W _ ⟨p, 4, none⟩ l0).trans c0_4, (World.cell?_alloc_lt W _ ⟨q, 0, none⟩ l1).trans c1_0, (World.cell?_alloc_lt W _ ⟨q, 1, none⟩ l1).trans c1_1, (World.cell?_alloc_lt W _ ⟨q, 2, none⟩ l1).trans c1_2, (World.cell?_alloc_lt W _ ⟨q, 3, none⟩ l1).trans c1_3, (World.cell?_alloc_lt W _ ⟨q, 4, none⟩ l1).trans c1_4, (World.cell?_alloc_lt W _ ⟨r, 0, none⟩ l2).trans c2_0, (World.cell?_alloc_lt W _ ⟨r, 1, none⟩ l2).trans c2_1, (World.cell?_alloc_lt W _ ⟨r, 2, none⟩ l2).trans c2_2, (World.cell?_alloc_lt W _ ⟨r, 3, none⟩ l2).trans c2_3, (World.cell?_alloc_lt W _ ⟨r, 4, none⟩ l2).trans c2_4, (World.cell?_alloc_at _ _ _ _ rfl).trans rfl, (World.cell?_alloc_at _ _ _ _ rfl).trans rfl, (World.cell?_alloc_at _ _ _ _ rfl).trans rfl, (World.cell?_alloc_at _ _ _ _ rfl).trans rfl, (World.cell?_alloc_at _ _ _ _ rfl).trans rfl, by simp; omega, by simp; omega, by simp; omega, by simp, lp, hB.alloc (by omega) _⟩
theorem grow_r1 (a0 : ByteArray) (a1 a2 : Int) (a3 a4 : ByteArray) {n : Nat} {w W : World} (hB : Below n w W) (hl : n ≤ W.heap.size) : let V := W.alloc (.cells #[.string a0, .int .u8 a1, .int .i64 a2, .string a3, .string a4] 40); let p := W.heap.size; V.cell? ⟨p, 0, none⟩ = some (.string a0) ∧ V.cell? ⟨p, 1, none⟩ = some (.int .u8 a1) ∧ V.cell? ⟨p, 2, none⟩ = some (.int .i64 a2) ∧ V.cell? ⟨p, 3, none⟩ = some (.string a3) ∧ V.cell? ⟨p, 4, none⟩ = some (.string a4) ∧ p < V.heap.size ∧ n ≤ p ∧ Below n w V := by
  exact ⟨(World.cell?_alloc_at _ _ _ _ rfl).trans rfl, (World.cell?_alloc_at _ _ _ _ rfl).trans rfl, (World.cell?_alloc_at _ _ _ _ rfl).trans rfl, (World.cell?_alloc_at _ _ _ _ rfl).trans rfl, (World.cell?_alloc_at _ _ _ _ rfl).trans rfl, by simp, hl, hB.alloc hl _⟩
set_option maxRecDepth 100000 in
set_option maxHeartbeats 16000000 in
theorem depReads_s (w : World) (hI : DpIn w) (s : ByteArray) (hs : s.size ≤ maxLen) (l : List ByteArray) (A : Option Addr) (cap : Nat) (hl : Rd (fun s => [Value.string s]) 1 w.heap.size A cap l w) (hz : ∀ s ∈ l, s.size ≤ reachBytes) (ls : 1000 < s.size) : Calls Tryd.prog 6 #[.string s, .slice A l.length cap] w fun e w' => e = .returned (.bool true) ∧ Below w.heap.size w w' := by
  have AW := Lib.hid (awake06 w hI)
  unfold maxLen at hs
  have h1 : (1000 : Int) < (s.size : Int) := by omega
  clear hI hl hz ls
  generalize l.length = n at *
  go_enter Tryd.func6, Tryd.ntmps6
  go_wp2_with fail
  go_at_call 30
  refine AW.out.mono ?_
  rintro e1 w1 ⟨rfl, h⟩
  go_wp2_with fail
  go_ret
  exact ⟨rfl, h⟩
set_option maxRecDepth 100000 in
set_option maxHeartbeats 16000000 in
theorem depReads_n (w : World) (hI : DpIn w) (s : ByteArray) (hs : s.size ≤ maxLen) (l : List ByteArray) (A : Option Addr) (cap : Nat) (hl : Rd (fun s => [Value.string s]) 1 w.heap.size A cap l w) (hz : ∀ s ∈ l, s.size ≤ reachBytes) (ls : s.size ≤ 1000) (ln : 20 < l.length) : Calls Tryd.prog 6 #[.string s, .slice A l.length cap] w fun e w' => e = .returned (.bool true) ∧ Below w.heap.size w w' := by
  have AW := Lib.hid (awake06 w hI)
  unfold maxLen at hs
  have hm := hl.len
  have h1 : ¬ (1000 : Int) < (s.size : Int) := by omega
  have h2 : (20 : Int) < (l.length : Int) := by omega
  clear hI hl hz ls ln
  generalize l.length = n at *
  go_enter Tryd.func6, Tryd.ntmps6
  go_wp2_with fail
  go_at_call 30
  refine AW.out.mono ?_
  rintro e1 w1 ⟨rfl, h⟩
  go_wp2_with fail
  go_ret
  exact ⟨rfl, h⟩
set_option maxRecDepth 100000 in
set_option maxHeartbeats 16000000 in
theorem depReads_all (w : World) (hI : DpIn w) (s : ByteArray) (hs : s.size ≤ maxLen) (l : List ByteArray) (A : Option Addr) (cap : Nat) (hl : Rd (fun s => [Value.string s]) 1 w.heap.size A cap l w) (hz : ∀ s ∈ l, s.size ≤ reachBytes) (ls : s.size ≤ 1000) (ln : l.length ≤ 20) : Calls Tryd.prog 6 #[.string s, .slice A l.length cap] w fun e w' => e = .returned (.bool true) ∧ Below w.heap.size w w' := by
  have AW := Lib.hid (fun W (h : Below w.heap.size w W) => awake06 W (hI.below h))
  unfold maxLen at hs
  have h1 : ¬ (1000 : Int) < (s.size : Int) := by omega
  have h2 : ¬ (20 : Int) < (l.length : Int) := by omega
  have HRd := Lib.hid hl
  have HZ := Lib.hid hz
  have hTR := Lib.hid (TR.of_rd hl)
  have hTR2 := Lib.hid (TR.of_rd hl)
  have PA := Lib.hid (fun W (h : Below w.heap.size w W) => dparse_any s W (by omega) (hI.below h))
  have PB := Lib.hid (fun W => rdparse_any s W (by omega))
  have OA := Lib.hid (fun (hsm : ∀ x ∈ l, x.size ≤ 4000000000) W (h : Below w.heap.size w W) => dof_any A cap l W (by omega) hsm (hTR.out.calls h) (hI.below h))
  have OB := Lib.hid (fun (hsm : ∀ x ∈ l, x.size ≤ 4000000000) W (h : Below w.heap.size w W) => rdof_any A cap l W (by omega) hsm (hTR.out.calls h))
  have TX := Lib.hid (fun B c W (h : Below w.heap.size w W) (h2 : TR W B l) => show Calls Tryd.prog 35 #[.slice A l.length cap, .slice B l.length c] W fun r w' => r = .returned (.bool true) ∧ Below W.heap.size W w' from by have h3 := textsR06_any A B cap c _ _ W (by omega) (by omega) (hTR.out.calls h) h2; rw [decide_eq_true (rfl : l = l)] at h3; exact h3)
  obtain ⟨a0, a1, a2, a3, a4, fa, hVa⟩ := ofV_form (dpOf (splitSp s.toList))
  rw [hVa] at PA PB
  obtain ⟨b0, b1, b2, b3, b4, fb, hVb⟩ := ofV_form (dpOf (l.map (·.toList)))
  rw [hVb] at OA OB
  obtain ⟨n, hn0⟩ : ∃ n, n = l.length := ⟨_, rfl⟩
  rw [← hn0] at OA OB TX h2 ⊢
  have HN := Lib.hid hn0
  clear hI hl hz ls ln hVa hVb hn0 hTR
  go_enter Tryd.func6, Tryd.ntmps6
  go_wp2_with fail
  go_loop [5] (fun i => ∃ k : Nat, k ≤ n ∧ i = .int .i64 (k : Int) ∧ Hid (∀ j (hj : j < l.length), j < k → l[j].size ≤ 1000)) (fun i => n - (intOf i).toNat)
  case atStart => exact ⟨0, by omega, rfl, Lib.hid (by intro j hj h; omega)⟩
  case round =>
    obtain ⟨k, hk, rfl, hS⟩ := hrel
    by_cases hlt : k < n
    · have hkl : k < l.length := by have := HN.out; omega
      obtain ⟨b, o, rfl, _, x0⟩ := HRd.out.at1 (f := fun s => Value.string s) (fun _ => rfl) hkl
      have hsz : l[k].size ≤ 140737488351232 := by have := HZ.out l[k] (List.getElem_mem _); have h : reachBytes = 140737488351232 := rfl; omega
      have HF := Lib.hid (show l[k].size ≤ 1000 → ∀ j (hj : j < l.length), j < k + 1 → l[j].size ≤ 1000 from fun h j hj hjk => by
        by_cases e : j = k
        · subst e; exact h
        · exact hS.out j hj (by omega))
      generalize l[k] = x at *
      have i0 : (0 : Int) ≤ (k : Int) := by omega
      have i1 : (k : Int) < (n : Int) := by omega
      by_cases h3 : 1000 < x.size
      · have h4 : (1000 : Int) < (x.size : Int) := by omega
        have AX := Lib.hid (AW.out w (Below.refl _ _))
        clear HF hS AW
        go_wp2_with fail
        go_at_call 30
        refine AX.out.mono ?_
        rintro e1 w1 ⟨rfl, h⟩
        go_wp2_with fail
        go_ret
        exact ⟨rfl, h⟩
      · have h4 : ¬ (1000 : Int) < (x.size : Int) := by omega
        have HX := Lib.hid (HF.out (by omega))
        clear HF hS
        go_wp2_with fail
        go_round
        case rel => exact ⟨k + 1, by omega, by go_num, HX⟩
        case measure => simp [intOf]; omega
    · have i1 : ¬ (k : Int) < (n : Int) := by omega
      have hsm : ∀ x ∈ l, x.size ≤ 4000000000 := fun x hx => by
        obtain ⟨j, hj, rfl⟩ := List.getElem_of_mem hx
        have := hS.out j hj (by have := HN.out; omega)
        omega
      have OC := Lib.hid (OA.out hsm)
      have OD := Lib.hid (OB.out hsm)
      clear OA OB hsm hS HZ
      have hTW := hTR2.out.calls ((Below.refl w.heap.size w).alloc (Nat.le_refl _) (.cells #[] 9))
      go_wp2_with (at_builtin; refine wpList_append_tr _ rfl _ _ 22 rfl w.heap.size 9 _ (by rfl) (by rfl) (by rfl) (by rfl) (by rfl) _ 0 [] rfl (World.ownsRow_made w #[] 0 (Nat.le_refl _) (Nat.zero_le _) rfl) A cap l n HN.out rfl hTW (by have := HN.out; unfold maxLen; omega) (by have := HN.out; omega) (by simp) ?_; intro v1 w1 ho1 hg1 hw1)
      have hB := ((Below.refl _ w).alloc (Nat.le_refl _) _).grown hg1 (by simp) (fun j hj => by cases hj; exact Nat.le_refl _)
      obtain ⟨Bk, ck, hv, hTk⟩ := own_some (own_of_map ho1)
      rw [← HN.out] at hv
      subst hv
      have T := Lib.hid hTk
      clear ho1 hg1 hw1 hTk hTW hTR2 HRd
      go_wp2_with fail
      go_at_call 31
      refine (PA.out _ hB).mono ?_
      rintro e2 w2 ⟨rfl, h⟩
      have hB2 := hB.trans (h.mono hB.size)
      have T2 := Lib.hid (T.out.calls h)
      clear h hB T PA
      have SG := grow_r1 a0 a1 a2 a3 a4 hB2 hB2.size
      dsimp only at SG
      have T3 := Lib.hid (T2.out.calls ((Below.refl w2.heap.size w2).alloc (Nat.le_refl _) (.cells #[.string a0, .int .u8 a1, .int .i64 a2, .string a3, .string a4] 40)))
      clear T2
      go_wp2_with fail
      go_at_call 32
      generalize hV : w2.alloc (.cells #[.string a0, .int .u8 a1, .int .i64 a2, .string a3, .string a4] 40) = Vp at *
      generalize w2.heap.size = p at *
      clear hV
      obtain ⟨c0_0, c0_1, c0_2, c0_3, c0_4, l0, lp, hB⟩ := id SG
      refine (PB.out _).mono ?_
      rintro e3 w3 ⟨rfl, h⟩
      have S3 := keep_r1 SG h
      have T2 := Lib.hid (T3.out.calls h)
      clear SG T3 h c0_0 c0_1 c0_2 c0_3 c0_4 l0 lp hB
      obtain ⟨c0_0, c0_1, c0_2, c0_3, c0_4, l0, lp, hB⟩ := id S3
      have SG := grow_r2 S3
      dsimp only at SG
      have T3 := Lib.hid (T2.out.calls ((Below.refl w3.heap.size w3).alloc (Nat.le_refl _) (.cells #[.string a0, .int .u8 a1, .int .i64 a2, .string a3, .string a4] 40)))
      clear T2
      go_wp2_with fail
      go_at_call 33
      generalize hV : w3.alloc (.cells #[.string a0, .int .u8 a1, .int .i64 a2, .string a3, .string a4] 40) = Vq at *
      generalize w3.heap.size = q at *
      clear hV S3 c0_0 c0_1 c0_2 c0_3 c0_4 l0 lp hB
      obtain ⟨c0_0, c0_1, c0_2, c0_3, c0_4, c1_0, c1_1, c1_2, c1_3, c1_4, l0, l1, lp, hB⟩ := id SG
      refine (OC.out _ hB).mono ?_
      rintro e4 w4 ⟨rfl, h⟩
      have S4 := keep_r2 SG h
      have T2 := Lib.hid (T3.out.calls h)
      clear SG T3 h c0_0 c0_1 c0_2 c0_3 c0_4 c1_0 c1_1 c1_2 c1_3 c1_4 l0 l1 lp hB
      obtain ⟨c0_0, c0_1, c0_2, c0_3, c0_4, c1_0, c1_1, c1_2, c1_3, c1_4, l0, l1, lp, hB⟩ := id S4
      have SG := grow_r3 b0 b1 b2 b3 b4 S4
      dsimp only at SG
      have T3 := Lib.hid (T2.out.calls ((Below.refl w4.heap.size w4).alloc (Nat.le_refl _) (.cells #[.string b0, .int .u8 b1, .int .i64 b2, .string b3, .string b4] 40)))
      clear T2
      go_wp2_with fail
      go_at_call 34
      generalize hV : w4.alloc (.cells #[.string b0, .int .u8 b1, .int .i64 b2, .string b3, .string b4] 40) = Vr at *
      generalize w4.heap.size = r at *
      clear hV S4 c0_0 c0_1 c0_2 c0_3 c0_4 c1_0 c1_1 c1_2 c1_3 c1_4 l0 l1 lp hB
      obtain ⟨c0_0, c0_1, c0_2, c0_3, c0_4, c1_0, c1_1, c1_2, c1_3, c1_4, c2_0, c2_1, c2_2, c2_3, c2_4, l0, l1, l2, lp, hB⟩ := id SG
      refine (OD.out _ hB).mono ?_
      rintro e5 w5 ⟨rfl, h⟩
      have S5 := keep_r3 SG h
      have T2 := Lib.hid (T3.out.calls h)
      clear SG T3 h c0_0 c0_1 c0_2 c0_3 c0_4 c1_0 c1_1 c1_2 c1_3 c1_4 c2_0 c2_1 c2_2 c2_3 c2_4 l0 l1 l2 lp hB
      obtain ⟨c0_0, c0_1, c0_2, c0_3, c0_4, c1_0, c1_1, c1_2, c1_3, c1_4, c2_0, c2_1, c2_2, c2_3, c2_4, l0, l1, l2, lp, hB⟩ := id S5
      have SG := grow_r4 S5
      dsimp only at SG
      have T3 := Lib.hid (T2.out.calls ((Below.refl w5.heap.size w5).alloc (Nat.le_refl _) (.cells #[.string b0, .int .u8 b1, .int .i64 b2, .string b3, .string b4] 40)))
      clear T2
      go_wp2_with fail
      go_at_call 35
      generalize hV : w5.alloc (.cells #[.string b0, .int .u8 b1, .int .i64 b2, .string b3, .string b4] 40) = Vt at *
      generalize w5.heap.size = t at *
      clear hV S5 c0_0 c0_1 c0_2 c0_3 c0_4 c1_0 c1_1 c1_2 c1_3 c1_4 c2_0 c2_1 c2_2 c2_3 c2_4 l0 l1 l2 lp hB
      obtain ⟨c0_0, c0_1, c0_2, c0_3, c0_4, c1_0, c1_1, c1_2, c1_3, c1_4, c2_0, c2_1, c2_2, c2_3, c2_4, c3_0, c3_1, c3_2, c3_3, c3_4, l0, l1, l2, l3, lp, hB⟩ := id SG
      refine (TX.out _ _ _ hB T3.out).mono ?_
      rintro e6 w6 ⟨rfl, h⟩
      have S6 := keep_r4 SG h
      have T2 := Lib.hid (T3.out.calls h)
      clear SG T3 h c0_0 c0_1 c0_2 c0_3 c0_4 c1_0 c1_1 c1_2 c1_3 c1_4 c2_0 c2_1 c2_2 c2_3 c2_4 c3_0 c3_1 c3_2 c3_3 c3_4 l0 l1 l2 l3 lp hB
      obtain ⟨c0_0, c0_1, c0_2, c0_3, c0_4, c1_0, c1_1, c1_2, c1_3, c1_4, c2_0, c2_1, c2_2, c2_3, c2_4, c3_0, c3_1, c3_2, c3_3, c3_4, l0, l1, l2, l3, lp, hB⟩ := id S6
      clear PB OC OD TX T2
      go_wp2_with fail
      go_at_call 30
      refine (AW.out _ hB).mono ?_
      rintro e7 w7 ⟨rfl, h⟩
      have hB7 := hB.trans (h.mono hB.size)
      go_wp2_with fail
      go_ret
      exact ⟨rfl, hB7⟩
theorem depReads_row (w : World) (hI : DpIn w) (s : ByteArray) (hs : s.size ≤ maxLen) (l : List ByteArray) (A : Option Addr) (cap : Nat) (hl : Rd (fun s => [Value.string s]) 1 w.heap.size A cap l w) (hz : ∀ s ∈ l, s.size ≤ reachBytes) : Calls Tryd.prog 6 #[.string s, .slice A l.length cap] w fun e w' => e = .returned (.bool true) ∧ Below w.heap.size w w' := by
  by_cases ls : s.size ≤ 1000
  · by_cases ln : l.length ≤ 20
    · exact depReads_all w hI s hs l A cap hl hz ls ln
    · exact depReads_n w hI s hs l A cap hl hz ls (by omega)
  · exact depReads_s w hI s hs l A cap hl hz (by omega)
end Go.Proofs.YtmmebheciolnoaaDoor
