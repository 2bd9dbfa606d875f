/- DepParts, walked. -/
import Derived.Test.YtmmebheciolnoaaDoorDepAwake
import Derived.Test.YtmmebheciolnoaaDoorDepRefN
namespace Go.Proofs.YtmmebheciolnoaaDoor
open Go.RowKit Go.Shelf

theorem want_no {d : Dp} {s : ByteArray} (h : dmayB d = false) : True := trivial
theorem want_x {d : Dp} {s : Bytes} (h : dmayB d = true) : dmayB ⟨s, d.op, d.evr⟩ = (nameB s && (d.op == 0 || !fileB s)) := by
  obtain ⟨h1, h2, h3⟩ := dmay_iff.1 h
  rw [dmay_parts]
  dsimp only
  rw [h2, Bool.true_and]
  rcases h3 with ⟨e1, e2⟩ | ⟨e1, e2, e3⟩
  · rw [e1, zero_iff.2 e2]; cases nameB s <;> rfl
  · have e4 : (d.op == 0) = false := by simpa using e1
    rw [e4, e3]; cases nameB s <;> cases fileB s <;> rfl
theorem keep_d6 {d : Dp} {s : ByteArray} {m : Nat} {n : Nat} {w W W' : World} (h : W.cell? ⟨n, 0, none⟩ = some (.string (bs d.name)) ∧ W.cell? ⟨n, 1, none⟩ = some (.int .u8 d.op) ∧ W.cell? ⟨n, 2, none⟩ = some (.int .i64 d.evr.epoch) ∧ W.cell? ⟨n, 3, none⟩ = some (.string (bs d.evr.ver)) ∧ W.cell? ⟨n, 4, none⟩ = some (.string (bs d.evr.rel)) ∧ W.cell? ⟨m, 0, none⟩ = some (.string s) ∧ W.cell? ⟨m, 1, none⟩ = some (.int .u8 d.op) ∧ W.cell? ⟨m, 2, none⟩ = some (.int .i64 d.evr.epoch) ∧ W.cell? ⟨m, 3, none⟩ = some (.string (bs d.evr.ver)) ∧ W.cell? ⟨m, 4, none⟩ = some (.string (bs d.evr.rel)) ∧ n < W.heap.size ∧ m < W.heap.size ∧ Below n w W) (hb : Below W.heap.size W W') :
    W'.cell? ⟨n, 0, none⟩ = some (.string (bs d.name)) ∧ W'.cell? ⟨n, 1, none⟩ = some (.int .u8 d.op) ∧ W'.cell? ⟨n, 2, none⟩ = some (.int .i64 d.evr.epoch) ∧ W'.cell? ⟨n, 3, none⟩ = some (.string (bs d.evr.ver)) ∧ W'.cell? ⟨n, 4, none⟩ = some (.string (bs d.evr.rel)) ∧ W'.cell? ⟨m, 0, none⟩ = some (.string s) ∧ W'.cell? ⟨m, 1, none⟩ = some (.int .u8 d.op) ∧ W'.cell? ⟨m, 2, none⟩ = some (.int .i64 d.evr.epoch) ∧ W'.cell? ⟨m, 3, none⟩ = some (.string (bs d.evr.ver)) ∧ W'.cell? ⟨m, 4, none⟩ = some (.string (bs d.evr.rel)) ∧ n < W'.heap.size ∧ m < W'.heap.size ∧ Below n w W' := by
  obtain ⟨c0_0, c0_1, c0_2, c0_3, c0_4, c1_0, c1_1, c1_2, c1_3, c1_4, l0, l1, hB⟩ := h
  have hB_le : n ≤ W.heap.size := by omega
  exact ⟨(hb.cell (p := ⟨n, 0, none⟩) l0).trans c0_0, (hb.cell (p := ⟨n, 1, none⟩) l0).trans c0_1, (hb.cell (p := ⟨n, 2, none⟩) l0).trans c0_2, (hb.cell (p := ⟨n, 3, none⟩) l0).trans c0_3, (hb.cell (p := ⟨n, 4, none⟩) l0).trans c0_4, (hb.cell (p := ⟨m, 0, none⟩) l1).trans c1_0, (hb.cell (p := ⟨m, 1, none⟩) l1).trans c1_1, (hb.cell (p := ⟨m, 2, none⟩) l1).trans c1_2, (hb.cell (p := ⟨m, 3, none⟩) l1).trans c1_3, (hb.cell (p := ⟨m, 4, none⟩) l1).trans c1_4, Nat.lt_of_lt_of_le l0 hb.size, Nat.lt_of_lt_of_le l1 hb.size, hB.trans (hb.mono hB_le)⟩
theorem tail_d6 {d : Dp} {s : ByteArray} {m : Nat} {n : Nat} {w W : World} (h : W.cell? ⟨n, 0, none⟩ = some (.string (bs d.name)) ∧ W.cell? ⟨n, 1, none⟩ = some (.int .u8 d.op) ∧ W.cell? ⟨n, 2, none⟩ = some (.int .i64 d.evr.epoch) ∧ W.cell? ⟨n, 3, none⟩ = some (.string (bs d.evr.ver)) ∧ W.cell? ⟨n, 4, none⟩ = some (.string (bs d.evr.rel)) ∧ W.cell? ⟨m, 0, none⟩ = some (.string s) ∧ W.cell? ⟨m, 1, none⟩ = some (.int .u8 d.op) ∧ W.cell? ⟨m, 2, none⟩ = some (.int .i64 d.evr.epoch) ∧ W.cell? ⟨m, 3, none⟩ = some (.string (bs d.evr.ver)) ∧ W.cell? ⟨m, 4, none⟩ = some (.string (bs d.evr.rel)) ∧ n < W.heap.size ∧ m < W.heap.size ∧ Below n w W) : Below n w W := h.2.2.2.2.2.2.2.2.2.2.2.2
theorem grow_d6 {d : Dp} (s : ByteArray) {n : Nat} {w W : World} (h : W.cell? ⟨n, 0, none⟩ = some (.string (bs d.name)) ∧ W.cell? ⟨n, 1, none⟩ = some (.int .u8 d.op) ∧ W.cell? ⟨n, 2, none⟩ = some (.int .i64 d.evr.epoch) ∧ W.cell? ⟨n, 3, none⟩ = some (.string (bs d.evr.ver)) ∧ W.cell? ⟨n, 4, none⟩ = some (.string (bs d.evr.rel)) ∧ n < W.heap.size ∧ Below n w W) : let V := W.alloc (.cells #[.string s, .int .u8 d.op, .int .i64 d.evr.epoch, .string (bs d.evr.ver), .string (bs d.evr.rel)] 40); let m := W.heap.size; V.cell? ⟨n, 0, none⟩ = some (.string (bs d.name)) ∧ V.cell? ⟨n, 1, none⟩ = some (.int .u8 d.op) ∧ V.cell? ⟨n, 2, none⟩ = some (.int .i64 d.evr.epoch) ∧ V.cell? ⟨n, 3, none⟩ = some (.string (bs d.evr.ver)) ∧ V.cell? ⟨n, 4, none⟩ = some (.string (bs d.evr.rel)) ∧ V.cell? ⟨m, 0, none⟩ = some (.string s) ∧ V.cell? ⟨m, 1, none⟩ = some (.int .u8 d.op) ∧ V.cell? ⟨m, 2, none⟩ = some (.int .i64 d.evr.epoch) ∧ V.cell? ⟨m, 3, none⟩ = some (.string (bs d.evr.ver)) ∧ V.cell? ⟨m, 4, none⟩ = some (.string (bs d.evr.rel)) ∧ n < V.heap.size ∧ m < V.heap.size ∧ Below n w V := by
  obtain ⟨c0_0, c0_1, c0_2, c0_3, c0_4, l0, hB⟩ := h
  exact ⟨(World.cell?_alloc_lt W _ ⟨n, 0, none⟩ l0).trans c0_0, (World.cell?_alloc_lt W _ ⟨n, 1, none⟩ l0).trans c0_1, (World.cell?_alloc_lt W _ ⟨n, 2, none⟩ l0).trans c0_2, (World.cell?_alloc_lt W _ ⟨n, 3, none⟩ l0).trans c0_3, (World.cell?_alloc_lt W _ ⟨n, 4, none⟩ l0).trans c0_4, (World.cell?_alloc_at _ _ _ _ rfl).trans rfl, (World.cell?_alloc_at _ _ _ _ rfl).trans rfl, (World.cell?_alloc_at _ _ _ _ rfl).trans rfl, (World.cell?_alloc_at _ _ _ _ rfl).trans rfl, (World.cell?_alloc_at _ _ _ _ rfl).trans rfl, by simp; omega, by simp, hB.alloc (by omega) _⟩
end Go.Proofs.YtmmebheciolnoaaDoor
