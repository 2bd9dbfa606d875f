/- SpanBoth, walked. -/
import Derived.Test.YtaibdghalhbpnaaDoorSpanMeets
import Derived.Test.YtaibdghalhbpnaaDoorSpLaw
namespace Go.Proofs.YtaibdghalhbpnaaDoor
open Go.RowKit Go.Shelf

theorem keep_b3 {a b : Dp} {e : Evr} {n : Nat} {w W W' : World} (h : W.cell? ⟨n, 0, none⟩ = some (.string (bs a.name)) ∧ W.cell? ⟨n, 1, none⟩ = some (.int .u8 a.op) ∧ W.cell? ⟨n, 2, none⟩ = some (.int .i64 a.evr.epoch) ∧ W.cell? ⟨n, 3, none⟩ = some (.string (bs a.evr.ver)) ∧ W.cell? ⟨n, 4, none⟩ = some (.string (bs a.evr.rel)) ∧ W.cell? ⟨n + 1, 0, none⟩ = some (.string (bs b.name)) ∧ W.cell? ⟨n + 1, 1, none⟩ = some (.int .u8 b.op) ∧ W.cell? ⟨n + 1, 2, none⟩ = some (.int .i64 b.evr.epoch) ∧ W.cell? ⟨n + 1, 3, none⟩ = some (.string (bs b.evr.ver)) ∧ W.cell? ⟨n + 1, 4, none⟩ = some (.string (bs b.evr.rel)) ∧ W.cell? ⟨n + 1 + 1, 0, none⟩ = some (.int .i64 e.epoch) ∧ W.cell? ⟨n + 1 + 1, 1, none⟩ = some (.string (bs e.ver)) ∧ W.cell? ⟨n + 1 + 1, 2, none⟩ = some (.string (bs e.rel)) ∧ n < W.heap.size ∧ n + 1 < W.heap.size ∧ n + 1 + 1 < W.heap.size ∧ Below n w W) (hb : Below W.heap.size W W') :
    W'.cell? ⟨n, 0, none⟩ = some (.string (bs a.name)) ∧ W'.cell? ⟨n, 1, none⟩ = some (.int .u8 a.op) ∧ W'.cell? ⟨n, 2, none⟩ = some (.int .i64 a.evr.epoch) ∧ W'.cell? ⟨n, 3, none⟩ = some (.string (bs a.evr.ver)) ∧ W'.cell? ⟨n, 4, none⟩ = some (.string (bs a.evr.rel)) ∧ W'.cell? ⟨n + 1, 0, none⟩ = some (.string (bs b.name)) ∧ W'.cell? ⟨n + 1, 1, none⟩ = some (.int .u8 b.op) ∧ W'.cell? ⟨n + 1, 2, none⟩ = some (.int .i64 b.evr.epoch) ∧ W'.cell? ⟨n + 1, 3, none⟩ = some (.string (bs b.evr.ver)) ∧ W'.cell? ⟨n + 1, 4, none⟩ = some (.string (bs b.evr.rel)) ∧ W'.cell? ⟨n + 1 + 1, 0, none⟩ = some (.int .i64 e.epoch) ∧ W'.cell? ⟨n + 1 + 1, 1, none⟩ = some (.string (bs e.ver)) ∧ W'.cell? ⟨n + 1 + 1, 2, none⟩ = some (.string (bs e.rel)) ∧ n < W'.heap.size ∧ n + 1 < W'.heap.size ∧ n + 1 + 1 < W'.heap.size ∧ Below n w W' := by
  obtain ⟨c0_0, c0_1, c0_2, c0_3, c0_4, c1_0, c1_1, c1_2, c1_3, c1_4, c2_0, c2_1, c2_2, l0, l1, l2, hB⟩ := h
  have hB_le : n ≤ W.heap.size := by omega
  exact ⟨(hb.cell (p := ⟨n, 0, none⟩) l0).trans c0_0, (hb.cell (p := ⟨n, 1, none⟩) l0).trans c0_1, (hb.cell (p := ⟨n, 2, none⟩) l0).trans c0_2, (hb.cell (p := ⟨n, 3, none⟩) l0).trans c0_3, (hb.cell (p := ⟨n, 4, none⟩) l0).trans c0_4, (hb.cell (p := ⟨n + 1, 0, none⟩) l1).trans c1_0, (hb.cell (p := ⟨n + 1, 1, none⟩) l1).trans c1_1, (hb.cell (p := ⟨n + 1, 2, none⟩) l1).trans c1_2, (hb.cell (p := ⟨n + 1, 3, none⟩) l1).trans c1_3, (hb.cell (p := ⟨n + 1, 4, none⟩) l1).trans c1_4, (hb.cell (p := ⟨n + 1 + 1, 0, none⟩) l2).trans c2_0, (hb.cell (p := ⟨n + 1 + 1, 1, none⟩) l2).trans c2_1, (hb.cell (p := ⟨n + 1 + 1, 2, none⟩) l2).trans c2_2, Nat.lt_of_lt_of_le l0 hb.size, Nat.lt_of_lt_of_le l1 hb.size, Nat.lt_of_lt_of_le l2 hb.size, hB.trans (hb.mono hB_le)⟩
theorem keep_b4 {a b : Dp} {e : Evr} {m : Nat} {n : Nat} {w W W' : World} (h : W.cell? ⟨n, 0, none⟩ = some (.string (bs a.name)) ∧ W.cell? ⟨n, 1, none⟩ = some (.int .u8 a.op) ∧ W.cell? ⟨n, 2, none⟩ = some (.int .i64 a.evr.epoch) ∧ W.cell? ⟨n, 3, none⟩ = some (.string (bs a.evr.ver)) ∧ W.cell? ⟨n, 4, none⟩ = some (.string (bs a.evr.rel)) ∧ W.cell? ⟨n + 1, 0, none⟩ = some (.string (bs b.name)) ∧ W.cell? ⟨n + 1, 1, none⟩ = some (.int .u8 b.op) ∧ W.cell? ⟨n + 1, 2, none⟩ = some (.int .i64 b.evr.epoch) ∧ W.cell? ⟨n + 1, 3, none⟩ = some (.string (bs b.evr.ver)) ∧ W.cell? ⟨n + 1, 4, none⟩ = some (.string (bs b.evr.rel)) ∧ W.cell? ⟨n + 1 + 1, 0, none⟩ = some (.int .i64 e.epoch) ∧ W.cell? ⟨n + 1 + 1, 1, none⟩ = some (.string (bs e.ver)) ∧ W.cell? ⟨n + 1 + 1, 2, none⟩ = some (.string (bs e.rel)) ∧ W.cell? ⟨m, 0, none⟩ = some (.string (bs a.name)) ∧ W.cell? ⟨m, 1, none⟩ = some (.int .u8 2) ∧ W.cell? ⟨m, 2, none⟩ = some (.int .i64 a.evr.epoch) ∧ W.cell? ⟨m, 3, none⟩ = some (.string (bs a.evr.ver)) ∧ W.cell? ⟨m, 4, none⟩ = some (.string (bs a.evr.rel)) ∧ n < W.heap.size ∧ n + 1 < W.heap.size ∧ n + 1 + 1 < W.heap.size ∧ m < W.heap.size ∧ Below n w W) (hb : Below W.heap.size W W') :
    W'.cell? ⟨n, 0, none⟩ = some (.string (bs a.name)) ∧ W'.cell? ⟨n, 1, none⟩ = some (.int .u8 a.op) ∧ W'.cell? ⟨n, 2, none⟩ = some (.int .i64 a.evr.epoch) ∧ W'.cell? ⟨n, 3, none⟩ = some (.string (bs a.evr.ver)) ∧ W'.cell? ⟨n, 4, none⟩ = some (.string (bs a.evr.rel)) ∧ W'.cell? ⟨n + 1, 0, none⟩ = some (.string (bs b.name)) ∧ W'.cell? ⟨n + 1, 1, none⟩ = some (.int .u8 b.op) ∧ W'.cell? ⟨n + 1, 2, none⟩ = some (.int .i64 b.evr.epoch) ∧ W'.cell? ⟨n + 1, 3, none⟩ = some (.string (bs b.evr.ver)) ∧ W'.cell? ⟨n + 1, 4, none⟩ = some (.string (bs b.evr.rel)) ∧ W'.cell? ⟨n + 1 + 1, 0, none⟩ = some (.int .i64 e.epoch) ∧ W'.cell? ⟨n + 1 + 1, 1, none⟩ = some (.string (bs e.ver)) ∧ W'.cell? ⟨n + 1 + 1, 2, none⟩ = some (.string (bs e.rel)) ∧ W'.cell? ⟨m, 0, none⟩ = some (.string (bs a.name)) ∧ W'.cell? ⟨m, 1, none⟩ = some (.int .u8 2) ∧ W'.cell? ⟨m, 2, none⟩ = some (.int .i64 a.evr.epoch) ∧ W'.cell? ⟨m, 3, none⟩ = some (.string (bs a.evr.ver)) ∧ W'.cell? ⟨m, 4, none⟩ = some (.string (bs a.evr.rel)) ∧ n < W'.heap.size ∧ n + 1 < W'.heap.size ∧ n + 1 + 1 < W'.heap.size ∧ m < W'.heap.size ∧ Below n w W' := by
  obtain ⟨c0_0, c0_1, c0_2, c0_3, c0_4, c1_0, c1_1, c1_2, c1_3, c1_4, c2_0, c2_1, c2_2, c3_0, c3_1, c3_2, c3_3, c3_4, l0, l1, l2, l3, hB⟩ := h
  have hB_le : n ≤ W.heap.size := by omega
  exact ⟨(hb.cell (p := ⟨n, 0, none⟩) l0).trans c0_0, (hb.cell (p := ⟨n, 1, none⟩) l0).trans c0_1, (hb.cell (p := ⟨n, 2, none⟩) l0).trans c0_2, (hb.cell (p := ⟨n, 3, none⟩) l0).trans c0_3, (hb.cell (p := ⟨n, 4, none⟩) l0).trans c0_4, (hb.cell (p := ⟨n + 1, 0, none⟩) l1).trans c1_0, (hb.cell (p := ⟨n + 1, 1, none⟩) l1).trans c1_1, (hb.cell (p := ⟨n + 1, 2, none⟩) l1).trans c1_2, (hb.cell (p := ⟨n + 1, 3, none⟩) l1).trans c1_3, (hb.cell (p := ⟨n + 1, 4, none⟩) l1).trans c1_4, (hb.cell (p := ⟨n + 1 + 1, 0, none⟩) l2).trans c2_0, (hb.cell (p := ⟨n + 1 + 1, 1, none⟩) l2).trans c2_1, (hb.cell (p := ⟨n + 1 + 1, 2, none⟩) l2).trans c2_2, (hb.cell (p := ⟨m, 0, none⟩) l3).trans c3_0, (hb.cell (p := ⟨m, 1, none⟩) l3).trans c3_1, (hb.cell (p := ⟨m, 2, none⟩) l3).trans c3_2, (hb.cell (p := ⟨m, 3, none⟩) l3).trans c3_3, (hb.cell (p := ⟨m, 4, none⟩) l3).trans c3_4, Nat.lt_of_lt_of_le l0 hb.size, Nat.lt_of_lt_of_le l1 hb.size, Nat.lt_of_lt_of_le l2 hb.size, Nat.lt_of_lt_of_le l3 hb.size, hB.trans (hb.mono hB_le)⟩
theorem tail_b3 {a b : Dp} {e : Evr} {n : Nat} {w W : World} (h : W.cell? ⟨n, 0, none⟩ = some (.string (bs a.name)) ∧ W.cell? ⟨n, 1, none⟩ = some (.int .u8 a.op) ∧ W.cell? ⟨n, 2, none⟩ = some (.int .i64 a.evr.epoch) ∧ W.cell? ⟨n, 3, none⟩ = some (.string (bs a.evr.ver)) ∧ W.cell? ⟨n, 4, none⟩ = some (.string (bs a.evr.rel)) ∧ W.cell? ⟨n + 1, 0, none⟩ = some (.string (bs b.name)) ∧ W.cell? ⟨n + 1, 1, none⟩ = some (.int .u8 b.op) ∧ W.cell? ⟨n + 1, 2, none⟩ = some (.int .i64 b.evr.epoch) ∧ W.cell? ⟨n + 1, 3, none⟩ = some (.string (bs b.evr.ver)) ∧ W.cell? ⟨n + 1, 4, none⟩ = some (.string (bs b.evr.rel)) ∧ W.cell? ⟨n + 1 + 1, 0, none⟩ = some (.int .i64 e.epoch) ∧ W.cell? ⟨n + 1 + 1, 1, none⟩ = some (.string (bs e.ver)) ∧ W.cell? ⟨n + 1 + 1, 2, none⟩ = some (.string (bs e.rel)) ∧ n < W.heap.size ∧ n + 1 < W.heap.size ∧ n + 1 + 1 < W.heap.size ∧ Below n w W) : Below n w W := h.2.2.2.2.2.2.2.2.2.2.2.2.2.2.2.2
theorem tail_b4 {a b : Dp} {e : Evr} {m : Nat} {n : Nat} {w W : World} (h : W.cell? ⟨n, 0, none⟩ = some (.string (bs a.name)) ∧ W.cell? ⟨n, 1, none⟩ = some (.int .u8 a.op) ∧ W.cell? ⟨n, 2, none⟩ = some (.int .i64 a.evr.epoch) ∧ W.cell? ⟨n, 3, none⟩ = some (.string (bs a.evr.ver)) ∧ W.cell? ⟨n, 4, none⟩ = some (.string (bs a.evr.rel)) ∧ W.cell? ⟨n + 1, 0, none⟩ = some (.string (bs b.name)) ∧ W.cell? ⟨n + 1, 1, none⟩ = some (.int .u8 b.op) ∧ W.cell? ⟨n + 1, 2, none⟩ = some (.int .i64 b.evr.epoch) ∧ W.cell? ⟨n + 1, 3, none⟩ = some (.string (bs b.evr.ver)) ∧ W.cell? ⟨n + 1, 4, none⟩ = some (.string (bs b.evr.rel)) ∧ W.cell? ⟨n + 1 + 1, 0, none⟩ = some (.int .i64 e.epoch) ∧ W.cell? ⟨n + 1 + 1, 1, none⟩ = some (.string (bs e.ver)) ∧ W.cell? ⟨n + 1 + 1, 2, none⟩ = some (.string (bs e.rel)) ∧ W.cell? ⟨m, 0, none⟩ = some (.string (bs a.name)) ∧ W.cell? ⟨m, 1, none⟩ = some (.int .u8 2) ∧ W.cell? ⟨m, 2, none⟩ = some (.int .i64 a.evr.epoch) ∧ W.cell? ⟨m, 3, none⟩ = some (.string (bs a.evr.ver)) ∧ W.cell? ⟨m, 4, none⟩ = some (.string (bs a.evr.rel)) ∧ n < W.heap.size ∧ n + 1 < W.heap.size ∧ n + 1 + 1 < W.heap.size ∧ m < W.heap.size ∧ Below n w W) : Below n w W := h.2.2.2.2.2.2.2.2.2.2.2.2.2.2.2.2.2.2.2.2.2.2
theorem new_b3 (a b : Dp) (e : Evr) (w : World) : let W := (((w.alloc (.cells #[.string (bs a.name), .int .u8 a.op, .int .i64 a.evr.epoch, .string (bs a.evr.ver), .string (bs a.evr.rel)] 25)).alloc (.cells #[.string (bs b.name), .int .u8 b.op, .int .i64 b.evr.epoch, .string (bs b.evr.ver), .string (bs b.evr.rel)] 25)).alloc (.cells #[.int .i64 e.epoch, .string (bs e.ver), .string (bs e.rel)] 23)); let n := w.heap.size; W.cell? ⟨n, 0, none⟩ = some (.string (bs a.name)) ∧ W.cell? ⟨n, 1, none⟩ = some (.int .u8 a.op) ∧ W.cell? ⟨n, 2, none⟩ = some (.int .i64 a.evr.epoch) ∧ W.cell? ⟨n, 3, none⟩ = some (.string (bs a.evr.ver)) ∧ W.cell? ⟨n, 4, none⟩ = some (.string (bs a.evr.rel)) ∧ W.cell? ⟨n + 1, 0, none⟩ = some (.string (bs b.name)) ∧ W.cell? ⟨n + 1, 1, none⟩ = some (.int .u8 b.op) ∧ W.cell? ⟨n + 1, 2, none⟩ = some (.int .i64 b.evr.epoch) ∧ W.cell? ⟨n + 1, 3, none⟩ = some (.string (bs b.evr.ver)) ∧ W.cell? ⟨n + 1, 4, none⟩ = some (.string (bs b.evr.rel)) ∧ W.cell? ⟨n + 1 + 1, 0, none⟩ = some (.int .i64 e.epoch) ∧ W.cell? ⟨n + 1 + 1, 1, none⟩ = some (.string (bs e.ver)) ∧ W.cell? ⟨n + 1 + 1, 2, none⟩ = some (.string (bs e.rel)) ∧ n < W.heap.size ∧ n + 1 < W.heap.size ∧ n + 1 + 1 < W.heap.size ∧ Below n w W := by
  refine ⟨?_, ?_, ?_, ?_, ?_, ?_, ?_, ?_, ?_, ?_, ?_, ?_, ?_, ?_, ?_, ?_, ?_⟩
  all_goals first | exact (World.cell?_alloc_at _ _ _ _ (by simp)).trans rfl | exact (World.cell?_alloc_past _ _ _ (by simp; try omega)).trans ((World.cell?_alloc_at _ _ _ _ (by simp)).trans rfl) | exact (World.cell?_alloc_past _ _ _ (by simp; try omega)).trans ((World.cell?_alloc_past _ _ _ (by simp; try omega)).trans ((World.cell?_alloc_at _ _ _ _ (by simp)).trans rfl)) | exact ((((Below.refl _ _).alloc (by simp; try omega) _).alloc (by simp; try omega) _).alloc (by simp; try omega) _) | (simp; try omega)
theorem grow_b4 {a b : Dp} {e : Evr} {n : Nat} {w W : World} (h : W.cell? ⟨n, 0, none⟩ = some (.string (bs a.name)) ∧ W.cell? ⟨n, 1, none⟩ = some (.int .u8 a.op) ∧ W.cell? ⟨n, 2, none⟩ = some (.int .i64 a.evr.epoch) ∧ W.cell? ⟨n, 3, none⟩ = some (.string (bs a.evr.ver)) ∧ W.cell? ⟨n, 4, none⟩ = some (.string (bs a.evr.rel)) ∧ W.cell? ⟨n + 1, 0, none⟩ = some (.string (bs b.name)) ∧ W.cell? ⟨n + 1, 1, none⟩ = some (.int .u8 b.op) ∧ W.cell? ⟨n + 1, 2, none⟩ = some (.int .i64 b.evr.epoch) ∧ W.cell? ⟨n + 1, 3, none⟩ = some (.string (bs b.evr.ver)) ∧ W.cell? ⟨n + 1, 4, none⟩ = some (.string (bs b.evr.rel)) ∧ W.cell? ⟨n + 1 + 1, 0, none⟩ = some (.int .i64 e.epoch) ∧ W.cell? ⟨n + 1 + 1, 1, none⟩ = some (.string (bs e.ver)) ∧ W.cell? ⟨n + 1 + 1, 2, none⟩ = some (.string (bs e.rel)) ∧ n < W.heap.size ∧ n + 1 < W.heap.size ∧ n + 1 + 1 < W.heap.size ∧ Below n w W) : let V := W.alloc (.cells #[.string (bs a.name), .int .u8 2, .int .i64 a.evr.epoch, .string (bs a.evr.ver), .string (bs a.evr.rel)] 25); let m := W.heap.size; V.cell? ⟨n, 0, none⟩ = some (.string (bs a.name)) ∧ V.cell? ⟨n, 1, none⟩ = some (.int .u8 a.op) ∧ V.cell? ⟨n, 2, none⟩ = some (.int .i64 a.evr.epoch) ∧ V.cell? ⟨n, 3, none⟩ = some (.string (bs a.evr.ver)) ∧ V.cell? ⟨n, 4, none⟩ = some (.string (bs a.evr.rel)) ∧ V.cell? ⟨n + 1, 0, none⟩ = some (.string (bs b.name)) ∧ V.cell? ⟨n + 1, 1, none⟩ = some (.int .u8 b.op) ∧ V.cell? ⟨n + 1, 2, none⟩ = some (.int .i64 b.evr.epoch) ∧ V.cell? ⟨n + 1, 3, none⟩ = some (.string (bs b.evr.ver)) ∧ V.cell? ⟨n + 1, 4, none⟩ = some (.string (bs b.evr.rel)) ∧ V.cell? ⟨n + 1 + 1, 0, none⟩ = some (.int .i64 e.epoch) ∧ V.cell? ⟨n + 1 + 1, 1, none⟩ = some (.string (bs e.ver)) ∧ V.cell? ⟨n + 1 + 1, 2, none⟩ = some (.string (bs e.rel)) ∧ V.cell? ⟨m, 0, none⟩ = some (.string (bs a.name)) ∧ V.cell? ⟨m, 1, none⟩ = some (.int .u8 2) ∧ V.cell? ⟨m, 2, none⟩ = some (.int .i64 a.evr.epoch) ∧ V.cell? ⟨m, 3, none⟩ = some (.string (bs a.evr.ver)) ∧ V.cell? ⟨m, 4, none⟩ = some (.string (bs a.evr.rel)) ∧ n < V.heap.size ∧ n + 1 < V.heap.size ∧ n + 1 + 1 < V.heap.size ∧ m < V.heap.size ∧ Below n w V := by
  obtain ⟨c0_0, c0_1, c0_2, c0_3, c0_4, c1_0, c1_1, c1_2, c1_3, c1_4, c2_0, c2_1, c2_2, l0, l1, l2, hB⟩ := h
  exact ⟨(World.cell?_alloc_lt W _ ⟨n, 0, none⟩ l0).trans c0_0, (World.cell?_alloc_lt W _ ⟨n, 1, none⟩ l0).trans c0_1, (World.cell?_alloc_lt W _ ⟨n, 2, none⟩ l0).trans c0_2, (World.cell?_alloc_lt W _ ⟨n, 3, none⟩ l0).trans c0_3, (World.cell?_alloc_lt W _ ⟨n, 4, none⟩ l0).trans c0_4, (World.cell?_alloc_lt W _ ⟨n + 1, 0, none⟩ l1).trans c1_0, (World.cell?_alloc_lt W _ ⟨n + 1, 1, none⟩ l1).trans c1_1, (World.cell?_alloc_lt W _ ⟨n + 1, 2, none⟩ l1).trans c1_2, (World.cell?_alloc_lt W _ ⟨n + 1, 3, none⟩ l1).trans c1_3, (World.cell?_alloc_lt W _ ⟨n + 1, 4, none⟩ l1).trans c1_4, (World.cell?_alloc_lt W _ ⟨n + 1 + 1, 0, none⟩ l2).trans c2_0, (World.cell?_alloc_lt W _ ⟨n + 1 + 1, 1, none⟩ l2).trans c2_1, (World.cell?_alloc_lt W _ ⟨n + 1 + 1, 2, none⟩ l2).trans c2_2, (World.cell?_alloc_at _ _ _ _ rfl).trans rfl, (World.cell?_alloc_at _ _ _ _ rfl).trans rfl, (World.cell?_alloc_at _ _ _ _ rfl).trans rfl, (World.cell?_alloc_at _ _ _ _ rfl).trans rfl, (World.cell?_alloc_at _ _ _ _ rfl).trans rfl, by simp; omega, by simp; omega, by simp; omega, by simp, hB.alloc (by omega) _⟩
set_option maxRecDepth 100000 in
set_option maxHeartbeats 16000000 in
theorem spanBoth_row (w : World) (hO : OpsIn w) (a : Dp) (wa : a.wf) (b : Dp) (wb : b.wf) (e : Evr) (we : e.wf) : Calls Tryd.prog 5 #[a.val, b.val, e.val] w fun e w' => e = .returned (.bool true) ∧ Below w.heap.size w w' := by
  have LA := Lib.hid (fun W => long04 a.evr W ⟨wa.2.2.2.1, wa.2.2.2.2⟩)
  have LB := Lib.hid (fun W => long04 b.evr W ⟨wb.2.2.2.1, wb.2.2.2.2⟩)
  have LE := Lib.hid (fun W => long04 e W ⟨we.2.1, we.2.2⟩)
  have AW := Lib.hid (fun W (h : Below w.heap.size w W) => awake04 W (hO.below h))
  have S0 := new_b3 a b e w
  dsimp only at S0
  have oa := Evr.ok_of a.evr
  have ob := Evr.ok_of b.evr
  have oe := Evr.ok_of e
  have ua := u8_wf wa.2.1
  have ub := u8_wf wb.2.1
  have MC := Lib.hid (fun ha hb W => meet_any { a with op := 2 } b W (oa ha) (ob hb) (show (0 : Int) ≤ 2 by decide) (show (2 : Int) ≤ 255 by decide) ub.1 ub.2)
  rw [show meetP { a with op := 2 } b = hasP b a.evr from meet_equal ub] at MC
  have HB := Lib.hid (fun ha hb W => has_any b a.evr W (ob hb) (oa ha) ub.1 ub.2)
  have M := Lib.hid (fun ha hb W => meet_any a b W (oa ha) (ob hb) ua.1 ua.2 ub.1 ub.2)
  have H1 := Lib.hid (fun ha he W => has_any a e W (oa ha) (oe he) ua.1 ua.2)
  have H2 := Lib.hid (fun hb he W => has_any b e W (ob hb) (oe he) ub.1 ub.2)
  have LAW := Lib.hid (fun g1 g2 g3 g4 g5 => meet_both (a := a) (b := b) (e := e) ua ub g1 g2 g3 g4 g5)
  clear oa ob oe ua ub wa wb we hO
  generalize longB a.evr = la at *
  generalize longB b.evr = lb at *
  generalize longB e = le at *
  generalize hasP b a.evr = r0 at *
  generalize meetP a b = r3 at *
  generalize hasP a e = r1 at *
  generalize hasP b e = r2 at *
  unfold Evr.val at LA LB LE H1 H2 HB
  unfold Dp.val at M MC H1 H2 HB
  dsimp only at MC
  unfold Dp.val Evr.val
  go_enter Tryd.func5, Tryd.ntmps5
  go_wp2_with fail
  go_at_call 23
  generalize (((w.alloc (.cells #[.string (bs a.name), .int .u8 a.op, .int .i64 a.evr.epoch, .string (bs a.evr.ver), .string (bs a.evr.rel)] 25)).alloc (.cells #[.string (bs b.name), .int .u8 b.op, .int .i64 b.evr.epoch, .string (bs b.evr.ver), .string (bs b.evr.rel)] 25)).alloc (.cells #[.int .i64 e.epoch, .string (bs e.ver), .string (bs e.rel)] 23)) = W at *
  generalize hn : w.heap.size = n at *
  obtain ⟨c0_0, c0_1, c0_2, c0_3, c0_4, c1_0, c1_1, c1_2, c1_3, c1_4, c2_0, c2_1, c2_2, l0, l1, l2, hB⟩ := id S0
  go_wp2_with fail
  go_at_call 23
  refine (LA.out _).mono ?_
  rintro e1 w1 ⟨rfl, h⟩
  have S1 := keep_b3 S0 h
  clear S0 h
  obtain ⟨c0_0, c0_1, c0_2, c0_3, c0_4, c1_0, c1_1, c1_2, c1_3, c1_4, c2_0, c2_1, c2_2, l0, l1, l2, hB⟩ := id S1
  cases la with
  | true =>
    go_wp2_with fail
    go_at_call 24
    refine (AW.out _ hB).mono ?_
    rintro e9 w9 ⟨rfl, h⟩
    go_wp2
    go_ret
    exact ⟨rfl, by rw [hn]; exact hB.trans (h.mono (by omega))⟩
  | false =>
    go_wp2_with fail
    go_at_call 23
    refine (LB.out _).mono ?_
    rintro e2 w2 ⟨rfl, h⟩
    have S2 := keep_b3 S1 h
    clear c0_0 c0_1 c0_2 c0_3 c0_4 c1_0 c1_1 c1_2 c1_3 c1_4 c2_0 c2_1 c2_2 l0 l1 l2 hB
    clear S1 h
    obtain ⟨c0_0, c0_1, c0_2, c0_3, c0_4, c1_0, c1_1, c1_2, c1_3, c1_4, c2_0, c2_1, c2_2, l0, l1, l2, hB⟩ := id S2
    cases lb with
    | true =>
      go_wp2_with fail
      go_at_call 24
      refine (AW.out _ hB).mono ?_
      rintro e9 w9 ⟨rfl, h⟩
      go_wp2
      go_ret
      exact ⟨rfl, by rw [hn]; exact hB.trans (h.mono (by omega))⟩
    | false =>
      go_wp2_with fail
      go_at_call 23
      refine (LE.out _).mono ?_
      rintro e3 w3 ⟨rfl, h⟩
      have S3 := keep_b3 S2 h
      clear c0_0 c0_1 c0_2 c0_3 c0_4 c1_0 c1_1 c1_2 c1_3 c1_4 c2_0 c2_1 c2_2 l0 l1 l2 hB
      clear S2 h
      obtain ⟨c0_0, c0_1, c0_2, c0_3, c0_4, c1_0, c1_1, c1_2, c1_3, c1_4, c2_0, c2_1, c2_2, l0, l1, l2, hB⟩ := id S3
      cases le with
      | true =>
        go_wp2_with fail
        go_at_call 24
        refine (AW.out _ hB).mono ?_
        rintro e9 w9 ⟨rfl, h⟩
        go_wp2
        go_ret
        exact ⟨rfl, by rw [hn]; exact hB.trans (h.mono (by omega))⟩
      | false =>
        go_wp2_with fail
        go_at_call 24
        refine (AW.out _ hB).mono ?_
        rintro e4 w4 ⟨rfl, h⟩
        have S4 := keep_b3 S3 h
        clear c0_0 c0_1 c0_2 c0_3 c0_4 c1_0 c1_1 c1_2 c1_3 c1_4 c2_0 c2_1 c2_2 l0 l1 l2 hB
        clear S3 h
        obtain ⟨c0_0, c0_1, c0_2, c0_3, c0_4, c1_0, c1_1, c1_2, c1_3, c1_4, c2_0, c2_1, c2_2, l0, l1, l2, hB⟩ := id S4
        go_wp2_with fail
        have SG := grow_b4 S4
        dsimp only at SG
        generalize hV : w4.alloc (.cells #[.string (bs a.name), .int .u8 2, .int .i64 a.evr.epoch, .string (bs a.evr.ver), .string (bs a.evr.rel)] 25) = V at *
        generalize w4.heap.size = m at *
        clear c0_0 c0_1 c0_2 c0_3 c0_4 c1_0 c1_1 c1_2 c1_3 c1_4 c2_0 c2_1 c2_2 l0 l1 l2 hB S4 hV
        obtain ⟨c0_0, c0_1, c0_2, c0_3, c0_4, c1_0, c1_1, c1_2, c1_3, c1_4, c2_0, c2_1, c2_2, c3_0, c3_1, c3_2, c3_3, c3_4, l0, l1, l2, l3, hB⟩ := id SG
        go_region_held3 (fun W => W.cell? ⟨n, 0, none⟩ = some (.string (bs a.name)) ∧ W.cell? ⟨n, 1, none⟩ = some (.int .u8 a.op) ∧ W.cell? ⟨n, 2, none⟩ = some (.int .i64 a.evr.epoch) ∧ W.cell? ⟨n, 3, none⟩ = some (.string (bs a.evr.ver)) ∧ W.cell? ⟨n, 4, none⟩ = some (.string (bs a.evr.rel)) ∧ W.cell? ⟨n + 1, 0, none⟩ = some (.string (bs b.name)) ∧ W.cell? ⟨n + 1, 1, none⟩ = some (.int .u8 b.op) ∧ W.cell? ⟨n + 1, 2, none⟩ = some (.int .i64 b.evr.epoch) ∧ W.cell? ⟨n + 1, 3, none⟩ = some (.string (bs b.evr.ver)) ∧ W.cell? ⟨n + 1, 4, none⟩ = some (.string (bs b.evr.rel)) ∧ W.cell? ⟨n + 1 + 1, 0, none⟩ = some (.int .i64 e.epoch) ∧ W.cell? ⟨n + 1 + 1, 1, none⟩ = some (.string (bs e.ver)) ∧ W.cell? ⟨n + 1 + 1, 2, none⟩ = some (.string (bs e.rel)) ∧ W.cell? ⟨m, 0, none⟩ = some (.string (bs a.name)) ∧ W.cell? ⟨m, 1, none⟩ = some (.int .u8 2) ∧ W.cell? ⟨m, 2, none⟩ = some (.int .i64 a.evr.epoch) ∧ W.cell? ⟨m, 3, none⟩ = some (.string (bs a.evr.ver)) ∧ W.cell? ⟨m, 4, none⟩ = some (.string (bs a.evr.rel)) ∧ n < W.heap.size ∧ n + 1 < W.heap.size ∧ n + 1 + 1 < W.heap.size ∧ m < W.heap.size ∧ Below n w W) (first | exact keep_b4 (by assumption) hbb | exact ⟨c0_0, c0_1, c0_2, c0_3, c0_4, c1_0, c1_1, c1_2, c1_3, c1_4, c2_0, c2_1, c2_2, c3_0, c3_1, c3_2, c3_3, c3_4, l0, l1, l2, l3, hB.drew⟩ | go_keep) (first | (go_at_call 25; refine (MC.out (by trivial) (by trivial) _).mono ?_; rintro e w' ⟨rfl, hbb⟩) | (go_at_call 27; refine (HB.out (by trivial) (by trivial) _).mono ?_; rintro e w' ⟨rfl, hbb⟩))
        rename_i hh
        clear c0_0 c0_1 c0_2 c0_3 c0_4 c1_0 c1_1 c1_2 c1_3 c1_4 c2_0 c2_1 c2_2 c3_0 c3_1 c3_2 c3_3 c3_4 l0 l1 l2 l3 hB SG
        obtain ⟨c0_0, c0_1, c0_2, c0_3, c0_4, c1_0, c1_1, c1_2, c1_3, c1_4, c2_0, c2_1, c2_2, c3_0, c3_1, c3_2, c3_3, c3_4, l0, l1, l2, l3, hB⟩ := id hh
        by_cases g0 : a.evr.rel = []
        · have f1 : (bs a.evr.rel).toList = [] := by rw [bs_toList, g0]
          clear g0
          go_wp2_with fail
          go_ret
          exact ⟨rfl, by rw [hn]; exact hB⟩
        have q0 : ¬ (bs a.evr.rel).toList = [] := by rw [bs_toList]; exact g0
        have p0 : (bs a.evr.rel).toList.isEmpty = false := by rw [bs_toList]; simpa using g0
        by_cases g1 : b.evr.rel = []
        · have f1 : (bs b.evr.rel).toList = [] := by rw [bs_toList, g1]
          clear g1
          go_wp2_with fail
          go_ret
          exact ⟨rfl, by rw [hn]; exact hB⟩
        have q1 : ¬ (bs b.evr.rel).toList = [] := by rw [bs_toList]; exact g1
        have p1 : (bs b.evr.rel).toList.isEmpty = false := by rw [bs_toList]; simpa using g1
        by_cases g2 : e.rel = []
        · have f1 : (bs e.rel).toList = [] := by rw [bs_toList, g2]
          clear g2
          go_wp2_with fail
          go_ret
          exact ⟨rfl, by rw [hn]; exact hB⟩
        have q2 : ¬ (bs e.rel).toList = [] := by rw [bs_toList]; exact g2
        have p2 : (bs e.rel).toList.isEmpty = false := by rw [bs_toList]; simpa using g2
        have LAW2 := Lib.hid (LAW.out g0 g1 g2)
        clear LAW g0 g1 g2
        generalize hw : w' = w20 at *
        clear hw
        have S20 := hh
        clear hh
        go_wp2_with fail
        go_at_call 27
        refine (H1.out (by trivial) (by trivial) _).mono ?_
        rintro e21 w21 ⟨rfl, h⟩
        have S21 := keep_b4 S20 h
        clear c0_0 c0_1 c0_2 c0_3 c0_4 c1_0 c1_1 c1_2 c1_3 c1_4 c2_0 c2_1 c2_2 c3_0 c3_1 c3_2 c3_3 c3_4 l0 l1 l2 l3 hB
        clear S20 h
        obtain ⟨c0_0, c0_1, c0_2, c0_3, c0_4, c1_0, c1_1, c1_2, c1_3, c1_4, c2_0, c2_1, c2_2, c3_0, c3_1, c3_2, c3_3, c3_4, l0, l1, l2, l3, hB⟩ := id S21
        cases r1 with
        | false =>
          go_wp2
          go_ret
          exact ⟨rfl, by rw [hn]; exact hB⟩
        | true =>
          go_wp2_with fail
          go_at_call 27
          refine (H2.out (by trivial) (by trivial) _).mono ?_
          rintro e22 w22 ⟨rfl, h⟩
          have S22 := keep_b4 S21 h
          clear c0_0 c0_1 c0_2 c0_3 c0_4 c1_0 c1_1 c1_2 c1_3 c1_4 c2_0 c2_1 c2_2 c3_0 c3_1 c3_2 c3_3 c3_4 l0 l1 l2 l3 hB
          clear S21 h
          obtain ⟨c0_0, c0_1, c0_2, c0_3, c0_4, c1_0, c1_1, c1_2, c1_3, c1_4, c2_0, c2_1, c2_2, c3_0, c3_1, c3_2, c3_3, c3_4, l0, l1, l2, l3, hB⟩ := id S22
          cases r2 with
          | false =>
            go_wp2
            go_ret
            exact ⟨rfl, by rw [hn]; exact hB⟩
          | true =>
            have E := Lib.hid (LAW2.out (by trivial) (by trivial))
            clear LAW2
            go_wp2_with fail
            go_at_call 25
            refine (M.out (by trivial) (by trivial) _).mono ?_
            rintro e9 w9 ⟨rfl, h⟩
            go_wp2
            go_ret
            exact ⟨ret_bool E.out, by rw [hn]; exact hB.trans (h.mono (by omega))⟩
end Go.Proofs.YtaibdghalhbpnaaDoor
