/- SpanEither, walked. -/
import Derived.Test.YtaibdghalhbpnaaDoorSpanMeets
import Derived.Test.YtaibdghalhbpnaaDoorSpLaw
import Derived.RegionTactic
import Derived.ChangeAlike
namespace Go.Proofs.YtaibdghalhbpnaaDoor
open Go.RowKit Go.Shelf

theorem keep_b2 {a b : Dp} {n : Nat} {w W W' : World} (h : W.cell? ⟨n, 0, none⟩ = some (.string (bs a.name)) ∧ W.cell? ⟨n, 1, none⟩ = some (.int .u8 a.op) ∧ W.cell? ⟨n, 2, none⟩ = some (.int .i64 a.evr.epoch) ∧ W.cell? ⟨n, 3, none⟩ = some (.string (bs a.evr.ver)) ∧ W.cell? ⟨n, 4, none⟩ = some (.string (bs a.evr.rel)) ∧ W.cell? ⟨n + 1, 0, none⟩ = some (.string (bs b.name)) ∧ W.cell? ⟨n + 1, 1, none⟩ = some (.int .u8 b.op) ∧ W.cell? ⟨n + 1, 2, none⟩ = some (.int .i64 b.evr.epoch) ∧ W.cell? ⟨n + 1, 3, none⟩ = some (.string (bs b.evr.ver)) ∧ W.cell? ⟨n + 1, 4, none⟩ = some (.string (bs b.evr.rel)) ∧ n < W.heap.size ∧ n + 1 < W.heap.size ∧ Below n w W) (hb : Below W.heap.size W W') :
    W'.cell? ⟨n, 0, none⟩ = some (.string (bs a.name)) ∧ W'.cell? ⟨n, 1, none⟩ = some (.int .u8 a.op) ∧ W'.cell? ⟨n, 2, none⟩ = some (.int .i64 a.evr.epoch) ∧ W'.cell? ⟨n, 3, none⟩ = some (.string (bs a.evr.ver)) ∧ W'.cell? ⟨n, 4, none⟩ = some (.string (bs a.evr.rel)) ∧ W'.cell? ⟨n + 1, 0, none⟩ = some (.string (bs b.name)) ∧ W'.cell? ⟨n + 1, 1, none⟩ = some (.int .u8 b.op) ∧ W'.cell? ⟨n + 1, 2, none⟩ = some (.int .i64 b.evr.epoch) ∧ W'.cell? ⟨n + 1, 3, none⟩ = some (.string (bs b.evr.ver)) ∧ W'.cell? ⟨n + 1, 4, none⟩ = some (.string (bs b.evr.rel)) ∧ n < W'.heap.size ∧ n + 1 < W'.heap.size ∧ Below n w W' := by
  obtain ⟨c0_0, c0_1, c0_2, c0_3, c0_4, c1_0, c1_1, c1_2, c1_3, c1_4, l0, l1, hB⟩ := h
  have hB_le : n ≤ W.heap.size := by omega
  exact ⟨(hb.cell (p := ⟨n, 0, none⟩) l0).trans c0_0, (hb.cell (p := ⟨n, 1, none⟩) l0).trans c0_1, (hb.cell (p := ⟨n, 2, none⟩) l0).trans c0_2, (hb.cell (p := ⟨n, 3, none⟩) l0).trans c0_3, (hb.cell (p := ⟨n, 4, none⟩) l0).trans c0_4, (hb.cell (p := ⟨n + 1, 0, none⟩) l1).trans c1_0, (hb.cell (p := ⟨n + 1, 1, none⟩) l1).trans c1_1, (hb.cell (p := ⟨n + 1, 2, none⟩) l1).trans c1_2, (hb.cell (p := ⟨n + 1, 3, none⟩) l1).trans c1_3, (hb.cell (p := ⟨n + 1, 4, none⟩) l1).trans c1_4, Nat.lt_of_lt_of_le l0 hb.size, Nat.lt_of_lt_of_le l1 hb.size, hB.trans (hb.mono hB_le)⟩
theorem keep_b2x {a b : Dp} {z : ByteArray} {m q : Nat} {n : Nat} {w W W' : World} (h : W.cell? ⟨n, 0, none⟩ = some (.string (bs a.name)) ∧ W.cell? ⟨n, 1, none⟩ = some (.int .u8 a.op) ∧ W.cell? ⟨n, 2, none⟩ = some (.int .i64 a.evr.epoch) ∧ W.cell? ⟨n, 3, none⟩ = some (.string (bs a.evr.ver)) ∧ W.cell? ⟨n, 4, none⟩ = some (.string (bs a.evr.rel)) ∧ W.cell? ⟨n + 1, 0, none⟩ = some (.string (bs b.name)) ∧ W.cell? ⟨n + 1, 1, none⟩ = some (.int .u8 b.op) ∧ W.cell? ⟨n + 1, 2, none⟩ = some (.int .i64 b.evr.epoch) ∧ W.cell? ⟨n + 1, 3, none⟩ = some (.string (bs b.evr.ver)) ∧ W.cell? ⟨n + 1, 4, none⟩ = some (.string (bs b.evr.rel)) ∧ W.cell? ⟨m, 0, none⟩ = some (.string (bs a.name)) ∧ W.cell? ⟨m, 1, none⟩ = some (.int .u8 0) ∧ W.cell? ⟨m, 2, none⟩ = some (.int .i64 a.evr.epoch) ∧ W.cell? ⟨m, 3, none⟩ = some (.string (bs a.evr.ver)) ∧ W.cell? ⟨m, 4, none⟩ = some (.string (bs a.evr.rel)) ∧ W.cell? ⟨q, 0, none⟩ = some (.string z) ∧ W.cell? ⟨q, 1, none⟩ = some (.int .u8 b.op) ∧ W.cell? ⟨q, 2, none⟩ = some (.int .i64 b.evr.epoch) ∧ W.cell? ⟨q, 3, none⟩ = some (.string (bs b.evr.ver)) ∧ W.cell? ⟨q, 4, none⟩ = some (.string (bs b.evr.rel)) ∧ n < W.heap.size ∧ n + 1 < W.heap.size ∧ m < W.heap.size ∧ q < W.heap.size ∧ Below n w W) (hb : Below W.heap.size W W') :
    W'.cell? ⟨n, 0, none⟩ = some (.string (bs a.name)) ∧ W'.cell? ⟨n, 1, none⟩ = some (.int .u8 a.op) ∧ W'.cell? ⟨n, 2, none⟩ = some (.int .i64 a.evr.epoch) ∧ W'.cell? ⟨n, 3, none⟩ = some (.string (bs a.evr.ver)) ∧ W'.cell? ⟨n, 4, none⟩ = some (.string (bs a.evr.rel)) ∧ W'.cell? ⟨n + 1, 0, none⟩ = some (.string (bs b.name)) ∧ W'.cell? ⟨n + 1, 1, none⟩ = some (.int .u8 b.op) ∧ W'.cell? ⟨n + 1, 2, none⟩ = some (.int .i64 b.evr.epoch) ∧ W'.cell? ⟨n + 1, 3, none⟩ = some (.string (bs b.evr.ver)) ∧ W'.cell? ⟨n + 1, 4, none⟩ = some (.string (bs b.evr.rel)) ∧ W'.cell? ⟨m, 0, none⟩ = some (.string (bs a.name)) ∧ W'.cell? ⟨m, 1, none⟩ = some (.int .u8 0) ∧ W'.cell? ⟨m, 2, none⟩ = some (.int .i64 a.evr.epoch) ∧ W'.cell? ⟨m, 3, none⟩ = some (.string (bs a.evr.ver)) ∧ W'.cell? ⟨m, 4, none⟩ = some (.string (bs a.evr.rel)) ∧ W'.cell? ⟨q, 0, none⟩ = some (.string z) ∧ W'.cell? ⟨q, 1, none⟩ = some (.int .u8 b.op) ∧ W'.cell? ⟨q, 2, none⟩ = some (.int .i64 b.evr.epoch) ∧ W'.cell? ⟨q, 3, none⟩ = some (.string (bs b.evr.ver)) ∧ W'.cell? ⟨q, 4, none⟩ = some (.string (bs b.evr.rel)) ∧ n < W'.heap.size ∧ n + 1 < W'.heap.size ∧ m < W'.heap.size ∧ q < W'.heap.size ∧ Below n w W' := by
  obtain ⟨c0_0, c0_1, c0_2, c0_3, c0_4, c1_0, c1_1, c1_2, c1_3, c1_4, c2_0, c2_1, c2_2, c2_3, c2_4, c3_0, c3_1, c3_2, c3_3, c3_4, l0, l1, l2, l3, hB⟩ := h
  have hB_le : n ≤ W.heap.size := by omega
  exact ⟨(hb.cell (p := ⟨n, 0, none⟩) l0).trans c0_0, (hb.cell (p := ⟨n, 1, none⟩) l0).trans c0_1, (hb.cell (p := ⟨n, 2, none⟩) l0).trans c0_2, (hb.cell (p := ⟨n, 3, none⟩) l0).trans c0_3, (hb.cell (p := ⟨n, 4, none⟩) l0).trans c0_4, (hb.cell (p := ⟨n + 1, 0, none⟩) l1).trans c1_0, (hb.cell (p := ⟨n + 1, 1, none⟩) l1).trans c1_1, (hb.cell (p := ⟨n + 1, 2, none⟩) l1).trans c1_2, (hb.cell (p := ⟨n + 1, 3, none⟩) l1).trans c1_3, (hb.cell (p := ⟨n + 1, 4, none⟩) l1).trans c1_4, (hb.cell (p := ⟨m, 0, none⟩) l2).trans c2_0, (hb.cell (p := ⟨m, 1, none⟩) l2).trans c2_1, (hb.cell (p := ⟨m, 2, none⟩) l2).trans c2_2, (hb.cell (p := ⟨m, 3, none⟩) l2).trans c2_3, (hb.cell (p := ⟨m, 4, none⟩) l2).trans c2_4, (hb.cell (p := ⟨q, 0, none⟩) l3).trans c3_0, (hb.cell (p := ⟨q, 1, none⟩) l3).trans c3_1, (hb.cell (p := ⟨q, 2, none⟩) l3).trans c3_2, (hb.cell (p := ⟨q, 3, none⟩) l3).trans c3_3, (hb.cell (p := ⟨q, 4, none⟩) l3).trans c3_4, Nat.lt_of_lt_of_le l0 hb.size, Nat.lt_of_lt_of_le l1 hb.size, Nat.lt_of_lt_of_le l2 hb.size, Nat.lt_of_lt_of_le l3 hb.size, hB.trans (hb.mono hB_le)⟩
theorem tail_b2 {a b : Dp} {n : Nat} {w W : World} (h : W.cell? ⟨n, 0, none⟩ = some (.string (bs a.name)) ∧ W.cell? ⟨n, 1, none⟩ = some (.int .u8 a.op) ∧ W.cell? ⟨n, 2, none⟩ = some (.int .i64 a.evr.epoch) ∧ W.cell? ⟨n, 3, none⟩ = some (.string (bs a.evr.ver)) ∧ W.cell? ⟨n, 4, none⟩ = some (.string (bs a.evr.rel)) ∧ W.cell? ⟨n + 1, 0, none⟩ = some (.string (bs b.name)) ∧ W.cell? ⟨n + 1, 1, none⟩ = some (.int .u8 b.op) ∧ W.cell? ⟨n + 1, 2, none⟩ = some (.int .i64 b.evr.epoch) ∧ W.cell? ⟨n + 1, 3, none⟩ = some (.string (bs b.evr.ver)) ∧ W.cell? ⟨n + 1, 4, none⟩ = some (.string (bs b.evr.rel)) ∧ n < W.heap.size ∧ n + 1 < W.heap.size ∧ Below n w W) : Below n w W := h.2.2.2.2.2.2.2.2.2.2.2.2
theorem tail_b2x {a b : Dp} {z : ByteArray} {m q : Nat} {n : Nat} {w W : World} (h : W.cell? ⟨n, 0, none⟩ = some (.string (bs a.name)) ∧ W.cell? ⟨n, 1, none⟩ = some (.int .u8 a.op) ∧ W.cell? ⟨n, 2, none⟩ = some (.int .i64 a.evr.epoch) ∧ W.cell? ⟨n, 3, none⟩ = some (.string (bs a.evr.ver)) ∧ W.cell? ⟨n, 4, none⟩ = some (.string (bs a.evr.rel)) ∧ W.cell? ⟨n + 1, 0, none⟩ = some (.string (bs b.name)) ∧ W.cell? ⟨n + 1, 1, none⟩ = some (.int .u8 b.op) ∧ W.cell? ⟨n + 1, 2, none⟩ = some (.int .i64 b.evr.epoch) ∧ W.cell? ⟨n + 1, 3, none⟩ = some (.string (bs b.evr.ver)) ∧ W.cell? ⟨n + 1, 4, none⟩ = some (.string (bs b.evr.rel)) ∧ W.cell? ⟨m, 0, none⟩ = some (.string (bs a.name)) ∧ W.cell? ⟨m, 1, none⟩ = some (.int .u8 0) ∧ W.cell? ⟨m, 2, none⟩ = some (.int .i64 a.evr.epoch) ∧ W.cell? ⟨m, 3, none⟩ = some (.string (bs a.evr.ver)) ∧ W.cell? ⟨m, 4, none⟩ = some (.string (bs a.evr.rel)) ∧ W.cell? ⟨q, 0, none⟩ = some (.string z) ∧ W.cell? ⟨q, 1, none⟩ = some (.int .u8 b.op) ∧ W.cell? ⟨q, 2, none⟩ = some (.int .i64 b.evr.epoch) ∧ W.cell? ⟨q, 3, none⟩ = some (.string (bs b.evr.ver)) ∧ W.cell? ⟨q, 4, none⟩ = some (.string (bs b.evr.rel)) ∧ n < W.heap.size ∧ n + 1 < W.heap.size ∧ m < W.heap.size ∧ q < W.heap.size ∧ Below n w W) : Below n w W := h.2.2.2.2.2.2.2.2.2.2.2.2.2.2.2.2.2.2.2.2.2.2.2.2
theorem new_b2 (a b : Dp) (w : World) : let W := ((w.alloc (.cells #[.string (bs a.name), .int .u8 a.op, .int .i64 a.evr.epoch, .string (bs a.evr.ver), .string (bs a.evr.rel)] 25)).alloc (.cells #[.string (bs b.name), .int .u8 b.op, .int .i64 b.evr.epoch, .string (bs b.evr.ver), .string (bs b.evr.rel)] 25)); let n := w.heap.size; W.cell? ⟨n, 0, none⟩ = some (.string (bs a.name)) ∧ W.cell? ⟨n, 1, none⟩ = some (.int .u8 a.op) ∧ W.cell? ⟨n, 2, none⟩ = some (.int .i64 a.evr.epoch) ∧ W.cell? ⟨n, 3, none⟩ = some (.string (bs a.evr.ver)) ∧ W.cell? ⟨n, 4, none⟩ = some (.string (bs a.evr.rel)) ∧ W.cell? ⟨n + 1, 0, none⟩ = some (.string (bs b.name)) ∧ W.cell? ⟨n + 1, 1, none⟩ = some (.int .u8 b.op) ∧ W.cell? ⟨n + 1, 2, none⟩ = some (.int .i64 b.evr.epoch) ∧ W.cell? ⟨n + 1, 3, none⟩ = some (.string (bs b.evr.ver)) ∧ W.cell? ⟨n + 1, 4, none⟩ = some (.string (bs b.evr.rel)) ∧ n < W.heap.size ∧ n + 1 < W.heap.size ∧ Below n w W := by
  refine ⟨?_, ?_, ?_, ?_, ?_, ?_, ?_, ?_, ?_, ?_, ?_, ?_, ?_⟩
  all_goals first | exact (World.cell?_alloc_at _ _ _ _ (by simp)).trans rfl | exact (World.cell?_alloc_past _ _ _ (by simp; try omega)).trans ((World.cell?_alloc_at _ _ _ _ (by simp)).trans rfl) | exact (((Below.refl _ _).alloc (by simp; try omega) _).alloc (by simp; try omega) _) | (simp; try omega)
theorem two_0 {a b : Dp} {n m q : Nat} {w W V : World} (h : W.cell? ⟨n, 0, none⟩ = some (.string (bs a.name)) ∧ W.cell? ⟨n, 1, none⟩ = some (.int .u8 a.op) ∧ W.cell? ⟨n, 2, none⟩ = some (.int .i64 a.evr.epoch) ∧ W.cell? ⟨n, 3, none⟩ = some (.string (bs a.evr.ver)) ∧ W.cell? ⟨n, 4, none⟩ = some (.string (bs a.evr.rel)) ∧ W.cell? ⟨n + 1, 0, none⟩ = some (.string (bs b.name)) ∧ W.cell? ⟨n + 1, 1, none⟩ = some (.int .u8 b.op) ∧ W.cell? ⟨n + 1, 2, none⟩ = some (.int .i64 b.evr.epoch) ∧ W.cell? ⟨n + 1, 3, none⟩ = some (.string (bs b.evr.ver)) ∧ W.cell? ⟨n + 1, 4, none⟩ = some (.string (bs b.evr.rel)) ∧ n < W.heap.size ∧ n + 1 < W.heap.size ∧ Below n w W) (hV : ((W.alloc (.cells #[.string (bs a.name), .int .u8 a.op, .int .i64 a.evr.epoch, .string (bs a.evr.ver), .string (bs a.evr.rel)] 25)).alloc (.cells #[.string (bs b.name), .int .u8 b.op, .int .i64 b.evr.epoch, .string (bs b.evr.ver), .string (bs b.evr.rel)] 25)).drew = V) (hm : m = W.heap.size) (hq : q = W.heap.size + 1) : (V.cell? ⟨n, 0, none⟩ = some (.string (bs a.name)) ∧ V.cell? ⟨n, 1, none⟩ = some (.int .u8 a.op) ∧ V.cell? ⟨n, 2, none⟩ = some (.int .i64 a.evr.epoch) ∧ V.cell? ⟨n, 3, none⟩ = some (.string (bs a.evr.ver)) ∧ V.cell? ⟨n, 4, none⟩ = some (.string (bs a.evr.rel)) ∧ V.cell? ⟨n + 1, 0, none⟩ = some (.string (bs b.name)) ∧ V.cell? ⟨n + 1, 1, none⟩ = some (.int .u8 b.op) ∧ V.cell? ⟨n + 1, 2, none⟩ = some (.int .i64 b.evr.epoch) ∧ V.cell? ⟨n + 1, 3, none⟩ = some (.string (bs b.evr.ver)) ∧ V.cell? ⟨n + 1, 4, none⟩ = some (.string (bs b.evr.rel)) ∧ V.cell? ⟨m, 0, none⟩ = some (.string (bs a.name)) ∧ V.cell? ⟨m, 1, none⟩ = some (.int .u8 a.op) ∧ V.cell? ⟨m, 2, none⟩ = some (.int .i64 a.evr.epoch) ∧ V.cell? ⟨m, 3, none⟩ = some (.string (bs a.evr.ver)) ∧ V.cell? ⟨m, 4, none⟩ = some (.string (bs a.evr.rel)) ∧ V.cell? ⟨q, 0, none⟩ = some (.string (bs b.name)) ∧ V.cell? ⟨q, 1, none⟩ = some (.int .u8 b.op) ∧ V.cell? ⟨q, 2, none⟩ = some (.int .i64 b.evr.epoch) ∧ V.cell? ⟨q, 3, none⟩ = some (.string (bs b.evr.ver)) ∧ V.cell? ⟨q, 4, none⟩ = some (.string (bs b.evr.rel)) ∧ n < V.heap.size ∧ n + 1 < V.heap.size ∧ m < V.heap.size ∧ q < V.heap.size ∧ Below n w V) ∧ V.frozen? ⟨m, 1, none⟩ = false ∧ V.frozen? ⟨q, 0, none⟩ = false ∧ n + 1 < m ∧ n + 1 < q ∧ m ≠ q := by
  obtain ⟨c0_0, c0_1, c0_2, c0_3, c0_4, c1_0, c1_1, c1_2, c1_3, c1_4, l0, l1, hB⟩ := h
  subst hV; subst hm; subst hq
  exact ⟨⟨(World.cell?_alloc_lt _ _ ⟨n, 0, none⟩ (by simp; omega)).trans ((World.cell?_alloc_lt _ _ ⟨n, 0, none⟩ l0).trans c0_0), (World.cell?_alloc_lt _ _ ⟨n, 1, none⟩ (by simp; omega)).trans ((World.cell?_alloc_lt _ _ ⟨n, 1, none⟩ l0).trans c0_1), (World.cell?_alloc_lt _ _ ⟨n, 2, none⟩ (by simp; omega)).trans ((World.cell?_alloc_lt _ _ ⟨n, 2, none⟩ l0).trans c0_2), (World.cell?_alloc_lt _ _ ⟨n, 3, none⟩ (by simp; omega)).trans ((World.cell?_alloc_lt _ _ ⟨n, 3, none⟩ l0).trans c0_3), (World.cell?_alloc_lt _ _ ⟨n, 4, none⟩ (by simp; omega)).trans ((World.cell?_alloc_lt _ _ ⟨n, 4, none⟩ l0).trans c0_4), (World.cell?_alloc_lt _ _ ⟨n + 1, 0, none⟩ (by simp; omega)).trans ((World.cell?_alloc_lt _ _ ⟨n + 1, 0, none⟩ l1).trans c1_0), (World.cell?_alloc_lt _ _ ⟨n + 1, 1, none⟩ (by simp; omega)).trans ((World.cell?_alloc_lt _ _ ⟨n + 1, 1, none⟩ l1).trans c1_1), (World.cell?_alloc_lt _ _ ⟨n + 1, 2, none⟩ (by simp; omega)).trans ((World.cell?_alloc_lt _ _ ⟨n + 1, 2, none⟩ l1).trans c1_2), (World.cell?_alloc_lt _ _ ⟨n + 1, 3, none⟩ (by simp; omega)).trans ((World.cell?_alloc_lt _ _ ⟨n + 1, 3, none⟩ l1).trans c1_3), (World.cell?_alloc_lt _ _ ⟨n + 1, 4, none⟩ (by simp; omega)).trans ((World.cell?_alloc_lt _ _ ⟨n + 1, 4, none⟩ l1).trans c1_4), (World.cell?_alloc_past _ _ _ (by simp)).trans ((World.cell?_alloc_at _ _ _ _ rfl).trans rfl), (World.cell?_alloc_past _ _ _ (by simp)).trans ((World.cell?_alloc_at _ _ _ _ rfl).trans rfl), (World.cell?_alloc_past _ _ _ (by simp)).trans ((World.cell?_alloc_at _ _ _ _ rfl).trans rfl), (World.cell?_alloc_past _ _ _ (by simp)).trans ((World.cell?_alloc_at _ _ _ _ rfl).trans rfl), (World.cell?_alloc_past _ _ _ (by simp)).trans ((World.cell?_alloc_at _ _ _ _ rfl).trans rfl), (World.cell?_alloc_at _ _ _ _ (by simp)).trans rfl, (World.cell?_alloc_at _ _ _ _ (by simp)).trans rfl, (World.cell?_alloc_at _ _ _ _ (by simp)).trans rfl, (World.cell?_alloc_at _ _ _ _ (by simp)).trans rfl, (World.cell?_alloc_at _ _ _ _ (by simp)).trans rfl, (by simp [World.drew]; try omega), (by simp [World.drew]; try omega), (by simp [World.drew]; try omega), (by simp [World.drew]; try omega), ((hB.alloc (by omega) _).alloc (by simp; omega) _).drew⟩, (World.frozen?_alloc_past _ _ _ (by simp)).trans (World.frozen?_alloc_at _ _ _ _ rfl), World.frozen?_alloc_at _ _ _ _ (by simp), by omega, by omega, by omega⟩
theorem two_1 {a b : Dp} {n m q : Nat} {w W V : World} (h : W.cell? ⟨n, 0, none⟩ = some (.string (bs a.name)) ∧ W.cell? ⟨n, 1, none⟩ = some (.int .u8 a.op) ∧ W.cell? ⟨n, 2, none⟩ = some (.int .i64 a.evr.epoch) ∧ W.cell? ⟨n, 3, none⟩ = some (.string (bs a.evr.ver)) ∧ W.cell? ⟨n, 4, none⟩ = some (.string (bs a.evr.rel)) ∧ W.cell? ⟨n + 1, 0, none⟩ = some (.string (bs b.name)) ∧ W.cell? ⟨n + 1, 1, none⟩ = some (.int .u8 b.op) ∧ W.cell? ⟨n + 1, 2, none⟩ = some (.int .i64 b.evr.epoch) ∧ W.cell? ⟨n + 1, 3, none⟩ = some (.string (bs b.evr.ver)) ∧ W.cell? ⟨n + 1, 4, none⟩ = some (.string (bs b.evr.rel)) ∧ n < W.heap.size ∧ n + 1 < W.heap.size ∧ Below n w W) (hV : ((W.alloc (.cells #[.string (bs b.name), .int .u8 b.op, .int .i64 b.evr.epoch, .string (bs b.evr.ver), .string (bs b.evr.rel)] 25)).alloc (.cells #[.string (bs a.name), .int .u8 a.op, .int .i64 a.evr.epoch, .string (bs a.evr.ver), .string (bs a.evr.rel)] 25)).drew = V) (hm : m = W.heap.size + 1) (hq : q = W.heap.size) : (V.cell? ⟨n, 0, none⟩ = some (.string (bs a.name)) ∧ V.cell? ⟨n, 1, none⟩ = some (.int .u8 a.op) ∧ V.cell? ⟨n, 2, none⟩ = some (.int .i64 a.evr.epoch) ∧ V.cell? ⟨n, 3, none⟩ = some (.string (bs a.evr.ver)) ∧ V.cell? ⟨n, 4, none⟩ = some (.string (bs a.evr.rel)) ∧ V.cell? ⟨n + 1, 0, none⟩ = some (.string (bs b.name)) ∧ V.cell? ⟨n + 1, 1, none⟩ = some (.int .u8 b.op) ∧ V.cell? ⟨n + 1, 2, none⟩ = some (.int .i64 b.evr.epoch) ∧ V.cell? ⟨n + 1, 3, none⟩ = some (.string (bs b.evr.ver)) ∧ V.cell? ⟨n + 1, 4, none⟩ = some (.string (bs b.evr.rel)) ∧ V.cell? ⟨m, 0, none⟩ = some (.string (bs a.name)) ∧ V.cell? ⟨m, 1, none⟩ = some (.int .u8 a.op) ∧ V.cell? ⟨m, 2, none⟩ = some (.int .i64 a.evr.epoch) ∧ V.cell? ⟨m, 3, none⟩ = some (.string (bs a.evr.ver)) ∧ V.cell? ⟨m, 4, none⟩ = some (.string (bs a.evr.rel)) ∧ V.cell? ⟨q, 0, none⟩ = some (.string (bs b.name)) ∧ V.cell? ⟨q, 1, none⟩ = some (.int .u8 b.op) ∧ V.cell? ⟨q, 2, none⟩ = some (.int .i64 b.evr.epoch) ∧ V.cell? ⟨q, 3, none⟩ = some (.string (bs b.evr.ver)) ∧ V.cell? ⟨q, 4, none⟩ = some (.string (bs b.evr.rel)) ∧ n < V.heap.size ∧ n + 1 < V.heap.size ∧ m < V.heap.size ∧ q < V.heap.size ∧ Below n w V) ∧ V.frozen? ⟨m, 1, none⟩ = false ∧ V.frozen? ⟨q, 0, none⟩ = false ∧ n + 1 < m ∧ n + 1 < q ∧ m ≠ q := by
  obtain ⟨c0_0, c0_1, c0_2, c0_3, c0_4, c1_0, c1_1, c1_2, c1_3, c1_4, l0, l1, hB⟩ := h
  subst hV; subst hm; subst hq
  exact ⟨⟨(World.cell?_alloc_lt _ _ ⟨n, 0, none⟩ (by simp; omega)).trans ((World.cell?_alloc_lt _ _ ⟨n, 0, none⟩ l0).trans c0_0), (World.cell?_alloc_lt _ _ ⟨n, 1, none⟩ (by simp; omega)).trans ((World.cell?_alloc_lt _ _ ⟨n, 1, none⟩ l0).trans c0_1), (World.cell?_alloc_lt _ _ ⟨n, 2, none⟩ (by simp; omega)).trans ((World.cell?_alloc_lt _ _ ⟨n, 2, none⟩ l0).trans c0_2), (World.cell?_alloc_lt _ _ ⟨n, 3, none⟩ (by simp; omega)).trans ((World.cell?_alloc_lt _ _ ⟨n, 3, none⟩ l0).trans c0_3), (World.cell?_alloc_lt _ _ ⟨n, 4, none⟩ (by simp; omega)).trans ((World.cell?_alloc_lt _ _ ⟨n, 4, none⟩ l0).trans c0_4), (World.cell?_alloc_lt _ _ ⟨n + 1, 0, none⟩ (by simp; omega)).trans ((World.cell?_alloc_lt _ _ ⟨n + 1, 0, none⟩ l1).trans c1_0), (World.cell?_alloc_lt _ _ ⟨n + 1, 1, none⟩ (by simp; omega)).trans ((World.cell?_alloc_lt _ _ ⟨n + 1, 1, none⟩ l1).trans c1_1), (World.cell?_alloc_lt _ _ ⟨n + 1, 2, none⟩ (by simp; omega)).trans ((World.cell?_alloc_lt _ _ ⟨n + 1, 2, none⟩ l1).trans c1_2), (World.cell?_alloc_lt _ _ ⟨n + 1, 3, none⟩ (by simp; omega)).trans ((World.cell?_alloc_lt _ _ ⟨n + 1, 3, none⟩ l1).trans c1_3), (World.cell?_alloc_lt _ _ ⟨n + 1, 4, none⟩ (by simp; omega)).trans ((World.cell?_alloc_lt _ _ ⟨n + 1, 4, none⟩ l1).trans c1_4), (World.cell?_alloc_at _ _ _ _ (by simp)).trans rfl, (World.cell?_alloc_at _ _ _ _ (by simp)).trans rfl, (World.cell?_alloc_at _ _ _ _ (by simp)).trans rfl, (World.cell?_alloc_at _ _ _ _ (by simp)).trans rfl, (World.cell?_alloc_at _ _ _ _ (by simp)).trans rfl, (World.cell?_alloc_past _ _ _ (by simp)).trans ((World.cell?_alloc_at _ _ _ _ rfl).trans rfl), (World.cell?_alloc_past _ _ _ (by simp)).trans ((World.cell?_alloc_at _ _ _ _ rfl).trans rfl), (World.cell?_alloc_past _ _ _ (by simp)).trans ((World.cell?_alloc_at _ _ _ _ rfl).trans rfl), (World.cell?_alloc_past _ _ _ (by simp)).trans ((World.cell?_alloc_at _ _ _ _ rfl).trans rfl), (World.cell?_alloc_past _ _ _ (by simp)).trans ((World.cell?_alloc_at _ _ _ _ rfl).trans rfl), (by simp [World.drew]; try omega), (by simp [World.drew]; try omega), (by simp [World.drew]; try omega), (by simp [World.drew]; try omega), ((hB.alloc (by omega) _).alloc (by simp; omega) _).drew⟩, World.frozen?_alloc_at _ _ _ _ (by simp), (World.frozen?_alloc_past _ _ _ (by simp)).trans (World.frozen?_alloc_at _ _ _ _ rfl), by omega, by omega, by omega⟩
theorem set_x {a b : Dp} {z : ByteArray} {n m q : Nat} {w V : World} (h : V.cell? ⟨n, 0, none⟩ = some (.string (bs a.name)) ∧ V.cell? ⟨n, 1, none⟩ = some (.int .u8 a.op) ∧ V.cell? ⟨n, 2, none⟩ = some (.int .i64 a.evr.epoch) ∧ V.cell? ⟨n, 3, none⟩ = some (.string (bs a.evr.ver)) ∧ V.cell? ⟨n, 4, none⟩ = some (.string (bs a.evr.rel)) ∧ V.cell? ⟨n + 1, 0, none⟩ = some (.string (bs b.name)) ∧ V.cell? ⟨n + 1, 1, none⟩ = some (.int .u8 b.op) ∧ V.cell? ⟨n + 1, 2, none⟩ = some (.int .i64 b.evr.epoch) ∧ V.cell? ⟨n + 1, 3, none⟩ = some (.string (bs b.evr.ver)) ∧ V.cell? ⟨n + 1, 4, none⟩ = some (.string (bs b.evr.rel)) ∧ V.cell? ⟨m, 0, none⟩ = some (.string (bs a.name)) ∧ V.cell? ⟨m, 1, none⟩ = some (.int .u8 a.op) ∧ V.cell? ⟨m, 2, none⟩ = some (.int .i64 a.evr.epoch) ∧ V.cell? ⟨m, 3, none⟩ = some (.string (bs a.evr.ver)) ∧ V.cell? ⟨m, 4, none⟩ = some (.string (bs a.evr.rel)) ∧ V.cell? ⟨q, 0, none⟩ = some (.string (bs b.name)) ∧ V.cell? ⟨q, 1, none⟩ = some (.int .u8 b.op) ∧ V.cell? ⟨q, 2, none⟩ = some (.int .i64 b.evr.epoch) ∧ V.cell? ⟨q, 3, none⟩ = some (.string (bs b.evr.ver)) ∧ V.cell? ⟨q, 4, none⟩ = some (.string (bs b.evr.rel)) ∧ n < V.heap.size ∧ n + 1 < V.heap.size ∧ m < V.heap.size ∧ q < V.heap.size ∧ Below n w V) (h1 : n + 1 < m) (h2 : n + 1 < q) (h3 : m ≠ q) : ((V.setCell ⟨m, 1, none⟩ (.int .u8 0)).setCell ⟨q, 0, none⟩ (.string z)).cell? ⟨n, 0, none⟩ = some (.string (bs a.name)) ∧ ((V.setCell ⟨m, 1, none⟩ (.int .u8 0)).setCell ⟨q, 0, none⟩ (.string z)).cell? ⟨n, 1, none⟩ = some (.int .u8 a.op) ∧ ((V.setCell ⟨m, 1, none⟩ (.int .u8 0)).setCell ⟨q, 0, none⟩ (.string z)).cell? ⟨n, 2, none⟩ = some (.int .i64 a.evr.epoch) ∧ ((V.setCell ⟨m, 1, none⟩ (.int .u8 0)).setCell ⟨q, 0, none⟩ (.string z)).cell? ⟨n, 3, none⟩ = some (.string (bs a.evr.ver)) ∧ ((V.setCell ⟨m, 1, none⟩ (.int .u8 0)).setCell ⟨q, 0, none⟩ (.string z)).cell? ⟨n, 4, none⟩ = some (.string (bs a.evr.rel)) ∧ ((V.setCell ⟨m, 1, none⟩ (.int .u8 0)).setCell ⟨q, 0, none⟩ (.string z)).cell? ⟨n + 1, 0, none⟩ = some (.string (bs b.name)) ∧ ((V.setCell ⟨m, 1, none⟩ (.int .u8 0)).setCell ⟨q, 0, none⟩ (.string z)).cell? ⟨n + 1, 1, none⟩ = some (.int .u8 b.op) ∧ ((V.setCell ⟨m, 1, none⟩ (.int .u8 0)).setCell ⟨q, 0, none⟩ (.string z)).cell? ⟨n + 1, 2, none⟩ = some (.int .i64 b.evr.epoch) ∧ ((V.setCell ⟨m, 1, none⟩ (.int .u8 0)).setCell ⟨q, 0, none⟩ (.string z)).cell? ⟨n + 1, 3, none⟩ = some (.string (bs b.evr.ver)) ∧ ((V.setCell ⟨m, 1, none⟩ (.int .u8 0)).setCell ⟨q, 0, none⟩ (.string z)).cell? ⟨n + 1, 4, none⟩ = some (.string (bs b.evr.rel)) ∧ ((V.setCell ⟨m, 1, none⟩ (.int .u8 0)).setCell ⟨q, 0, none⟩ (.string z)).cell? ⟨m, 0, none⟩ = some (.string (bs a.name)) ∧ ((V.setCell ⟨m, 1, none⟩ (.int .u8 0)).setCell ⟨q, 0, none⟩ (.string z)).cell? ⟨m, 1, none⟩ = some (.int .u8 0) ∧ ((V.setCell ⟨m, 1, none⟩ (.int .u8 0)).setCell ⟨q, 0, none⟩ (.string z)).cell? ⟨m, 2, none⟩ = some (.int .i64 a.evr.epoch) ∧ ((V.setCell ⟨m, 1, none⟩ (.int .u8 0)).setCell ⟨q, 0, none⟩ (.string z)).cell? ⟨m, 3, none⟩ = some (.string (bs a.evr.ver)) ∧ ((V.setCell ⟨m, 1, none⟩ (.int .u8 0)).setCell ⟨q, 0, none⟩ (.string z)).cell? ⟨m, 4, none⟩ = some (.string (bs a.evr.rel)) ∧ ((V.setCell ⟨m, 1, none⟩ (.int .u8 0)).setCell ⟨q, 0, none⟩ (.string z)).cell? ⟨q, 0, none⟩ = some (.string z) ∧ ((V.setCell ⟨m, 1, none⟩ (.int .u8 0)).setCell ⟨q, 0, none⟩ (.string z)).cell? ⟨q, 1, none⟩ = some (.int .u8 b.op) ∧ ((V.setCell ⟨m, 1, none⟩ (.int .u8 0)).setCell ⟨q, 0, none⟩ (.string z)).cell? ⟨q, 2, none⟩ = some (.int .i64 b.evr.epoch) ∧ ((V.setCell ⟨m, 1, none⟩ (.int .u8 0)).setCell ⟨q, 0, none⟩ (.string z)).cell? ⟨q, 3, none⟩ = some (.string (bs b.evr.ver)) ∧ ((V.setCell ⟨m, 1, none⟩ (.int .u8 0)).setCell ⟨q, 0, none⟩ (.string z)).cell? ⟨q, 4, none⟩ = some (.string (bs b.evr.rel)) ∧ n < ((V.setCell ⟨m, 1, none⟩ (.int .u8 0)).setCell ⟨q, 0, none⟩ (.string z)).heap.size ∧ n + 1 < ((V.setCell ⟨m, 1, none⟩ (.int .u8 0)).setCell ⟨q, 0, none⟩ (.string z)).heap.size ∧ m < ((V.setCell ⟨m, 1, none⟩ (.int .u8 0)).setCell ⟨q, 0, none⟩ (.string z)).heap.size ∧ q < ((V.setCell ⟨m, 1, none⟩ (.int .u8 0)).setCell ⟨q, 0, none⟩ (.string z)).heap.size ∧ Below n w ((V.setCell ⟨m, 1, none⟩ (.int .u8 0)).setCell ⟨q, 0, none⟩ (.string z)) := by
  obtain ⟨c0_0, c0_1, c0_2, c0_3, c0_4, c1_0, c1_1, c1_2, c1_3, c1_4, c2_0, c2_1, c2_2, c2_3, c2_4, c3_0, c3_1, c3_2, c3_3, c3_4, l0, l1, l2, l3, hB⟩ := h
  refine ⟨?_, ?_, ?_, ?_, ?_, ?_, ?_, ?_, ?_, ?_, ?_, ?_, ?_, ?_, ?_, ?_, ?_, ?_, ?_, ?_, ?_, ?_, ?_, ?_, ?_⟩
  all_goals first | (rw [World.cell?_setCell_other _ _ _ _ (by simp; try omega), World.cell?_setCell_other _ _ _ _ (by simp; try omega)]; assumption) | (rw [World.cell?_setCell_other _ _ _ _ (by simp; try omega)]; exact World.cell?_setCell_same _ _ _ (by assumption)) | (refine World.cell?_setCell_same _ _ _ (u := .string (bs b.name)) ?_; rw [World.cell?_setCell_other _ _ _ _ (by simp; try omega)]; assumption) | (simp [World.setCell]; assumption) | exact (hB.setCell (by show n ≤ m; omega) _).setCell (by show n ≤ q; omega) _
set_option maxRecDepth 100000 in
set_option maxHeartbeats 16000000 in
theorem spanEither_row (w : World) (hO : OpsIn w) (a : Dp) (wa : a.wf) (b : Dp) (wb : b.wf) (z : ByteArray) (wz : z.size ≤ maxLen) : Calls Tryd.prog 4 #[a.val, b.val, .string z] w fun e w' => e = .returned (.bool true) ∧ Below w.heap.size w w' := by
  have LA := Lib.hid (fun W => long04 a.evr W ⟨wa.2.2.2.1, wa.2.2.2.2⟩)
  have LB := Lib.hid (fun W => long04 b.evr W ⟨wb.2.2.2.1, wb.2.2.2.2⟩)
  have AW := Lib.hid (fun W (h : Below w.heap.size w W) => awake04 W (hO.below h))
  have S0 := new_b2 a b w
  dsimp only at S0
  have oa := Evr.ok_of a.evr
  have ob := Evr.ok_of b.evr
  have ua := u8_wf wa.2.1
  have ub := u8_wf wb.2.1
  have M1 := Lib.hid (fun ha hb W => meet_any a b W (oa ha) (ob hb) ua.1 ua.2 ub.1 ub.2)
  have M2 := Lib.hid (fun ha hb W => meet_any b a W (ob hb) (oa ha) ub.1 ub.2 ua.1 ua.2)
  rw [show meetP b a = meetP a b from meet_turn ub ua] at M2
  have M3 := Lib.hid (fun ha W => meet_any a a W (oa ha) (oa ha) ua.1 ua.2 ua.1 ua.2)
  rw [show meetP a a = true from meet_self ua] at M3
  have M4 := Lib.hid (fun ha hb W => meet_any { a with op := 0 } b W (oa ha) (ob hb) (show (0 : Int) ≤ 0 by decide) (show (0 : Int) ≤ 255 by decide) ub.1 ub.2)
  rw [show meetP { a with op := 0 } b = true from meet_any0 rfl] at M4
  have M5 := Lib.hid (fun ha hb W => meet_any b { a with op := 0 } W (ob hb) (oa ha) ub.1 ub.2 (show (0 : Int) ≤ 0 by decide) (show (0 : Int) ≤ 255 by decide))
  rw [show meetP b { a with op := 0 } = true from meet_0any rfl] at M5
  have M6 := Lib.hid (fun ha hb W => meet_any a { b with name := z.toList } W (oa ha) (ob hb) ua.1 ua.2 ub.1 ub.2)
  rw [show meetP a { b with name := z.toList } = meetP a b from rfl] at M6
  clear oa ob ua ub wa wb hO
  generalize longB a.evr = la at *
  generalize longB b.evr = lb at *
  generalize meetP a b = r0 at *
  unfold Evr.val at LA LB
  unfold Dp.val at M1 M2 M3 M4 M5 M6
  dsimp only at M4 M5 M6
  rw [bs_of] at M6
  unfold Dp.val
  unfold maxLen at wz
  by_cases hz : (1000 : Int) < (z.size : Int)
  · skip
    go_enter Tryd.func4, Tryd.ntmps4
    go_wp2_with fail
    go_at_call 23
    generalize ((w.alloc (.cells #[.string (bs a.name), .int .u8 a.op, .int .i64 a.evr.epoch, .string (bs a.evr.ver), .string (bs a.evr.rel)] 25)).alloc (.cells #[.string (bs b.name), .int .u8 b.op, .int .i64 b.evr.epoch, .string (bs b.evr.ver), .string (bs b.evr.rel)] 25)) = W at *
    generalize hn : w.heap.size = n at *
    obtain ⟨c0_0, c0_1, c0_2, c0_3, c0_4, c1_0, c1_1, c1_2, c1_3, c1_4, l0, l1, hB⟩ := id S0
    go_wp2_with fail
    go_at_call 23
    refine (LA.out _).mono ?_
    rintro e1 w1 ⟨rfl, h⟩
    have S1 := keep_b2 S0 h
    clear S0 h
    obtain ⟨c0_0, c0_1, c0_2, c0_3, c0_4, c1_0, c1_1, c1_2, c1_3, c1_4, l0, l1, hB⟩ := id S1
    cases la with
    | true =>
      go_wp2_with fail
      go_at_call 24
      refine (AW.out _ hB).mono ?_
      rintro e9 w9 ⟨rfl, h⟩
      go_wp2
      go_ret
      exact ⟨rfl, by rw [hn]; exact hB.trans (h.mono (by omega))⟩
    | false =>
      go_wp2_with fail
      go_at_call 23
      refine (LB.out _).mono ?_
      rintro e2 w2 ⟨rfl, h⟩
      have S2 := keep_b2 S1 h
      clear c0_0 c0_1 c0_2 c0_3 c0_4 c1_0 c1_1 c1_2 c1_3 c1_4 l0 l1 hB
      clear S1 h
      obtain ⟨c0_0, c0_1, c0_2, c0_3, c0_4, c1_0, c1_1, c1_2, c1_3, c1_4, l0, l1, hB⟩ := id S2
      cases lb with
      | true =>
        go_wp2_with fail
        go_at_call 24
        refine (AW.out _ hB).mono ?_
        rintro e9 w9 ⟨rfl, h⟩
        go_wp2
        go_ret
        exact ⟨rfl, by rw [hn]; exact hB.trans (h.mono (by omega))⟩
      | false =>
        go_wp2_with fail
        go_at_call 24
        refine (AW.out _ hB).mono ?_
        rintro e9 w9 ⟨rfl, h⟩
        go_wp2
        go_ret
        exact ⟨rfl, by rw [hn]; exact hB.trans (h.mono (by omega))⟩
  · have hz2 : (z.size : Int) ≤ 1000 := by omega
    go_enter Tryd.func4, Tryd.ntmps4
    go_wp2_with fail
    go_at_call 23
    generalize ((w.alloc (.cells #[.string (bs a.name), .int .u8 a.op, .int .i64 a.evr.epoch, .string (bs a.evr.ver), .string (bs a.evr.rel)] 25)).alloc (.cells #[.string (bs b.name), .int .u8 b.op, .int .i64 b.evr.epoch, .string (bs b.evr.ver), .string (bs b.evr.rel)] 25)) = W at *
    generalize hn : w.heap.size = n at *
    obtain ⟨c0_0, c0_1, c0_2, c0_3, c0_4, c1_0, c1_1, c1_2, c1_3, c1_4, l0, l1, hB⟩ := id S0
    go_wp2_with fail
    go_at_call 23
    refine (LA.out _).mono ?_
    rintro e1 w1 ⟨rfl, h⟩
    have S1 := keep_b2 S0 h
    clear S0 h
    obtain ⟨c0_0, c0_1, c0_2, c0_3, c0_4, c1_0, c1_1, c1_2, c1_3, c1_4, l0, l1, hB⟩ := id S1
    cases la with
    | true =>
      go_wp2_with fail
      go_at_call 24
      refine (AW.out _ hB).mono ?_
      rintro e9 w9 ⟨rfl, h⟩
      go_wp2
      go_ret
      exact ⟨rfl, by rw [hn]; exact hB.trans (h.mono (by omega))⟩
    | false =>
      go_wp2_with fail
      go_at_call 23
      refine (LB.out _).mono ?_
      rintro e2 w2 ⟨rfl, h⟩
      have S2 := keep_b2 S1 h
      clear c0_0 c0_1 c0_2 c0_3 c0_4 c1_0 c1_1 c1_2 c1_3 c1_4 l0 l1 hB
      clear S1 h
      obtain ⟨c0_0, c0_1, c0_2, c0_3, c0_4, c1_0, c1_1, c1_2, c1_3, c1_4, l0, l1, hB⟩ := id S2
      cases lb with
      | true =>
        go_wp2_with fail
        go_at_call 24
        refine (AW.out _ hB).mono ?_
        rintro e9 w9 ⟨rfl, h⟩
        go_wp2
        go_ret
        exact ⟨rfl, by rw [hn]; exact hB.trans (h.mono (by omega))⟩
      | false =>
        go_wp2_with fail
        go_at_call 24
        refine (AW.out _ hB).mono ?_
        rintro e3 w3 ⟨rfl, h⟩
        have S3 := keep_b2 S2 h
        clear c0_0 c0_1 c0_2 c0_3 c0_4 c1_0 c1_1 c1_2 c1_3 c1_4 l0 l1 hB
        clear S2 h
        obtain ⟨c0_0, c0_1, c0_2, c0_3, c0_4, c1_0, c1_1, c1_2, c1_3, c1_4, l0, l1, hB⟩ := id S3
        go_wp2_with fail
        go_region
        · generalize hV : ((w3.alloc (.cells #[.string (bs a.name), .int .u8 a.op, .int .i64 a.evr.epoch, .string (bs a.evr.ver), .string (bs a.evr.rel)] 25)).alloc (.cells #[.string (bs b.name), .int .u8 b.op, .int .i64 b.evr.epoch, .string (bs b.evr.ver), .string (bs b.evr.rel)] 25)).drew = V at *
          obtain ⟨m, hm⟩ : ∃ m, m = w3.heap.size := ⟨_, rfl⟩
          obtain ⟨q, hq⟩ : ∃ q, q = w3.heap.size + 1 := ⟨_, rfl⟩
          obtain ⟨SY, z1, z2, d1, d2, d3⟩ := two_0 S3 hV hm hq
          have SX := set_x (z := z) SY d1 d2 d3
          rw [← hq, ← hm]
          clear c0_0 c0_1 c0_2 c0_3 c0_4 c1_0 c1_1 c1_2 c1_3 c1_4 l0 l1 hB S3 hV hm hq
          have SYh := Lib.hid SY
          obtain ⟨yc0_0, yc0_1, yc0_2, yc0_3, yc0_4, yc1_0, yc1_1, yc1_2, yc1_3, yc1_4, yc2_0, yc2_1, yc2_2, yc2_3, yc2_4, yc3_0, yc3_1, yc3_2, yc3_3, yc3_4, yl0, yl1, yl2, yl3, yhB⟩ := SY
          go_wp2_with fail
          generalize (V.setCell { block := m, off := 1 } (Value.int IntKind.u8 0)).setCell { block := q, off := 0 } (Value.string z) = U at *
          clear SYh z1 z2 yc0_0 yc0_1 yc0_2 yc0_3 yc0_4 yc1_0 yc1_1 yc1_2 yc1_3 yc1_4 yc2_0 yc2_1 yc2_2 yc2_3 yc2_4 yc3_0 yc3_1 yc3_2 yc3_3 yc3_4 yl0 yl1 yl2 yl3 yhB
          obtain ⟨c0_0, c0_1, c0_2, c0_3, c0_4, c1_0, c1_1, c1_2, c1_3, c1_4, c2_0, c2_1, c2_2, c2_3, c2_4, c3_0, c3_1, c3_2, c3_3, c3_4, l0, l1, l2, l3, hB⟩ := id SX
          go_region_held3 (fun W => W.cell? ⟨n, 0, none⟩ = some (.string (bs a.name)) ∧ W.cell? ⟨n, 1, none⟩ = some (.int .u8 a.op) ∧ W.cell? ⟨n, 2, none⟩ = some (.int .i64 a.evr.epoch) ∧ W.cell? ⟨n, 3, none⟩ = some (.string (bs a.evr.ver)) ∧ W.cell? ⟨n, 4, none⟩ = some (.string (bs a.evr.rel)) ∧ W.cell? ⟨n + 1, 0, none⟩ = some (.string (bs b.name)) ∧ W.cell? ⟨n + 1, 1, none⟩ = some (.int .u8 b.op) ∧ W.cell? ⟨n + 1, 2, none⟩ = some (.int .i64 b.evr.epoch) ∧ W.cell? ⟨n + 1, 3, none⟩ = some (.string (bs b.evr.ver)) ∧ W.cell? ⟨n + 1, 4, none⟩ = some (.string (bs b.evr.rel)) ∧ W.cell? ⟨m, 0, none⟩ = some (.string (bs a.name)) ∧ W.cell? ⟨m, 1, none⟩ = some (.int .u8 0) ∧ W.cell? ⟨m, 2, none⟩ = some (.int .i64 a.evr.epoch) ∧ W.cell? ⟨m, 3, none⟩ = some (.string (bs a.evr.ver)) ∧ W.cell? ⟨m, 4, none⟩ = some (.string (bs a.evr.rel)) ∧ W.cell? ⟨q, 0, none⟩ = some (.string z) ∧ W.cell? ⟨q, 1, none⟩ = some (.int .u8 b.op) ∧ W.cell? ⟨q, 2, none⟩ = some (.int .i64 b.evr.epoch) ∧ W.cell? ⟨q, 3, none⟩ = some (.string (bs b.evr.ver)) ∧ W.cell? ⟨q, 4, none⟩ = some (.string (bs b.evr.rel)) ∧ n < W.heap.size ∧ n + 1 < W.heap.size ∧ m < W.heap.size ∧ q < W.heap.size ∧ Below n w W) (first | exact keep_b2x (by assumption) hbb | exact ⟨c0_0, c0_1, c0_2, c0_3, c0_4, c1_0, c1_1, c1_2, c1_3, c1_4, c2_0, c2_1, c2_2, c2_3, c2_4, c3_0, c3_1, c3_2, c3_3, c3_4, l0, l1, l2, l3, hB.drew⟩ | go_keep) (first | (go_at_call 25; ((with_reducible refine (M1.out (by trivial) (by trivial) _).mono ?_); rintro e w' ⟨rfl, hbb⟩)) | (go_at_call 25; ((with_reducible refine (M2.out (by trivial) (by trivial) _).mono ?_); rintro e w' ⟨rfl, hbb⟩)) | (go_at_call 25; ((with_reducible refine (M3.out (by trivial) _).mono ?_); rintro e w' ⟨rfl, hbb⟩)) | (go_at_call 25; ((with_reducible refine (M4.out (by trivial) (by trivial) _).mono ?_); rintro e w' ⟨rfl, hbb⟩)) | (go_at_call 25; ((with_reducible refine (M5.out (by trivial) (by trivial) _).mono ?_); rintro e w' ⟨rfl, hbb⟩)) | (go_at_call 25; ((with_reducible refine (M6.out (by trivial) (by trivial) _).mono ?_); rintro e w' ⟨rfl, hbb⟩)))
          rename_i hh
          go_wp2
          go_ret
          exact ⟨rfl, by rw [hn]; exact tail_b2x hh⟩
        · generalize hV : ((w3.alloc (.cells #[.string (bs b.name), .int .u8 b.op, .int .i64 b.evr.epoch, .string (bs b.evr.ver), .string (bs b.evr.rel)] 25)).alloc (.cells #[.string (bs a.name), .int .u8 a.op, .int .i64 a.evr.epoch, .string (bs a.evr.ver), .string (bs a.evr.rel)] 25)).drew = V at *
          obtain ⟨m, hm⟩ : ∃ m, m = w3.heap.size + 1 := ⟨_, rfl⟩
          obtain ⟨q, hq⟩ : ∃ q, q = w3.heap.size := ⟨_, rfl⟩
          obtain ⟨SY, z1, z2, d1, d2, d3⟩ := two_1 S3 hV hm hq
          have SX := set_x (z := z) SY d1 d2 d3
          rw [← hm, ← hq]
          clear c0_0 c0_1 c0_2 c0_3 c0_4 c1_0 c1_1 c1_2 c1_3 c1_4 l0 l1 hB S3 hV hm hq
          have SYh := Lib.hid SY
          obtain ⟨yc0_0, yc0_1, yc0_2, yc0_3, yc0_4, yc1_0, yc1_1, yc1_2, yc1_3, yc1_4, yc2_0, yc2_1, yc2_2, yc2_3, yc2_4, yc3_0, yc3_1, yc3_2, yc3_3, yc3_4, yl0, yl1, yl2, yl3, yhB⟩ := SY
          go_wp2_with fail
          generalize (V.setCell { block := m, off := 1 } (Value.int IntKind.u8 0)).setCell { block := q, off := 0 } (Value.string z) = U at *
          clear SYh z1 z2 yc0_0 yc0_1 yc0_2 yc0_3 yc0_4 yc1_0 yc1_1 yc1_2 yc1_3 yc1_4 yc2_0 yc2_1 yc2_2 yc2_3 yc2_4 yc3_0 yc3_1 yc3_2 yc3_3 yc3_4 yl0 yl1 yl2 yl3 yhB
          obtain ⟨c0_0, c0_1, c0_2, c0_3, c0_4, c1_0, c1_1, c1_2, c1_3, c1_4, c2_0, c2_1, c2_2, c2_3, c2_4, c3_0, c3_1, c3_2, c3_3, c3_4, l0, l1, l2, l3, hB⟩ := id SX
          go_region_held3 (fun W => W.cell? ⟨n, 0, none⟩ = some (.string (bs a.name)) ∧ W.cell? ⟨n, 1, none⟩ = some (.int .u8 a.op) ∧ W.cell? ⟨n, 2, none⟩ = some (.int .i64 a.evr.epoch) ∧ W.cell? ⟨n, 3, none⟩ = some (.string (bs a.evr.ver)) ∧ W.cell? ⟨n, 4, none⟩ = some (.string (bs a.evr.rel)) ∧ W.cell? ⟨n + 1, 0, none⟩ = some (.string (bs b.name)) ∧ W.cell? ⟨n + 1, 1, none⟩ = some (.int .u8 b.op) ∧ W.cell? ⟨n + 1, 2, none⟩ = some (.int .i64 b.evr.epoch) ∧ W.cell? ⟨n + 1, 3, none⟩ = some (.string (bs b.evr.ver)) ∧ W.cell? ⟨n + 1, 4, none⟩ = some (.string (bs b.evr.rel)) ∧ W.cell? ⟨m, 0, none⟩ = some (.string (bs a.name)) ∧ W.cell? ⟨m, 1, none⟩ = some (.int .u8 0) ∧ W.cell? ⟨m, 2, none⟩ = some (.int .i64 a.evr.epoch) ∧ W.cell? ⟨m, 3, none⟩ = some (.string (bs a.evr.ver)) ∧ W.cell? ⟨m, 4, none⟩ = some (.string (bs a.evr.rel)) ∧ W.cell? ⟨q, 0, none⟩ = some (.string z) ∧ W.cell? ⟨q, 1, none⟩ = some (.int .u8 b.op) ∧ W.cell? ⟨q, 2, none⟩ = some (.int .i64 b.evr.epoch) ∧ W.cell? ⟨q, 3, none⟩ = some (.string (bs b.evr.ver)) ∧ W.cell? ⟨q, 4, none⟩ = some (.string (bs b.evr.rel)) ∧ n < W.heap.size ∧ n + 1 < W.heap.size ∧ m < W.heap.size ∧ q < W.heap.size ∧ Below n w W) (first | exact keep_b2x (by assumption) hbb | exact ⟨c0_0, c0_1, c0_2, c0_3, c0_4, c1_0, c1_1, c1_2, c1_3, c1_4, c2_0, c2_1, c2_2, c2_3, c2_4, c3_0, c3_1, c3_2, c3_3, c3_4, l0, l1, l2, l3, hB.drew⟩ | go_keep) (first | (go_at_call 25; ((with_reducible refine (M1.out (by trivial) (by trivial) _).mono ?_); rintro e w' ⟨rfl, hbb⟩)) | (go_at_call 25; ((with_reducible refine (M2.out (by trivial) (by trivial) _).mono ?_); rintro e w' ⟨rfl, hbb⟩)) | (go_at_call 25; ((with_reducible refine (M3.out (by trivial) _).mono ?_); rintro e w' ⟨rfl, hbb⟩)) | (go_at_call 25; ((with_reducible refine (M4.out (by trivial) (by trivial) _).mono ?_); rintro e w' ⟨rfl, hbb⟩)) | (go_at_call 25; ((with_reducible refine (M5.out (by trivial) (by trivial) _).mono ?_); rintro e w' ⟨rfl, hbb⟩)) | (go_at_call 25; ((with_reducible refine (M6.out (by trivial) (by trivial) _).mono ?_); rintro e w' ⟨rfl, hbb⟩)))
          rename_i hh
          go_wp2
          go_ret
          exact ⟨rfl, by rw [hn]; exact tail_b2x hh⟩
end Go.Proofs.YtaibdghalhbpnaaDoor
