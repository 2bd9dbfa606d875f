/- SpanMore, walked. -/
import Derived.Test.YtaibdghalhbpnaaDoorSpanMeets
import Derived.Test.YtaibdghalhbpnaaDoorSpLaw
namespace Go.Proofs.YtaibdghalhbpnaaDoor
open Go.RowKit Go.Shelf

theorem wrap64_ge (k : Int) : 0 ≤ IntKind.u64.wrap k := by
  unfold IntKind.wrap
  simp [IntKind.signed, IntKind.bits, IntKind.min, IntKind.max]
  omega
theorem keep_m3 {a b : Dp} {e : Evr} {n : Nat} {w W W' : World} (h : W.cell? ⟨n, 0, none⟩ = some (.string (bs a.name)) ∧ W.cell? ⟨n, 1, none⟩ = some (.int .u8 a.op) ∧ W.cell? ⟨n, 2, none⟩ = some (.int .i64 a.evr.epoch) ∧ W.cell? ⟨n, 3, none⟩ = some (.string (bs a.evr.ver)) ∧ W.cell? ⟨n, 4, none⟩ = some (.string (bs a.evr.rel)) ∧ W.cell? ⟨n + 1, 0, none⟩ = some (.string (bs b.name)) ∧ W.cell? ⟨n + 1, 1, none⟩ = some (.int .u8 b.op) ∧ W.cell? ⟨n + 1, 2, none⟩ = some (.int .i64 b.evr.epoch) ∧ W.cell? ⟨n + 1, 3, none⟩ = some (.string (bs b.evr.ver)) ∧ W.cell? ⟨n + 1, 4, none⟩ = some (.string (bs b.evr.rel)) ∧ W.cell? ⟨n + 1 + 1, 0, none⟩ = some (.int .i64 e.epoch) ∧ W.cell? ⟨n + 1 + 1, 1, none⟩ = some (.string (bs e.ver)) ∧ W.cell? ⟨n + 1 + 1, 2, none⟩ = some (.string (bs e.rel)) ∧ n < W.heap.size ∧ n + 1 < W.heap.size ∧ n + 1 + 1 < W.heap.size ∧ Below n w W) (hb : Below W.heap.size W W') :
    W'.cell? ⟨n, 0, none⟩ = some (.string (bs a.name)) ∧ W'.cell? ⟨n, 1, none⟩ = some (.int .u8 a.op) ∧ W'.cell? ⟨n, 2, none⟩ = some (.int .i64 a.evr.epoch) ∧ W'.cell? ⟨n, 3, none⟩ = some (.string (bs a.evr.ver)) ∧ W'.cell? ⟨n, 4, none⟩ = some (.string (bs a.evr.rel)) ∧ W'.cell? ⟨n + 1, 0, none⟩ = some (.string (bs b.name)) ∧ W'.cell? ⟨n + 1, 1, none⟩ = some (.int .u8 b.op) ∧ W'.cell? ⟨n + 1, 2, none⟩ = some (.int .i64 b.evr.epoch) ∧ W'.cell? ⟨n + 1, 3, none⟩ = some (.string (bs b.evr.ver)) ∧ W'.cell? ⟨n + 1, 4, none⟩ = some (.string (bs b.evr.rel)) ∧ W'.cell? ⟨n + 1 + 1, 0, none⟩ = some (.int .i64 e.epoch) ∧ W'.cell? ⟨n + 1 + 1, 1, none⟩ = some (.string (bs e.ver)) ∧ W'.cell? ⟨n + 1 + 1, 2, none⟩ = some (.string (bs e.rel)) ∧ n < W'.heap.size ∧ n + 1 < W'.heap.size ∧ n + 1 + 1 < W'.heap.size ∧ Below n w W' := by
  obtain ⟨c0_0, c0_1, c0_2, c0_3, c0_4, c1_0, c1_1, c1_2, c1_3, c1_4, c2_0, c2_1, c2_2, l0, l1, l2, hB⟩ := h
  have hB_le : n ≤ W.heap.size := by omega
  exact ⟨(hb.cell (p := ⟨n, 0, none⟩) l0).trans c0_0, (hb.cell (p := ⟨n, 1, none⟩) l0).trans c0_1, (hb.cell (p := ⟨n, 2, none⟩) l0).trans c0_2, (hb.cell (p := ⟨n, 3, none⟩) l0).trans c0_3, (hb.cell (p := ⟨n, 4, none⟩) l0).trans c0_4, (hb.cell (p := ⟨n + 1, 0, none⟩) l1).trans c1_0, (hb.cell (p := ⟨n + 1, 1, none⟩) l1).trans c1_1, (hb.cell (p := ⟨n + 1, 2, none⟩) l1).trans c1_2, (hb.cell (p := ⟨n + 1, 3, none⟩) l1).trans c1_3, (hb.cell (p := ⟨n + 1, 4, none⟩) l1).trans c1_4, (hb.cell (p := ⟨n + 1 + 1, 0, none⟩) l2).trans c2_0, (hb.cell (p := ⟨n + 1 + 1, 1, none⟩) l2).trans c2_1, (hb.cell (p := ⟨n + 1 + 1, 2, none⟩) l2).trans c2_2, Nat.lt_of_lt_of_le l0 hb.size, Nat.lt_of_lt_of_le l1 hb.size, Nat.lt_of_lt_of_le l2 hb.size, hB.trans (hb.mono hB_le)⟩
theorem keep_m4 {a b : Dp} {e : Evr} {o : Int} {m : Nat} {n : Nat} {w W W' : World} (h : W.cell? ⟨n, 0, none⟩ = some (.string (bs a.name)) ∧ W.cell? ⟨n, 1, none⟩ = some (.int .u8 a.op) ∧ W.cell? ⟨n, 2, none⟩ = some (.int .i64 a.evr.epoch) ∧ W.cell? ⟨n, 3, none⟩ = some (.string (bs a.evr.ver)) ∧ W.cell? ⟨n, 4, none⟩ = some (.string (bs a.evr.rel)) ∧ W.cell? ⟨n + 1, 0, none⟩ = some (.string (bs b.name)) ∧ W.cell? ⟨n + 1, 1, none⟩ = some (.int .u8 b.op) ∧ W.cell? ⟨n + 1, 2, none⟩ = some (.int .i64 b.evr.epoch) ∧ W.cell? ⟨n + 1, 3, none⟩ = some (.string (bs b.evr.ver)) ∧ W.cell? ⟨n + 1, 4, none⟩ = some (.string (bs b.evr.rel)) ∧ W.cell? ⟨n + 1 + 1, 0, none⟩ = some (.int .i64 e.epoch) ∧ W.cell? ⟨n + 1 + 1, 1, none⟩ = some (.string (bs e.ver)) ∧ W.cell? ⟨n + 1 + 1, 2, none⟩ = some (.string (bs e.rel)) ∧ W.cell? ⟨m, 0, none⟩ = some (.string (bs a.name)) ∧ W.cell? ⟨m, 1, none⟩ = some (.int .u8 o) ∧ W.cell? ⟨m, 2, none⟩ = some (.int .i64 a.evr.epoch) ∧ W.cell? ⟨m, 3, none⟩ = some (.string (bs a.evr.ver)) ∧ W.cell? ⟨m, 4, none⟩ = some (.string (bs a.evr.rel)) ∧ n < W.heap.size ∧ n + 1 < W.heap.size ∧ n + 1 + 1 < W.heap.size ∧ m < W.heap.size ∧ Below n w W) (hb : Below W.heap.size W W') :
    W'.cell? ⟨n, 0, none⟩ = some (.string (bs a.name)) ∧ W'.cell? ⟨n, 1, none⟩ = some (.int .u8 a.op) ∧ W'.cell? ⟨n, 2, none⟩ = some (.int .i64 a.evr.epoch) ∧ W'.cell? ⟨n, 3, none⟩ = some (.string (bs a.evr.ver)) ∧ W'.cell? ⟨n, 4, none⟩ = some (.string (bs a.evr.rel)) ∧ W'.cell? ⟨n + 1, 0, none⟩ = some (.string (bs b.name)) ∧ W'.cell? ⟨n + 1, 1, none⟩ = some (.int .u8 b.op) ∧ W'.cell? ⟨n + 1, 2, none⟩ = some (.int .i64 b.evr.epoch) ∧ W'.cell? ⟨n + 1, 3, none⟩ = some (.string (bs b.evr.ver)) ∧ W'.cell? ⟨n + 1, 4, none⟩ = some (.string (bs b.evr.rel)) ∧ W'.cell? ⟨n + 1 + 1, 0, none⟩ = some (.int .i64 e.epoch) ∧ W'.cell? ⟨n + 1 + 1, 1, none⟩ = some (.string (bs e.ver)) ∧ W'.cell? ⟨n + 1 + 1, 2, none⟩ = some (.string (bs e.rel)) ∧ W'.cell? ⟨m, 0, none⟩ = some (.string (bs a.name)) ∧ W'.cell? ⟨m, 1, none⟩ = some (.int .u8 o) ∧ W'.cell? ⟨m, 2, none⟩ = some (.int .i64 a.evr.epoch) ∧ W'.cell? ⟨m, 3, none⟩ = some (.string (bs a.evr.ver)) ∧ W'.cell? ⟨m, 4, none⟩ = some (.string (bs a.evr.rel)) ∧ n < W'.heap.size ∧ n + 1 < W'.heap.size ∧ n + 1 + 1 < W'.heap.size ∧ m < W'.heap.size ∧ Below n w W' := by
  obtain ⟨c0_0, c0_1, c0_2, c0_3, c0_4, c1_0, c1_1, c1_2, c1_3, c1_4, c2_0, c2_1, c2_2, c3_0, c3_1, c3_2, c3_3, c3_4, l0, l1, l2, l3, hB⟩ := h
  have hB_le : n ≤ W.heap.size := by omega
  exact ⟨(hb.cell (p := ⟨n, 0, none⟩) l0).trans c0_0, (hb.cell (p := ⟨n, 1, none⟩) l0).trans c0_1, (hb.cell (p := ⟨n, 2, none⟩) l0).trans c0_2, (hb.cell (p := ⟨n, 3, none⟩) l0).trans c0_3, (hb.cell (p := ⟨n, 4, none⟩) l0).trans c0_4, (hb.cell (p := ⟨n + 1, 0, none⟩) l1).trans c1_0, (hb.cell (p := ⟨n + 1, 1, none⟩) l1).trans c1_1, (hb.cell (p := ⟨n + 1, 2, none⟩) l1).trans c1_2, (hb.cell (p := ⟨n + 1, 3, none⟩) l1).trans c1_3, (hb.cell (p := ⟨n + 1, 4, none⟩) l1).trans c1_4, (hb.cell (p := ⟨n + 1 + 1, 0, none⟩) l2).trans c2_0, (hb.cell (p := ⟨n + 1 + 1, 1, none⟩) l2).trans c2_1, (hb.cell (p := ⟨n + 1 + 1, 2, none⟩) l2).trans c2_2, (hb.cell (p := ⟨m, 0, none⟩) l3).trans c3_0, (hb.cell (p := ⟨m, 1, none⟩) l3).trans c3_1, (hb.cell (p := ⟨m, 2, none⟩) l3).trans c3_2, (hb.cell (p := ⟨m, 3, none⟩) l3).trans c3_3, (hb.cell (p := ⟨m, 4, none⟩) l3).trans c3_4, Nat.lt_of_lt_of_le l0 hb.size, Nat.lt_of_lt_of_le l1 hb.size, Nat.lt_of_lt_of_le l2 hb.size, Nat.lt_of_lt_of_le l3 hb.size, hB.trans (hb.mono hB_le)⟩
theorem tail_m3 {a b : Dp} {e : Evr} {n : Nat} {w W : World} (h : W.cell? ⟨n, 0, none⟩ = some (.string (bs a.name)) ∧ W.cell? ⟨n, 1, none⟩ = some (.int .u8 a.op) ∧ W.cell? ⟨n, 2, none⟩ = some (.int .i64 a.evr.epoch) ∧ W.cell? ⟨n, 3, none⟩ = some (.string (bs a.evr.ver)) ∧ W.cell? ⟨n, 4, none⟩ = some (.string (bs a.evr.rel)) ∧ W.cell? ⟨n + 1, 0, none⟩ = some (.string (bs b.name)) ∧ W.cell? ⟨n + 1, 1, none⟩ = some (.int .u8 b.op) ∧ W.cell? ⟨n + 1, 2, none⟩ = some (.int .i64 b.evr.epoch) ∧ W.cell? ⟨n + 1, 3, none⟩ = some (.string (bs b.evr.ver)) ∧ W.cell? ⟨n + 1, 4, none⟩ = some (.string (bs b.evr.rel)) ∧ W.cell? ⟨n + 1 + 1, 0, none⟩ = some (.int .i64 e.epoch) ∧ W.cell? ⟨n + 1 + 1, 1, none⟩ = some (.string (bs e.ver)) ∧ W.cell? ⟨n + 1 + 1, 2, none⟩ = some (.string (bs e.rel)) ∧ n < W.heap.size ∧ n + 1 < W.heap.size ∧ n + 1 + 1 < W.heap.size ∧ Below n w W) : Below n w W := h.2.2.2.2.2.2.2.2.2.2.2.2.2.2.2.2
theorem tail_m4 {a b : Dp} {e : Evr} {o : Int} {m : Nat} {n : Nat} {w W : World} (h : W.cell? ⟨n, 0, none⟩ = some (.string (bs a.name)) ∧ W.cell? ⟨n, 1, none⟩ = some (.int .u8 a.op) ∧ W.cell? ⟨n, 2, none⟩ = some (.int .i64 a.evr.epoch) ∧ W.cell? ⟨n, 3, none⟩ = some (.string (bs a.evr.ver)) ∧ W.cell? ⟨n, 4, none⟩ = some (.string (bs a.evr.rel)) ∧ W.cell? ⟨n + 1, 0, none⟩ = some (.string (bs b.name)) ∧ W.cell? ⟨n + 1, 1, none⟩ = some (.int .u8 b.op) ∧ W.cell? ⟨n + 1, 2, none⟩ = some (.int .i64 b.evr.epoch) ∧ W.cell? ⟨n + 1, 3, none⟩ = some (.string (bs b.evr.ver)) ∧ W.cell? ⟨n + 1, 4, none⟩ = some (.string (bs b.evr.rel)) ∧ W.cell? ⟨n + 1 + 1, 0, none⟩ = some (.int .i64 e.epoch) ∧ W.cell? ⟨n + 1 + 1, 1, none⟩ = some (.string (bs e.ver)) ∧ W.cell? ⟨n + 1 + 1, 2, none⟩ = some (.string (bs e.rel)) ∧ W.cell? ⟨m, 0, none⟩ = some (.string (bs a.name)) ∧ W.cell? ⟨m, 1, none⟩ = some (.int .u8 o) ∧ W.cell? ⟨m, 2, none⟩ = some (.int .i64 a.evr.epoch) ∧ W.cell? ⟨m, 3, none⟩ = some (.string (bs a.evr.ver)) ∧ W.cell? ⟨m, 4, none⟩ = some (.string (bs a.evr.rel)) ∧ n < W.heap.size ∧ n + 1 < W.heap.size ∧ n + 1 + 1 < W.heap.size ∧ m < W.heap.size ∧ Below n w W) : Below n w W := h.2.2.2.2.2.2.2.2.2.2.2.2.2.2.2.2.2.2.2.2.2.2
theorem new_m3 (a b : Dp) (e : Evr) (w : World) : let W := (((w.alloc (.cells #[.string (bs a.name), .int .u8 a.op, .int .i64 a.evr.epoch, .string (bs a.evr.ver), .string (bs a.evr.rel)] 25)).alloc (.cells #[.string (bs b.name), .int .u8 b.op, .int .i64 b.evr.epoch, .string (bs b.evr.ver), .string (bs b.evr.rel)] 25)).alloc (.cells #[.int .i64 e.epoch, .string (bs e.ver), .string (bs e.rel)] 23)); let n := w.heap.size; W.cell? ⟨n, 0, none⟩ = some (.string (bs a.name)) ∧ W.cell? ⟨n, 1, none⟩ = some (.int .u8 a.op) ∧ W.cell? ⟨n, 2, none⟩ = some (.int .i64 a.evr.epoch) ∧ W.cell? ⟨n, 3, none⟩ = some (.string (bs a.evr.ver)) ∧ W.cell? ⟨n, 4, none⟩ = some (.string (bs a.evr.rel)) ∧ W.cell? ⟨n + 1, 0, none⟩ = some (.string (bs b.name)) ∧ W.cell? ⟨n + 1, 1, none⟩ = some (.int .u8 b.op) ∧ W.cell? ⟨n + 1, 2, none⟩ = some (.int .i64 b.evr.epoch) ∧ W.cell? ⟨n + 1, 3, none⟩ = some (.string (bs b.evr.ver)) ∧ W.cell? ⟨n + 1, 4, none⟩ = some (.string (bs b.evr.rel)) ∧ W.cell? ⟨n + 1 + 1, 0, none⟩ = some (.int .i64 e.epoch) ∧ W.cell? ⟨n + 1 + 1, 1, none⟩ = some (.string (bs e.ver)) ∧ W.cell? ⟨n + 1 + 1, 2, none⟩ = some (.string (bs e.rel)) ∧ n < W.heap.size ∧ n + 1 < W.heap.size ∧ n + 1 + 1 < W.heap.size ∧ Below n w W := by
  refine ⟨?_, ?_, ?_, ?_, ?_, ?_, ?_, ?_, ?_, ?_, ?_, ?_, ?_, ?_, ?_, ?_, ?_⟩
  all_goals first | exact (World.cell?_alloc_at _ _ _ _ (by simp)).trans rfl | exact (World.cell?_alloc_past _ _ _ (by simp; try omega)).trans ((World.cell?_alloc_at _ _ _ _ (by simp)).trans rfl) | exact (World.cell?_alloc_past _ _ _ (by simp; try omega)).trans ((World.cell?_alloc_past _ _ _ (by simp; try omega)).trans ((World.cell?_alloc_at _ _ _ _ (by simp)).trans rfl)) | exact ((((Below.refl _ _).alloc (by simp; try omega) _).alloc (by simp; try omega) _).alloc (by simp; try omega) _) | (simp; try omega)
theorem grow_m4 {a b : Dp} {e : Evr} (o : Int) {n : Nat} {w W : World} (h : W.cell? ⟨n, 0, none⟩ = some (.string (bs a.name)) ∧ W.cell? ⟨n, 1, none⟩ = some (.int .u8 a.op) ∧ W.cell? ⟨n, 2, none⟩ = some (.int .i64 a.evr.epoch) ∧ W.cell? ⟨n, 3, none⟩ = some (.string (bs a.evr.ver)) ∧ W.cell? ⟨n, 4, none⟩ = some (.string (bs a.evr.rel)) ∧ W.cell? ⟨n + 1, 0, none⟩ = some (.string (bs b.name)) ∧ W.cell? ⟨n + 1, 1, none⟩ = some (.int .u8 b.op) ∧ W.cell? ⟨n + 1, 2, none⟩ = some (.int .i64 b.evr.epoch) ∧ W.cell? ⟨n + 1, 3, none⟩ = some (.string (bs b.evr.ver)) ∧ W.cell? ⟨n + 1, 4, none⟩ = some (.string (bs b.evr.rel)) ∧ W.cell? ⟨n + 1 + 1, 0, none⟩ = some (.int .i64 e.epoch) ∧ W.cell? ⟨n + 1 + 1, 1, none⟩ = some (.string (bs e.ver)) ∧ W.cell? ⟨n + 1 + 1, 2, none⟩ = some (.string (bs e.rel)) ∧ n < W.heap.size ∧ n + 1 < W.heap.size ∧ n + 1 + 1 < W.heap.size ∧ Below n w W) : let V := W.alloc (.cells #[.string (bs a.name), .int .u8 o, .int .i64 a.evr.epoch, .string (bs a.evr.ver), .string (bs a.evr.rel)] 25); let m := W.heap.size; V.cell? ⟨n, 0, none⟩ = some (.string (bs a.name)) ∧ V.cell? ⟨n, 1, none⟩ = some (.int .u8 a.op) ∧ V.cell? ⟨n, 2, none⟩ = some (.int .i64 a.evr.epoch) ∧ V.cell? ⟨n, 3, none⟩ = some (.string (bs a.evr.ver)) ∧ V.cell? ⟨n, 4, none⟩ = some (.string (bs a.evr.rel)) ∧ V.cell? ⟨n + 1, 0, none⟩ = some (.string (bs b.name)) ∧ V.cell? ⟨n + 1, 1, none⟩ = some (.int .u8 b.op) ∧ V.cell? ⟨n + 1, 2, none⟩ = some (.int .i64 b.evr.epoch) ∧ V.cell? ⟨n + 1, 3, none⟩ = some (.string (bs b.evr.ver)) ∧ V.cell? ⟨n + 1, 4, none⟩ = some (.string (bs b.evr.rel)) ∧ V.cell? ⟨n + 1 + 1, 0, none⟩ = some (.int .i64 e.epoch) ∧ V.cell? ⟨n + 1 + 1, 1, none⟩ = some (.string (bs e.ver)) ∧ V.cell? ⟨n + 1 + 1, 2, none⟩ = some (.string (bs e.rel)) ∧ V.cell? ⟨m, 0, none⟩ = some (.string (bs a.name)) ∧ V.cell? ⟨m, 1, none⟩ = some (.int .u8 o) ∧ V.cell? ⟨m, 2, none⟩ = some (.int .i64 a.evr.epoch) ∧ V.cell? ⟨m, 3, none⟩ = some (.string (bs a.evr.ver)) ∧ V.cell? ⟨m, 4, none⟩ = some (.string (bs a.evr.rel)) ∧ n < V.heap.size ∧ n + 1 < V.heap.size ∧ n + 1 + 1 < V.heap.size ∧ m < V.heap.size ∧ Below n w V := by
  obtain ⟨c0_0, c0_1, c0_2, c0_3, c0_4, c1_0, c1_1, c1_2, c1_3, c1_4, c2_0, c2_1, c2_2, l0, l1, l2, hB⟩ := h
  exact ⟨(World.cell?_alloc_lt W _ ⟨n, 0, none⟩ l0).trans c0_0, (World.cell?_alloc_lt W _ ⟨n, 1, none⟩ l0).trans c0_1, (World.cell?_alloc_lt W _ ⟨n, 2, none⟩ l0).trans c0_2, (World.cell?_alloc_lt W _ ⟨n, 3, none⟩ l0).trans c0_3, (World.cell?_alloc_lt W _ ⟨n, 4, none⟩ l0).trans c0_4, (World.cell?_alloc_lt W _ ⟨n + 1, 0, none⟩ l1).trans c1_0, (World.cell?_alloc_lt W _ ⟨n + 1, 1, none⟩ l1).trans c1_1, (World.cell?_alloc_lt W _ ⟨n + 1, 2, none⟩ l1).trans c1_2, (World.cell?_alloc_lt W _ ⟨n + 1, 3, none⟩ l1).trans c1_3, (World.cell?_alloc_lt W _ ⟨n + 1, 4, none⟩ l1).trans c1_4, (World.cell?_alloc_lt W _ ⟨n + 1 + 1, 0, none⟩ l2).trans c2_0, (World.cell?_alloc_lt W _ ⟨n + 1 + 1, 1, none⟩ l2).trans c2_1, (World.cell?_alloc_lt W _ ⟨n + 1 + 1, 2, none⟩ l2).trans c2_2, (World.cell?_alloc_at _ _ _ _ rfl).trans rfl, (World.cell?_alloc_at _ _ _ _ rfl).trans rfl, (World.cell?_alloc_at _ _ _ _ rfl).trans rfl, (World.cell?_alloc_at _ _ _ _ rfl).trans rfl, (World.cell?_alloc_at _ _ _ _ rfl).trans rfl, by simp; omega, by simp; omega, by simp; omega, by simp, hB.alloc (by omega) _⟩
set_option maxRecDepth 100000 in
set_option maxHeartbeats 16000000 in
theorem spanMore_0 (w : World) (hO : OpsIn w) (a : Dp) (wa : a.wf) (b : Dp) (wb : b.wf) (e : Evr) (we : e.wf) (k : Int) (s : Fin 3) (HS : s = ⟨0, by decide⟩) (hs : (IntKind.u64.wrap k).tmod 3 = (s.val : Int)) : Calls Tryd.prog 6 #[a.val, b.val, e.val, .int .i64 k] w fun e w' => e = .returned (.bool true) ∧ Below w.heap.size w w' := by
  subst HS
  have LA := Lib.hid (fun W => long04 a.evr W ⟨wa.2.2.2.1, wa.2.2.2.2⟩)
  have LB := Lib.hid (fun W => long04 b.evr W ⟨wb.2.2.2.1, wb.2.2.2.2⟩)
  have LE := Lib.hid (fun W => long04 e W ⟨we.2.1, we.2.2⟩)
  have AW := Lib.hid (fun W (h : Below w.heap.size w W) => awake04 W (hO.below h))
  have S0 := new_m3 a b e w
  dsimp only at S0
  have oa := Evr.ok_of a.evr
  have ob := Evr.ok_of b.evr
  have oe := Evr.ok_of e
  have ua := u8_wf wa.2.1
  have ub := u8_wf wb.2.1
  have oo := or_opm ua.1 ua.2 ⟨0, by decide⟩
  obtain ⟨o, ho⟩ : ∃ o, o = bits BinOp.or IntKind.u8 a.op ((1 <<< (⟨0, by decide⟩ : Fin 3).val : Nat) : Int) := ⟨_, rfl⟩
  rw [← ho] at oo
  have h7 : bits BinOp.and IntKind.u8 a.op 7 = a.op % 8 := u8_and7 _ ua.1 (by omega)
  have LM := Lib.hid (fun (h0 : ¬ a.op % 8 = 0) h => (show meetP { a with op := o } b = true by rw [ho]; exact meet_more (s := ⟨0, by decide⟩) ua ub (by unfold opm; have := ua.1; omega) h))
  have LH := Lib.hid (fun (h0 : ¬ a.op % 8 = 0) h => (show hasP { a with op := o } e = true by rw [ho]; exact has_more (s := ⟨0, by decide⟩) ua (by unfold opm; have := ua.1; omega) h))
  have M1 := Lib.hid (fun ha hb W => meet_any a b W (oa ha) (ob hb) ua.1 ua.2 ub.1 ub.2)
  have M2 := Lib.hid (fun ha hb W => meet_any { a with op := o } b W (oa ha) (ob hb) oo.2.1 oo.2.2 ub.1 ub.2)
  have H1 := Lib.hid (fun ha he W => has_any a e W (oa ha) (oe he) ua.1 ua.2)
  have H2 := Lib.hid (fun ha he W => has_any { a with op := o } e W (oa ha) (oe he) oo.2.1 oo.2.2)
  clear oa ob oe ua ub wa wb we hO oo
  generalize longB a.evr = la at *
  generalize longB b.evr = lb at *
  generalize longB e = le at *
  generalize meetP a b = r1 at *
  generalize hasP a e = r2 at *
  unfold Evr.val at LA LB LE H1 H2
  unfold Dp.val at M1 M2 H1 H2
  dsimp only at M2 H2
  generalize meetP { a with op := o } b = r3 at *
  generalize hasP { a with op := o } e = r4 at *
  unfold Dp.val Evr.val
  have ho' : o = bits BinOp.or IntKind.u8 a.op 1 := ho
  have HO := Lib.hid ho'
  clear ho ho'
  have hs2 : (IntKind.u64.wrap k).tmod 3 = 0 := hs
  clear hs
  by_cases h8 : a.op % 8 = 0
  · have e7 : bits BinOp.and IntKind.u8 a.op 7 = 0 := h7.trans h8
    clear h7 h8 LM LH
    go_enter Tryd.func6, Tryd.ntmps6
    go_wp2_with fail
    go_at_call 23
    generalize (((w.alloc (.cells #[.string (bs a.name), .int .u8 a.op, .int .i64 a.evr.epoch, .string (bs a.evr.ver), .string (bs a.evr.rel)] 25)).alloc (.cells #[.string (bs b.name), .int .u8 b.op, .int .i64 b.evr.epoch, .string (bs b.evr.ver), .string (bs b.evr.rel)] 25)).alloc (.cells #[.int .i64 e.epoch, .string (bs e.ver), .string (bs e.rel)] 23)) = W at *
    generalize hn : w.heap.size = n at *
    obtain ⟨c0_0, c0_1, c0_2, c0_3, c0_4, c1_0, c1_1, c1_2, c1_3, c1_4, c2_0, c2_1, c2_2, l0, l1, l2, hB⟩ := id S0
    go_wp2_with fail
    go_at_call 23
    refine (LA.out _).mono ?_
    rintro e1 w1 ⟨rfl, h⟩
    have S1 := keep_m3 S0 h
    clear S0 h
    obtain ⟨c0_0, c0_1, c0_2, c0_3, c0_4, c1_0, c1_1, c1_2, c1_3, c1_4, c2_0, c2_1, c2_2, l0, l1, l2, hB⟩ := id S1
    cases la with
    | true =>
      go_wp2_with fail
      go_at_call 24
      refine (AW.out _ hB).mono ?_
      rintro e9 w9 ⟨rfl, h⟩
      go_wp2
      go_ret
      exact ⟨rfl, by rw [hn]; exact hB.trans (h.mono (by omega))⟩
    | false =>
      go_wp2_with fail
      go_at_call 23
      refine (LB.out _).mono ?_
      rintro e2 w2 ⟨rfl, h⟩
      have S2 := keep_m3 S1 h
      clear c0_0 c0_1 c0_2 c0_3 c0_4 c1_0 c1_1 c1_2 c1_3 c1_4 c2_0 c2_1 c2_2 l0 l1 l2 hB
      clear S1 h
      obtain ⟨c0_0, c0_1, c0_2, c0_3, c0_4, c1_0, c1_1, c1_2, c1_3, c1_4, c2_0, c2_1, c2_2, l0, l1, l2, hB⟩ := id S2
      cases lb with
      | true =>
        go_wp2_with fail
        go_at_call 24
        refine (AW.out _ hB).mono ?_
        rintro e9 w9 ⟨rfl, h⟩
        go_wp2
        go_ret
        exact ⟨rfl, by rw [hn]; exact hB.trans (h.mono (by omega))⟩
      | false =>
        go_wp2_with fail
        go_at_call 23
        refine (LE.out _).mono ?_
        rintro e3 w3 ⟨rfl, h⟩
        have S3 := keep_m3 S2 h
        clear c0_0 c0_1 c0_2 c0_3 c0_4 c1_0 c1_1 c1_2 c1_3 c1_4 c2_0 c2_1 c2_2 l0 l1 l2 hB
        clear S2 h
        obtain ⟨c0_0, c0_1, c0_2, c0_3, c0_4, c1_0, c1_1, c1_2, c1_3, c1_4, c2_0, c2_1, c2_2, l0, l1, l2, hB⟩ := id S3
        cases le with
        | true =>
          go_wp2_with fail
          go_at_call 24
          refine (AW.out _ hB).mono ?_
          rintro e9 w9 ⟨rfl, h⟩
          go_wp2
          go_ret
          exact ⟨rfl, by rw [hn]; exact hB.trans (h.mono (by omega))⟩
        | false =>
          go_wp2_with fail
          go_at_call 24
          refine (AW.out _ hB).mono ?_
          rintro e4 w4 ⟨rfl, h⟩
          have S4 := keep_m3 S3 h
          clear c0_0 c0_1 c0_2 c0_3 c0_4 c1_0 c1_1 c1_2 c1_3 c1_4 c2_0 c2_1 c2_2 l0 l1 l2 hB
          clear S3 h
          obtain ⟨c0_0, c0_1, c0_2, c0_3, c0_4, c1_0, c1_1, c1_2, c1_3, c1_4, c2_0, c2_1, c2_2, l0, l1, l2, hB⟩ := id S4
          go_wp2
          go_ret
          exact ⟨rfl, by rw [hn]; exact hB⟩
  · have e7 : ¬ bits BinOp.and IntKind.u8 a.op 7 = 0 := fun h => h8 (h7.symm.trans h)
    have E7 : (bits BinOp.and IntKind.u8 a.op 7 == 0) = false := by simpa using e7
    have LM2 := Lib.hid (LM.out h8)
    have LH2 := Lib.hid (LH.out h8)
    clear h7 h8 LM LH
    go_enter Tryd.func6, Tryd.ntmps6
    go_wp2_with fail
    go_at_call 23
    generalize (((w.alloc (.cells #[.string (bs a.name), .int .u8 a.op, .int .i64 a.evr.epoch, .string (bs a.evr.ver), .string (bs a.evr.rel)] 25)).alloc (.cells #[.string (bs b.name), .int .u8 b.op, .int .i64 b.evr.epoch, .string (bs b.evr.ver), .string (bs b.evr.rel)] 25)).alloc (.cells #[.int .i64 e.epoch, .string (bs e.ver), .string (bs e.rel)] 23)) = W at *
    generalize hn : w.heap.size = n at *
    obtain ⟨c0_0, c0_1, c0_2, c0_3, c0_4, c1_0, c1_1, c1_2, c1_3, c1_4, c2_0, c2_1, c2_2, l0, l1, l2, hB⟩ := id S0
    go_wp2_with fail
    go_at_call 23
    refine (LA.out _).mono ?_
    rintro e1 w1 ⟨rfl, h⟩
    have S1 := keep_m3 S0 h
    clear S0 h
    obtain ⟨c0_0, c0_1, c0_2, c0_3, c0_4, c1_0, c1_1, c1_2, c1_3, c1_4, c2_0, c2_1, c2_2, l0, l1, l2, hB⟩ := id S1
    cases la with
    | true =>
      go_wp2_with fail
      go_at_call 24
      refine (AW.out _ hB).mono ?_
      rintro e9 w9 ⟨rfl, h⟩
      go_wp2
      go_ret
      exact ⟨rfl, by rw [hn]; exact hB.trans (h.mono (by omega))⟩
    | false =>
      go_wp2_with fail
      go_at_call 23
      refine (LB.out _).mono ?_
      rintro e2 w2 ⟨rfl, h⟩
      have S2 := keep_m3 S1 h
      clear c0_0 c0_1 c0_2 c0_3 c0_4 c1_0 c1_1 c1_2 c1_3 c1_4 c2_0 c2_1 c2_2 l0 l1 l2 hB
      clear S1 h
      obtain ⟨c0_0, c0_1, c0_2, c0_3, c0_4, c1_0, c1_1, c1_2, c1_3, c1_4, c2_0, c2_1, c2_2, l0, l1, l2, hB⟩ := id S2
      cases lb with
      | true =>
        go_wp2_with fail
        go_at_call 24
        refine (AW.out _ hB).mono ?_
        rintro e9 w9 ⟨rfl, h⟩
        go_wp2
        go_ret
        exact ⟨rfl, by rw [hn]; exact hB.trans (h.mono (by omega))⟩
      | false =>
        go_wp2_with fail
        go_at_call 23
        refine (LE.out _).mono ?_
        rintro e3 w3 ⟨rfl, h⟩
        have S3 := keep_m3 S2 h
        clear c0_0 c0_1 c0_2 c0_3 c0_4 c1_0 c1_1 c1_2 c1_3 c1_4 c2_0 c2_1 c2_2 l0 l1 l2 hB
        clear S2 h
        obtain ⟨c0_0, c0_1, c0_2, c0_3, c0_4, c1_0, c1_1, c1_2, c1_3, c1_4, c2_0, c2_1, c2_2, l0, l1, l2, hB⟩ := id S3
        cases le with
        | true =>
          go_wp2_with fail
          go_at_call 24
          refine (AW.out _ hB).mono ?_
          rintro e9 w9 ⟨rfl, h⟩
          go_wp2
          go_ret
          exact ⟨rfl, by rw [hn]; exact hB.trans (h.mono (by omega))⟩
        | false =>
          go_wp2_with fail
          go_at_call 24
          refine (AW.out _ hB).mono ?_
          rintro e4 w4 ⟨rfl, h⟩
          have S4 := keep_m3 S3 h
          clear c0_0 c0_1 c0_2 c0_3 c0_4 c1_0 c1_1 c1_2 c1_3 c1_4 c2_0 c2_1 c2_2 l0 l1 l2 hB
          clear S3 h
          obtain ⟨c0_0, c0_1, c0_2, c0_3, c0_4, c1_0, c1_1, c1_2, c1_3, c1_4, c2_0, c2_1, c2_2, l0, l1, l2, hB⟩ := id S4
          have SG := grow_m4 o S4
          dsimp only at SG
          rw [HO.out] at SG M2 H2
          go_wp2_with fail
          generalize hV : w4.alloc (.cells #[.string (bs a.name), .int .u8 (bits BinOp.or IntKind.u8 a.op 1), .int .i64 a.evr.epoch, .string (bs a.evr.ver), .string (bs a.evr.rel)] 25) = V at *
          generalize w4.heap.size = m at *
          clear c0_0 c0_1 c0_2 c0_3 c0_4 c1_0 c1_1 c1_2 c1_3 c1_4 c2_0 c2_1 c2_2 l0 l1 l2 hB S4 hV
          rw [← HO.out] at SG M2 H2
          try rw [← HO.out]
          have S5 := SG
          clear SG
          obtain ⟨c0_0, c0_1, c0_2, c0_3, c0_4, c1_0, c1_1, c1_2, c1_3, c1_4, c2_0, c2_1, c2_2, c3_0, c3_1, c3_2, c3_3, c3_4, l0, l1, l2, l3, hB⟩ := id S5
          go_at_call 25
          refine (M1.out (by trivial) (by trivial) _).mono ?_
          rintro e6 w6 ⟨rfl, h⟩
          have S6 := keep_m4 S5 h
          clear c0_0 c0_1 c0_2 c0_3 c0_4 c1_0 c1_1 c1_2 c1_3 c1_4 c2_0 c2_1 c2_2 c3_0 c3_1 c3_2 c3_3 c3_4 l0 l1 l2 l3 hB
          clear S5 h
          obtain ⟨c0_0, c0_1, c0_2, c0_3, c0_4, c1_0, c1_1, c1_2, c1_3, c1_4, c2_0, c2_1, c2_2, c3_0, c3_1, c3_2, c3_3, c3_4, l0, l1, l2, l3, hB⟩ := id S6
          cases r1 with
          | false =>
            go_wp2_with fail
            go_at_call 27
            refine (H1.out (by trivial) (by trivial) _).mono ?_
            rintro e7 w7 ⟨rfl, h⟩
            have S7 := keep_m4 S6 h
            clear c0_0 c0_1 c0_2 c0_3 c0_4 c1_0 c1_1 c1_2 c1_3 c1_4 c2_0 c2_1 c2_2 c3_0 c3_1 c3_2 c3_3 c3_4 l0 l1 l2 l3 hB
            clear S6 h
            obtain ⟨c0_0, c0_1, c0_2, c0_3, c0_4, c1_0, c1_1, c1_2, c1_3, c1_4, c2_0, c2_1, c2_2, c3_0, c3_1, c3_2, c3_3, c3_4, l0, l1, l2, l3, hB⟩ := id S7
            cases r2 with
            | false =>
              go_wp2
              go_ret
              exact ⟨rfl, by rw [hn]; exact hB⟩
            | true =>
              have E4 := Lib.hid (LH2.out (by trivial))
              clear LH2
              go_wp2_with fail
              go_at_call 27
              refine (H2.out (by trivial) (by trivial) _).mono ?_
              rintro e9 w9 ⟨rfl, h⟩
              go_wp2
              go_ret
              exact ⟨ret_bool E4.out, by rw [hn]; exact hB.trans (h.mono (by omega))⟩
          | true =>
            have E3 : r3 = true := LM2.out (by trivial)
            clear LM2
            subst E3
            go_wp2_with fail
            go_at_call 25
            refine (M2.out (by trivial) (by trivial) _).mono ?_
            rintro e7 w7 ⟨rfl, h⟩
            have S7 := keep_m4 S6 h
            clear c0_0 c0_1 c0_2 c0_3 c0_4 c1_0 c1_1 c1_2 c1_3 c1_4 c2_0 c2_1 c2_2 c3_0 c3_1 c3_2 c3_3 c3_4 l0 l1 l2 l3 hB
            clear S6 h
            obtain ⟨c0_0, c0_1, c0_2, c0_3, c0_4, c1_0, c1_1, c1_2, c1_3, c1_4, c2_0, c2_1, c2_2, c3_0, c3_1, c3_2, c3_3, c3_4, l0, l1, l2, l3, hB⟩ := id S7
            go_wp2_with fail
            go_at_call 27
            refine (H1.out (by trivial) (by trivial) _).mono ?_
            rintro e8 w8 ⟨rfl, h⟩
            have S8 := keep_m4 S7 h
            clear c0_0 c0_1 c0_2 c0_3 c0_4 c1_0 c1_1 c1_2 c1_3 c1_4 c2_0 c2_1 c2_2 c3_0 c3_1 c3_2 c3_3 c3_4 l0 l1 l2 l3 hB
            clear S7 h
            obtain ⟨c0_0, c0_1, c0_2, c0_3, c0_4, c1_0, c1_1, c1_2, c1_3, c1_4, c2_0, c2_1, c2_2, c3_0, c3_1, c3_2, c3_3, c3_4, l0, l1, l2, l3, hB⟩ := id S8
            cases r2 with
            | false =>
              go_wp2
              go_ret
              exact ⟨rfl, by rw [hn]; exact hB⟩
            | true =>
              have E4 := Lib.hid (LH2.out (by trivial))
              clear LH2
              go_wp2_with fail
              go_at_call 27
              refine (H2.out (by trivial) (by trivial) _).mono ?_
              rintro e9 w9 ⟨rfl, h⟩
              go_wp2
              go_ret
              exact ⟨ret_bool E4.out, by rw [hn]; exact hB.trans (h.mono (by omega))⟩
set_option maxRecDepth 100000 in
set_option maxHeartbeats 16000000 in
theorem spanMore_1 (w : World) (hO : OpsIn w) (a : Dp) (wa : a.wf) (b : Dp) (wb : b.wf) (e : Evr) (we : e.wf) (k : Int) (s : Fin 3) (HS : s = ⟨1, by decide⟩) (hs : (IntKind.u64.wrap k).tmod 3 = (s.val : Int)) : Calls Tryd.prog 6 #[a.val, b.val, e.val, .int .i64 k] w fun e w' => e = .returned (.bool true) ∧ Below w.heap.size w w' := by
  subst HS
  have LA := Lib.hid (fun W => long04 a.evr W ⟨wa.2.2.2.1, wa.2.2.2.2⟩)
  have LB := Lib.hid (fun W => long04 b.evr W ⟨wb.2.2.2.1, wb.2.2.2.2⟩)
  have LE := Lib.hid (fun W => long04 e W ⟨we.2.1, we.2.2⟩)
  have AW := Lib.hid (fun W (h : Below w.heap.size w W) => awake04 W (hO.below h))
  have S0 := new_m3 a b e w
  dsimp only at S0
  have oa := Evr.ok_of a.evr
  have ob := Evr.ok_of b.evr
  have oe := Evr.ok_of e
  have ua := u8_wf wa.2.1
  have ub := u8_wf wb.2.1
  have oo := or_opm ua.1 ua.2 ⟨1, by decide⟩
  obtain ⟨o, ho⟩ : ∃ o, o = bits BinOp.or IntKind.u8 a.op ((1 <<< (⟨1, by decide⟩ : Fin 3).val : Nat) : Int) := ⟨_, rfl⟩
  rw [← ho] at oo
  have h7 : bits BinOp.and IntKind.u8 a.op 7 = a.op % 8 := u8_and7 _ ua.1 (by omega)
  have LM := Lib.hid (fun (h0 : ¬ a.op % 8 = 0) h => (show meetP { a with op := o } b = true by rw [ho]; exact meet_more (s := ⟨1, by decide⟩) ua ub (by unfold opm; have := ua.1; omega) h))
  have LH := Lib.hid (fun (h0 : ¬ a.op % 8 = 0) h => (show hasP { a with op := o } e = true by rw [ho]; exact has_more (s := ⟨1, by decide⟩) ua (by unfold opm; have := ua.1; omega) h))
  have M1 := Lib.hid (fun ha hb W => meet_any a b W (oa ha) (ob hb) ua.1 ua.2 ub.1 ub.2)
  have M2 := Lib.hid (fun ha hb W => meet_any { a with op := o } b W (oa ha) (ob hb) oo.2.1 oo.2.2 ub.1 ub.2)
  have H1 := Lib.hid (fun ha he W => has_any a e W (oa ha) (oe he) ua.1 ua.2)
  have H2 := Lib.hid (fun ha he W => has_any { a with op := o } e W (oa ha) (oe he) oo.2.1 oo.2.2)
  clear oa ob oe ua ub wa wb we hO oo
  generalize longB a.evr = la at *
  generalize longB b.evr = lb at *
  generalize longB e = le at *
  generalize meetP a b = r1 at *
  generalize hasP a e = r2 at *
  unfold Evr.val at LA LB LE H1 H2
  unfold Dp.val at M1 M2 H1 H2
  dsimp only at M2 H2
  generalize meetP { a with op := o } b = r3 at *
  generalize hasP { a with op := o } e = r4 at *
  unfold Dp.val Evr.val
  have ho' : o = bits BinOp.or IntKind.u8 a.op 2 := ho
  have HO := Lib.hid ho'
  clear ho ho'
  have hs2 : (IntKind.u64.wrap k).tmod 3 = 1 := hs
  clear hs
  by_cases h8 : a.op % 8 = 0
  · have e7 : bits BinOp.and IntKind.u8 a.op 7 = 0 := h7.trans h8
    clear h7 h8 LM LH
    go_enter Tryd.func6, Tryd.ntmps6
    go_wp2_with fail
    go_at_call 23
    generalize (((w.alloc (.cells #[.string (bs a.name), .int .u8 a.op, .int .i64 a.evr.epoch, .string (bs a.evr.ver), .string (bs a.evr.rel)] 25)).alloc (.cells #[.string (bs b.name), .int .u8 b.op, .int .i64 b.evr.epoch, .string (bs b.evr.ver), .string (bs b.evr.rel)] 25)).alloc (.cells #[.int .i64 e.epoch, .string (bs e.ver), .string (bs e.rel)] 23)) = W at *
    generalize hn : w.heap.size = n at *
    obtain ⟨c0_0, c0_1, c0_2, c0_3, c0_4, c1_0, c1_1, c1_2, c1_3, c1_4, c2_0, c2_1, c2_2, l0, l1, l2, hB⟩ := id S0
    go_wp2_with fail
    go_at_call 23
    refine (LA.out _).mono ?_
    rintro e1 w1 ⟨rfl, h⟩
    have S1 := keep_m3 S0 h
    clear S0 h
    obtain ⟨c0_0, c0_1, c0_2, c0_3, c0_4, c1_0, c1_1, c1_2, c1_3, c1_4, c2_0, c2_1, c2_2, l0, l1, l2, hB⟩ := id S1
    cases la with
    | true =>
      go_wp2_with fail
      go_at_call 24
      refine (AW.out _ hB).mono ?_
      rintro e9 w9 ⟨rfl, h⟩
      go_wp2
      go_ret
      exact ⟨rfl, by rw [hn]; exact hB.trans (h.mono (by omega))⟩
    | false =>
      go_wp2_with fail
      go_at_call 23
      refine (LB.out _).mono ?_
      rintro e2 w2 ⟨rfl, h⟩
      have S2 := keep_m3 S1 h
      clear c0_0 c0_1 c0_2 c0_3 c0_4 c1_0 c1_1 c1_2 c1_3 c1_4 c2_0 c2_1 c2_2 l0 l1 l2 hB
      clear S1 h
      obtain ⟨c0_0, c0_1, c0_2, c0_3, c0_4, c1_0, c1_1, c1_2, c1_3, c1_4, c2_0, c2_1, c2_2, l0, l1, l2, hB⟩ := id S2
      cases lb with
      | true =>
        go_wp2_with fail
        go_at_call 24
        refine (AW.out _ hB).mono ?_
        rintro e9 w9 ⟨rfl, h⟩
        go_wp2
        go_ret
        exact ⟨rfl, by rw [hn]; exact hB.trans (h.mono (by omega))⟩
      | false =>
        go_wp2_with fail
        go_at_call 23
        refine (LE.out _).mono ?_
        rintro e3 w3 ⟨rfl, h⟩
        have S3 := keep_m3 S2 h
        clear c0_0 c0_1 c0_2 c0_3 c0_4 c1_0 c1_1 c1_2 c1_3 c1_4 c2_0 c2_1 c2_2 l0 l1 l2 hB
        clear S2 h
        obtain ⟨c0_0, c0_1, c0_2, c0_3, c0_4, c1_0, c1_1, c1_2, c1_3, c1_4, c2_0, c2_1, c2_2, l0, l1, l2, hB⟩ := id S3
        cases le with
        | true =>
          go_wp2_with fail
          go_at_call 24
          refine (AW.out _ hB).mono ?_
          rintro e9 w9 ⟨rfl, h⟩
          go_wp2
          go_ret
          exact ⟨rfl, by rw [hn]; exact hB.trans (h.mono (by omega))⟩
        | false =>
          go_wp2_with fail
          go_at_call 24
          refine (AW.out _ hB).mono ?_
          rintro e4 w4 ⟨rfl, h⟩
          have S4 := keep_m3 S3 h
          clear c0_0 c0_1 c0_2 c0_3 c0_4 c1_0 c1_1 c1_2 c1_3 c1_4 c2_0 c2_1 c2_2 l0 l1 l2 hB
          clear S3 h
          obtain ⟨c0_0, c0_1, c0_2, c0_3, c0_4, c1_0, c1_1, c1_2, c1_3, c1_4, c2_0, c2_1, c2_2, l0, l1, l2, hB⟩ := id S4
          go_wp2
          go_ret
          exact ⟨rfl, by rw [hn]; exact hB⟩
  · have e7 : ¬ bits BinOp.and IntKind.u8 a.op 7 = 0 := fun h => h8 (h7.symm.trans h)
    have E7 : (bits BinOp.and IntKind.u8 a.op 7 == 0) = false := by simpa using e7
    have LM2 := Lib.hid (LM.out h8)
    have LH2 := Lib.hid (LH.out h8)
    clear h7 h8 LM LH
    go_enter Tryd.func6, Tryd.ntmps6
    go_wp2_with fail
    go_at_call 23
    generalize (((w.alloc (.cells #[.string (bs a.name), .int .u8 a.op, .int .i64 a.evr.epoch, .string (bs a.evr.ver), .string (bs a.evr.rel)] 25)).alloc (.cells #[.string (bs b.name), .int .u8 b.op, .int .i64 b.evr.epoch, .string (bs b.evr.ver), .string (bs b.evr.rel)] 25)).alloc (.cells #[.int .i64 e.epoch, .string (bs e.ver), .string (bs e.rel)] 23)) = W at *
    generalize hn : w.heap.size = n at *
    obtain ⟨c0_0, c0_1, c0_2, c0_3, c0_4, c1_0, c1_1, c1_2, c1_3, c1_4, c2_0, c2_1, c2_2, l0, l1, l2, hB⟩ := id S0
    go_wp2_with fail
    go_at_call 23
    refine (LA.out _).mono ?_
    rintro e1 w1 ⟨rfl, h⟩
    have S1 := keep_m3 S0 h
    clear S0 h
    obtain ⟨c0_0, c0_1, c0_2, c0_3, c0_4, c1_0, c1_1, c1_2, c1_3, c1_4, c2_0, c2_1, c2_2, l0, l1, l2, hB⟩ := id S1
    cases la with
    | true =>
      go_wp2_with fail
      go_at_call 24
      refine (AW.out _ hB).mono ?_
      rintro e9 w9 ⟨rfl, h⟩
      go_wp2
      go_ret
      exact ⟨rfl, by rw [hn]; exact hB.trans (h.mono (by omega))⟩
    | false =>
      go_wp2_with fail
      go_at_call 23
      refine (LB.out _).mono ?_
      rintro e2 w2 ⟨rfl, h⟩
      have S2 := keep_m3 S1 h
      clear c0_0 c0_1 c0_2 c0_3 c0_4 c1_0 c1_1 c1_2 c1_3 c1_4 c2_0 c2_1 c2_2 l0 l1 l2 hB
      clear S1 h
      obtain ⟨c0_0, c0_1, c0_2, c0_3, c0_4, c1_0, c1_1, c1_2, c1_3, c1_4, c2_0, c2_1, c2_2, l0, l1, l2, hB⟩ := id S2
      cases lb with
      | true =>
        go_wp2_with fail
        go_at_call 24
        refine (AW.out _ hB).mono ?_
        rintro e9 w9 ⟨rfl, h⟩
        go_wp2
        go_ret
        exact ⟨rfl, by rw [hn]; exact hB.trans (h.mono (by omega))⟩
      | false =>
        go_wp2_with fail
        go_at_call 23
        refine (LE.out _).mono ?_
        rintro e3 w3 ⟨rfl, h⟩
        have S3 := keep_m3 S2 h
        clear c0_0 c0_1 c0_2 c0_3 c0_4 c1_0 c1_1 c1_2 c1_3 c1_4 c2_0 c2_1 c2_2 l0 l1 l2 hB
        clear S2 h
        obtain ⟨c0_0, c0_1, c0_2, c0_3, c0_4, c1_0, c1_1, c1_2, c1_3, c1_4, c2_0, c2_1, c2_2, l0, l1, l2, hB⟩ := id S3
        cases le with
        | true =>
          go_wp2_with fail
          go_at_call 24
          refine (AW.out _ hB).mono ?_
          rintro e9 w9 ⟨rfl, h⟩
          go_wp2
          go_ret
          exact ⟨rfl, by rw [hn]; exact hB.trans (h.mono (by omega))⟩
        | false =>
          go_wp2_with fail
          go_at_call 24
          refine (AW.out _ hB).mono ?_
          rintro e4 w4 ⟨rfl, h⟩
          have S4 := keep_m3 S3 h
          clear c0_0 c0_1 c0_2 c0_3 c0_4 c1_0 c1_1 c1_2 c1_3 c1_4 c2_0 c2_1 c2_2 l0 l1 l2 hB
          clear S3 h
          obtain ⟨c0_0, c0_1, c0_2, c0_3, c0_4, c1_0, c1_1, c1_2, c1_3, c1_4, c2_0, c2_1, c2_2, l0, l1, l2, hB⟩ := id S4
          have SG := grow_m4 o S4
          dsimp only at SG
          rw [HO.out] at SG M2 H2
          go_wp2_with fail
          generalize hV : w4.alloc (.cells #[.string (bs a.name), .int .u8 (bits BinOp.or IntKind.u8 a.op 2), .int .i64 a.evr.epoch, .string (bs a.evr.ver), .string (bs a.evr.rel)] 25) = V at *
          generalize w4.heap.size = m at *
          clear c0_0 c0_1 c0_2 c0_3 c0_4 c1_0 c1_1 c1_2 c1_3 c1_4 c2_0 c2_1 c2_2 l0 l1 l2 hB S4 hV
          rw [← HO.out] at SG M2 H2
          try rw [← HO.out]
          have S5 := SG
          clear SG
          obtain ⟨c0_0, c0_1, c0_2, c0_3, c0_4, c1_0, c1_1, c1_2, c1_3, c1_4, c2_0, c2_1, c2_2, c3_0, c3_1, c3_2, c3_3, c3_4, l0, l1, l2, l3, hB⟩ := id S5
          go_at_call 25
          refine (M1.out (by trivial) (by trivial) _).mono ?_
          rintro e6 w6 ⟨rfl, h⟩
          have S6 := keep_m4 S5 h
          clear c0_0 c0_1 c0_2 c0_3 c0_4 c1_0 c1_1 c1_2 c1_3 c1_4 c2_0 c2_1 c2_2 c3_0 c3_1 c3_2 c3_3 c3_4 l0 l1 l2 l3 hB
          clear S5 h
          obtain ⟨c0_0, c0_1, c0_2, c0_3, c0_4, c1_0, c1_1, c1_2, c1_3, c1_4, c2_0, c2_1, c2_2, c3_0, c3_1, c3_2, c3_3, c3_4, l0, l1, l2, l3, hB⟩ := id S6
          cases r1 with
          | false =>
            go_wp2_with fail
            go_at_call 27
            refine (H1.out (by trivial) (by trivial) _).mono ?_
            rintro e7 w7 ⟨rfl, h⟩
            have S7 := keep_m4 S6 h
            clear c0_0 c0_1 c0_2 c0_3 c0_4 c1_0 c1_1 c1_2 c1_3 c1_4 c2_0 c2_1 c2_2 c3_0 c3_1 c3_2 c3_3 c3_4 l0 l1 l2 l3 hB
            clear S6 h
            obtain ⟨c0_0, c0_1, c0_2, c0_3, c0_4, c1_0, c1_1, c1_2, c1_3, c1_4, c2_0, c2_1, c2_2, c3_0, c3_1, c3_2, c3_3, c3_4, l0, l1, l2, l3, hB⟩ := id S7
            cases r2 with
            | false =>
              go_wp2
              go_ret
              exact ⟨rfl, by rw [hn]; exact hB⟩
            | true =>
              have E4 := Lib.hid (LH2.out (by trivial))
              clear LH2
              go_wp2_with fail
              go_at_call 27
              refine (H2.out (by trivial) (by trivial) _).mono ?_
              rintro e9 w9 ⟨rfl, h⟩
              go_wp2
              go_ret
              exact ⟨ret_bool E4.out, by rw [hn]; exact hB.trans (h.mono (by omega))⟩
          | true =>
            have E3 : r3 = true := LM2.out (by trivial)
            clear LM2
            subst E3
            go_wp2_with fail
            go_at_call 25
            refine (M2.out (by trivial) (by trivial) _).mono ?_
            rintro e7 w7 ⟨rfl, h⟩
            have S7 := keep_m4 S6 h
            clear c0_0 c0_1 c0_2 c0_3 c0_4 c1_0 c1_1 c1_2 c1_3 c1_4 c2_0 c2_1 c2_2 c3_0 c3_1 c3_2 c3_3 c3_4 l0 l1 l2 l3 hB
            clear S6 h
            obtain ⟨c0_0, c0_1, c0_2, c0_3, c0_4, c1_0, c1_1, c1_2, c1_3, c1_4, c2_0, c2_1, c2_2, c3_0, c3_1, c3_2, c3_3, c3_4, l0, l1, l2, l3, hB⟩ := id S7
            go_wp2_with fail
            go_at_call 27
            refine (H1.out (by trivial) (by trivial) _).mono ?_
            rintro e8 w8 ⟨rfl, h⟩
            have S8 := keep_m4 S7 h
            clear c0_0 c0_1 c0_2 c0_3 c0_4 c1_0 c1_1 c1_2 c1_3 c1_4 c2_0 c2_1 c2_2 c3_0 c3_1 c3_2 c3_3 c3_4 l0 l1 l2 l3 hB
            clear S7 h
            obtain ⟨c0_0, c0_1, c0_2, c0_3, c0_4, c1_0, c1_1, c1_2, c1_3, c1_4, c2_0, c2_1, c2_2, c3_0, c3_1, c3_2, c3_3, c3_4, l0, l1, l2, l3, hB⟩ := id S8
            cases r2 with
            | false =>
              go_wp2
              go_ret
              exact ⟨rfl, by rw [hn]; exact hB⟩
            | true =>
              have E4 := Lib.hid (LH2.out (by trivial))
              clear LH2
              go_wp2_with fail
              go_at_call 27
              refine (H2.out (by trivial) (by trivial) _).mono ?_
              rintro e9 w9 ⟨rfl, h⟩
              go_wp2
              go_ret
              exact ⟨ret_bool E4.out, by rw [hn]; exact hB.trans (h.mono (by omega))⟩
set_option maxRecDepth 100000 in
set_option maxHeartbeats 16000000 in
theorem spanMore_2 (w : World) (hO : OpsIn w) (a : Dp) (wa : a.wf) (b : Dp) (wb : b.wf) (e : Evr) (we : e.wf) (k : Int) (s : Fin 3) (HS : s = ⟨2, by decide⟩) (hs : (IntKind.u64.wrap k).tmod 3 = (s.val : Int)) : Calls Tryd.prog 6 #[a.val, b.val, e.val, .int .i64 k] w fun e w' => e = .returned (.bool true) ∧ Below w.heap.size w w' := by
  subst HS
  have LA := Lib.hid (fun W => long04 a.evr W ⟨wa.2.2.2.1, wa.2.2.2.2⟩)
  have LB := Lib.hid (fun W => long04 b.evr W ⟨wb.2.2.2.1, wb.2.2.2.2⟩)
  have LE := Lib.hid (fun W => long04 e W ⟨we.2.1, we.2.2⟩)
  have AW := Lib.hid (fun W (h : Below w.heap.size w W) => awake04 W (hO.below h))
  have S0 := new_m3 a b e w
  dsimp only at S0
  have oa := Evr.ok_of a.evr
  have ob := Evr.ok_of b.evr
  have oe := Evr.ok_of e
  have ua := u8_wf wa.2.1
  have ub := u8_wf wb.2.1
  have oo := or_opm ua.1 ua.2 ⟨2, by decide⟩
  obtain ⟨o, ho⟩ : ∃ o, o = bits BinOp.or IntKind.u8 a.op ((1 <<< (⟨2, by decide⟩ : Fin 3).val : Nat) : Int) := ⟨_, rfl⟩
  rw [← ho] at oo
  have h7 : bits BinOp.and IntKind.u8 a.op 7 = a.op % 8 := u8_and7 _ ua.1 (by omega)
  have LM := Lib.hid (fun (h0 : ¬ a.op % 8 = 0) h => (show meetP { a with op := o } b = true by rw [ho]; exact meet_more (s := ⟨2, by decide⟩) ua ub (by unfold opm; have := ua.1; omega) h))
  have LH := Lib.hid (fun (h0 : ¬ a.op % 8 = 0) h => (show hasP { a with op := o } e = true by rw [ho]; exact has_more (s := ⟨2, by decide⟩) ua (by unfold opm; have := ua.1; omega) h))
  have M1 := Lib.hid (fun ha hb W => meet_any a b W (oa ha) (ob hb) ua.1 ua.2 ub.1 ub.2)
  have M2 := Lib.hid (fun ha hb W => meet_any { a with op := o } b W (oa ha) (ob hb) oo.2.1 oo.2.2 ub.1 ub.2)
  have H1 := Lib.hid (fun ha he W => has_any a e W (oa ha) (oe he) ua.1 ua.2)
  have H2 := Lib.hid (fun ha he W => has_any { a with op := o } e W (oa ha) (oe he) oo.2.1 oo.2.2)
  clear oa ob oe ua ub wa wb we hO oo
  generalize longB a.evr = la at *
  generalize longB b.evr = lb at *
  generalize longB e = le at *
  generalize meetP a b = r1 at *
  generalize hasP a e = r2 at *
  unfold Evr.val at LA LB LE H1 H2
  unfold Dp.val at M1 M2 H1 H2
  dsimp only at M2 H2
  generalize meetP { a with op := o } b = r3 at *
  generalize hasP { a with op := o } e = r4 at *
  unfold Dp.val Evr.val
  have ho' : o = bits BinOp.or IntKind.u8 a.op 4 := ho
  have HO := Lib.hid ho'
  clear ho ho'
  have hs2 : (IntKind.u64.wrap k).tmod 3 = 2 := hs
  clear hs
  by_cases h8 : a.op % 8 = 0
  · have e7 : bits BinOp.and IntKind.u8 a.op 7 = 0 := h7.trans h8
    clear h7 h8 LM LH
    go_enter Tryd.func6, Tryd.ntmps6
    go_wp2_with fail
    go_at_call 23
    generalize (((w.alloc (.cells #[.string (bs a.name), .int .u8 a.op, .int .i64 a.evr.epoch, .string (bs a.evr.ver), .string (bs a.evr.rel)] 25)).alloc (.cells #[.string (bs b.name), .int .u8 b.op, .int .i64 b.evr.epoch, .string (bs b.evr.ver), .string (bs b.evr.rel)] 25)).alloc (.cells #[.int .i64 e.epoch, .string (bs e.ver), .string (bs e.rel)] 23)) = W at *
    generalize hn : w.heap.size = n at *
    obtain ⟨c0_0, c0_1, c0_2, c0_3, c0_4, c1_0, c1_1, c1_2, c1_3, c1_4, c2_0, c2_1, c2_2, l0, l1, l2, hB⟩ := id S0
    go_wp2_with fail
    go_at_call 23
    refine (LA.out _).mono ?_
    rintro e1 w1 ⟨rfl, h⟩
    have S1 := keep_m3 S0 h
    clear S0 h
    obtain ⟨c0_0, c0_1, c0_2, c0_3, c0_4, c1_0, c1_1, c1_2, c1_3, c1_4, c2_0, c2_1, c2_2, l0, l1, l2, hB⟩ := id S1
    cases la with
    | true =>
      go_wp2_with fail
      go_at_call 24
      refine (AW.out _ hB).mono ?_
      rintro e9 w9 ⟨rfl, h⟩
      go_wp2
      go_ret
      exact ⟨rfl, by rw [hn]; exact hB.trans (h.mono (by omega))⟩
    | false =>
      go_wp2_with fail
      go_at_call 23
      refine (LB.out _).mono ?_
      rintro e2 w2 ⟨rfl, h⟩
      have S2 := keep_m3 S1 h
      clear c0_0 c0_1 c0_2 c0_3 c0_4 c1_0 c1_1 c1_2 c1_3 c1_4 c2_0 c2_1 c2_2 l0 l1 l2 hB
      clear S1 h
      obtain ⟨c0_0, c0_1, c0_2, c0_3, c0_4, c1_0, c1_1, c1_2, c1_3, c1_4, c2_0, c2_1, c2_2, l0, l1, l2, hB⟩ := id S2
      cases lb with
      | true =>
        go_wp2_with fail
        go_at_call 24
        refine (AW.out _ hB).mono ?_
        rintro e9 w9 ⟨rfl, h⟩
        go_wp2
        go_ret
        exact ⟨rfl, by rw [hn]; exact hB.trans (h.mono (by omega))⟩
      | false =>
        go_wp2_with fail
        go_at_call 23
        refine (LE.out _).mono ?_
        rintro e3 w3 ⟨rfl, h⟩
        have S3 := keep_m3 S2 h
        clear c0_0 c0_1 c0_2 c0_3 c0_4 c1_0 c1_1 c1_2 c1_3 c1_4 c2_0 c2_1 c2_2 l0 l1 l2 hB
        clear S2 h
        obtain ⟨c0_0, c0_1, c0_2, c0_3, c0_4, c1_0, c1_1, c1_2, c1_3, c1_4, c2_0, c2_1, c2_2, l0, l1, l2, hB⟩ := id S3
        cases le with
        | true =>
          go_wp2_with fail
          go_at_call 24
          refine (AW.out _ hB).mono ?_
          rintro e9 w9 ⟨rfl, h⟩
          go_wp2
          go_ret
          exact ⟨rfl, by rw [hn]; exact hB.trans (h.mono (by omega))⟩
        | false =>
          go_wp2_with fail
          go_at_call 24
          refine (AW.out _ hB).mono ?_
          rintro e4 w4 ⟨rfl, h⟩
          have S4 := keep_m3 S3 h
          clear c0_0 c0_1 c0_2 c0_3 c0_4 c1_0 c1_1 c1_2 c1_3 c1_4 c2_0 c2_1 c2_2 l0 l1 l2 hB
          clear S3 h
          obtain ⟨c0_0, c0_1, c0_2, c0_3, c0_4, c1_0, c1_1, c1_2, c1_3, c1_4, c2_0, c2_1, c2_2, l0, l1, l2, hB⟩ := id S4
          go_wp2
          go_ret
          exact ⟨rfl, by rw [hn]; exact hB⟩
  · have e7 : ¬ bits BinOp.and IntKind.u8 a.op 7 = 0 := fun h => h8 (h7.symm.trans h)
    have E7 : (bits BinOp.and IntKind.u8 a.op 7 == 0) = false := by simpa using e7
    have LM2 := Lib.hid (LM.out h8)
    have LH2 := Lib.hid (LH.out h8)
    clear h7 h8 LM LH
    go_enter Tryd.func6, Tryd.ntmps6
    go_wp2_with fail
    go_at_call 23
    generalize (((w.alloc (.cells #[.string (bs a.name), .int .u8 a.op, .int .i64 a.evr.epoch, .string (bs a.evr.ver), .string (bs a.evr.rel)] 25)).alloc (.cells #[.string (bs b.name), .int .u8 b.op, .int .i64 b.evr.epoch, .string (bs b.evr.ver), .string (bs b.evr.rel)] 25)).alloc (.cells #[.int .i64 e.epoch, .string (bs e.ver), .string (bs e.rel)] 23)) = W at *
    generalize hn : w.heap.size = n at *
    obtain ⟨c0_0, c0_1, c0_2, c0_3, c0_4, c1_0, c1_1, c1_2, c1_3, c1_4, c2_0, c2_1, c2_2, l0, l1, l2, hB⟩ := id S0
    go_wp2_with fail
    go_at_call 23
    refine (LA.out _).mono ?_
    rintro e1 w1 ⟨rfl, h⟩
    have S1 := keep_m3 S0 h
    clear S0 h
    obtain ⟨c0_0, c0_1, c0_2, c0_3, c0_4, c1_0, c1_1, c1_2, c1_3, c1_4, c2_0, c2_1, c2_2, l0, l1, l2, hB⟩ := id S1
    cases la with
    | true =>
      go_wp2_with fail
      go_at_call 24
      refine (AW.out _ hB).mono ?_
      rintro e9 w9 ⟨rfl, h⟩
      go_wp2
      go_ret
      exact ⟨rfl, by rw [hn]; exact hB.trans (h.mono (by omega))⟩
    | false =>
      go_wp2_with fail
      go_at_call 23
      refine (LB.out _).mono ?_
      rintro e2 w2 ⟨rfl, h⟩
      have S2 := keep_m3 S1 h
      clear c0_0 c0_1 c0_2 c0_3 c0_4 c1_0 c1_1 c1_2 c1_3 c1_4 c2_0 c2_1 c2_2 l0 l1 l2 hB
      clear S1 h
      obtain ⟨c0_0, c0_1, c0_2, c0_3, c0_4, c1_0, c1_1, c1_2, c1_3, c1_4, c2_0, c2_1, c2_2, l0, l1, l2, hB⟩ := id S2
      cases lb with
      | true =>
        go_wp2_with fail
        go_at_call 24
        refine (AW.out _ hB).mono ?_
        rintro e9 w9 ⟨rfl, h⟩
        go_wp2
        go_ret
        exact ⟨rfl, by rw [hn]; exact hB.trans (h.mono (by omega))⟩
      | false =>
        go_wp2_with fail
        go_at_call 23
        refine (LE.out _).mono ?_
        rintro e3 w3 ⟨rfl, h⟩
        have S3 := keep_m3 S2 h
        clear c0_0 c0_1 c0_2 c0_3 c0_4 c1_0 c1_1 c1_2 c1_3 c1_4 c2_0 c2_1 c2_2 l0 l1 l2 hB
        clear S2 h
        obtain ⟨c0_0, c0_1, c0_2, c0_3, c0_4, c1_0, c1_1, c1_2, c1_3, c1_4, c2_0, c2_1, c2_2, l0, l1, l2, hB⟩ := id S3
        cases le with
        | true =>
          go_wp2_with fail
          go_at_call 24
          refine (AW.out _ hB).mono ?_
          rintro e9 w9 ⟨rfl, h⟩
          go_wp2
          go_ret
          exact ⟨rfl, by rw [hn]; exact hB.trans (h.mono (by omega))⟩
        | false =>
          go_wp2_with fail
          go_at_call 24
          refine (AW.out _ hB).mono ?_
          rintro e4 w4 ⟨rfl, h⟩
          have S4 := keep_m3 S3 h
          clear c0_0 c0_1 c0_2 c0_3 c0_4 c1_0 c1_1 c1_2 c1_3 c1_4 c2_0 c2_1 c2_2 l0 l1 l2 hB
          clear S3 h
          obtain ⟨c0_0, c0_1, c0_2, c0_3, c0_4, c1_0, c1_1, c1_2, c1_3, c1_4, c2_0, c2_1, c2_2, l0, l1, l2, hB⟩ := id S4
          have SG := grow_m4 o S4
          dsimp only at SG
          rw [HO.out] at SG M2 H2
          go_wp2_with fail
          generalize hV : w4.alloc (.cells #[.string (bs a.name), .int .u8 (bits BinOp.or IntKind.u8 a.op 4), .int .i64 a.evr.epoch, .string (bs a.evr.ver), .string (bs a.evr.rel)] 25) = V at *
          generalize w4.heap.size = m at *
          clear c0_0 c0_1 c0_2 c0_3 c0_4 c1_0 c1_1 c1_2 c1_3 c1_4 c2_0 c2_1 c2_2 l0 l1 l2 hB S4 hV
          rw [← HO.out] at SG M2 H2
          try rw [← HO.out]
          have S5 := SG
          clear SG
          obtain ⟨c0_0, c0_1, c0_2, c0_3, c0_4, c1_0, c1_1, c1_2, c1_3, c1_4, c2_0, c2_1, c2_2, c3_0, c3_1, c3_2, c3_3, c3_4, l0, l1, l2, l3, hB⟩ := id S5
          go_at_call 25
          refine (M1.out (by trivial) (by trivial) _).mono ?_
          rintro e6 w6 ⟨rfl, h⟩
          have S6 := keep_m4 S5 h
          clear c0_0 c0_1 c0_2 c0_3 c0_4 c1_0 c1_1 c1_2 c1_3 c1_4 c2_0 c2_1 c2_2 c3_0 c3_1 c3_2 c3_3 c3_4 l0 l1 l2 l3 hB
          clear S5 h
          obtain ⟨c0_0, c0_1, c0_2, c0_3, c0_4, c1_0, c1_1, c1_2, c1_3, c1_4, c2_0, c2_1, c2_2, c3_0, c3_1, c3_2, c3_3, c3_4, l0, l1, l2, l3, hB⟩ := id S6
          cases r1 with
          | false =>
            go_wp2_with fail
            go_at_call 27
            refine (H1.out (by trivial) (by trivial) _).mono ?_
            rintro e7 w7 ⟨rfl, h⟩
            have S7 := keep_m4 S6 h
            clear c0_0 c0_1 c0_2 c0_3 c0_4 c1_0 c1_1 c1_2 c1_3 c1_4 c2_0 c2_1 c2_2 c3_0 c3_1 c3_2 c3_3 c3_4 l0 l1 l2 l3 hB
            clear S6 h
            obtain ⟨c0_0, c0_1, c0_2, c0_3, c0_4, c1_0, c1_1, c1_2, c1_3, c1_4, c2_0, c2_1, c2_2, c3_0, c3_1, c3_2, c3_3, c3_4, l0, l1, l2, l3, hB⟩ := id S7
            cases r2 with
            | false =>
              go_wp2
              go_ret
              exact ⟨rfl, by rw [hn]; exact hB⟩
            | true =>
              have E4 := Lib.hid (LH2.out (by trivial))
              clear LH2
              go_wp2_with fail
              go_at_call 27
              refine (H2.out (by trivial) (by trivial) _).mono ?_
              rintro e9 w9 ⟨rfl, h⟩
              go_wp2
              go_ret
              exact ⟨ret_bool E4.out, by rw [hn]; exact hB.trans (h.mono (by omega))⟩
          | true =>
            have E3 : r3 = true := LM2.out (by trivial)
            clear LM2
            subst E3
            go_wp2_with fail
            go_at_call 25
            refine (M2.out (by trivial) (by trivial) _).mono ?_
            rintro e7 w7 ⟨rfl, h⟩
            have S7 := keep_m4 S6 h
            clear c0_0 c0_1 c0_2 c0_3 c0_4 c1_0 c1_1 c1_2 c1_3 c1_4 c2_0 c2_1 c2_2 c3_0 c3_1 c3_2 c3_3 c3_4 l0 l1 l2 l3 hB
            clear S6 h
            obtain ⟨c0_0, c0_1, c0_2, c0_3, c0_4, c1_0, c1_1, c1_2, c1_3, c1_4, c2_0, c2_1, c2_2, c3_0, c3_1, c3_2, c3_3, c3_4, l0, l1, l2, l3, hB⟩ := id S7
            go_wp2_with fail
            go_at_call 27
            refine (H1.out (by trivial) (by trivial) _).mono ?_
            rintro e8 w8 ⟨rfl, h⟩
            have S8 := keep_m4 S7 h
            clear c0_0 c0_1 c0_2 c0_3 c0_4 c1_0 c1_1 c1_2 c1_3 c1_4 c2_0 c2_1 c2_2 c3_0 c3_1 c3_2 c3_3 c3_4 l0 l1 l2 l3 hB
            clear S7 h
            obtain ⟨c0_0, c0_1, c0_2, c0_3, c0_4, c1_0, c1_1, c1_2, c1_3, c1_4, c2_0, c2_1, c2_2, c3_0, c3_1, c3_2, c3_3, c3_4, l0, l1, l2, l3, hB⟩ := id S8
            cases r2 with
            | false =>
              go_wp2
              go_ret
              exact ⟨rfl, by rw [hn]; exact hB⟩
            | true =>
              have E4 := Lib.hid (LH2.out (by trivial))
              clear LH2
              go_wp2_with fail
              go_at_call 27
              refine (H2.out (by trivial) (by trivial) _).mono ?_
              rintro e9 w9 ⟨rfl, h⟩
              go_wp2
              go_ret
              exact ⟨ret_bool E4.out, by rw [hn]; exact hB.trans (h.mono (by omega))⟩
theorem spanMore_row (w : World) (hO : OpsIn w) (a : Dp) (wa : a.wf) (b : Dp) (wb : b.wf) (e : Evr) (we : e.wf) (k : Int) (wk : (Lit.int .i64 k).wf = true) : Calls Tryd.prog 6 #[a.val, b.val, e.val, .int .i64 k] w fun e w' => e = .returned (.bool true) ∧ Below w.heap.size w w' := by
  have h0 : 0 ≤ IntKind.u64.wrap k := wrap64_ge k
  have h : (IntKind.u64.wrap k).tmod 3 = 0 ∨ (IntKind.u64.wrap k).tmod 3 = 1 ∨ (IntKind.u64.wrap k).tmod 3 = 2 := by
    rw [Int.tmod_eq_emod_of_nonneg h0]; omega
  rcases h with h | h | h
  · exact spanMore_0 w hO a wa b wb e we k ⟨0, by decide⟩ rfl h
  · exact spanMore_1 w hO a wa b wb e we k ⟨1, by decide⟩ rfl h
  · exact spanMore_2 w hO a wa b wb e we k ⟨2, by decide⟩ rfl h
end Go.Proofs.YtaibdghalhbpnaaDoor
