/- SpanParted, walked. -/
import Derived.Test.YtaibdghalhbpnaaDoorSpanMeets
import Derived.Test.YtaibdghalhbpnaaDoorSpLaw
import Derived.RegionTactic
import Derived.ChangeAlike
import Derived.Test.YtaibdghalhbpnaaDoorHeld
namespace Go.Proofs.YtaibdghalhbpnaaDoor
open Go.RowKit Go.Shelf

theorem has_at {d : Dp} {e : Evr} {k c : Int} {r : Bool} (h0 : 0 ≤ k) (h1 : k ≤ 255) (hc : ecmp e d.evr = c) (hr : has8 (opm k) c = r) : hasP { d with op := k } e = r := by
  rw [hasP_8 (d := { d with op := k }) ⟨h0, h1⟩]; dsimp only; rw [hc]; exact hr
theorem has_k (d : Dp) (e : Evr) (k c : Int) (r : Bool) (W : World) (hd : d.evr.ok) (he : e.ok) (h0 : 0 ≤ k) (h1 : k ≤ 255) (hc : ecmp e d.evr = c) (hr : has8 (opm k) c = r) :
    Calls Tryd.prog 27 #[({ d with op := k } : Dp).val, e.val] W fun e w' => e = .returned (.bool r) ∧ Below W.heap.size W w' := by
  have h := has_any { d with op := k } e W hd he h0 h1
  rw [has_at h0 h1 hc hr] at h
  exact h
theorem evr_k (e f : Evr) (c : Int) (W : World) (he : e.ok) (hf : f.ok) (hc : ecmp e f = c) :
    Calls Tryd.prog 29 #[e.val, f.val] W fun e w' => e = .returned (.int .i64 c) ∧ Below W.heap.size W w' := by
  subst hc
  exact evr_any e f W he.1 hf.1 he.2 hf.2
theorem keep_p2 {d : Dp} {e : Evr} {n : Nat} {w W W' : World} (h : W.cell? ⟨n, 0, none⟩ = some (.string (bs d.name)) ∧ W.cell? ⟨n, 1, none⟩ = some (.int .u8 d.op) ∧ W.cell? ⟨n, 2, none⟩ = some (.int .i64 d.evr.epoch) ∧ W.cell? ⟨n, 3, none⟩ = some (.string (bs d.evr.ver)) ∧ W.cell? ⟨n, 4, none⟩ = some (.string (bs d.evr.rel)) ∧ W.cell? ⟨n + 1, 0, none⟩ = some (.int .i64 e.epoch) ∧ W.cell? ⟨n + 1, 1, none⟩ = some (.string (bs e.ver)) ∧ W.cell? ⟨n + 1, 2, none⟩ = some (.string (bs e.rel)) ∧ n < W.heap.size ∧ n + 1 < W.heap.size ∧ Below n w W) (hb : Below W.heap.size W W') :
    W'.cell? ⟨n, 0, none⟩ = some (.string (bs d.name)) ∧ W'.cell? ⟨n, 1, none⟩ = some (.int .u8 d.op) ∧ W'.cell? ⟨n, 2, none⟩ = some (.int .i64 d.evr.epoch) ∧ W'.cell? ⟨n, 3, none⟩ = some (.string (bs d.evr.ver)) ∧ W'.cell? ⟨n, 4, none⟩ = some (.string (bs d.evr.rel)) ∧ W'.cell? ⟨n + 1, 0, none⟩ = some (.int .i64 e.epoch) ∧ W'.cell? ⟨n + 1, 1, none⟩ = some (.string (bs e.ver)) ∧ W'.cell? ⟨n + 1, 2, none⟩ = some (.string (bs e.rel)) ∧ n < W'.heap.size ∧ n + 1 < W'.heap.size ∧ Below n w W' := by
  obtain ⟨c0_0, c0_1, c0_2, c0_3, c0_4, c1_0, c1_1, c1_2, l0, l1, hB⟩ := h
  have hB_le : n ≤ W.heap.size := by omega
  exact ⟨(hb.cell (p := ⟨n, 0, none⟩) l0).trans c0_0, (hb.cell (p := ⟨n, 1, none⟩) l0).trans c0_1, (hb.cell (p := ⟨n, 2, none⟩) l0).trans c0_2, (hb.cell (p := ⟨n, 3, none⟩) l0).trans c0_3, (hb.cell (p := ⟨n, 4, none⟩) l0).trans c0_4, (hb.cell (p := ⟨n + 1, 0, none⟩) l1).trans c1_0, (hb.cell (p := ⟨n + 1, 1, none⟩) l1).trans c1_1, (hb.cell (p := ⟨n + 1, 2, none⟩) l1).trans c1_2, Nat.lt_of_lt_of_le l0 hb.size, Nat.lt_of_lt_of_le l1 hb.size, hB.trans (hb.mono hB_le)⟩
theorem keep_p3 {d : Dp} {e : Evr} {x y z : Bool} {g : Nat} {n : Nat} {w W W' : World} (h : W.cell? ⟨n, 0, none⟩ = some (.string (bs d.name)) ∧ W.cell? ⟨n, 1, none⟩ = some (.int .u8 d.op) ∧ W.cell? ⟨n, 2, none⟩ = some (.int .i64 d.evr.epoch) ∧ W.cell? ⟨n, 3, none⟩ = some (.string (bs d.evr.ver)) ∧ W.cell? ⟨n, 4, none⟩ = some (.string (bs d.evr.rel)) ∧ W.cell? ⟨n + 1, 0, none⟩ = some (.int .i64 e.epoch) ∧ W.cell? ⟨n + 1, 1, none⟩ = some (.string (bs e.ver)) ∧ W.cell? ⟨n + 1, 2, none⟩ = some (.string (bs e.rel)) ∧ W.cell? ⟨g, 0, none⟩ = some (.bool x) ∧ W.cell? ⟨g, 1, none⟩ = some (.bool y) ∧ W.cell? ⟨g, 2, none⟩ = some (.bool z) ∧ n < W.heap.size ∧ n + 1 < W.heap.size ∧ g < W.heap.size ∧ W.frozen? ⟨g, 0, none⟩ = false ∧ W.frozen? ⟨g, 1, none⟩ = false ∧ W.frozen? ⟨g, 2, none⟩ = false ∧ n + 1 < g ∧ Below n w W) (hb : Below W.heap.size W W') :
    W'.cell? ⟨n, 0, none⟩ = some (.string (bs d.name)) ∧ W'.cell? ⟨n, 1, none⟩ = some (.int .u8 d.op) ∧ W'.cell? ⟨n, 2, none⟩ = some (.int .i64 d.evr.epoch) ∧ W'.cell? ⟨n, 3, none⟩ = some (.string (bs d.evr.ver)) ∧ W'.cell? ⟨n, 4, none⟩ = some (.string (bs d.evr.rel)) ∧ W'.cell? ⟨n + 1, 0, none⟩ = some (.int .i64 e.epoch) ∧ W'.cell? ⟨n + 1, 1, none⟩ = some (.string (bs e.ver)) ∧ W'.cell? ⟨n + 1, 2, none⟩ = some (.string (bs e.rel)) ∧ W'.cell? ⟨g, 0, none⟩ = some (.bool x) ∧ W'.cell? ⟨g, 1, none⟩ = some (.bool y) ∧ W'.cell? ⟨g, 2, none⟩ = some (.bool z) ∧ n < W'.heap.size ∧ n + 1 < W'.heap.size ∧ g < W'.heap.size ∧ W'.frozen? ⟨g, 0, none⟩ = false ∧ W'.frozen? ⟨g, 1, none⟩ = false ∧ W'.frozen? ⟨g, 2, none⟩ = false ∧ n + 1 < g ∧ Below n w W' := by
  obtain ⟨c0_0, c0_1, c0_2, c0_3, c0_4, c1_0, c1_1, c1_2, c2_0, c2_1, c2_2, l0, l1, l2, z0, z1, z2, lg, hB⟩ := h
  have hB_le : n ≤ W.heap.size := by omega
  exact ⟨(hb.cell (p := ⟨n, 0, none⟩) l0).trans c0_0, (hb.cell (p := ⟨n, 1, none⟩) l0).trans c0_1, (hb.cell (p := ⟨n, 2, none⟩) l0).trans c0_2, (hb.cell (p := ⟨n, 3, none⟩) l0).trans c0_3, (hb.cell (p := ⟨n, 4, none⟩) l0).trans c0_4, (hb.cell (p := ⟨n + 1, 0, none⟩) l1).trans c1_0, (hb.cell (p := ⟨n + 1, 1, none⟩) l1).trans c1_1, (hb.cell (p := ⟨n + 1, 2, none⟩) l1).trans c1_2, (hb.cell (p := ⟨g, 0, none⟩) l2).trans c2_0, (hb.cell (p := ⟨g, 1, none⟩) l2).trans c2_1, (hb.cell (p := ⟨g, 2, none⟩) l2).trans c2_2, Nat.lt_of_lt_of_le l0 hb.size, Nat.lt_of_lt_of_le l1 hb.size, Nat.lt_of_lt_of_le l2 hb.size, (hb.frozen (p := ⟨g, 0, none⟩) l2).trans z0, (hb.frozen (p := ⟨g, 1, none⟩) l2).trans z1, (hb.frozen (p := ⟨g, 2, none⟩) l2).trans z2, lg, hB.trans (hb.mono hB_le)⟩
theorem keep_p5 {d : Dp} {e : Evr} {x y z : Bool} {g m q : Nat} {n : Nat} {w W W' : World} (h : W.cell? ⟨n, 0, none⟩ = some (.string (bs d.name)) ∧ W.cell? ⟨n, 1, none⟩ = some (.int .u8 d.op) ∧ W.cell? ⟨n, 2, none⟩ = some (.int .i64 d.evr.epoch) ∧ W.cell? ⟨n, 3, none⟩ = some (.string (bs d.evr.ver)) ∧ W.cell? ⟨n, 4, none⟩ = some (.string (bs d.evr.rel)) ∧ W.cell? ⟨n + 1, 0, none⟩ = some (.int .i64 e.epoch) ∧ W.cell? ⟨n + 1, 1, none⟩ = some (.string (bs e.ver)) ∧ W.cell? ⟨n + 1, 2, none⟩ = some (.string (bs e.rel)) ∧ W.cell? ⟨g, 0, none⟩ = some (.bool x) ∧ W.cell? ⟨g, 1, none⟩ = some (.bool y) ∧ W.cell? ⟨g, 2, none⟩ = some (.bool z) ∧ W.cell? ⟨m, 0, none⟩ = some (.string (bs d.name)) ∧ W.cell? ⟨m, 1, none⟩ = some (.int .u8 3) ∧ W.cell? ⟨m, 2, none⟩ = some (.int .i64 d.evr.epoch) ∧ W.cell? ⟨m, 3, none⟩ = some (.string (bs d.evr.ver)) ∧ W.cell? ⟨m, 4, none⟩ = some (.string (bs d.evr.rel)) ∧ W.cell? ⟨q, 0, none⟩ = some (.string (bs d.name)) ∧ W.cell? ⟨q, 1, none⟩ = some (.int .u8 6) ∧ W.cell? ⟨q, 2, none⟩ = some (.int .i64 d.evr.epoch) ∧ W.cell? ⟨q, 3, none⟩ = some (.string (bs d.evr.ver)) ∧ W.cell? ⟨q, 4, none⟩ = some (.string (bs d.evr.rel)) ∧ n < W.heap.size ∧ n + 1 < W.heap.size ∧ g < W.heap.size ∧ m < W.heap.size ∧ q < W.heap.size ∧ Below n w W) (hb : Below W.heap.size W W') :
    W'.cell? ⟨n, 0, none⟩ = some (.string (bs d.name)) ∧ W'.cell? ⟨n, 1, none⟩ = some (.int .u8 d.op) ∧ W'.cell? ⟨n, 2, none⟩ = some (.int .i64 d.evr.epoch) ∧ W'.cell? ⟨n, 3, none⟩ = some (.string (bs d.evr.ver)) ∧ W'.cell? ⟨n, 4, none⟩ = some (.string (bs d.evr.rel)) ∧ W'.cell? ⟨n + 1, 0, none⟩ = some (.int .i64 e.epoch) ∧ W'.cell? ⟨n + 1, 1, none⟩ = some (.string (bs e.ver)) ∧ W'.cell? ⟨n + 1, 2, none⟩ = some (.string (bs e.rel)) ∧ W'.cell? ⟨g, 0, none⟩ = some (.bool x) ∧ W'.cell? ⟨g, 1, none⟩ = some (.bool y) ∧ W'.cell? ⟨g, 2, none⟩ = some (.bool z) ∧ W'.cell? ⟨m, 0, none⟩ = some (.string (bs d.name)) ∧ W'.cell? ⟨m, 1, none⟩ = some (.int .u8 3) ∧ W'.cell? ⟨m, 2, none⟩ = some (.int .i64 d.evr.epoch) ∧ W'.cell? ⟨m, 3, none⟩ = some (.string (bs d.evr.ver)) ∧ W'.cell? ⟨m, 4, none⟩ = some (.string (bs d.evr.rel)) ∧ W'.cell? ⟨q, 0, none⟩ = some (.string (bs d.name)) ∧ W'.cell? ⟨q, 1, none⟩ = some (.int .u8 6) ∧ W'.cell? ⟨q, 2, none⟩ = some (.int .i64 d.evr.epoch) ∧ W'.cell? ⟨q, 3, none⟩ = some (.string (bs d.evr.ver)) ∧ W'.cell? ⟨q, 4, none⟩ = some (.string (bs d.evr.rel)) ∧ n < W'.heap.size ∧ n + 1 < W'.heap.size ∧ g < W'.heap.size ∧ m < W'.heap.size ∧ q < W'.heap.size ∧ Below n w W' := by
  obtain ⟨c0_0, c0_1, c0_2, c0_3, c0_4, c1_0, c1_1, c1_2, c2_0, c2_1, c2_2, c3_0, c3_1, c3_2, c3_3, c3_4, c4_0, c4_1, c4_2, c4_3, c4_4, l0, l1, l2, l3, l4, hB⟩ := h
  have hB_le : n ≤ W.heap.size := by omega
  exact ⟨(hb.cell (p := ⟨n, 0, none⟩) l0).trans c0_0, (hb.cell (p := ⟨n, 1, none⟩) l0).trans c0_1, (hb.cell (p := ⟨n, 2, none⟩) l0).trans c0_2, (hb.cell (p := ⟨n, 3, none⟩) l0).trans c0_3, (hb.cell (p := ⟨n, 4, none⟩) l0).trans c0_4, (hb.cell (p := ⟨n + 1, 0, none⟩) l1).trans c1_0, (hb.cell (p := ⟨n + 1, 1, none⟩) l1).trans c1_1, (hb.cell (p := ⟨n + 1, 2, none⟩) l1).trans c1_2, (hb.cell (p := ⟨g, 0, none⟩) l2).trans c2_0, (hb.cell (p := ⟨g, 1, none⟩) l2).trans c2_1, (hb.cell (p := ⟨g, 2, none⟩) l2).trans c2_2, (hb.cell (p := ⟨m, 0, none⟩) l3).trans c3_0, (hb.cell (p := ⟨m, 1, none⟩) l3).trans c3_1, (hb.cell (p := ⟨m, 2, none⟩) l3).trans c3_2, (hb.cell (p := ⟨m, 3, none⟩) l3).trans c3_3, (hb.cell (p := ⟨m, 4, none⟩) l3).trans c3_4, (hb.cell (p := ⟨q, 0, none⟩) l4).trans c4_0, (hb.cell (p := ⟨q, 1, none⟩) l4).trans c4_1, (hb.cell (p := ⟨q, 2, none⟩) l4).trans c4_2, (hb.cell (p := ⟨q, 3, none⟩) l4).trans c4_3, (hb.cell (p := ⟨q, 4, none⟩) l4).trans c4_4, Nat.lt_of_lt_of_le l0 hb.size, Nat.lt_of_lt_of_le l1 hb.size, Nat.lt_of_lt_of_le l2 hb.size, Nat.lt_of_lt_of_le l3 hb.size, Nat.lt_of_lt_of_le l4 hb.size, hB.trans (hb.mono hB_le)⟩
theorem tail_p2 {d : Dp} {e : Evr} {n : Nat} {w W : World} (h : W.cell? ⟨n, 0, none⟩ = some (.string (bs d.name)) ∧ W.cell? ⟨n, 1, none⟩ = some (.int .u8 d.op) ∧ W.cell? ⟨n, 2, none⟩ = some (.int .i64 d.evr.epoch) ∧ W.cell? ⟨n, 3, none⟩ = some (.string (bs d.evr.ver)) ∧ W.cell? ⟨n, 4, none⟩ = some (.string (bs d.evr.rel)) ∧ W.cell? ⟨n + 1, 0, none⟩ = some (.int .i64 e.epoch) ∧ W.cell? ⟨n + 1, 1, none⟩ = some (.string (bs e.ver)) ∧ W.cell? ⟨n + 1, 2, none⟩ = some (.string (bs e.rel)) ∧ n < W.heap.size ∧ n + 1 < W.heap.size ∧ Below n w W) : Below n w W := h.2.2.2.2.2.2.2.2.2.2
theorem tail_p5 {d : Dp} {e : Evr} {x y z : Bool} {g m q : Nat} {n : Nat} {w W : World} (h : W.cell? ⟨n, 0, none⟩ = some (.string (bs d.name)) ∧ W.cell? ⟨n, 1, none⟩ = some (.int .u8 d.op) ∧ W.cell? ⟨n, 2, none⟩ = some (.int .i64 d.evr.epoch) ∧ W.cell? ⟨n, 3, none⟩ = some (.string (bs d.evr.ver)) ∧ W.cell? ⟨n, 4, none⟩ = some (.string (bs d.evr.rel)) ∧ W.cell? ⟨n + 1, 0, none⟩ = some (.int .i64 e.epoch) ∧ W.cell? ⟨n + 1, 1, none⟩ = some (.string (bs e.ver)) ∧ W.cell? ⟨n + 1, 2, none⟩ = some (.string (bs e.rel)) ∧ W.cell? ⟨g, 0, none⟩ = some (.bool x) ∧ W.cell? ⟨g, 1, none⟩ = some (.bool y) ∧ W.cell? ⟨g, 2, none⟩ = some (.bool z) ∧ W.cell? ⟨m, 0, none⟩ = some (.string (bs d.name)) ∧ W.cell? ⟨m, 1, none⟩ = some (.int .u8 3) ∧ W.cell? ⟨m, 2, none⟩ = some (.int .i64 d.evr.epoch) ∧ W.cell? ⟨m, 3, none⟩ = some (.string (bs d.evr.ver)) ∧ W.cell? ⟨m, 4, none⟩ = some (.string (bs d.evr.rel)) ∧ W.cell? ⟨q, 0, none⟩ = some (.string (bs d.name)) ∧ W.cell? ⟨q, 1, none⟩ = some (.int .u8 6) ∧ W.cell? ⟨q, 2, none⟩ = some (.int .i64 d.evr.epoch) ∧ W.cell? ⟨q, 3, none⟩ = some (.string (bs d.evr.ver)) ∧ W.cell? ⟨q, 4, none⟩ = some (.string (bs d.evr.rel)) ∧ n < W.heap.size ∧ n + 1 < W.heap.size ∧ g < W.heap.size ∧ m < W.heap.size ∧ q < W.heap.size ∧ Below n w W) : Below n w W := h.2.2.2.2.2.2.2.2.2.2.2.2.2.2.2.2.2.2.2.2.2.2.2.2.2.2
theorem new_p2 (d : Dp) (e : Evr) (w : World) : let W := ((w.alloc (.cells #[.string (bs d.name), .int .u8 d.op, .int .i64 d.evr.epoch, .string (bs d.evr.ver), .string (bs d.evr.rel)] 25)).alloc (.cells #[.int .i64 e.epoch, .string (bs e.ver), .string (bs e.rel)] 23)); let n := w.heap.size; W.cell? ⟨n, 0, none⟩ = some (.string (bs d.name)) ∧ W.cell? ⟨n, 1, none⟩ = some (.int .u8 d.op) ∧ W.cell? ⟨n, 2, none⟩ = some (.int .i64 d.evr.epoch) ∧ W.cell? ⟨n, 3, none⟩ = some (.string (bs d.evr.ver)) ∧ W.cell? ⟨n, 4, none⟩ = some (.string (bs d.evr.rel)) ∧ W.cell? ⟨n + 1, 0, none⟩ = some (.int .i64 e.epoch) ∧ W.cell? ⟨n + 1, 1, none⟩ = some (.string (bs e.ver)) ∧ W.cell? ⟨n + 1, 2, none⟩ = some (.string (bs e.rel)) ∧ n < W.heap.size ∧ n + 1 < W.heap.size ∧ Below n w W := by
  refine ⟨?_, ?_, ?_, ?_, ?_, ?_, ?_, ?_, ?_, ?_, ?_⟩
  all_goals first | exact (World.cell?_alloc_at _ _ _ _ (by simp)).trans rfl | exact (World.cell?_alloc_past _ _ _ (by simp; try omega)).trans ((World.cell?_alloc_at _ _ _ _ (by simp)).trans rfl) | exact (((Below.refl _ _).alloc (by simp; try omega) _).alloc (by simp; try omega) _) | (simp; try omega)
theorem grow_p3 {d : Dp} {e : Evr} {n : Nat} {w W : World} (h : W.cell? ⟨n, 0, none⟩ = some (.string (bs d.name)) ∧ W.cell? ⟨n, 1, none⟩ = some (.int .u8 d.op) ∧ W.cell? ⟨n, 2, none⟩ = some (.int .i64 d.evr.epoch) ∧ W.cell? ⟨n, 3, none⟩ = some (.string (bs d.evr.ver)) ∧ W.cell? ⟨n, 4, none⟩ = some (.string (bs d.evr.rel)) ∧ W.cell? ⟨n + 1, 0, none⟩ = some (.int .i64 e.epoch) ∧ W.cell? ⟨n + 1, 1, none⟩ = some (.string (bs e.ver)) ∧ W.cell? ⟨n + 1, 2, none⟩ = some (.string (bs e.rel)) ∧ n < W.heap.size ∧ n + 1 < W.heap.size ∧ Below n w W) : let V := (W.alloc (.cells #[.bool false, .bool false, .bool false] 34)); let g := W.heap.size; V.cell? ⟨n, 0, none⟩ = some (.string (bs d.name)) ∧ V.cell? ⟨n, 1, none⟩ = some (.int .u8 d.op) ∧ V.cell? ⟨n, 2, none⟩ = some (.int .i64 d.evr.epoch) ∧ V.cell? ⟨n, 3, none⟩ = some (.string (bs d.evr.ver)) ∧ V.cell? ⟨n, 4, none⟩ = some (.string (bs d.evr.rel)) ∧ V.cell? ⟨n + 1, 0, none⟩ = some (.int .i64 e.epoch) ∧ V.cell? ⟨n + 1, 1, none⟩ = some (.string (bs e.ver)) ∧ V.cell? ⟨n + 1, 2, none⟩ = some (.string (bs e.rel)) ∧ V.cell? ⟨g, 0, none⟩ = some (.bool false) ∧ V.cell? ⟨g, 1, none⟩ = some (.bool false) ∧ V.cell? ⟨g, 2, none⟩ = some (.bool false) ∧ n < V.heap.size ∧ n + 1 < V.heap.size ∧ g < V.heap.size ∧ V.frozen? ⟨g, 0, none⟩ = false ∧ V.frozen? ⟨g, 1, none⟩ = false ∧ V.frozen? ⟨g, 2, none⟩ = false ∧ n + 1 < g ∧ Below n w V := by
  obtain ⟨c0_0, c0_1, c0_2, c0_3, c0_4, c1_0, c1_1, c1_2, l0, l1, hB⟩ := h
  exact ⟨(World.cell?_alloc_lt W _ ⟨n, 0, none⟩ l0).trans c0_0, (World.cell?_alloc_lt W _ ⟨n, 1, none⟩ l0).trans c0_1, (World.cell?_alloc_lt W _ ⟨n, 2, none⟩ l0).trans c0_2, (World.cell?_alloc_lt W _ ⟨n, 3, none⟩ l0).trans c0_3, (World.cell?_alloc_lt W _ ⟨n, 4, none⟩ l0).trans c0_4, (World.cell?_alloc_lt W _ ⟨n + 1, 0, none⟩ l1).trans c1_0, (World.cell?_alloc_lt W _ ⟨n + 1, 1, none⟩ l1).trans c1_1, (World.cell?_alloc_lt W _ ⟨n + 1, 2, none⟩ l1).trans c1_2, (World.cell?_alloc_at _ _ _ _ rfl).trans rfl, (World.cell?_alloc_at _ _ _ _ rfl).trans rfl, (World.cell?_alloc_at _ _ _ _ rfl).trans rfl, by simp; omega, by simp; omega, by simp, World.frozen?_alloc_at _ _ _ _ rfl, World.frozen?_alloc_at _ _ _ _ rfl, World.frozen?_alloc_at _ _ _ _ rfl, l1, hB.alloc (by omega) _⟩
theorem set_p3_0 {d : Dp} {e : Evr} {x y z : Bool} {n g : Nat} {w W : World} (h : W.cell? ⟨n, 0, none⟩ = some (.string (bs d.name)) ∧ W.cell? ⟨n, 1, none⟩ = some (.int .u8 d.op) ∧ W.cell? ⟨n, 2, none⟩ = some (.int .i64 d.evr.epoch) ∧ W.cell? ⟨n, 3, none⟩ = some (.string (bs d.evr.ver)) ∧ W.cell? ⟨n, 4, none⟩ = some (.string (bs d.evr.rel)) ∧ W.cell? ⟨n + 1, 0, none⟩ = some (.int .i64 e.epoch) ∧ W.cell? ⟨n + 1, 1, none⟩ = some (.string (bs e.ver)) ∧ W.cell? ⟨n + 1, 2, none⟩ = some (.string (bs e.rel)) ∧ W.cell? ⟨g, 0, none⟩ = some (.bool x) ∧ W.cell? ⟨g, 1, none⟩ = some (.bool y) ∧ W.cell? ⟨g, 2, none⟩ = some (.bool z) ∧ n < W.heap.size ∧ n + 1 < W.heap.size ∧ g < W.heap.size ∧ W.frozen? ⟨g, 0, none⟩ = false ∧ W.frozen? ⟨g, 1, none⟩ = false ∧ W.frozen? ⟨g, 2, none⟩ = false ∧ n + 1 < g ∧ Below n w W) (v : Bool) : (W.setCell ⟨g, 0, none⟩ (.bool v)).cell? ⟨n, 0, none⟩ = some (.string (bs d.name)) ∧ (W.setCell ⟨g, 0, none⟩ (.bool v)).cell? ⟨n, 1, none⟩ = some (.int .u8 d.op) ∧ (W.setCell ⟨g, 0, none⟩ (.bool v)).cell? ⟨n, 2, none⟩ = some (.int .i64 d.evr.epoch) ∧ (W.setCell ⟨g, 0, none⟩ (.bool v)).cell? ⟨n, 3, none⟩ = some (.string (bs d.evr.ver)) ∧ (W.setCell ⟨g, 0, none⟩ (.bool v)).cell? ⟨n, 4, none⟩ = some (.string (bs d.evr.rel)) ∧ (W.setCell ⟨g, 0, none⟩ (.bool v)).cell? ⟨n + 1, 0, none⟩ = some (.int .i64 e.epoch) ∧ (W.setCell ⟨g, 0, none⟩ (.bool v)).cell? ⟨n + 1, 1, none⟩ = some (.string (bs e.ver)) ∧ (W.setCell ⟨g, 0, none⟩ (.bool v)).cell? ⟨n + 1, 2, none⟩ = some (.string (bs e.rel)) ∧ (W.setCell ⟨g, 0, none⟩ (.bool v)).cell? ⟨g, 0, none⟩ = some (.bool v) ∧ (W.setCell ⟨g, 0, none⟩ (.bool v)).cell? ⟨g, 1, none⟩ = some (.bool y) ∧ (W.setCell ⟨g, 0, none⟩ (.bool v)).cell? ⟨g, 2, none⟩ = some (.bool z) ∧ n < (W.setCell ⟨g, 0, none⟩ (.bool v)).heap.size ∧ n + 1 < (W.setCell ⟨g, 0, none⟩ (.bool v)).heap.size ∧ g < (W.setCell ⟨g, 0, none⟩ (.bool v)).heap.size ∧ (W.setCell ⟨g, 0, none⟩ (.bool v)).frozen? ⟨g, 0, none⟩ = false ∧ (W.setCell ⟨g, 0, none⟩ (.bool v)).frozen? ⟨g, 1, none⟩ = false ∧ (W.setCell ⟨g, 0, none⟩ (.bool v)).frozen? ⟨g, 2, none⟩ = false ∧ n + 1 < g ∧ Below n w (W.setCell ⟨g, 0, none⟩ (.bool v)) := by
  obtain ⟨c0_0, c0_1, c0_2, c0_3, c0_4, c1_0, c1_1, c1_2, c2_0, c2_1, c2_2, l0, l1, l2, z0, z1, z2, lg, hB⟩ := h
  refine ⟨?_, ?_, ?_, ?_, ?_, ?_, ?_, ?_, ?_, ?_, ?_, ?_, ?_, ?_, ?_, ?_, ?_, ?_, ?_⟩
  all_goals first | (rw [World.cell?_setCell_other _ _ _ _ (by simp; try omega)]; assumption) | exact World.cell?_setCell_same _ _ _ (by assumption) | (rw [World.frozen?_setCell]; assumption) | (simp [World.setCell]; assumption) | assumption | exact hB.setCell (by show n ≤ g; omega) _
theorem set_p3_1 {d : Dp} {e : Evr} {x y z : Bool} {n g : Nat} {w W : World} (h : W.cell? ⟨n, 0, none⟩ = some (.string (bs d.name)) ∧ W.cell? ⟨n, 1, none⟩ = some (.int .u8 d.op) ∧ W.cell? ⟨n, 2, none⟩ = some (.int .i64 d.evr.epoch) ∧ W.cell? ⟨n, 3, none⟩ = some (.string (bs d.evr.ver)) ∧ W.cell? ⟨n, 4, none⟩ = some (.string (bs d.evr.rel)) ∧ W.cell? ⟨n + 1, 0, none⟩ = some (.int .i64 e.epoch) ∧ W.cell? ⟨n + 1, 1, none⟩ = some (.string (bs e.ver)) ∧ W.cell? ⟨n + 1, 2, none⟩ = some (.string (bs e.rel)) ∧ W.cell? ⟨g, 0, none⟩ = some (.bool x) ∧ W.cell? ⟨g, 1, none⟩ = some (.bool y) ∧ W.cell? ⟨g, 2, none⟩ = some (.bool z) ∧ n < W.heap.size ∧ n + 1 < W.heap.size ∧ g < W.heap.size ∧ W.frozen? ⟨g, 0, none⟩ = false ∧ W.frozen? ⟨g, 1, none⟩ = false ∧ W.frozen? ⟨g, 2, none⟩ = false ∧ n + 1 < g ∧ Below n w W) (v : Bool) : (W.setCell ⟨g, 1, none⟩ (.bool v)).cell? ⟨n, 0, none⟩ = some (.string (bs d.name)) ∧ (W.setCell ⟨g, 1, none⟩ (.bool v)).cell? ⟨n, 1, none⟩ = some (.int .u8 d.op) ∧ (W.setCell ⟨g, 1, none⟩ (.bool v)).cell? ⟨n, 2, none⟩ = some (.int .i64 d.evr.epoch) ∧ (W.setCell ⟨g, 1, none⟩ (.bool v)).cell? ⟨n, 3, none⟩ = some (.string (bs d.evr.ver)) ∧ (W.setCell ⟨g, 1, none⟩ (.bool v)).cell? ⟨n, 4, none⟩ = some (.string (bs d.evr.rel)) ∧ (W.setCell ⟨g, 1, none⟩ (.bool v)).cell? ⟨n + 1, 0, none⟩ = some (.int .i64 e.epoch) ∧ (W.setCell ⟨g, 1, none⟩ (.bool v)).cell? ⟨n + 1, 1, none⟩ = some (.string (bs e.ver)) ∧ (W.setCell ⟨g, 1, none⟩ (.bool v)).cell? ⟨n + 1, 2, none⟩ = some (.string (bs e.rel)) ∧ (W.setCell ⟨g, 1, none⟩ (.bool v)).cell? ⟨g, 0, none⟩ = some (.bool x) ∧ (W.setCell ⟨g, 1, none⟩ (.bool v)).cell? ⟨g, 1, none⟩ = some (.bool v) ∧ (W.setCell ⟨g, 1, none⟩ (.bool v)).cell? ⟨g, 2, none⟩ = some (.bool z) ∧ n < (W.setCell ⟨g, 1, none⟩ (.bool v)).heap.size ∧ n + 1 < (W.setCell ⟨g, 1, none⟩ (.bool v)).heap.size ∧ g < (W.setCell ⟨g, 1, none⟩ (.bool v)).heap.size ∧ (W.setCell ⟨g, 1, none⟩ (.bool v)).frozen? ⟨g, 0, none⟩ = false ∧ (W.setCell ⟨g, 1, none⟩ (.bool v)).frozen? ⟨g, 1, none⟩ = false ∧ (W.setCell ⟨g, 1, none⟩ (.bool v)).frozen? ⟨g, 2, none⟩ = false ∧ n + 1 < g ∧ Below n w (W.setCell ⟨g, 1, none⟩ (.bool v)) := by
  obtain ⟨c0_0, c0_1, c0_2, c0_3, c0_4, c1_0, c1_1, c1_2, c2_0, c2_1, c2_2, l0, l1, l2, z0, z1, z2, lg, hB⟩ := h
  refine ⟨?_, ?_, ?_, ?_, ?_, ?_, ?_, ?_, ?_, ?_, ?_, ?_, ?_, ?_, ?_, ?_, ?_, ?_, ?_⟩
  all_goals first | (rw [World.cell?_setCell_other _ _ _ _ (by simp; try omega)]; assumption) | exact World.cell?_setCell_same _ _ _ (by assumption) | (rw [World.frozen?_setCell]; assumption) | (simp [World.setCell]; assumption) | assumption | exact hB.setCell (by show n ≤ g; omega) _
theorem set_p3_2 {d : Dp} {e : Evr} {x y z : Bool} {n g : Nat} {w W : World} (h : W.cell? ⟨n, 0, none⟩ = some (.string (bs d.name)) ∧ W.cell? ⟨n, 1, none⟩ = some (.int .u8 d.op) ∧ W.cell? ⟨n, 2, none⟩ = some (.int .i64 d.evr.epoch) ∧ W.cell? ⟨n, 3, none⟩ = some (.string (bs d.evr.ver)) ∧ W.cell? ⟨n, 4, none⟩ = some (.string (bs d.evr.rel)) ∧ W.cell? ⟨n + 1, 0, none⟩ = some (.int .i64 e.epoch) ∧ W.cell? ⟨n + 1, 1, none⟩ = some (.string (bs e.ver)) ∧ W.cell? ⟨n + 1, 2, none⟩ = some (.string (bs e.rel)) ∧ W.cell? ⟨g, 0, none⟩ = some (.bool x) ∧ W.cell? ⟨g, 1, none⟩ = some (.bool y) ∧ W.cell? ⟨g, 2, none⟩ = some (.bool z) ∧ n < W.heap.size ∧ n + 1 < W.heap.size ∧ g < W.heap.size ∧ W.frozen? ⟨g, 0, none⟩ = false ∧ W.frozen? ⟨g, 1, none⟩ = false ∧ W.frozen? ⟨g, 2, none⟩ = false ∧ n + 1 < g ∧ Below n w W) (v : Bool) : (W.setCell ⟨g, 2, none⟩ (.bool v)).cell? ⟨n, 0, none⟩ = some (.string (bs d.name)) ∧ (W.setCell ⟨g, 2, none⟩ (.bool v)).cell? ⟨n, 1, none⟩ = some (.int .u8 d.op) ∧ (W.setCell ⟨g, 2, none⟩ (.bool v)).cell? ⟨n, 2, none⟩ = some (.int .i64 d.evr.epoch) ∧ (W.setCell ⟨g, 2, none⟩ (.bool v)).cell? ⟨n, 3, none⟩ = some (.string (bs d.evr.ver)) ∧ (W.setCell ⟨g, 2, none⟩ (.bool v)).cell? ⟨n, 4, none⟩ = some (.string (bs d.evr.rel)) ∧ (W.setCell ⟨g, 2, none⟩ (.bool v)).cell? ⟨n + 1, 0, none⟩ = some (.int .i64 e.epoch) ∧ (W.setCell ⟨g, 2, none⟩ (.bool v)).cell? ⟨n + 1, 1, none⟩ = some (.string (bs e.ver)) ∧ (W.setCell ⟨g, 2, none⟩ (.bool v)).cell? ⟨n + 1, 2, none⟩ = some (.string (bs e.rel)) ∧ (W.setCell ⟨g, 2, none⟩ (.bool v)).cell? ⟨g, 0, none⟩ = some (.bool x) ∧ (W.setCell ⟨g, 2, none⟩ (.bool v)).cell? ⟨g, 1, none⟩ = some (.bool y) ∧ (W.setCell ⟨g, 2, none⟩ (.bool v)).cell? ⟨g, 2, none⟩ = some (.bool v) ∧ n < (W.setCell ⟨g, 2, none⟩ (.bool v)).heap.size ∧ n + 1 < (W.setCell ⟨g, 2, none⟩ (.bool v)).heap.size ∧ g < (W.setCell ⟨g, 2, none⟩ (.bool v)).heap.size ∧ (W.setCell ⟨g, 2, none⟩ (.bool v)).frozen? ⟨g, 0, none⟩ = false ∧ (W.setCell ⟨g, 2, none⟩ (.bool v)).frozen? ⟨g, 1, none⟩ = false ∧ (W.setCell ⟨g, 2, none⟩ (.bool v)).frozen? ⟨g, 2, none⟩ = false ∧ n + 1 < g ∧ Below n w (W.setCell ⟨g, 2, none⟩ (.bool v)) := by
  obtain ⟨c0_0, c0_1, c0_2, c0_3, c0_4, c1_0, c1_1, c1_2, c2_0, c2_1, c2_2, l0, l1, l2, z0, z1, z2, lg, hB⟩ := h
  refine ⟨?_, ?_, ?_, ?_, ?_, ?_, ?_, ?_, ?_, ?_, ?_, ?_, ?_, ?_, ?_, ?_, ?_, ?_, ?_⟩
  all_goals first | (rw [World.cell?_setCell_other _ _ _ _ (by simp; try omega)]; assumption) | exact World.cell?_setCell_same _ _ _ (by assumption) | (rw [World.frozen?_setCell]; assumption) | (simp [World.setCell]; assumption) | assumption | exact hB.setCell (by show n ≤ g; omega) _
theorem twop_0 {d : Dp} {e : Evr} {x y z : Bool} {n g m q : Nat} {w W V : World} (h : W.cell? ⟨n, 0, none⟩ = some (.string (bs d.name)) ∧ W.cell? ⟨n, 1, none⟩ = some (.int .u8 d.op) ∧ W.cell? ⟨n, 2, none⟩ = some (.int .i64 d.evr.epoch) ∧ W.cell? ⟨n, 3, none⟩ = some (.string (bs d.evr.ver)) ∧ W.cell? ⟨n, 4, none⟩ = some (.string (bs d.evr.rel)) ∧ W.cell? ⟨n + 1, 0, none⟩ = some (.int .i64 e.epoch) ∧ W.cell? ⟨n + 1, 1, none⟩ = some (.string (bs e.ver)) ∧ W.cell? ⟨n + 1, 2, none⟩ = some (.string (bs e.rel)) ∧ W.cell? ⟨g, 0, none⟩ = some (.bool x) ∧ W.cell? ⟨g, 1, none⟩ = some (.bool y) ∧ W.cell? ⟨g, 2, none⟩ = some (.bool z) ∧ n < W.heap.size ∧ n + 1 < W.heap.size ∧ g < W.heap.size ∧ W.frozen? ⟨g, 0, none⟩ = false ∧ W.frozen? ⟨g, 1, none⟩ = false ∧ W.frozen? ⟨g, 2, none⟩ = false ∧ n + 1 < g ∧ Below n w W) (hV : ((W.alloc (.cells #[.string (bs d.name), .int .u8 d.op, .int .i64 d.evr.epoch, .string (bs d.evr.ver), .string (bs d.evr.rel)] 25)).alloc (.cells #[.string (bs d.name), .int .u8 d.op, .int .i64 d.evr.epoch, .string (bs d.evr.ver), .string (bs d.evr.rel)] 25)).drew = V) (hm : m = W.heap.size) (hq : q = W.heap.size + 1) : (V.cell? ⟨n, 0, none⟩ = some (.string (bs d.name)) ∧ V.cell? ⟨n, 1, none⟩ = some (.int .u8 d.op) ∧ V.cell? ⟨n, 2, none⟩ = some (.int .i64 d.evr.epoch) ∧ V.cell? ⟨n, 3, none⟩ = some (.string (bs d.evr.ver)) ∧ V.cell? ⟨n, 4, none⟩ = some (.string (bs d.evr.rel)) ∧ V.cell? ⟨n + 1, 0, none⟩ = some (.int .i64 e.epoch) ∧ V.cell? ⟨n + 1, 1, none⟩ = some (.string (bs e.ver)) ∧ V.cell? ⟨n + 1, 2, none⟩ = some (.string (bs e.rel)) ∧ V.cell? ⟨g, 0, none⟩ = some (.bool x) ∧ V.cell? ⟨g, 1, none⟩ = some (.bool y) ∧ V.cell? ⟨g, 2, none⟩ = some (.bool z) ∧ V.cell? ⟨m, 0, none⟩ = some (.string (bs d.name)) ∧ V.cell? ⟨m, 1, none⟩ = some (.int .u8 d.op) ∧ V.cell? ⟨m, 2, none⟩ = some (.int .i64 d.evr.epoch) ∧ V.cell? ⟨m, 3, none⟩ = some (.string (bs d.evr.ver)) ∧ V.cell? ⟨m, 4, none⟩ = some (.string (bs d.evr.rel)) ∧ V.cell? ⟨q, 0, none⟩ = some (.string (bs d.name)) ∧ V.cell? ⟨q, 1, none⟩ = some (.int .u8 d.op) ∧ V.cell? ⟨q, 2, none⟩ = some (.int .i64 d.evr.epoch) ∧ V.cell? ⟨q, 3, none⟩ = some (.string (bs d.evr.ver)) ∧ V.cell? ⟨q, 4, none⟩ = some (.string (bs d.evr.rel)) ∧ n < V.heap.size ∧ n + 1 < V.heap.size ∧ g < V.heap.size ∧ m < V.heap.size ∧ q < V.heap.size ∧ Below n w V) ∧ V.frozen? ⟨m, 1, none⟩ = false ∧ V.frozen? ⟨q, 1, none⟩ = false ∧ n + 1 < m ∧ n + 1 < q ∧ g < m ∧ g < q ∧ m ≠ q := by
  obtain ⟨c0_0, c0_1, c0_2, c0_3, c0_4, c1_0, c1_1, c1_2, c2_0, c2_1, c2_2, l0, l1, l2, z0, z1, z2, lg, hB⟩ := h
  subst hV; subst hm; subst hq
  exact ⟨⟨(World.cell?_alloc_lt _ _ ⟨n, 0, none⟩ (by simp; omega)).trans ((World.cell?_alloc_lt _ _ ⟨n, 0, none⟩ l0).trans c0_0), (World.cell?_alloc_lt _ _ ⟨n, 1, none⟩ (by simp; omega)).trans ((World.cell?_alloc_lt _ _ ⟨n, 1, none⟩ l0).trans c0_1), (World.cell?_alloc_lt _ _ ⟨n, 2, none⟩ (by simp; omega)).trans ((World.cell?_alloc_lt _ _ ⟨n, 2, none⟩ l0).trans c0_2), (World.cell?_alloc_lt _ _ ⟨n, 3, none⟩ (by simp; omega)).trans ((World.cell?_alloc_lt _ _ ⟨n, 3, none⟩ l0).trans c0_3), (World.cell?_alloc_lt _ _ ⟨n, 4, none⟩ (by simp; omega)).trans ((World.cell?_alloc_lt _ _ ⟨n, 4, none⟩ l0).trans c0_4), (World.cell?_alloc_lt _ _ ⟨n + 1, 0, none⟩ (by simp; omega)).trans ((World.cell?_alloc_lt _ _ ⟨n + 1, 0, none⟩ l1).trans c1_0), (World.cell?_alloc_lt _ _ ⟨n + 1, 1, none⟩ (by simp; omega)).trans ((World.cell?_alloc_lt _ _ ⟨n + 1, 1, none⟩ l1).trans c1_1), (World.cell?_alloc_lt _ _ ⟨n + 1, 2, none⟩ (by simp; omega)).trans ((World.cell?_alloc_lt _ _ ⟨n + 1, 2, none⟩ l1).trans c1_2), (World.cell?_alloc_lt _ _ ⟨g, 0, none⟩ (by simp; omega)).trans ((World.cell?_alloc_lt _ _ ⟨g, 0, none⟩ l2).trans c2_0), (World.cell?_alloc_lt _ _ ⟨g, 1, none⟩ (by simp; omega)).trans ((World.cell?_alloc_lt _ _ ⟨g, 1, none⟩ l2).trans c2_1), (World.cell?_alloc_lt _ _ ⟨g, 2, none⟩ (by simp; omega)).trans ((World.cell?_alloc_lt _ _ ⟨g, 2, none⟩ l2).trans c2_2), (World.cell?_alloc_past _ _ _ (by simp)).trans ((World.cell?_alloc_at _ _ _ _ rfl).trans rfl), (World.cell?_alloc_past _ _ _ (by simp)).trans ((World.cell?_alloc_at _ _ _ _ rfl).trans rfl), (World.cell?_alloc_past _ _ _ (by simp)).trans ((World.cell?_alloc_at _ _ _ _ rfl).trans rfl), (World.cell?_alloc_past _ _ _ (by simp)).trans ((World.cell?_alloc_at _ _ _ _ rfl).trans rfl), (World.cell?_alloc_past _ _ _ (by simp)).trans ((World.cell?_alloc_at _ _ _ _ rfl).trans rfl), (World.cell?_alloc_at _ _ _ _ (by simp)).trans rfl, (World.cell?_alloc_at _ _ _ _ (by simp)).trans rfl, (World.cell?_alloc_at _ _ _ _ (by simp)).trans rfl, (World.cell?_alloc_at _ _ _ _ (by simp)).trans rfl, (World.cell?_alloc_at _ _ _ _ (by simp)).trans rfl, (by simp [World.drew]; try omega), (by simp [World.drew]; try omega), (by simp [World.drew]; try omega), (by simp [World.drew]; try omega), (by simp [World.drew]; try omega), ((hB.alloc (by omega) _).alloc (by simp; omega) _).drew⟩, (World.frozen?_alloc_past _ _ _ (by simp)).trans (World.frozen?_alloc_at _ _ _ _ rfl), World.frozen?_alloc_at _ _ _ _ (by simp), by omega, by omega, by omega, by omega, by omega⟩
theorem twop_1 {d : Dp} {e : Evr} {x y z : Bool} {n g m q : Nat} {w W V : World} (h : W.cell? ⟨n, 0, none⟩ = some (.string (bs d.name)) ∧ W.cell? ⟨n, 1, none⟩ = some (.int .u8 d.op) ∧ W.cell? ⟨n, 2, none⟩ = some (.int .i64 d.evr.epoch) ∧ W.cell? ⟨n, 3, none⟩ = some (.string (bs d.evr.ver)) ∧ W.cell? ⟨n, 4, none⟩ = some (.string (bs d.evr.rel)) ∧ W.cell? ⟨n + 1, 0, none⟩ = some (.int .i64 e.epoch) ∧ W.cell? ⟨n + 1, 1, none⟩ = some (.string (bs e.ver)) ∧ W.cell? ⟨n + 1, 2, none⟩ = some (.string (bs e.rel)) ∧ W.cell? ⟨g, 0, none⟩ = some (.bool x) ∧ W.cell? ⟨g, 1, none⟩ = some (.bool y) ∧ W.cell? ⟨g, 2, none⟩ = some (.bool z) ∧ n < W.heap.size ∧ n + 1 < W.heap.size ∧ g < W.heap.size ∧ W.frozen? ⟨g, 0, none⟩ = false ∧ W.frozen? ⟨g, 1, none⟩ = false ∧ W.frozen? ⟨g, 2, none⟩ = false ∧ n + 1 < g ∧ Below n w W) (hV : ((W.alloc (.cells #[.string (bs d.name), .int .u8 d.op, .int .i64 d.evr.epoch, .string (bs d.evr.ver), .string (bs d.evr.rel)] 25)).alloc (.cells #[.string (bs d.name), .int .u8 d.op, .int .i64 d.evr.epoch, .string (bs d.evr.ver), .string (bs d.evr.rel)] 25)).drew = V) (hm : m = W.heap.size + 1) (hq : q = W.heap.size) : (V.cell? ⟨n, 0, none⟩ = some (.string (bs d.name)) ∧ V.cell? ⟨n, 1, none⟩ = some (.int .u8 d.op) ∧ V.cell? ⟨n, 2, none⟩ = some (.int .i64 d.evr.epoch) ∧ V.cell? ⟨n, 3, none⟩ = some (.string (bs d.evr.ver)) ∧ V.cell? ⟨n, 4, none⟩ = some (.string (bs d.evr.rel)) ∧ V.cell? ⟨n + 1, 0, none⟩ = some (.int .i64 e.epoch) ∧ V.cell? ⟨n + 1, 1, none⟩ = some (.string (bs e.ver)) ∧ V.cell? ⟨n + 1, 2, none⟩ = some (.string (bs e.rel)) ∧ V.cell? ⟨g, 0, none⟩ = some (.bool x) ∧ V.cell? ⟨g, 1, none⟩ = some (.bool y) ∧ V.cell? ⟨g, 2, none⟩ = some (.bool z) ∧ V.cell? ⟨m, 0, none⟩ = some (.string (bs d.name)) ∧ V.cell? ⟨m, 1, none⟩ = some (.int .u8 d.op) ∧ V.cell? ⟨m, 2, none⟩ = some (.int .i64 d.evr.epoch) ∧ V.cell? ⟨m, 3, none⟩ = some (.string (bs d.evr.ver)) ∧ V.cell? ⟨m, 4, none⟩ = some (.string (bs d.evr.rel)) ∧ V.cell? ⟨q, 0, none⟩ = some (.string (bs d.name)) ∧ V.cell? ⟨q, 1, none⟩ = some (.int .u8 d.op) ∧ V.cell? ⟨q, 2, none⟩ = some (.int .i64 d.evr.epoch) ∧ V.cell? ⟨q, 3, none⟩ = some (.string (bs d.evr.ver)) ∧ V.cell? ⟨q, 4, none⟩ = some (.string (bs d.evr.rel)) ∧ n < V.heap.size ∧ n + 1 < V.heap.size ∧ g < V.heap.size ∧ m < V.heap.size ∧ q < V.heap.size ∧ Below n w V) ∧ V.frozen? ⟨m, 1, none⟩ = false ∧ V.frozen? ⟨q, 1, none⟩ = false ∧ n + 1 < m ∧ n + 1 < q ∧ g < m ∧ g < q ∧ m ≠ q := by
  obtain ⟨c0_0, c0_1, c0_2, c0_3, c0_4, c1_0, c1_1, c1_2, c2_0, c2_1, c2_2, l0, l1, l2, z0, z1, z2, lg, hB⟩ := h
  subst hV; subst hm; subst hq
  exact ⟨⟨(World.cell?_alloc_lt _ _ ⟨n, 0, none⟩ (by simp; omega)).trans ((World.cell?_alloc_lt _ _ ⟨n, 0, none⟩ l0).trans c0_0), (World.cell?_alloc_lt _ _ ⟨n, 1, none⟩ (by simp; omega)).trans ((World.cell?_alloc_lt _ _ ⟨n, 1, none⟩ l0).trans c0_1), (World.cell?_alloc_lt _ _ ⟨n, 2, none⟩ (by simp; omega)).trans ((World.cell?_alloc_lt _ _ ⟨n, 2, none⟩ l0).trans c0_2), (World.cell?_alloc_lt _ _ ⟨n, 3, none⟩ (by simp; omega)).trans ((World.cell?_alloc_lt _ _ ⟨n, 3, none⟩ l0).trans c0_3), (World.cell?_alloc_lt _ _ ⟨n, 4, none⟩ (by simp; omega)).trans ((World.cell?_alloc_lt _ _ ⟨n, 4, none⟩ l0).trans c0_4), (World.cell?_alloc_lt _ _ ⟨n + 1, 0, none⟩ (by simp; omega)).trans ((World.cell?_alloc_lt _ _ ⟨n + 1, 0, none⟩ l1).trans c1_0), (World.cell?_alloc_lt _ _ ⟨n + 1, 1, none⟩ (by simp; omega)).trans ((World.cell?_alloc_lt _ _ ⟨n + 1, 1, none⟩ l1).trans c1_1), (World.cell?_alloc_lt _ _ ⟨n + 1, 2, none⟩ (by simp; omega)).trans ((World.cell?_alloc_lt _ _ ⟨n + 1, 2, none⟩ l1).trans c1_2), (World.cell?_alloc_lt _ _ ⟨g, 0, none⟩ (by simp; omega)).trans ((World.cell?_alloc_lt _ _ ⟨g, 0, none⟩ l2).trans c2_0), (World.cell?_alloc_lt _ _ ⟨g, 1, none⟩ (by simp; omega)).trans ((World.cell?_alloc_lt _ _ ⟨g, 1, none⟩ l2).trans c2_1), (World.cell?_alloc_lt _ _ ⟨g, 2, none⟩ (by simp; omega)).trans ((World.cell?_alloc_lt _ _ ⟨g, 2, none⟩ l2).trans c2_2), (World.cell?_alloc_at _ _ _ _ (by simp)).trans rfl, (World.cell?_alloc_at _ _ _ _ (by simp)).trans rfl, (World.cell?_alloc_at _ _ _ _ (by simp)).trans rfl, (World.cell?_alloc_at _ _ _ _ (by simp)).trans rfl, (World.cell?_alloc_at _ _ _ _ (by simp)).trans rfl, (World.cell?_alloc_past _ _ _ (by simp)).trans ((World.cell?_alloc_at _ _ _ _ rfl).trans rfl), (World.cell?_alloc_past _ _ _ (by simp)).trans ((World.cell?_alloc_at _ _ _ _ rfl).trans rfl), (World.cell?_alloc_past _ _ _ (by simp)).trans ((World.cell?_alloc_at _ _ _ _ rfl).trans rfl), (World.cell?_alloc_past _ _ _ (by simp)).trans ((World.cell?_alloc_at _ _ _ _ rfl).trans rfl), (World.cell?_alloc_past _ _ _ (by simp)).trans ((World.cell?_alloc_at _ _ _ _ rfl).trans rfl), (by simp [World.drew]; try omega), (by simp [World.drew]; try omega), (by simp [World.drew]; try omega), (by simp [World.drew]; try omega), (by simp [World.drew]; try omega), ((hB.alloc (by omega) _).alloc (by simp; omega) _).drew⟩, World.frozen?_alloc_at _ _ _ _ (by simp), (World.frozen?_alloc_past _ _ _ (by simp)).trans (World.frozen?_alloc_at _ _ _ _ rfl), by omega, by omega, by omega, by omega, by omega⟩
theorem set_p5 {d : Dp} {e : Evr} {x y z : Bool} {n g m q : Nat} {w V : World} (h : V.cell? ⟨n, 0, none⟩ = some (.string (bs d.name)) ∧ V.cell? ⟨n, 1, none⟩ = some (.int .u8 d.op) ∧ V.cell? ⟨n, 2, none⟩ = some (.int .i64 d.evr.epoch) ∧ V.cell? ⟨n, 3, none⟩ = some (.string (bs d.evr.ver)) ∧ V.cell? ⟨n, 4, none⟩ = some (.string (bs d.evr.rel)) ∧ V.cell? ⟨n + 1, 0, none⟩ = some (.int .i64 e.epoch) ∧ V.cell? ⟨n + 1, 1, none⟩ = some (.string (bs e.ver)) ∧ V.cell? ⟨n + 1, 2, none⟩ = some (.string (bs e.rel)) ∧ V.cell? ⟨g, 0, none⟩ = some (.bool x) ∧ V.cell? ⟨g, 1, none⟩ = some (.bool y) ∧ V.cell? ⟨g, 2, none⟩ = some (.bool z) ∧ V.cell? ⟨m, 0, none⟩ = some (.string (bs d.name)) ∧ V.cell? ⟨m, 1, none⟩ = some (.int .u8 d.op) ∧ V.cell? ⟨m, 2, none⟩ = some (.int .i64 d.evr.epoch) ∧ V.cell? ⟨m, 3, none⟩ = some (.string (bs d.evr.ver)) ∧ V.cell? ⟨m, 4, none⟩ = some (.string (bs d.evr.rel)) ∧ V.cell? ⟨q, 0, none⟩ = some (.string (bs d.name)) ∧ V.cell? ⟨q, 1, none⟩ = some (.int .u8 d.op) ∧ V.cell? ⟨q, 2, none⟩ = some (.int .i64 d.evr.epoch) ∧ V.cell? ⟨q, 3, none⟩ = some (.string (bs d.evr.ver)) ∧ V.cell? ⟨q, 4, none⟩ = some (.string (bs d.evr.rel)) ∧ n < V.heap.size ∧ n + 1 < V.heap.size ∧ g < V.heap.size ∧ m < V.heap.size ∧ q < V.heap.size ∧ Below n w V) (h1 : n + 1 < m) (h2 : n + 1 < q) (h4 : g < m) (h5 : g < q) (h3 : m ≠ q) : ((V.setCell ⟨m, 1, none⟩ (.int .u8 3)).setCell ⟨q, 1, none⟩ (.int .u8 6)).cell? ⟨n, 0, none⟩ = some (.string (bs d.name)) ∧ ((V.setCell ⟨m, 1, none⟩ (.int .u8 3)).setCell ⟨q, 1, none⟩ (.int .u8 6)).cell? ⟨n, 1, none⟩ = some (.int .u8 d.op) ∧ ((V.setCell ⟨m, 1, none⟩ (.int .u8 3)).setCell ⟨q, 1, none⟩ (.int .u8 6)).cell? ⟨n, 2, none⟩ = some (.int .i64 d.evr.epoch) ∧ ((V.setCell ⟨m, 1, none⟩ (.int .u8 3)).setCell ⟨q, 1, none⟩ (.int .u8 6)).cell? ⟨n, 3, none⟩ = some (.string (bs d.evr.ver)) ∧ ((V.setCell ⟨m, 1, none⟩ (.int .u8 3)).setCell ⟨q, 1, none⟩ (.int .u8 6)).cell? ⟨n, 4, none⟩ = some (.string (bs d.evr.rel)) ∧ ((V.setCell ⟨m, 1, none⟩ (.int .u8 3)).setCell ⟨q, 1, none⟩ (.int .u8 6)).cell? ⟨n + 1, 0, none⟩ = some (.int .i64 e.epoch) ∧ ((V.setCell ⟨m, 1, none⟩ (.int .u8 3)).setCell ⟨q, 1, none⟩ (.int .u8 6)).cell? ⟨n + 1, 1, none⟩ = some (.string (bs e.ver)) ∧ ((V.setCell ⟨m, 1, none⟩ (.int .u8 3)).setCell ⟨q, 1, none⟩ (.int .u8 6)).cell? ⟨n + 1, 2, none⟩ = some (.string (bs e.rel)) ∧ ((V.setCell ⟨m, 1, none⟩ (.int .u8 3)).setCell ⟨q, 1, none⟩ (.int .u8 6)).cell? ⟨g, 0, none⟩ = some (.bool x) ∧ ((V.setCell ⟨m, 1, none⟩ (.int .u8 3)).setCell ⟨q, 1, none⟩ (.int .u8 6)).cell? ⟨g, 1, none⟩ = some (.bool y) ∧ ((V.setCell ⟨m, 1, none⟩ (.int .u8 3)).setCell ⟨q, 1, none⟩ (.int .u8 6)).cell? ⟨g, 2, none⟩ = some (.bool z) ∧ ((V.setCell ⟨m, 1, none⟩ (.int .u8 3)).setCell ⟨q, 1, none⟩ (.int .u8 6)).cell? ⟨m, 0, none⟩ = some (.string (bs d.name)) ∧ ((V.setCell ⟨m, 1, none⟩ (.int .u8 3)).setCell ⟨q, 1, none⟩ (.int .u8 6)).cell? ⟨m, 1, none⟩ = some (.int .u8 3) ∧ ((V.setCell ⟨m, 1, none⟩ (.int .u8 3)).setCell ⟨q, 1, none⟩ (.int .u8 6)).cell? ⟨m, 2, none⟩ = some (.int .i64 d.evr.epoch) ∧ ((V.setCell ⟨m, 1, none⟩ (.int .u8 3)).setCell ⟨q, 1, none⟩ (.int .u8 6)).cell? ⟨m, 3, none⟩ = some (.string (bs d.evr.ver)) ∧ ((V.setCell ⟨m, 1, none⟩ (.int .u8 3)).setCell ⟨q, 1, none⟩ (.int .u8 6)).cell? ⟨m, 4, none⟩ = some (.string (bs d.evr.rel)) ∧ ((V.setCell ⟨m, 1, none⟩ (.int .u8 3)).setCell ⟨q, 1, none⟩ (.int .u8 6)).cell? ⟨q, 0, none⟩ = some (.string (bs d.name)) ∧ ((V.setCell ⟨m, 1, none⟩ (.int .u8 3)).setCell ⟨q, 1, none⟩ (.int .u8 6)).cell? ⟨q, 1, none⟩ = some (.int .u8 6) ∧ ((V.setCell ⟨m, 1, none⟩ (.int .u8 3)).setCell ⟨q, 1, none⟩ (.int .u8 6)).cell? ⟨q, 2, none⟩ = some (.int .i64 d.evr.epoch) ∧ ((V.setCell ⟨m, 1, none⟩ (.int .u8 3)).setCell ⟨q, 1, none⟩ (.int .u8 6)).cell? ⟨q, 3, none⟩ = some (.string (bs d.evr.ver)) ∧ ((V.setCell ⟨m, 1, none⟩ (.int .u8 3)).setCell ⟨q, 1, none⟩ (.int .u8 6)).cell? ⟨q, 4, none⟩ = some (.string (bs d.evr.rel)) ∧ n < ((V.setCell ⟨m, 1, none⟩ (.int .u8 3)).setCell ⟨q, 1, none⟩ (.int .u8 6)).heap.size ∧ n + 1 < ((V.setCell ⟨m, 1, none⟩ (.int .u8 3)).setCell ⟨q, 1, none⟩ (.int .u8 6)).heap.size ∧ g < ((V.setCell ⟨m, 1, none⟩ (.int .u8 3)).setCell ⟨q, 1, none⟩ (.int .u8 6)).heap.size ∧ m < ((V.setCell ⟨m, 1, none⟩ (.int .u8 3)).setCell ⟨q, 1, none⟩ (.int .u8 6)).heap.size ∧ q < ((V.setCell ⟨m, 1, none⟩ (.int .u8 3)).setCell ⟨q, 1, none⟩ (.int .u8 6)).heap.size ∧ Below n w ((V.setCell ⟨m, 1, none⟩ (.int .u8 3)).setCell ⟨q, 1, none⟩ (.int .u8 6)) := by
  obtain ⟨c0_0, c0_1, c0_2, c0_3, c0_4, c1_0, c1_1, c1_2, c2_0, c2_1, c2_2, c3_0, c3_1, c3_2, c3_3, c3_4, c4_0, c4_1, c4_2, c4_3, c4_4, l0, l1, l2, l3, l4, hB⟩ := h
  refine ⟨?_, ?_, ?_, ?_, ?_, ?_, ?_, ?_, ?_, ?_, ?_, ?_, ?_, ?_, ?_, ?_, ?_, ?_, ?_, ?_, ?_, ?_, ?_, ?_, ?_, ?_, ?_⟩
  all_goals first | (rw [World.cell?_setCell_other _ _ _ _ (by simp; try omega), World.cell?_setCell_other _ _ _ _ (by simp; try omega)]; assumption) | (rw [World.cell?_setCell_other _ _ _ _ (by simp; try omega)]; exact World.cell?_setCell_same _ _ _ (by assumption)) | (refine World.cell?_setCell_same _ _ _ (u := .int .u8 d.op) ?_; rw [World.cell?_setCell_other _ _ _ _ (by simp; try omega)]; assumption) | (simp [World.setCell]; assumption) | exact (hB.setCell (by show n ≤ m; omega) _).setCell (by show n ≤ q; omega) _
set_option maxRecDepth 100000 in
set_option maxHeartbeats 16000000 in
theorem spanParted_lt (w : World) (hO : OpsIn w) (d : Dp) (wa : d.wf) (e : Evr) (we : e.wf) (hc : ecmp e d.evr = -1) : Calls Tryd.prog 7 #[d.val, e.val] w fun e w' => e = .returned (.bool true) ∧ Below w.heap.size w w' := by
  have LA := Lib.hid (fun W => long04 d.evr W ⟨wa.2.2.2.1, wa.2.2.2.2⟩)
  have LE := Lib.hid (fun W => long04 e W ⟨we.2.1, we.2.2⟩)
  have AW := Lib.hid (fun W (h : Below w.heap.size w W) => awake04 W (hO.below h))
  have S0 := new_p2 d e w
  dsimp only at S0
  have oa := Evr.ok_of d.evr
  have oe := Evr.ok_of e
  have H1 := Lib.hid (fun ha he W => has_k d e 1 (-1) true W (oa ha) (oe he) (by decide) (by decide) hc (by decide +kernel))
  have H2 := Lib.hid (fun ha he W => has_k d e 2 (-1) false W (oa ha) (oe he) (by decide) (by decide) hc (by decide +kernel))
  have H4 := Lib.hid (fun ha he W => has_k d e 4 (-1) false W (oa ha) (oe he) (by decide) (by decide) hc (by decide +kernel))
  have H3 := Lib.hid (fun ha he W => has_k d e 3 (-1) true W (oa ha) (oe he) (by decide) (by decide) hc (by decide +kernel))
  have H6 := Lib.hid (fun ha he W => has_k d e 6 (-1) false W (oa ha) (oe he) (by decide) (by decide) hc (by decide +kernel))
  have EC := Lib.hid (fun ha he W => evr_k e d.evr (-1) W (oe he) (oa ha) hc)
  clear oa oe wa we hO hc
  generalize longB d.evr = la at *
  generalize longB e = le at *
  unfold Evr.val at LA LE EC H1 H2 H4 H3 H6
  unfold Dp.val at H1 H2 H4 H3 H6
  dsimp only at H1 H2 H4 H3 H6
  unfold Dp.val Evr.val
  go_enter Tryd.func7, Tryd.ntmps7
  go_wp2_with fail
  go_at_call 23
  generalize ((w.alloc (.cells #[.string (bs d.name), .int .u8 d.op, .int .i64 d.evr.epoch, .string (bs d.evr.ver), .string (bs d.evr.rel)] 25)).alloc (.cells #[.int .i64 e.epoch, .string (bs e.ver), .string (bs e.rel)] 23)) = W at *
  generalize hn : w.heap.size = n at *
  obtain ⟨c0_0, c0_1, c0_2, c0_3, c0_4, c1_0, c1_1, c1_2, l0, l1, hB⟩ := id S0
  go_wp2_with fail
  go_at_call 23
  refine (LA.out _).mono ?_
  rintro e1 w1 ⟨rfl, h⟩
  have S1 := keep_p2 S0 h
  clear S0 h
  obtain ⟨c0_0, c0_1, c0_2, c0_3, c0_4, c1_0, c1_1, c1_2, l0, l1, hB⟩ := id S1
  cases la with
  | true =>
    go_wp2_with fail
    go_at_call 24
    refine (AW.out _ hB).mono ?_
    rintro e9 w9 ⟨rfl, h⟩
    go_wp2
    go_ret
    exact ⟨rfl, by rw [hn]; exact hB.trans (h.mono (by omega))⟩
  | false =>
    go_wp2_with fail
    go_at_call 23
    refine (LE.out _).mono ?_
    rintro e2 w2 ⟨rfl, h⟩
    have S2 := keep_p2 S1 h
    clear c0_0 c0_1 c0_2 c0_3 c0_4 c1_0 c1_1 c1_2 l0 l1 hB
    clear S1 h
    obtain ⟨c0_0, c0_1, c0_2, c0_3, c0_4, c1_0, c1_1, c1_2, l0, l1, hB⟩ := id S2
    cases le with
    | true =>
      go_wp2_with fail
      go_at_call 24
      refine (AW.out _ hB).mono ?_
      rintro e9 w9 ⟨rfl, h⟩
      go_wp2
      go_ret
      exact ⟨rfl, by rw [hn]; exact hB.trans (h.mono (by omega))⟩
    | false =>
      go_wp2_with fail
      go_at_call 24
      refine (AW.out _ hB).mono ?_
      rintro e3 w3 ⟨rfl, h⟩
      have S3 := keep_p2 S2 h
      clear c0_0 c0_1 c0_2 c0_3 c0_4 c1_0 c1_1 c1_2 l0 l1 hB
      clear S2 h
      obtain ⟨c0_0, c0_1, c0_2, c0_3, c0_4, c1_0, c1_1, c1_2, l0, l1, hB⟩ := id S3
      have SG := grow_p3 S3
      dsimp only at SG
      go_wp2_with fail
      generalize hV : w3.alloc (.cells #[.bool false, .bool false, .bool false] 34) = V at *
      generalize w3.heap.size = g at *
      clear c0_0 c0_1 c0_2 c0_3 c0_4 c1_0 c1_1 c1_2 l0 l1 hB S3 hV
      obtain ⟨c0_0, c0_1, c0_2, c0_3, c0_4, c1_0, c1_1, c1_2, c2_0, c2_1, c2_2, l0, l1, l2, z0, z1, z2, lg, hB⟩ := id SG
      refine wp_loop_rounds 4 ?_
      rw [rounds_succ]
      go_wp2_with fail
      go_at_call 27
      refine (H1.out (by trivial) (by trivial) _).mono ?_
      rintro er0 wr0 ⟨rfl, h⟩
      have h' := ((Below.refl V.heap.size V).alloc (Nat.le_refl _) _).trans (h.mono (by simp))
      have T0 := keep_p3 SG h'
      clear c0_0 c0_1 c0_2 c0_3 c0_4 c1_0 c1_1 c1_2 c2_0 c2_1 c2_2 l0 l1 l2 z0 z1 z2 lg hB
      clear SG h h'
      obtain ⟨c0_0, c0_1, c0_2, c0_3, c0_4, c1_0, c1_1, c1_2, c2_0, c2_1, c2_2, l0, l1, l2, z0, z1, z2, lg, hB⟩ := id T0
      have S0' := set_p3_0 T0 true
      go_wp2_with fail
      generalize wr0.setCell { block := g, off := 0 } (Value.bool true) = v0 at *
      clear c0_0 c0_1 c0_2 c0_3 c0_4 c1_0 c1_1 c1_2 c2_0 c2_1 c2_2 l0 l1 l2 z0 z1 z2 lg hB T0
      obtain ⟨c0_0, c0_1, c0_2, c0_3, c0_4, c1_0, c1_1, c1_2, c2_0, c2_1, c2_2, l0, l1, l2, z0, z1, z2, lg, hB⟩ := id S0'
      rw [rounds_succ]
      go_wp2_with fail
      go_at_call 27
      refine (H2.out (by trivial) (by trivial) _).mono ?_
      rintro er1 wr1 ⟨rfl, h⟩
      have h' := ((Below.refl v0.heap.size v0).alloc (Nat.le_refl _) _).trans (h.mono (by simp))
      have T1 := keep_p3 S0' h'
      clear c0_0 c0_1 c0_2 c0_3 c0_4 c1_0 c1_1 c1_2 c2_0 c2_1 c2_2 l0 l1 l2 z0 z1 z2 lg hB
      clear S0' h h'
      obtain ⟨c0_0, c0_1, c0_2, c0_3, c0_4, c1_0, c1_1, c1_2, c2_0, c2_1, c2_2, l0, l1, l2, z0, z1, z2, lg, hB⟩ := id T1
      have S1' := set_p3_1 T1 false
      go_wp2_with fail
      generalize wr1.setCell { block := g, off := 1 } (Value.bool false) = v1 at *
      clear c0_0 c0_1 c0_2 c0_3 c0_4 c1_0 c1_1 c1_2 c2_0 c2_1 c2_2 l0 l1 l2 z0 z1 z2 lg hB T1
      obtain ⟨c0_0, c0_1, c0_2, c0_3, c0_4, c1_0, c1_1, c1_2, c2_0, c2_1, c2_2, l0, l1, l2, z0, z1, z2, lg, hB⟩ := id S1'
      rw [rounds_succ]
      go_wp2_with fail
      go_at_call 27
      refine (H4.out (by trivial) (by trivial) _).mono ?_
      rintro er2 wr2 ⟨rfl, h⟩
      have h' := ((Below.refl v1.heap.size v1).alloc (Nat.le_refl _) _).trans (h.mono (by simp))
      have T2 := keep_p3 S1' h'
      clear c0_0 c0_1 c0_2 c0_3 c0_4 c1_0 c1_1 c1_2 c2_0 c2_1 c2_2 l0 l1 l2 z0 z1 z2 lg hB
      clear S1' h h'
      obtain ⟨c0_0, c0_1, c0_2, c0_3, c0_4, c1_0, c1_1, c1_2, c2_0, c2_1, c2_2, l0, l1, l2, z0, z1, z2, lg, hB⟩ := id T2
      have S2' := set_p3_2 T2 false
      go_wp2_with fail
      generalize wr2.setCell { block := g, off := 2 } (Value.bool false) = v2 at *
      clear c0_0 c0_1 c0_2 c0_3 c0_4 c1_0 c1_1 c1_2 c2_0 c2_1 c2_2 l0 l1 l2 z0 z1 z2 lg hB T2
      obtain ⟨c0_0, c0_1, c0_2, c0_3, c0_4, c1_0, c1_1, c1_2, c2_0, c2_1, c2_2, l0, l1, l2, z0, z1, z2, lg, hB⟩ := id S2'
      rw [rounds_succ]
      go_wp2_with fail
      go_region
      · generalize hV : ((v2.alloc (.cells #[.string (bs d.name), .int .u8 d.op, .int .i64 d.evr.epoch, .string (bs d.evr.ver), .string (bs d.evr.rel)] 25)).alloc (.cells #[.string (bs d.name), .int .u8 d.op, .int .i64 d.evr.epoch, .string (bs d.evr.ver), .string (bs d.evr.rel)] 25)).drew = V at *
        obtain ⟨m, hm⟩ : ∃ m, m = v2.heap.size := ⟨_, rfl⟩
        obtain ⟨q, hq⟩ : ∃ q, q = v2.heap.size + 1 := ⟨_, rfl⟩
        obtain ⟨SY, k1, k2, d1, d2, d4, d5, d3⟩ := twop_0 S2' hV hm hq
        have SX := set_p5 SY d1 d2 d4 d5 d3
        rw [← hq, ← hm]
        clear c0_0 c0_1 c0_2 c0_3 c0_4 c1_0 c1_1 c1_2 c2_0 c2_1 c2_2 l0 l1 l2 z0 z1 z2 lg hB S2' hV hm hq
        have SYh := Lib.hid SY
        obtain ⟨yc0_0, yc0_1, yc0_2, yc0_3, yc0_4, yc1_0, yc1_1, yc1_2, yc2_0, yc2_1, yc2_2, yc3_0, yc3_1, yc3_2, yc3_3, yc3_4, yc4_0, yc4_1, yc4_2, yc4_3, yc4_4, yl0, yl1, yl2, yl3, yl4, yhB⟩ := SY
        go_wp2_with fail
        generalize (V.setCell { block := m, off := 1 } (Value.int IntKind.u8 3)).setCell { block := q, off := 1 } (Value.int IntKind.u8 6) = U at *
        clear SYh k1 k2 yc0_0 yc0_1 yc0_2 yc0_3 yc0_4 yc1_0 yc1_1 yc1_2 yc2_0 yc2_1 yc2_2 yc3_0 yc3_1 yc3_2 yc3_3 yc3_4 yc4_0 yc4_1 yc4_2 yc4_3 yc4_4 yl0 yl1 yl2 yl3 yl4 yhB
        obtain ⟨c0_0, c0_1, c0_2, c0_3, c0_4, c1_0, c1_1, c1_2, c2_0, c2_1, c2_2, c3_0, c3_1, c3_2, c3_3, c3_4, c4_0, c4_1, c4_2, c4_3, c4_4, l0, l1, l2, l3, l4, hB⟩ := id SX
        refine wp_region_held_drew (S := fun W => W.cell? ⟨n, 0, none⟩ = some (.string (bs d.name)) ∧ W.cell? ⟨n, 1, none⟩ = some (.int .u8 d.op) ∧ W.cell? ⟨n, 2, none⟩ = some (.int .i64 d.evr.epoch) ∧ W.cell? ⟨n, 3, none⟩ = some (.string (bs d.evr.ver)) ∧ W.cell? ⟨n, 4, none⟩ = some (.string (bs d.evr.rel)) ∧ W.cell? ⟨n + 1, 0, none⟩ = some (.int .i64 e.epoch) ∧ W.cell? ⟨n + 1, 1, none⟩ = some (.string (bs e.ver)) ∧ W.cell? ⟨n + 1, 2, none⟩ = some (.string (bs e.rel)) ∧ W.cell? ⟨g, 0, none⟩ = some (.bool true) ∧ W.cell? ⟨g, 1, none⟩ = some (.bool false) ∧ W.cell? ⟨g, 2, none⟩ = some (.bool false) ∧ W.cell? ⟨m, 0, none⟩ = some (.string (bs d.name)) ∧ W.cell? ⟨m, 1, none⟩ = some (.int .u8 3) ∧ W.cell? ⟨m, 2, none⟩ = some (.int .i64 d.evr.epoch) ∧ W.cell? ⟨m, 3, none⟩ = some (.string (bs d.evr.ver)) ∧ W.cell? ⟨m, 4, none⟩ = some (.string (bs d.evr.rel)) ∧ W.cell? ⟨q, 0, none⟩ = some (.string (bs d.name)) ∧ W.cell? ⟨q, 1, none⟩ = some (.int .u8 6) ∧ W.cell? ⟨q, 2, none⟩ = some (.int .i64 d.evr.epoch) ∧ W.cell? ⟨q, 3, none⟩ = some (.string (bs d.evr.ver)) ∧ W.cell? ⟨q, 4, none⟩ = some (.string (bs d.evr.rel)) ∧ n < W.heap.size ∧ n + 1 < W.heap.size ∧ g < W.heap.size ∧ m < W.heap.size ∧ q < W.heap.size ∧ Below n w W) (by kernel_rfl) (by exact ⟨c0_0, c0_1, c0_2, c0_3, c0_4, c1_0, c1_1, c1_2, c2_0, c2_1, c2_2, c3_0, c3_1, c3_2, c3_3, c3_4, c4_0, c4_1, c4_2, c4_3, c4_4, l0, l1, l2, l3, l4, hB.drew⟩) (fun hHeld => ?_)
        refine held_take 0 (some 45) ?_ rfl rfl (by kernel_rfl) (by kernel_rfl) (by kernel_rfl) (fun _ _ _ h => h) (by assumption) (by rfl) ?_ ?_
        rotate_left
        · intro w hSw
          try dsimp only at hSw
          try simp only [List.getElem_toArray, List.getElem_cons_succ, List.getElem_cons_zero]
          go_simp
          try with_reducible rfl
        try simp only [Act.put, List.setIfInBounds_toArray, List.set_cons_zero, List.set_cons_succ]
        refine held_take 1 (some 46) ?_ rfl rfl (by kernel_rfl) (by kernel_rfl) (by kernel_rfl) (fun _ _ _ h => h) (by assumption) (by rfl) ?_ ?_
        rotate_left
        · intro w hSw
          try dsimp only at hSw
          try simp only [List.getElem_toArray, List.getElem_cons_succ, List.getElem_cons_zero]
          go_simp
          try with_reducible rfl
        try simp only [Act.put, List.setIfInBounds_toArray, List.set_cons_zero, List.set_cons_succ]
        refine held_take 2 (some 47) ?_ rfl rfl (by kernel_rfl) (by kernel_rfl) (by kernel_rfl) (fun _ _ _ h => h) (by assumption) (by rfl) ?_ ?_
        rotate_left
        · intro w hSw
          try dsimp only at hSw
          try simp only [List.getElem_toArray, List.getElem_cons_succ, List.getElem_cons_zero]
          go_simp
          try with_reducible rfl
        try simp only [Act.put, List.setIfInBounds_toArray, List.set_cons_zero, List.set_cons_succ]
        refine held_take 3 (some 48) ?_ rfl rfl (by kernel_rfl) (by kernel_rfl) (by kernel_rfl) (fun _ _ _ h => h) (by assumption) (by rfl) ?_ ?_
        rotate_left
        · intro w hSw
          try dsimp only at hSw
          try simp only [List.getElem_toArray, List.getElem_cons_succ, List.getElem_cons_zero]
          go_simp
          try with_reducible rfl
        try simp only [Act.put, List.setIfInBounds_toArray, List.set_cons_zero, List.set_cons_succ]
        refine held_take 4 (some 49) ?_ rfl rfl (by kernel_rfl) (by kernel_rfl) (by kernel_rfl) (fun _ _ _ h => h) (by assumption) (by rfl) ?_ ?_
        rotate_left
        · intro w hSw
          try dsimp only at hSw
          try simp only [List.getElem_toArray, List.getElem_cons_succ, List.getElem_cons_zero]
          go_simp
          try with_reducible rfl
        try simp only [Act.put, List.setIfInBounds_toArray, List.set_cons_zero, List.set_cons_succ]
        refine held_take 6 (some 51) ?_ rfl rfl (by kernel_rfl) (by kernel_rfl) (by kernel_rfl) (fun _ _ _ h => h) (by assumption) (by rfl) ?_ ?_
        rotate_left
        · intro w hSw
          try dsimp only at hSw
          try simp only [List.getElem_toArray, List.getElem_cons_succ, List.getElem_cons_zero]
          go_simp
          try with_reducible rfl
        try simp only [Act.put, List.setIfInBounds_toArray, List.set_cons_zero, List.set_cons_succ]
        refine held_take 7 (some 52) ?_ rfl rfl (by kernel_rfl) (by kernel_rfl) (by kernel_rfl) (fun _ _ _ h => h) (by assumption) (by rfl) ?_ ?_
        rotate_left
        · intro w hSw
          try dsimp only at hSw
          try simp only [List.getElem_toArray, List.getElem_cons_succ, List.getElem_cons_zero]
          go_simp
          try with_reducible rfl
        try simp only [Act.put, List.setIfInBounds_toArray, List.set_cons_zero, List.set_cons_succ]
        refine wpAnyH_ready (rs := [5]) (by kernel_rfl) (by simp) ?_
        refine AllReadyH.cons rfl (fun K hK => ?_) AllReadyH.nil
        try simp only [List.getElem_toArray, List.getElem_cons_succ, List.getElem_cons_zero]
        go_simp
        (go_at_call 27; refine (H3.out (by trivial) (by trivial) _).mono ?_; rintro e' w' ⟨rfl, hbb⟩)
        refine hK.out _ _ (keep_p5 (by assumption) hbb) (fun hHeld => ?_)
        clear hK K
        try simp only [Act.put, List.setIfInBounds_toArray, List.set_cons_zero, List.set_cons_succ]
        refine held_take 8 (some 53) ?_ rfl rfl (by kernel_rfl) (by kernel_rfl) (by kernel_rfl) (fun _ _ _ h => h) (by assumption) (by rfl) ?_ ?_
        rotate_left
        · intro w hSw
          try dsimp only at hSw
          try simp only [List.getElem_toArray, List.getElem_cons_succ, List.getElem_cons_zero]
          go_simp
          try with_reducible rfl
        try simp only [Act.put, List.setIfInBounds_toArray, List.set_cons_zero, List.set_cons_succ]
        refine held_skip 9 (some 54) rfl rfl (by kernel_rfl) (by kernel_rfl) (by kernel_rfl) (fun _ _ _ h => h) (by assumption) (by rfl) ?_
        try simp only [Act.put, List.setIfInBounds_toArray, List.set_cons_zero, List.set_cons_succ]
        refine held_skip 10 (some 55) rfl rfl (by kernel_rfl) (by kernel_rfl) (by kernel_rfl) (fun _ _ _ h => h) (by assumption) (by rfl) ?_
        try simp only [Act.put, List.setIfInBounds_toArray, List.set_cons_zero, List.set_cons_succ]
        refine held_take 11 (some 56) ?_ rfl rfl (by kernel_rfl) (by kernel_rfl) (by kernel_rfl) (fun _ _ _ h => h) (by assumption) (by rfl) ?_ ?_
        rotate_left
        · intro w hSw
          try dsimp only at hSw
          try simp only [List.getElem_toArray, List.getElem_cons_succ, List.getElem_cons_zero]
          go_simp
          try with_reducible rfl
        try simp only [Act.put, List.setIfInBounds_toArray, List.set_cons_zero, List.set_cons_succ]
        refine held_take 12 (some 57) ?_ rfl rfl (by kernel_rfl) (by kernel_rfl) (by kernel_rfl) (fun _ _ _ h => h) (by assumption) (by rfl) ?_ ?_
        rotate_left
        · intro w hSw
          try dsimp only at hSw
          try simp only [List.getElem_toArray, List.getElem_cons_succ, List.getElem_cons_zero]
          go_simp
          try with_reducible rfl
        try simp only [Act.put, List.setIfInBounds_toArray, List.set_cons_zero, List.set_cons_succ]
        refine held_take 13 (some 58) ?_ rfl rfl (by kernel_rfl) (by kernel_rfl) (by kernel_rfl) (fun _ _ _ h => h) (by assumption) (by rfl) ?_ ?_
        rotate_left
        · intro w hSw
          try dsimp only at hSw
          try simp only [List.getElem_toArray, List.getElem_cons_succ, List.getElem_cons_zero]
          go_simp
          try with_reducible rfl
        try simp only [Act.put, List.setIfInBounds_toArray, List.set_cons_zero, List.set_cons_succ]
        refine held_take 14 (some 59) ?_ rfl rfl (by kernel_rfl) (by kernel_rfl) (by kernel_rfl) (fun _ _ _ h => h) (by assumption) (by rfl) ?_ ?_
        rotate_left
        · intro w hSw
          try dsimp only at hSw
          try simp only [List.getElem_toArray, List.getElem_cons_succ, List.getElem_cons_zero]
          go_simp
          try with_reducible rfl
        try simp only [Act.put, List.setIfInBounds_toArray, List.set_cons_zero, List.set_cons_succ]
        refine held_take 15 (some 60) ?_ rfl rfl (by kernel_rfl) (by kernel_rfl) (by kernel_rfl) (fun _ _ _ h => h) (by assumption) (by rfl) ?_ ?_
        rotate_left
        · intro w hSw
          try dsimp only at hSw
          try simp only [List.getElem_toArray, List.getElem_cons_succ, List.getElem_cons_zero]
          go_simp
          try with_reducible rfl
        try simp only [Act.put, List.setIfInBounds_toArray, List.set_cons_zero, List.set_cons_succ]
        refine held_take 16 (some 61) ?_ rfl rfl (by kernel_rfl) (by kernel_rfl) (by kernel_rfl) (fun _ _ _ h => h) (by assumption) (by rfl) ?_ ?_
        rotate_left
        · intro w hSw
          try dsimp only at hSw
          try simp only [List.getElem_toArray, List.getElem_cons_succ, List.getElem_cons_zero]
          go_simp
          try with_reducible rfl
        try simp only [Act.put, List.setIfInBounds_toArray, List.set_cons_zero, List.set_cons_succ]
        refine held_take 18 (some 63) ?_ rfl rfl (by kernel_rfl) (by kernel_rfl) (by kernel_rfl) (fun _ _ _ h => h) (by assumption) (by rfl) ?_ ?_
        rotate_left
        · intro w hSw
          try dsimp only at hSw
          try simp only [List.getElem_toArray, List.getElem_cons_succ, List.getElem_cons_zero]
          go_simp
          try with_reducible rfl
        try simp only [Act.put, List.setIfInBounds_toArray, List.set_cons_zero, List.set_cons_succ]
        refine held_take 19 (some 64) ?_ rfl rfl (by kernel_rfl) (by kernel_rfl) (by kernel_rfl) (fun _ _ _ h => h) (by assumption) (by rfl) ?_ ?_
        rotate_left
        · intro w hSw
          try dsimp only at hSw
          try simp only [List.getElem_toArray, List.getElem_cons_succ, List.getElem_cons_zero]
          go_simp
          try with_reducible rfl
        try simp only [Act.put, List.setIfInBounds_toArray, List.set_cons_zero, List.set_cons_succ]
        refine wpAnyH_ready (rs := [17]) (by kernel_rfl) (by simp) ?_
        refine AllReadyH.cons rfl (fun K hK => ?_) AllReadyH.nil
        try simp only [List.getElem_toArray, List.getElem_cons_succ, List.getElem_cons_zero]
        go_simp
        (go_at_call 27; refine (H6.out (by trivial) (by trivial) _).mono ?_; rintro e' w' ⟨rfl, hbb⟩)
        refine hK.out _ _ (keep_p5 (by assumption) hbb) (fun hHeld => ?_)
        clear hK K
        try simp only [Act.put, List.setIfInBounds_toArray, List.set_cons_zero, List.set_cons_succ]
        refine held_take 20 (some 65) ?_ rfl rfl (by kernel_rfl) (by kernel_rfl) (by kernel_rfl) (fun _ _ _ h => h) (by assumption) (by rfl) ?_ ?_
        rotate_left
        · intro w hSw
          try dsimp only at hSw
          try simp only [List.getElem_toArray, List.getElem_cons_succ, List.getElem_cons_zero]
          go_simp
          try with_reducible rfl
        try simp only [Act.put, List.setIfInBounds_toArray, List.set_cons_zero, List.set_cons_succ]
        refine held_take 21 (some 66) ?_ rfl rfl (by kernel_rfl) (by kernel_rfl) (by kernel_rfl) (fun _ _ _ h => h) (by assumption) (by rfl) ?_ ?_
        rotate_left
        · intro w hSw
          try dsimp only at hSw
          try simp only [List.getElem_toArray, List.getElem_cons_succ, List.getElem_cons_zero]
          go_simp
          try with_reducible rfl
        try simp only [Act.put, List.setIfInBounds_toArray, List.set_cons_zero, List.set_cons_succ]
        refine held_take 22 (some 67) ?_ rfl rfl (by kernel_rfl) (by kernel_rfl) (by kernel_rfl) (fun _ _ _ h => h) (by assumption) (by rfl) ?_ ?_
        rotate_left
        · intro w hSw
          try dsimp only at hSw
          try simp only [List.getElem_toArray, List.getElem_cons_succ, List.getElem_cons_zero]
          go_simp
          try with_reducible rfl
        try simp only [Act.put, List.setIfInBounds_toArray, List.set_cons_zero, List.set_cons_succ]
        refine held_take 23 (some 68) ?_ rfl rfl (by kernel_rfl) (by kernel_rfl) (by kernel_rfl) (fun _ _ _ h => h) (by assumption) (by rfl) ?_ ?_
        rotate_left
        · intro w hSw
          try dsimp only at hSw
          try simp only [List.getElem_toArray, List.getElem_cons_succ, List.getElem_cons_zero]
          go_simp
          try with_reducible rfl
        try simp only [Act.put, List.setIfInBounds_toArray, List.set_cons_zero, List.set_cons_succ]
        refine held_take 24 (some 69) ?_ rfl rfl (by kernel_rfl) (by kernel_rfl) (by kernel_rfl) (fun _ _ _ h => h) (by assumption) (by rfl) ?_ ?_
        rotate_left
        · intro w hSw
          try dsimp only at hSw
          try simp only [List.getElem_toArray, List.getElem_cons_succ, List.getElem_cons_zero]
          go_simp
          try with_reducible rfl
        try simp only [Act.put, List.setIfInBounds_toArray, List.set_cons_zero, List.set_cons_succ]
        refine held_take 25 (some 70) ?_ rfl rfl (by kernel_rfl) (by kernel_rfl) (by kernel_rfl) (fun _ _ _ h => h) (by assumption) (by rfl) ?_ ?_
        rotate_left
        · intro w hSw
          try dsimp only at hSw
          try simp only [List.getElem_toArray, List.getElem_cons_succ, List.getElem_cons_zero]
          go_simp
          try with_reducible rfl
        try simp only [Act.put, List.setIfInBounds_toArray, List.set_cons_zero, List.set_cons_succ]
        refine held_take 26 (some 71) ?_ rfl rfl (by kernel_rfl) (by kernel_rfl) (by kernel_rfl) (fun _ _ _ h => h) (by assumption) (by rfl) ?_ ?_
        rotate_left
        · intro w hSw
          try dsimp only at hSw
          try simp only [List.getElem_toArray, List.getElem_cons_succ, List.getElem_cons_zero]
          go_simp
          try with_reducible rfl
        try simp only [Act.put, List.setIfInBounds_toArray, List.set_cons_zero, List.set_cons_succ]
        refine held_take 27 (some 72) ?_ rfl rfl (by kernel_rfl) (by kernel_rfl) (by kernel_rfl) (fun _ _ _ h => h) (by assumption) (by rfl) ?_ ?_
        rotate_left
        · intro w hSw
          try dsimp only at hSw
          try simp only [List.getElem_toArray, List.getElem_cons_succ, List.getElem_cons_zero]
          go_simp
          try with_reducible rfl
        try simp only [Act.put, List.setIfInBounds_toArray, List.set_cons_zero, List.set_cons_succ]
        refine held_take 28 (some 73) ?_ rfl rfl (by kernel_rfl) (by kernel_rfl) (by kernel_rfl) (fun _ _ _ h => h) (by assumption) (by rfl) ?_ ?_
        rotate_left
        · intro w hSw
          try dsimp only at hSw
          try simp only [List.getElem_toArray, List.getElem_cons_succ, List.getElem_cons_zero]
          go_simp
          try with_reducible rfl
        try simp only [Act.put, List.setIfInBounds_toArray, List.set_cons_zero, List.set_cons_succ]
        refine held_take 29 (some 74) ?_ rfl rfl (by kernel_rfl) (by kernel_rfl) (by kernel_rfl) (fun _ _ _ h => h) (by assumption) (by rfl) ?_ ?_
        rotate_left
        · intro w hSw
          try dsimp only at hSw
          try simp only [List.getElem_toArray, List.getElem_cons_succ, List.getElem_cons_zero]
          go_simp
          try with_reducible rfl
        try simp only [Act.put, List.setIfInBounds_toArray, List.set_cons_zero, List.set_cons_succ]
        refine held_take 30 (some 75) ?_ rfl rfl (by kernel_rfl) (by kernel_rfl) (by kernel_rfl) (fun _ _ _ h => h) (by assumption) (by rfl) ?_ ?_
        rotate_left
        · intro w hSw
          try dsimp only at hSw
          try simp only [List.getElem_toArray, List.getElem_cons_succ, List.getElem_cons_zero]
          go_simp
          try with_reducible rfl
        try simp only [Act.put, List.setIfInBounds_toArray, List.set_cons_zero, List.set_cons_succ]
        refine held_take 31 (some 76) ?_ rfl rfl (by kernel_rfl) (by kernel_rfl) (by kernel_rfl) (fun _ _ _ h => h) (by assumption) (by rfl) ?_ ?_
        rotate_left
        · intro w hSw
          try dsimp only at hSw
          try simp only [List.getElem_toArray, List.getElem_cons_succ, List.getElem_cons_zero]
          go_simp
          try with_reducible rfl
        try simp only [Act.put, List.setIfInBounds_toArray, List.set_cons_zero, List.set_cons_succ]
        refine wpAnyH_ready (rs := [32]) (by kernel_rfl) (by simp) ?_
        refine AllReadyH.cons rfl (fun K hK => ?_) AllReadyH.nil
        try simp only [List.getElem_toArray, List.getElem_cons_succ, List.getElem_cons_zero]
        go_simp
        (go_at_call 29; refine (EC.out (by trivial) (by trivial) _).mono ?_; rintro e' w' ⟨rfl, hbb⟩)
        refine hK.out _ _ (keep_p5 (by assumption) hbb) (fun hHeld => ?_)
        clear hK K
        try simp only [Act.put, List.setIfInBounds_toArray, List.set_cons_zero, List.set_cons_succ]
        refine held_take 33 (some 78) ?_ rfl rfl (by kernel_rfl) (by kernel_rfl) (by kernel_rfl) (fun _ _ _ h => h) (by assumption) (by rfl) ?_ ?_
        rotate_left
        · intro w hSw
          try dsimp only at hSw
          try simp only [List.getElem_toArray, List.getElem_cons_succ, List.getElem_cons_zero]
          go_simp
          try with_reducible rfl
        try simp only [Act.put, List.setIfInBounds_toArray, List.set_cons_zero, List.set_cons_succ]
        refine held_take 34 (some 79) ?_ rfl rfl (by kernel_rfl) (by kernel_rfl) (by kernel_rfl) (fun _ _ _ h => h) (by assumption) (by rfl) ?_ ?_
        rotate_left
        · intro w hSw
          try dsimp only at hSw
          try simp only [List.getElem_toArray, List.getElem_cons_succ, List.getElem_cons_zero]
          go_simp
          try with_reducible rfl
        try simp only [Act.put, List.setIfInBounds_toArray, List.set_cons_zero, List.set_cons_succ]
        refine held_take 35 (some 80) ?_ rfl rfl (by kernel_rfl) (by kernel_rfl) (by kernel_rfl) (fun _ _ _ h => h) (by assumption) (by rfl) ?_ ?_
        rotate_left
        · intro w hSw
          try dsimp only at hSw
          try simp only [List.getElem_toArray, List.getElem_cons_succ, List.getElem_cons_zero]
          go_simp
          try with_reducible rfl
        try simp only [Act.put, List.setIfInBounds_toArray, List.set_cons_zero, List.set_cons_succ]
        refine held_take 36 (some 4) ?_ rfl rfl (by kernel_rfl) (by kernel_rfl) (by kernel_rfl) (fun _ _ _ h => h) (by assumption) (by rfl) ?_ ?_
        rotate_left
        · intro w hSw
          try dsimp only at hSw
          try simp only [List.getElem_toArray, List.getElem_cons_succ, List.getElem_cons_zero]
          go_simp
          try with_reducible rfl
        try simp only [Act.put, List.setIfInBounds_toArray, List.set_cons_zero, List.set_cons_succ]
        refine wpAnyH_done (by kernel_rfl) ?_ _
        have hh := hHeld
        go_wp2
        go_ret
        exact ⟨rfl, by rw [hn]; exact tail_p5 hh⟩
      · generalize hV : ((v2.alloc (.cells #[.string (bs d.name), .int .u8 d.op, .int .i64 d.evr.epoch, .string (bs d.evr.ver), .string (bs d.evr.rel)] 25)).alloc (.cells #[.string (bs d.name), .int .u8 d.op, .int .i64 d.evr.epoch, .string (bs d.evr.ver), .string (bs d.evr.rel)] 25)).drew = V at *
        obtain ⟨m, hm⟩ : ∃ m, m = v2.heap.size + 1 := ⟨_, rfl⟩
        obtain ⟨q, hq⟩ : ∃ q, q = v2.heap.size := ⟨_, rfl⟩
        obtain ⟨SY, k1, k2, d1, d2, d4, d5, d3⟩ := twop_1 S2' hV hm hq
        have SX := set_p5 SY d1 d2 d4 d5 d3
        rw [← hm, ← hq]
        clear c0_0 c0_1 c0_2 c0_3 c0_4 c1_0 c1_1 c1_2 c2_0 c2_1 c2_2 l0 l1 l2 z0 z1 z2 lg hB S2' hV hm hq
        have SYh := Lib.hid SY
        obtain ⟨yc0_0, yc0_1, yc0_2, yc0_3, yc0_4, yc1_0, yc1_1, yc1_2, yc2_0, yc2_1, yc2_2, yc3_0, yc3_1, yc3_2, yc3_3, yc3_4, yc4_0, yc4_1, yc4_2, yc4_3, yc4_4, yl0, yl1, yl2, yl3, yl4, yhB⟩ := SY
        go_wp2_with fail
        generalize (V.setCell { block := m, off := 1 } (Value.int IntKind.u8 3)).setCell { block := q, off := 1 } (Value.int IntKind.u8 6) = U at *
        clear SYh k1 k2 yc0_0 yc0_1 yc0_2 yc0_3 yc0_4 yc1_0 yc1_1 yc1_2 yc2_0 yc2_1 yc2_2 yc3_0 yc3_1 yc3_2 yc3_3 yc3_4 yc4_0 yc4_1 yc4_2 yc4_3 yc4_4 yl0 yl1 yl2 yl3 yl4 yhB
        obtain ⟨c0_0, c0_1, c0_2, c0_3, c0_4, c1_0, c1_1, c1_2, c2_0, c2_1, c2_2, c3_0, c3_1, c3_2, c3_3, c3_4, c4_0, c4_1, c4_2, c4_3, c4_4, l0, l1, l2, l3, l4, hB⟩ := id SX
        refine wp_region_held_drew (S := fun W => W.cell? ⟨n, 0, none⟩ = some (.string (bs d.name)) ∧ W.cell? ⟨n, 1, none⟩ = some (.int .u8 d.op) ∧ W.cell? ⟨n, 2, none⟩ = some (.int .i64 d.evr.epoch) ∧ W.cell? ⟨n, 3, none⟩ = some (.string (bs d.evr.ver)) ∧ W.cell? ⟨n, 4, none⟩ = some (.string (bs d.evr.rel)) ∧ W.cell? ⟨n + 1, 0, none⟩ = some (.int .i64 e.epoch) ∧ W.cell? ⟨n + 1, 1, none⟩ = some (.string (bs e.ver)) ∧ W.cell? ⟨n + 1, 2, none⟩ = some (.string (bs e.rel)) ∧ W.cell? ⟨g, 0, none⟩ = some (.bool true) ∧ W.cell? ⟨g, 1, none⟩ = some (.bool false) ∧ W.cell? ⟨g, 2, none⟩ = some (.bool false) ∧ W.cell? ⟨m, 0, none⟩ = some (.string (bs d.name)) ∧ W.cell? ⟨m, 1, none⟩ = some (.int .u8 3) ∧ W.cell? ⟨m, 2, none⟩ = some (.int .i64 d.evr.epoch) ∧ W.cell? ⟨m, 3, none⟩ = some (.string (bs d.evr.ver)) ∧ W.cell? ⟨m, 4, none⟩ = some (.string (bs d.evr.rel)) ∧ W.cell? ⟨q, 0, none⟩ = some (.string (bs d.name)) ∧ W.cell? ⟨q, 1, none⟩ = some (.int .u8 6) ∧ W.cell? ⟨q, 2, none⟩ = some (.int .i64 d.evr.epoch) ∧ W.cell? ⟨q, 3, none⟩ = some (.string (bs d.evr.ver)) ∧ W.cell? ⟨q, 4, none⟩ = some (.string (bs d.evr.rel)) ∧ n < W.heap.size ∧ n + 1 < W.heap.size ∧ g < W.heap.size ∧ m < W.heap.size ∧ q < W.heap.size ∧ Below n w W) (by kernel_rfl) (by exact ⟨c0_0, c0_1, c0_2, c0_3, c0_4, c1_0, c1_1, c1_2, c2_0, c2_1, c2_2, c3_0, c3_1, c3_2, c3_3, c3_4, c4_0, c4_1, c4_2, c4_3, c4_4, l0, l1, l2, l3, l4, hB.drew⟩) (fun hHeld => ?_)
        refine held_take 0 (some 45) ?_ rfl rfl (by kernel_rfl) (by kernel_rfl) (by kernel_rfl) (fun _ _ _ h => h) (by assumption) (by rfl) ?_ ?_
        rotate_left
        · intro w hSw
          try dsimp only at hSw
          try simp only [List.getElem_toArray, List.getElem_cons_succ, List.getElem_cons_zero]
          go_simp
          try with_reducible rfl
        try simp only [Act.put, List.setIfInBounds_toArray, List.set_cons_zero, List.set_cons_succ]
        refine held_take 1 (some 46) ?_ rfl rfl (by kernel_rfl) (by kernel_rfl) (by kernel_rfl) (fun _ _ _ h => h) (by assumption) (by rfl) ?_ ?_
        rotate_left
        · intro w hSw
          try dsimp only at hSw
          try simp only [List.getElem_toArray, List.getElem_cons_succ, List.getElem_cons_zero]
          go_simp
          try with_reducible rfl
        try simp only [Act.put, List.setIfInBounds_toArray, List.set_cons_zero, List.set_cons_succ]
        refine held_take 2 (some 47) ?_ rfl rfl (by kernel_rfl) (by kernel_rfl) (by kernel_rfl) (fun _ _ _ h => h) (by assumption) (by rfl) ?_ ?_
        rotate_left
        · intro w hSw
          try dsimp only at hSw
          try simp only [List.getElem_toArray, List.getElem_cons_succ, List.getElem_cons_zero]
          go_simp
          try with_reducible rfl
        try simp only [Act.put, List.setIfInBounds_toArray, List.set_cons_zero, List.set_cons_succ]
        refine held_take 3 (some 48) ?_ rfl rfl (by kernel_rfl) (by kernel_rfl) (by kernel_rfl) (fun _ _ _ h => h) (by assumption) (by rfl) ?_ ?_
        rotate_left
        · intro w hSw
          try dsimp only at hSw
          try simp only [List.getElem_toArray, List.getElem_cons_succ, List.getElem_cons_zero]
          go_simp
          try with_reducible rfl
        try simp only [Act.put, List.setIfInBounds_toArray, List.set_cons_zero, List.set_cons_succ]
        refine held_take 4 (some 49) ?_ rfl rfl (by kernel_rfl) (by kernel_rfl) (by kernel_rfl) (fun _ _ _ h => h) (by assumption) (by rfl) ?_ ?_
        rotate_left
        · intro w hSw
          try dsimp only at hSw
          try simp only [List.getElem_toArray, List.getElem_cons_succ, List.getElem_cons_zero]
          go_simp
          try with_reducible rfl
        try simp only [Act.put, List.setIfInBounds_toArray, List.set_cons_zero, List.set_cons_succ]
        refine held_take 6 (some 51) ?_ rfl rfl (by kernel_rfl) (by kernel_rfl) (by kernel_rfl) (fun _ _ _ h => h) (by assumption) (by rfl) ?_ ?_
        rotate_left
        · intro w hSw
          try dsimp only at hSw
          try simp only [List.getElem_toArray, List.getElem_cons_succ, List.getElem_cons_zero]
          go_simp
          try with_reducible rfl
        try simp only [Act.put, List.setIfInBounds_toArray, List.set_cons_zero, List.set_cons_succ]
        refine held_take 7 (some 52) ?_ rfl rfl (by kernel_rfl) (by kernel_rfl) (by kernel_rfl) (fun _ _ _ h => h) (by assumption) (by rfl) ?_ ?_
        rotate_left
        · intro w hSw
          try dsimp only at hSw
          try simp only [List.getElem_toArray, List.getElem_cons_succ, List.getElem_cons_zero]
          go_simp
          try with_reducible rfl
        try simp only [Act.put, List.setIfInBounds_toArray, List.set_cons_zero, List.set_cons_succ]
        refine wpAnyH_ready (rs := [5]) (by kernel_rfl) (by simp) ?_
        refine AllReadyH.cons rfl (fun K hK => ?_) AllReadyH.nil
        try simp only [List.getElem_toArray, List.getElem_cons_succ, List.getElem_cons_zero]
        go_simp
        (go_at_call 27; refine (H3.out (by trivial) (by trivial) _).mono ?_; rintro e' w' ⟨rfl, hbb⟩)
        refine hK.out _ _ (keep_p5 (by assumption) hbb) (fun hHeld => ?_)
        clear hK K
        try simp only [Act.put, List.setIfInBounds_toArray, List.set_cons_zero, List.set_cons_succ]
        refine held_take 8 (some 53) ?_ rfl rfl (by kernel_rfl) (by kernel_rfl) (by kernel_rfl) (fun _ _ _ h => h) (by assumption) (by rfl) ?_ ?_
        rotate_left
        · intro w hSw
          try dsimp only at hSw
          try simp only [List.getElem_toArray, List.getElem_cons_succ, List.getElem_cons_zero]
          go_simp
          try with_reducible rfl
        try simp only [Act.put, List.setIfInBounds_toArray, List.set_cons_zero, List.set_cons_succ]
        refine held_skip 9 (some 54) rfl rfl (by kernel_rfl) (by kernel_rfl) (by kernel_rfl) (fun _ _ _ h => h) (by assumption) (by rfl) ?_
        try simp only [Act.put, List.setIfInBounds_toArray, List.set_cons_zero, List.set_cons_succ]
        refine held_skip 10 (some 55) rfl rfl (by kernel_rfl) (by kernel_rfl) (by kernel_rfl) (fun _ _ _ h => h) (by assumption) (by rfl) ?_
        try simp only [Act.put, List.setIfInBounds_toArray, List.set_cons_zero, List.set_cons_succ]
        refine held_take 11 (some 56) ?_ rfl rfl (by kernel_rfl) (by kernel_rfl) (by kernel_rfl) (fun _ _ _ h => h) (by assumption) (by rfl) ?_ ?_
        rotate_left
        · intro w hSw
          try dsimp only at hSw
          try simp only [List.getElem_toArray, List.getElem_cons_succ, List.getElem_cons_zero]
          go_simp
          try with_reducible rfl
        try simp only [Act.put, List.setIfInBounds_toArray, List.set_cons_zero, List.set_cons_succ]
        refine held_take 12 (some 57) ?_ rfl rfl (by kernel_rfl) (by kernel_rfl) (by kernel_rfl) (fun _ _ _ h => h) (by assumption) (by rfl) ?_ ?_
        rotate_left
        · intro w hSw
          try dsimp only at hSw
          try simp only [List.getElem_toArray, List.getElem_cons_succ, List.getElem_cons_zero]
          go_simp
          try with_reducible rfl
        try simp only [Act.put, List.setIfInBounds_toArray, List.set_cons_zero, List.set_cons_succ]
        refine held_take 13 (some 58) ?_ rfl rfl (by kernel_rfl) (by kernel_rfl) (by kernel_rfl) (fun _ _ _ h => h) (by assumption) (by rfl) ?_ ?_
        rotate_left
        · intro w hSw
          try dsimp only at hSw
          try simp only [List.getElem_toArray, List.getElem_cons_succ, List.getElem_cons_zero]
          go_simp
          try with_reducible rfl
        try simp only [Act.put, List.setIfInBounds_toArray, List.set_cons_zero, List.set_cons_succ]
        refine held_take 14 (some 59) ?_ rfl rfl (by kernel_rfl) (by kernel_rfl) (by kernel_rfl) (fun _ _ _ h => h) (by assumption) (by rfl) ?_ ?_
        rotate_left
        · intro w hSw
          try dsimp only at hSw
          try simp only [List.getElem_toArray, List.getElem_cons_succ, List.getElem_cons_zero]
          go_simp
          try with_reducible rfl
        try simp only [Act.put, List.setIfInBounds_toArray, List.set_cons_zero, List.set_cons_succ]
        refine held_take 15 (some 60) ?_ rfl rfl (by kernel_rfl) (by kernel_rfl) (by kernel_rfl) (fun _ _ _ h => h) (by assumption) (by rfl) ?_ ?_
        rotate_left
        · intro w hSw
          try dsimp only at hSw
          try simp only [List.getElem_toArray, List.getElem_cons_succ, List.getElem_cons_zero]
          go_simp
          try with_reducible rfl
        try simp only [Act.put, List.setIfInBounds_toArray, List.set_cons_zero, List.set_cons_succ]
        refine held_take 16 (some 61) ?_ rfl rfl (by kernel_rfl) (by kernel_rfl) (by kernel_rfl) (fun _ _ _ h => h) (by assumption) (by rfl) ?_ ?_
        rotate_left
        · intro w hSw
          try dsimp only at hSw
          try simp only [List.getElem_toArray, List.getElem_cons_succ, List.getElem_cons_zero]
          go_simp
          try with_reducible rfl
        try simp only [Act.put, List.setIfInBounds_toArray, List.set_cons_zero, List.set_cons_succ]
        refine held_take 18 (some 63) ?_ rfl rfl (by kernel_rfl) (by kernel_rfl) (by kernel_rfl) (fun _ _ _ h => h) (by assumption) (by rfl) ?_ ?_
        rotate_left
        · intro w hSw
          try dsimp only at hSw
          try simp only [List.getElem_toArray, List.getElem_cons_succ, List.getElem_cons_zero]
          go_simp
          try with_reducible rfl
        try simp only [Act.put, List.setIfInBounds_toArray, List.set_cons_zero, List.set_cons_succ]
        refine held_take 19 (some 64) ?_ rfl rfl (by kernel_rfl) (by kernel_rfl) (by kernel_rfl) (fun _ _ _ h => h) (by assumption) (by rfl) ?_ ?_
        rotate_left
        · intro w hSw
          try dsimp only at hSw
          try simp only [List.getElem_toArray, List.getElem_cons_succ, List.getElem_cons_zero]
          go_simp
          try with_reducible rfl
        try simp only [Act.put, List.setIfInBounds_toArray, List.set_cons_zero, List.set_cons_succ]
        refine wpAnyH_ready (rs := [17]) (by kernel_rfl) (by simp) ?_
        refine AllReadyH.cons rfl (fun K hK => ?_) AllReadyH.nil
        try simp only [List.getElem_toArray, List.getElem_cons_succ, List.getElem_cons_zero]
        go_simp
        (go_at_call 27; refine (H6.out (by trivial) (by trivial) _).mono ?_; rintro e' w' ⟨rfl, hbb⟩)
        refine hK.out _ _ (keep_p5 (by assumption) hbb) (fun hHeld => ?_)
        clear hK K
        try simp only [Act.put, List.setIfInBounds_toArray, List.set_cons_zero, List.set_cons_succ]
        refine held_take 20 (some 65) ?_ rfl rfl (by kernel_rfl) (by kernel_rfl) (by kernel_rfl) (fun _ _ _ h => h) (by assumption) (by rfl) ?_ ?_
        rotate_left
        · intro w hSw
          try dsimp only at hSw
          try simp only [List.getElem_toArray, List.getElem_cons_succ, List.getElem_cons_zero]
          go_simp
          try with_reducible rfl
        try simp only [Act.put, List.setIfInBounds_toArray, List.set_cons_zero, List.set_cons_succ]
        refine held_take 21 (some 66) ?_ rfl rfl (by kernel_rfl) (by kernel_rfl) (by kernel_rfl) (fun _ _ _ h => h) (by assumption) (by rfl) ?_ ?_
        rotate_left
        · intro w hSw
          try dsimp only at hSw
          try simp only [List.getElem_toArray, List.getElem_cons_succ, List.getElem_cons_zero]
          go_simp
          try with_reducible rfl
        try simp only [Act.put, List.setIfInBounds_toArray, List.set_cons_zero, List.set_cons_succ]
        refine held_take 22 (some 67) ?_ rfl rfl (by kernel_rfl) (by kernel_rfl) (by kernel_rfl) (fun _ _ _ h => h) (by assumption) (by rfl) ?_ ?_
        rotate_left
        · intro w hSw
          try dsimp only at hSw
          try simp only [List.getElem_toArray, List.getElem_cons_succ, List.getElem_cons_zero]
          go_simp
          try with_reducible rfl
        try simp only [Act.put, List.setIfInBounds_toArray, List.set_cons_zero, List.set_cons_succ]
        refine held_take 23 (some 68) ?_ rfl rfl (by kernel_rfl) (by kernel_rfl) (by kernel_rfl) (fun _ _ _ h => h) (by assumption) (by rfl) ?_ ?_
        rotate_left
        · intro w hSw
          try dsimp only at hSw
          try simp only [List.getElem_toArray, List.getElem_cons_succ, List.getElem_cons_zero]
          go_simp
          try with_reducible rfl
        try simp only [Act.put, List.setIfInBounds_toArray, List.set_cons_zero, List.set_cons_succ]
        refine held_take 24 (some 69) ?_ rfl rfl (by kernel_rfl) (by kernel_rfl) (by kernel_rfl) (fun _ _ _ h => h) (by assumption) (by rfl) ?_ ?_
        rotate_left
        · intro w hSw
          try dsimp only at hSw
          try simp only [List.getElem_toArray, List.getElem_cons_succ, List.getElem_cons_zero]
          go_simp
          try with_reducible rfl
        try simp only [Act.put, List.setIfInBounds_toArray, List.set_cons_zero, List.set_cons_succ]
        refine held_take 25 (some 70) ?_ rfl rfl (by kernel_rfl) (by kernel_rfl) (by kernel_rfl) (fun _ _ _ h => h) (by assumption) (by rfl) ?_ ?_
        rotate_left
        · intro w hSw
          try dsimp only at hSw
          try simp only [List.getElem_toArray, List.getElem_cons_succ, List.getElem_cons_zero]
          go_simp
          try with_reducible rfl
        try simp only [Act.put, List.setIfInBounds_toArray, List.set_cons_zero, List.set_cons_succ]
        refine held_take 26 (some 71) ?_ rfl rfl (by kernel_rfl) (by kernel_rfl) (by kernel_rfl) (fun _ _ _ h => h) (by assumption) (by rfl) ?_ ?_
        rotate_left
        · intro w hSw
          try dsimp only at hSw
          try simp only [List.getElem_toArray, List.getElem_cons_succ, List.getElem_cons_zero]
          go_simp
          try with_reducible rfl
        try simp only [Act.put, List.setIfInBounds_toArray, List.set_cons_zero, List.set_cons_succ]
        refine held_take 27 (some 72) ?_ rfl rfl (by kernel_rfl) (by kernel_rfl) (by kernel_rfl) (fun _ _ _ h => h) (by assumption) (by rfl) ?_ ?_
        rotate_left
        · intro w hSw
          try dsimp only at hSw
          try simp only [List.getElem_toArray, List.getElem_cons_succ, List.getElem_cons_zero]
          go_simp
          try with_reducible rfl
        try simp only [Act.put, List.setIfInBounds_toArray, List.set_cons_zero, List.set_cons_succ]
        refine held_take 28 (some 73) ?_ rfl rfl (by kernel_rfl) (by kernel_rfl) (by kernel_rfl) (fun _ _ _ h => h) (by assumption) (by rfl) ?_ ?_
        rotate_left
        · intro w hSw
          try dsimp only at hSw
          try simp only [List.getElem_toArray, List.getElem_cons_succ, List.getElem_cons_zero]
          go_simp
          try with_reducible rfl
        try simp only [Act.put, List.setIfInBounds_toArray, List.set_cons_zero, List.set_cons_succ]
        refine held_take 29 (some 74) ?_ rfl rfl (by kernel_rfl) (by kernel_rfl) (by kernel_rfl) (fun _ _ _ h => h) (by assumption) (by rfl) ?_ ?_
        rotate_left
        · intro w hSw
          try dsimp only at hSw
          try simp only [List.getElem_toArray, List.getElem_cons_succ, List.getElem_cons_zero]
          go_simp
          try with_reducible rfl
        try simp only [Act.put, List.setIfInBounds_toArray, List.set_cons_zero, List.set_cons_succ]
        refine held_take 30 (some 75) ?_ rfl rfl (by kernel_rfl) (by kernel_rfl) (by kernel_rfl) (fun _ _ _ h => h) (by assumption) (by rfl) ?_ ?_
        rotate_left
        · intro w hSw
          try dsimp only at hSw
          try simp only [List.getElem_toArray, List.getElem_cons_succ, List.getElem_cons_zero]
          go_simp
          try with_reducible rfl
        try simp only [Act.put, List.setIfInBounds_toArray, List.set_cons_zero, List.set_cons_succ]
        refine held_take 31 (some 76) ?_ rfl rfl (by kernel_rfl) (by kernel_rfl) (by kernel_rfl) (fun _ _ _ h => h) (by assumption) (by rfl) ?_ ?_
        rotate_left
        · intro w hSw
          try dsimp only at hSw
          try simp only [List.getElem_toArray, List.getElem_cons_succ, List.getElem_cons_zero]
          go_simp
          try with_reducible rfl
        try simp only [Act.put, List.setIfInBounds_toArray, List.set_cons_zero, List.set_cons_succ]
        refine wpAnyH_ready (rs := [32]) (by kernel_rfl) (by simp) ?_
        refine AllReadyH.cons rfl (fun K hK => ?_) AllReadyH.nil
        try simp only [List.getElem_toArray, List.getElem_cons_succ, List.getElem_cons_zero]
        go_simp
        (go_at_call 29; refine (EC.out (by trivial) (by trivial) _).mono ?_; rintro e' w' ⟨rfl, hbb⟩)
        refine hK.out _ _ (keep_p5 (by assumption) hbb) (fun hHeld => ?_)
        clear hK K
        try simp only [Act.put, List.setIfInBounds_toArray, List.set_cons_zero, List.set_cons_succ]
        refine held_take 33 (some 78) ?_ rfl rfl (by kernel_rfl) (by kernel_rfl) (by kernel_rfl) (fun _ _ _ h => h) (by assumption) (by rfl) ?_ ?_
        rotate_left
        · intro w hSw
          try dsimp only at hSw
          try simp only [List.getElem_toArray, List.getElem_cons_succ, List.getElem_cons_zero]
          go_simp
          try with_reducible rfl
        try simp only [Act.put, List.setIfInBounds_toArray, List.set_cons_zero, List.set_cons_succ]
        refine held_take 34 (some 79) ?_ rfl rfl (by kernel_rfl) (by kernel_rfl) (by kernel_rfl) (fun _ _ _ h => h) (by assumption) (by rfl) ?_ ?_
        rotate_left
        · intro w hSw
          try dsimp only at hSw
          try simp only [List.getElem_toArray, List.getElem_cons_succ, List.getElem_cons_zero]
          go_simp
          try with_reducible rfl
        try simp only [Act.put, List.setIfInBounds_toArray, List.set_cons_zero, List.set_cons_succ]
        refine held_take 35 (some 80) ?_ rfl rfl (by kernel_rfl) (by kernel_rfl) (by kernel_rfl) (fun _ _ _ h => h) (by assumption) (by rfl) ?_ ?_
        rotate_left
        · intro w hSw
          try dsimp only at hSw
          try simp only [List.getElem_toArray, List.getElem_cons_succ, List.getElem_cons_zero]
          go_simp
          try with_reducible rfl
        try simp only [Act.put, List.setIfInBounds_toArray, List.set_cons_zero, List.set_cons_succ]
        refine held_take 36 (some 4) ?_ rfl rfl (by kernel_rfl) (by kernel_rfl) (by kernel_rfl) (fun _ _ _ h => h) (by assumption) (by rfl) ?_ ?_
        rotate_left
        · intro w hSw
          try dsimp only at hSw
          try simp only [List.getElem_toArray, List.getElem_cons_succ, List.getElem_cons_zero]
          go_simp
          try with_reducible rfl
        try simp only [Act.put, List.setIfInBounds_toArray, List.set_cons_zero, List.set_cons_succ]
        refine wpAnyH_done (by kernel_rfl) ?_ _
        have hh := hHeld
        go_wp2
        go_ret
        exact ⟨rfl, by rw [hn]; exact tail_p5 hh⟩
set_option maxRecDepth 100000 in
set_option maxHeartbeats 16000000 in
theorem spanParted_eq (w : World) (hO : OpsIn w) (d : Dp) (wa : d.wf) (e : Evr) (we : e.wf) (hc : ecmp e d.evr = 0) : Calls Tryd.prog 7 #[d.val, e.val] w fun e w' => e = .returned (.bool true) ∧ Below w.heap.size w w' := by
  have LA := Lib.hid (fun W => long04 d.evr W ⟨wa.2.2.2.1, wa.2.2.2.2⟩)
  have LE := Lib.hid (fun W => long04 e W ⟨we.2.1, we.2.2⟩)
  have AW := Lib.hid (fun W (h : Below w.heap.size w W) => awake04 W (hO.below h))
  have S0 := new_p2 d e w
  dsimp only at S0
  have oa := Evr.ok_of d.evr
  have oe := Evr.ok_of e
  have H1 := Lib.hid (fun ha he W => has_k d e 1 (0) false W (oa ha) (oe he) (by decide) (by decide) hc (by decide +kernel))
  have H2 := Lib.hid (fun ha he W => has_k d e 2 (0) true W (oa ha) (oe he) (by decide) (by decide) hc (by decide +kernel))
  have H4 := Lib.hid (fun ha he W => has_k d e 4 (0) false W (oa ha) (oe he) (by decide) (by decide) hc (by decide +kernel))
  have H3 := Lib.hid (fun ha he W => has_k d e 3 (0) true W (oa ha) (oe he) (by decide) (by decide) hc (by decide +kernel))
  have H6 := Lib.hid (fun ha he W => has_k d e 6 (0) true W (oa ha) (oe he) (by decide) (by decide) hc (by decide +kernel))
  have EC := Lib.hid (fun ha he W => evr_k e d.evr (0) W (oe he) (oa ha) hc)
  clear oa oe wa we hO hc
  generalize longB d.evr = la at *
  generalize longB e = le at *
  unfold Evr.val at LA LE EC H1 H2 H4 H3 H6
  unfold Dp.val at H1 H2 H4 H3 H6
  dsimp only at H1 H2 H4 H3 H6
  unfold Dp.val Evr.val
  go_enter Tryd.func7, Tryd.ntmps7
  go_wp2_with fail
  go_at_call 23
  generalize ((w.alloc (.cells #[.string (bs d.name), .int .u8 d.op, .int .i64 d.evr.epoch, .string (bs d.evr.ver), .string (bs d.evr.rel)] 25)).alloc (.cells #[.int .i64 e.epoch, .string (bs e.ver), .string (bs e.rel)] 23)) = W at *
  generalize hn : w.heap.size = n at *
  obtain ⟨c0_0, c0_1, c0_2, c0_3, c0_4, c1_0, c1_1, c1_2, l0, l1, hB⟩ := id S0
  go_wp2_with fail
  go_at_call 23
  refine (LA.out _).mono ?_
  rintro e1 w1 ⟨rfl, h⟩
  have S1 := keep_p2 S0 h
  clear S0 h
  obtain ⟨c0_0, c0_1, c0_2, c0_3, c0_4, c1_0, c1_1, c1_2, l0, l1, hB⟩ := id S1
  cases la with
  | true =>
    go_wp2_with fail
    go_at_call 24
    refine (AW.out _ hB).mono ?_
    rintro e9 w9 ⟨rfl, h⟩
    go_wp2
    go_ret
    exact ⟨rfl, by rw [hn]; exact hB.trans (h.mono (by omega))⟩
  | false =>
    go_wp2_with fail
    go_at_call 23
    refine (LE.out _).mono ?_
    rintro e2 w2 ⟨rfl, h⟩
    have S2 := keep_p2 S1 h
    clear c0_0 c0_1 c0_2 c0_3 c0_4 c1_0 c1_1 c1_2 l0 l1 hB
    clear S1 h
    obtain ⟨c0_0, c0_1, c0_2, c0_3, c0_4, c1_0, c1_1, c1_2, l0, l1, hB⟩ := id S2
    cases le with
    | true =>
      go_wp2_with fail
      go_at_call 24
      refine (AW.out _ hB).mono ?_
      rintro e9 w9 ⟨rfl, h⟩
      go_wp2
      go_ret
      exact ⟨rfl, by rw [hn]; exact hB.trans (h.mono (by omega))⟩
    | false =>
      go_wp2_with fail
      go_at_call 24
      refine (AW.out _ hB).mono ?_
      rintro e3 w3 ⟨rfl, h⟩
      have S3 := keep_p2 S2 h
      clear c0_0 c0_1 c0_2 c0_3 c0_4 c1_0 c1_1 c1_2 l0 l1 hB
      clear S2 h
      obtain ⟨c0_0, c0_1, c0_2, c0_3, c0_4, c1_0, c1_1, c1_2, l0, l1, hB⟩ := id S3
      have SG := grow_p3 S3
      dsimp only at SG
      go_wp2_with fail
      generalize hV : w3.alloc (.cells #[.bool false, .bool false, .bool false] 34) = V at *
      generalize w3.heap.size = g at *
      clear c0_0 c0_1 c0_2 c0_3 c0_4 c1_0 c1_1 c1_2 l0 l1 hB S3 hV
      obtain ⟨c0_0, c0_1, c0_2, c0_3, c0_4, c1_0, c1_1, c1_2, c2_0, c2_1, c2_2, l0, l1, l2, z0, z1, z2, lg, hB⟩ := id SG
      refine wp_loop_rounds 4 ?_
      rw [rounds_succ]
      go_wp2_with fail
      go_at_call 27
      refine (H1.out (by trivial) (by trivial) _).mono ?_
      rintro er0 wr0 ⟨rfl, h⟩
      have h' := ((Below.refl V.heap.size V).alloc (Nat.le_refl _) _).trans (h.mono (by simp))
      have T0 := keep_p3 SG h'
      clear c0_0 c0_1 c0_2 c0_3 c0_4 c1_0 c1_1 c1_2 c2_0 c2_1 c2_2 l0 l1 l2 z0 z1 z2 lg hB
      clear SG h h'
      obtain ⟨c0_0, c0_1, c0_2, c0_3, c0_4, c1_0, c1_1, c1_2, c2_0, c2_1, c2_2, l0, l1, l2, z0, z1, z2, lg, hB⟩ := id T0
      have S0' := set_p3_0 T0 false
      go_wp2_with fail
      generalize wr0.setCell { block := g, off := 0 } (Value.bool false) = v0 at *
      clear c0_0 c0_1 c0_2 c0_3 c0_4 c1_0 c1_1 c1_2 c2_0 c2_1 c2_2 l0 l1 l2 z0 z1 z2 lg hB T0
      obtain ⟨c0_0, c0_1, c0_2, c0_3, c0_4, c1_0, c1_1, c1_2, c2_0, c2_1, c2_2, l0, l1, l2, z0, z1, z2, lg, hB⟩ := id S0'
      rw [rounds_succ]
      go_wp2_with fail
      go_at_call 27
      refine (H2.out (by trivial) (by trivial) _).mono ?_
      rintro er1 wr1 ⟨rfl, h⟩
      have h' := ((Below.refl v0.heap.size v0).alloc (Nat.le_refl _) _).trans (h.mono (by simp))
      have T1 := keep_p3 S0' h'
      clear c0_0 c0_1 c0_2 c0_3 c0_4 c1_0 c1_1 c1_2 c2_0 c2_1 c2_2 l0 l1 l2 z0 z1 z2 lg hB
      clear S0' h h'
      obtain ⟨c0_0, c0_1, c0_2, c0_3, c0_4, c1_0, c1_1, c1_2, c2_0, c2_1, c2_2, l0, l1, l2, z0, z1, z2, lg, hB⟩ := id T1
      have S1' := set_p3_1 T1 true
      go_wp2_with fail
      generalize wr1.setCell { block := g, off := 1 } (Value.bool true) = v1 at *
      clear c0_0 c0_1 c0_2 c0_3 c0_4 c1_0 c1_1 c1_2 c2_0 c2_1 c2_2 l0 l1 l2 z0 z1 z2 lg hB T1
      obtain ⟨c0_0, c0_1, c0_2, c0_3, c0_4, c1_0, c1_1, c1_2, c2_0, c2_1, c2_2, l0, l1, l2, z0, z1, z2, lg, hB⟩ := id S1'
      rw [rounds_succ]
      go_wp2_with fail
      go_at_call 27
      refine (H4.out (by trivial) (by trivial) _).mono ?_
      rintro er2 wr2 ⟨rfl, h⟩
      have h' := ((Below.refl v1.heap.size v1).alloc (Nat.le_refl _) _).trans (h.mono (by simp))
      have T2 := keep_p3 S1' h'
      clear c0_0 c0_1 c0_2 c0_3 c0_4 c1_0 c1_1 c1_2 c2_0 c2_1 c2_2 l0 l1 l2 z0 z1 z2 lg hB
      clear S1' h h'
      obtain ⟨c0_0, c0_1, c0_2, c0_3, c0_4, c1_0, c1_1, c1_2, c2_0, c2_1, c2_2, l0, l1, l2, z0, z1, z2, lg, hB⟩ := id T2
      have S2' := set_p3_2 T2 false
      go_wp2_with fail
      generalize wr2.setCell { block := g, off := 2 } (Value.bool false) = v2 at *
      clear c0_0 c0_1 c0_2 c0_3 c0_4 c1_0 c1_1 c1_2 c2_0 c2_1 c2_2 l0 l1 l2 z0 z1 z2 lg hB T2
      obtain ⟨c0_0, c0_1, c0_2, c0_3, c0_4, c1_0, c1_1, c1_2, c2_0, c2_1, c2_2, l0, l1, l2, z0, z1, z2, lg, hB⟩ := id S2'
      rw [rounds_succ]
      go_wp2_with fail
      go_region
      · generalize hV : ((v2.alloc (.cells #[.string (bs d.name), .int .u8 d.op, .int .i64 d.evr.epoch, .string (bs d.evr.ver), .string (bs d.evr.rel)] 25)).alloc (.cells #[.string (bs d.name), .int .u8 d.op, .int .i64 d.evr.epoch, .string (bs d.evr.ver), .string (bs d.evr.rel)] 25)).drew = V at *
        obtain ⟨m, hm⟩ : ∃ m, m = v2.heap.size := ⟨_, rfl⟩
        obtain ⟨q, hq⟩ : ∃ q, q = v2.heap.size + 1 := ⟨_, rfl⟩
        obtain ⟨SY, k1, k2, d1, d2, d4, d5, d3⟩ := twop_0 S2' hV hm hq
        have SX := set_p5 SY d1 d2 d4 d5 d3
        rw [← hq, ← hm]
        clear c0_0 c0_1 c0_2 c0_3 c0_4 c1_0 c1_1 c1_2 c2_0 c2_1 c2_2 l0 l1 l2 z0 z1 z2 lg hB S2' hV hm hq
        have SYh := Lib.hid SY
        obtain ⟨yc0_0, yc0_1, yc0_2, yc0_3, yc0_4, yc1_0, yc1_1, yc1_2, yc2_0, yc2_1, yc2_2, yc3_0, yc3_1, yc3_2, yc3_3, yc3_4, yc4_0, yc4_1, yc4_2, yc4_3, yc4_4, yl0, yl1, yl2, yl3, yl4, yhB⟩ := SY
        go_wp2_with fail
        generalize (V.setCell { block := m, off := 1 } (Value.int IntKind.u8 3)).setCell { block := q, off := 1 } (Value.int IntKind.u8 6) = U at *
        clear SYh k1 k2 yc0_0 yc0_1 yc0_2 yc0_3 yc0_4 yc1_0 yc1_1 yc1_2 yc2_0 yc2_1 yc2_2 yc3_0 yc3_1 yc3_2 yc3_3 yc3_4 yc4_0 yc4_1 yc4_2 yc4_3 yc4_4 yl0 yl1 yl2 yl3 yl4 yhB
        obtain ⟨c0_0, c0_1, c0_2, c0_3, c0_4, c1_0, c1_1, c1_2, c2_0, c2_1, c2_2, c3_0, c3_1, c3_2, c3_3, c3_4, c4_0, c4_1, c4_2, c4_3, c4_4, l0, l1, l2, l3, l4, hB⟩ := id SX
        refine wp_region_held_drew (S := fun W => W.cell? ⟨n, 0, none⟩ = some (.string (bs d.name)) ∧ W.cell? ⟨n, 1, none⟩ = some (.int .u8 d.op) ∧ W.cell? ⟨n, 2, none⟩ = some (.int .i64 d.evr.epoch) ∧ W.cell? ⟨n, 3, none⟩ = some (.string (bs d.evr.ver)) ∧ W.cell? ⟨n, 4, none⟩ = some (.string (bs d.evr.rel)) ∧ W.cell? ⟨n + 1, 0, none⟩ = some (.int .i64 e.epoch) ∧ W.cell? ⟨n + 1, 1, none⟩ = some (.string (bs e.ver)) ∧ W.cell? ⟨n + 1, 2, none⟩ = some (.string (bs e.rel)) ∧ W.cell? ⟨g, 0, none⟩ = some (.bool false) ∧ W.cell? ⟨g, 1, none⟩ = some (.bool true) ∧ W.cell? ⟨g, 2, none⟩ = some (.bool false) ∧ W.cell? ⟨m, 0, none⟩ = some (.string (bs d.name)) ∧ W.cell? ⟨m, 1, none⟩ = some (.int .u8 3) ∧ W.cell? ⟨m, 2, none⟩ = some (.int .i64 d.evr.epoch) ∧ W.cell? ⟨m, 3, none⟩ = some (.string (bs d.evr.ver)) ∧ W.cell? ⟨m, 4, none⟩ = some (.string (bs d.evr.rel)) ∧ W.cell? ⟨q, 0, none⟩ = some (.string (bs d.name)) ∧ W.cell? ⟨q, 1, none⟩ = some (.int .u8 6) ∧ W.cell? ⟨q, 2, none⟩ = some (.int .i64 d.evr.epoch) ∧ W.cell? ⟨q, 3, none⟩ = some (.string (bs d.evr.ver)) ∧ W.cell? ⟨q, 4, none⟩ = some (.string (bs d.evr.rel)) ∧ n < W.heap.size ∧ n + 1 < W.heap.size ∧ g < W.heap.size ∧ m < W.heap.size ∧ q < W.heap.size ∧ Below n w W) (by kernel_rfl) (by exact ⟨c0_0, c0_1, c0_2, c0_3, c0_4, c1_0, c1_1, c1_2, c2_0, c2_1, c2_2, c3_0, c3_1, c3_2, c3_3, c3_4, c4_0, c4_1, c4_2, c4_3, c4_4, l0, l1, l2, l3, l4, hB.drew⟩) (fun hHeld => ?_)
        refine held_take 0 (some 45) ?_ rfl rfl (by kernel_rfl) (by kernel_rfl) (by kernel_rfl) (fun _ _ _ h => h) (by assumption) (by rfl) ?_ ?_
        rotate_left
        · intro w hSw
          try dsimp only at hSw
          try simp only [List.getElem_toArray, List.getElem_cons_succ, List.getElem_cons_zero]
          go_simp
          try with_reducible rfl
        try simp only [Act.put, List.setIfInBounds_toArray, List.set_cons_zero, List.set_cons_succ]
        refine held_take 1 (some 46) ?_ rfl rfl (by kernel_rfl) (by kernel_rfl) (by kernel_rfl) (fun _ _ _ h => h) (by assumption) (by rfl) ?_ ?_
        rotate_left
        · intro w hSw
          try dsimp only at hSw
          try simp only [List.getElem_toArray, List.getElem_cons_succ, List.getElem_cons_zero]
          go_simp
          try with_reducible rfl
        try simp only [Act.put, List.setIfInBounds_toArray, List.set_cons_zero, List.set_cons_succ]
        refine held_take 2 (some 47) ?_ rfl rfl (by kernel_rfl) (by kernel_rfl) (by kernel_rfl) (fun _ _ _ h => h) (by assumption) (by rfl) ?_ ?_
        rotate_left
        · intro w hSw
          try dsimp only at hSw
          try simp only [List.getElem_toArray, List.getElem_cons_succ, List.getElem_cons_zero]
          go_simp
          try with_reducible rfl
        try simp only [Act.put, List.setIfInBounds_toArray, List.set_cons_zero, List.set_cons_succ]
        refine held_take 3 (some 48) ?_ rfl rfl (by kernel_rfl) (by kernel_rfl) (by kernel_rfl) (fun _ _ _ h => h) (by assumption) (by rfl) ?_ ?_
        rotate_left
        · intro w hSw
          try dsimp only at hSw
          try simp only [List.getElem_toArray, List.getElem_cons_succ, List.getElem_cons_zero]
          go_simp
          try with_reducible rfl
        try simp only [Act.put, List.setIfInBounds_toArray, List.set_cons_zero, List.set_cons_succ]
        refine held_take 4 (some 49) ?_ rfl rfl (by kernel_rfl) (by kernel_rfl) (by kernel_rfl) (fun _ _ _ h => h) (by assumption) (by rfl) ?_ ?_
        rotate_left
        · intro w hSw
          try dsimp only at hSw
          try simp only [List.getElem_toArray, List.getElem_cons_succ, List.getElem_cons_zero]
          go_simp
          try with_reducible rfl
        try simp only [Act.put, List.setIfInBounds_toArray, List.set_cons_zero, List.set_cons_succ]
        refine held_take 6 (some 51) ?_ rfl rfl (by kernel_rfl) (by kernel_rfl) (by kernel_rfl) (fun _ _ _ h => h) (by assumption) (by rfl) ?_ ?_
        rotate_left
        · intro w hSw
          try dsimp only at hSw
          try simp only [List.getElem_toArray, List.getElem_cons_succ, List.getElem_cons_zero]
          go_simp
          try with_reducible rfl
        try simp only [Act.put, List.setIfInBounds_toArray, List.set_cons_zero, List.set_cons_succ]
        refine held_take 7 (some 52) ?_ rfl rfl (by kernel_rfl) (by kernel_rfl) (by kernel_rfl) (fun _ _ _ h => h) (by assumption) (by rfl) ?_ ?_
        rotate_left
        · intro w hSw
          try dsimp only at hSw
          try simp only [List.getElem_toArray, List.getElem_cons_succ, List.getElem_cons_zero]
          go_simp
          try with_reducible rfl
        try simp only [Act.put, List.setIfInBounds_toArray, List.set_cons_zero, List.set_cons_succ]
        refine wpAnyH_ready (rs := [5]) (by kernel_rfl) (by simp) ?_
        refine AllReadyH.cons rfl (fun K hK => ?_) AllReadyH.nil
        try simp only [List.getElem_toArray, List.getElem_cons_succ, List.getElem_cons_zero]
        go_simp
        (go_at_call 27; refine (H3.out (by trivial) (by trivial) _).mono ?_; rintro e' w' ⟨rfl, hbb⟩)
        refine hK.out _ _ (keep_p5 (by assumption) hbb) (fun hHeld => ?_)
        clear hK K
        try simp only [Act.put, List.setIfInBounds_toArray, List.set_cons_zero, List.set_cons_succ]
        refine held_take 8 (some 53) ?_ rfl rfl (by kernel_rfl) (by kernel_rfl) (by kernel_rfl) (fun _ _ _ h => h) (by assumption) (by rfl) ?_ ?_
        rotate_left
        · intro w hSw
          try dsimp only at hSw
          try simp only [List.getElem_toArray, List.getElem_cons_succ, List.getElem_cons_zero]
          go_simp
          try with_reducible rfl
        try simp only [Act.put, List.setIfInBounds_toArray, List.set_cons_zero, List.set_cons_succ]
        refine held_take 9 (some 54) ?_ rfl rfl (by kernel_rfl) (by kernel_rfl) (by kernel_rfl) (fun _ _ _ h => h) (by assumption) (by rfl) ?_ ?_
        rotate_left
        · intro w hSw
          try dsimp only at hSw
          try simp only [List.getElem_toArray, List.getElem_cons_succ, List.getElem_cons_zero]
          go_simp
          try with_reducible rfl
        try simp only [Act.put, List.setIfInBounds_toArray, List.set_cons_zero, List.set_cons_succ]
        refine held_take 10 (some 55) ?_ rfl rfl (by kernel_rfl) (by kernel_rfl) (by kernel_rfl) (fun _ _ _ h => h) (by assumption) (by rfl) ?_ ?_
        rotate_left
        · intro w hSw
          try dsimp only at hSw
          try simp only [List.getElem_toArray, List.getElem_cons_succ, List.getElem_cons_zero]
          go_simp
          try with_reducible rfl
        try simp only [Act.put, List.setIfInBounds_toArray, List.set_cons_zero, List.set_cons_succ]
        refine held_take 11 (some 56) ?_ rfl rfl (by kernel_rfl) (by kernel_rfl) (by kernel_rfl) (fun _ _ _ h => h) (by assumption) (by rfl) ?_ ?_
        rotate_left
        · intro w hSw
          try dsimp only at hSw
          try simp only [List.getElem_toArray, List.getElem_cons_succ, List.getElem_cons_zero]
          go_simp
          try with_reducible rfl
        try simp only [Act.put, List.setIfInBounds_toArray, List.set_cons_zero, List.set_cons_succ]
        refine held_take 12 (some 57) ?_ rfl rfl (by kernel_rfl) (by kernel_rfl) (by kernel_rfl) (fun _ _ _ h => h) (by assumption) (by rfl) ?_ ?_
        rotate_left
        · intro w hSw
          try dsimp only at hSw
          try simp only [List.getElem_toArray, List.getElem_cons_succ, List.getElem_cons_zero]
          go_simp
          try with_reducible rfl
        try simp only [Act.put, List.setIfInBounds_toArray, List.set_cons_zero, List.set_cons_succ]
        refine held_take 13 (some 58) ?_ rfl rfl (by kernel_rfl) (by kernel_rfl) (by kernel_rfl) (fun _ _ _ h => h) (by assumption) (by rfl) ?_ ?_
        rotate_left
        · intro w hSw
          try dsimp only at hSw
          try simp only [List.getElem_toArray, List.getElem_cons_succ, List.getElem_cons_zero]
          go_simp
          try with_reducible rfl
        try simp only [Act.put, List.setIfInBounds_toArray, List.set_cons_zero, List.set_cons_succ]
        refine held_take 14 (some 59) ?_ rfl rfl (by kernel_rfl) (by kernel_rfl) (by kernel_rfl) (fun _ _ _ h => h) (by assumption) (by rfl) ?_ ?_
        rotate_left
        · intro w hSw
          try dsimp only at hSw
          try simp only [List.getElem_toArray, List.getElem_cons_succ, List.getElem_cons_zero]
          go_simp
          try with_reducible rfl
        try simp only [Act.put, List.setIfInBounds_toArray, List.set_cons_zero, List.set_cons_succ]
        refine held_take 15 (some 60) ?_ rfl rfl (by kernel_rfl) (by kernel_rfl) (by kernel_rfl) (fun _ _ _ h => h) (by assumption) (by rfl) ?_ ?_
        rotate_left
        · intro w hSw
          try dsimp only at hSw
          try simp only [List.getElem_toArray, List.getElem_cons_succ, List.getElem_cons_zero]
          go_simp
          try with_reducible rfl
        try simp only [Act.put, List.setIfInBounds_toArray, List.set_cons_zero, List.set_cons_succ]
        refine held_take 16 (some 61) ?_ rfl rfl (by kernel_rfl) (by kernel_rfl) (by kernel_rfl) (fun _ _ _ h => h) (by assumption) (by rfl) ?_ ?_
        rotate_left
        · intro w hSw
          try dsimp only at hSw
          try simp only [List.getElem_toArray, List.getElem_cons_succ, List.getElem_cons_zero]
          go_simp
          try with_reducible rfl
        try simp only [Act.put, List.setIfInBounds_toArray, List.set_cons_zero, List.set_cons_succ]
        refine held_take 18 (some 63) ?_ rfl rfl (by kernel_rfl) (by kernel_rfl) (by kernel_rfl) (fun _ _ _ h => h) (by assumption) (by rfl) ?_ ?_
        rotate_left
        · intro w hSw
          try dsimp only at hSw
          try simp only [List.getElem_toArray, List.getElem_cons_succ, List.getElem_cons_zero]
          go_simp
          try with_reducible rfl
        try simp only [Act.put, List.setIfInBounds_toArray, List.set_cons_zero, List.set_cons_succ]
        refine held_take 19 (some 64) ?_ rfl rfl (by kernel_rfl) (by kernel_rfl) (by kernel_rfl) (fun _ _ _ h => h) (by assumption) (by rfl) ?_ ?_
        rotate_left
        · intro w hSw
          try dsimp only at hSw
          try simp only [List.getElem_toArray, List.getElem_cons_succ, List.getElem_cons_zero]
          go_simp
          try with_reducible rfl
        try simp only [Act.put, List.setIfInBounds_toArray, List.set_cons_zero, List.set_cons_succ]
        refine wpAnyH_ready (rs := [17]) (by kernel_rfl) (by simp) ?_
        refine AllReadyH.cons rfl (fun K hK => ?_) AllReadyH.nil
        try simp only [List.getElem_toArray, List.getElem_cons_succ, List.getElem_cons_zero]
        go_simp
        (go_at_call 27; refine (H6.out (by trivial) (by trivial) _).mono ?_; rintro e' w' ⟨rfl, hbb⟩)
        refine hK.out _ _ (keep_p5 (by assumption) hbb) (fun hHeld => ?_)
        clear hK K
        try simp only [Act.put, List.setIfInBounds_toArray, List.set_cons_zero, List.set_cons_succ]
        refine held_take 20 (some 65) ?_ rfl rfl (by kernel_rfl) (by kernel_rfl) (by kernel_rfl) (fun _ _ _ h => h) (by assumption) (by rfl) ?_ ?_
        rotate_left
        · intro w hSw
          try dsimp only at hSw
          try simp only [List.getElem_toArray, List.getElem_cons_succ, List.getElem_cons_zero]
          go_simp
          try with_reducible rfl
        try simp only [Act.put, List.setIfInBounds_toArray, List.set_cons_zero, List.set_cons_succ]
        refine held_skip 21 (some 66) rfl rfl (by kernel_rfl) (by kernel_rfl) (by kernel_rfl) (fun _ _ _ h => h) (by assumption) (by rfl) ?_
        try simp only [Act.put, List.setIfInBounds_toArray, List.set_cons_zero, List.set_cons_succ]
        refine held_skip 22 (some 67) rfl rfl (by kernel_rfl) (by kernel_rfl) (by kernel_rfl) (fun _ _ _ h => h) (by assumption) (by rfl) ?_
        try simp only [Act.put, List.setIfInBounds_toArray, List.set_cons_zero, List.set_cons_succ]
        refine held_take 23 (some 68) ?_ rfl rfl (by kernel_rfl) (by kernel_rfl) (by kernel_rfl) (fun _ _ _ h => h) (by assumption) (by rfl) ?_ ?_
        rotate_left
        · intro w hSw
          try dsimp only at hSw
          try simp only [List.getElem_toArray, List.getElem_cons_succ, List.getElem_cons_zero]
          go_simp
          try with_reducible rfl
        try simp only [Act.put, List.setIfInBounds_toArray, List.set_cons_zero, List.set_cons_succ]
        refine held_take 24 (some 69) ?_ rfl rfl (by kernel_rfl) (by kernel_rfl) (by kernel_rfl) (fun _ _ _ h => h) (by assumption) (by rfl) ?_ ?_
        rotate_left
        · intro w hSw
          try dsimp only at hSw
          try simp only [List.getElem_toArray, List.getElem_cons_succ, List.getElem_cons_zero]
          go_simp
          try with_reducible rfl
        try simp only [Act.put, List.setIfInBounds_toArray, List.set_cons_zero, List.set_cons_succ]
        refine held_take 25 (some 70) ?_ rfl rfl (by kernel_rfl) (by kernel_rfl) (by kernel_rfl) (fun _ _ _ h => h) (by assumption) (by rfl) ?_ ?_
        rotate_left
        · intro w hSw
          try dsimp only at hSw
          try simp only [List.getElem_toArray, List.getElem_cons_succ, List.getElem_cons_zero]
          go_simp
          try with_reducible rfl
        try simp only [Act.put, List.setIfInBounds_toArray, List.set_cons_zero, List.set_cons_succ]
        refine held_take 26 (some 71) ?_ rfl rfl (by kernel_rfl) (by kernel_rfl) (by kernel_rfl) (fun _ _ _ h => h) (by assumption) (by rfl) ?_ ?_
        rotate_left
        · intro w hSw
          try dsimp only at hSw
          try simp only [List.getElem_toArray, List.getElem_cons_succ, List.getElem_cons_zero]
          go_simp
          try with_reducible rfl
        try simp only [Act.put, List.setIfInBounds_toArray, List.set_cons_zero, List.set_cons_succ]
        refine held_take 27 (some 72) ?_ rfl rfl (by kernel_rfl) (by kernel_rfl) (by kernel_rfl) (fun _ _ _ h => h) (by assumption) (by rfl) ?_ ?_
        rotate_left
        · intro w hSw
          try dsimp only at hSw
          try simp only [List.getElem_toArray, List.getElem_cons_succ, List.getElem_cons_zero]
          go_simp
          try with_reducible rfl
        try simp only [Act.put, List.setIfInBounds_toArray, List.set_cons_zero, List.set_cons_succ]
        refine held_take 28 (some 73) ?_ rfl rfl (by kernel_rfl) (by kernel_rfl) (by kernel_rfl) (fun _ _ _ h => h) (by assumption) (by rfl) ?_ ?_
        rotate_left
        · intro w hSw
          try dsimp only at hSw
          try simp only [List.getElem_toArray, List.getElem_cons_succ, List.getElem_cons_zero]
          go_simp
          try with_reducible rfl
        try simp only [Act.put, List.setIfInBounds_toArray, List.set_cons_zero, List.set_cons_succ]
        refine held_take 29 (some 74) ?_ rfl rfl (by kernel_rfl) (by kernel_rfl) (by kernel_rfl) (fun _ _ _ h => h) (by assumption) (by rfl) ?_ ?_
        rotate_left
        · intro w hSw
          try dsimp only at hSw
          try simp only [List.getElem_toArray, List.getElem_cons_succ, List.getElem_cons_zero]
          go_simp
          try with_reducible rfl
        try simp only [Act.put, List.setIfInBounds_toArray, List.set_cons_zero, List.set_cons_succ]
        refine held_take 30 (some 75) ?_ rfl rfl (by kernel_rfl) (by kernel_rfl) (by kernel_rfl) (fun _ _ _ h => h) (by assumption) (by rfl) ?_ ?_
        rotate_left
        · intro w hSw
          try dsimp only at hSw
          try simp only [List.getElem_toArray, List.getElem_cons_succ, List.getElem_cons_zero]
          go_simp
          try with_reducible rfl
        try simp only [Act.put, List.setIfInBounds_toArray, List.set_cons_zero, List.set_cons_succ]
        refine held_take 31 (some 76) ?_ rfl rfl (by kernel_rfl) (by kernel_rfl) (by kernel_rfl) (fun _ _ _ h => h) (by assumption) (by rfl) ?_ ?_
        rotate_left
        · intro w hSw
          try dsimp only at hSw
          try simp only [List.getElem_toArray, List.getElem_cons_succ, List.getElem_cons_zero]
          go_simp
          try with_reducible rfl
        try simp only [Act.put, List.setIfInBounds_toArray, List.set_cons_zero, List.set_cons_succ]
        refine wpAnyH_ready (rs := [32]) (by kernel_rfl) (by simp) ?_
        refine AllReadyH.cons rfl (fun K hK => ?_) AllReadyH.nil
        try simp only [List.getElem_toArray, List.getElem_cons_succ, List.getElem_cons_zero]
        go_simp
        (go_at_call 29; refine (EC.out (by trivial) (by trivial) _).mono ?_; rintro e' w' ⟨rfl, hbb⟩)
        refine hK.out _ _ (keep_p5 (by assumption) hbb) (fun hHeld => ?_)
        clear hK K
        try simp only [Act.put, List.setIfInBounds_toArray, List.set_cons_zero, List.set_cons_succ]
        refine held_take 33 (some 78) ?_ rfl rfl (by kernel_rfl) (by kernel_rfl) (by kernel_rfl) (fun _ _ _ h => h) (by assumption) (by rfl) ?_ ?_
        rotate_left
        · intro w hSw
          try dsimp only at hSw
          try simp only [List.getElem_toArray, List.getElem_cons_succ, List.getElem_cons_zero]
          go_simp
          try with_reducible rfl
        try simp only [Act.put, List.setIfInBounds_toArray, List.set_cons_zero, List.set_cons_succ]
        refine held_take 34 (some 79) ?_ rfl rfl (by kernel_rfl) (by kernel_rfl) (by kernel_rfl) (fun _ _ _ h => h) (by assumption) (by rfl) ?_ ?_
        rotate_left
        · intro w hSw
          try dsimp only at hSw
          try simp only [List.getElem_toArray, List.getElem_cons_succ, List.getElem_cons_zero]
          go_simp
          try with_reducible rfl
        try simp only [Act.put, List.setIfInBounds_toArray, List.set_cons_zero, List.set_cons_succ]
        refine held_take 35 (some 80) ?_ rfl rfl (by kernel_rfl) (by kernel_rfl) (by kernel_rfl) (fun _ _ _ h => h) (by assumption) (by rfl) ?_ ?_
        rotate_left
        · intro w hSw
          try dsimp only at hSw
          try simp only [List.getElem_toArray, List.getElem_cons_succ, List.getElem_cons_zero]
          go_simp
          try with_reducible rfl
        try simp only [Act.put, List.setIfInBounds_toArray, List.set_cons_zero, List.set_cons_succ]
        refine held_take 36 (some 4) ?_ rfl rfl (by kernel_rfl) (by kernel_rfl) (by kernel_rfl) (fun _ _ _ h => h) (by assumption) (by rfl) ?_ ?_
        rotate_left
        · intro w hSw
          try dsimp only at hSw
          try simp only [List.getElem_toArray, List.getElem_cons_succ, List.getElem_cons_zero]
          go_simp
          try with_reducible rfl
        try simp only [Act.put, List.setIfInBounds_toArray, List.set_cons_zero, List.set_cons_succ]
        refine wpAnyH_done (by kernel_rfl) ?_ _
        have hh := hHeld
        go_wp2
        go_ret
        exact ⟨rfl, by rw [hn]; exact tail_p5 hh⟩
      · generalize hV : ((v2.alloc (.cells #[.string (bs d.name), .int .u8 d.op, .int .i64 d.evr.epoch, .string (bs d.evr.ver), .string (bs d.evr.rel)] 25)).alloc (.cells #[.string (bs d.name), .int .u8 d.op, .int .i64 d.evr.epoch, .string (bs d.evr.ver), .string (bs d.evr.rel)] 25)).drew = V at *
        obtain ⟨m, hm⟩ : ∃ m, m = v2.heap.size + 1 := ⟨_, rfl⟩
        obtain ⟨q, hq⟩ : ∃ q, q = v2.heap.size := ⟨_, rfl⟩
        obtain ⟨SY, k1, k2, d1, d2, d4, d5, d3⟩ := twop_1 S2' hV hm hq
        have SX := set_p5 SY d1 d2 d4 d5 d3
        rw [← hm, ← hq]
        clear c0_0 c0_1 c0_2 c0_3 c0_4 c1_0 c1_1 c1_2 c2_0 c2_1 c2_2 l0 l1 l2 z0 z1 z2 lg hB S2' hV hm hq
        have SYh := Lib.hid SY
        obtain ⟨yc0_0, yc0_1, yc0_2, yc0_3, yc0_4, yc1_0, yc1_1, yc1_2, yc2_0, yc2_1, yc2_2, yc3_0, yc3_1, yc3_2, yc3_3, yc3_4, yc4_0, yc4_1, yc4_2, yc4_3, yc4_4, yl0, yl1, yl2, yl3, yl4, yhB⟩ := SY
        go_wp2_with fail
        generalize (V.setCell { block := m, off := 1 } (Value.int IntKind.u8 3)).setCell { block := q, off := 1 } (Value.int IntKind.u8 6) = U at *
        clear SYh k1 k2 yc0_0 yc0_1 yc0_2 yc0_3 yc0_4 yc1_0 yc1_1 yc1_2 yc2_0 yc2_1 yc2_2 yc3_0 yc3_1 yc3_2 yc3_3 yc3_4 yc4_0 yc4_1 yc4_2 yc4_3 yc4_4 yl0 yl1 yl2 yl3 yl4 yhB
        obtain ⟨c0_0, c0_1, c0_2, c0_3, c0_4, c1_0, c1_1, c1_2, c2_0, c2_1, c2_2, c3_0, c3_1, c3_2, c3_3, c3_4, c4_0, c4_1, c4_2, c4_3, c4_4, l0, l1, l2, l3, l4, hB⟩ := id SX
        refine wp_region_held_drew (S := fun W => W.cell? ⟨n, 0, none⟩ = some (.string (bs d.name)) ∧ W.cell? ⟨n, 1, none⟩ = some (.int .u8 d.op) ∧ W.cell? ⟨n, 2, none⟩ = some (.int .i64 d.evr.epoch) ∧ W.cell? ⟨n, 3, none⟩ = some (.string (bs d.evr.ver)) ∧ W.cell? ⟨n, 4, none⟩ = some (.string (bs d.evr.rel)) ∧ W.cell? ⟨n + 1, 0, none⟩ = some (.int .i64 e.epoch) ∧ W.cell? ⟨n + 1, 1, none⟩ = some (.string (bs e.ver)) ∧ W.cell? ⟨n + 1, 2, none⟩ = some (.string (bs e.rel)) ∧ W.cell? ⟨g, 0, none⟩ = some (.bool false) ∧ W.cell? ⟨g, 1, none⟩ = some (.bool true) ∧ W.cell? ⟨g, 2, none⟩ = some (.bool false) ∧ W.cell? ⟨m, 0, none⟩ = some (.string (bs d.name)) ∧ W.cell? ⟨m, 1, none⟩ = some (.int .u8 3) ∧ W.cell? ⟨m, 2, none⟩ = some (.int .i64 d.evr.epoch) ∧ W.cell? ⟨m, 3, none⟩ = some (.string (bs d.evr.ver)) ∧ W.cell? ⟨m, 4, none⟩ = some (.string (bs d.evr.rel)) ∧ W.cell? ⟨q, 0, none⟩ = some (.string (bs d.name)) ∧ W.cell? ⟨q, 1, none⟩ = some (.int .u8 6) ∧ W.cell? ⟨q, 2, none⟩ = some (.int .i64 d.evr.epoch) ∧ W.cell? ⟨q, 3, none⟩ = some (.string (bs d.evr.ver)) ∧ W.cell? ⟨q, 4, none⟩ = some (.string (bs d.evr.rel)) ∧ n < W.heap.size ∧ n + 1 < W.heap.size ∧ g < W.heap.size ∧ m < W.heap.size ∧ q < W.heap.size ∧ Below n w W) (by kernel_rfl) (by exact ⟨c0_0, c0_1, c0_2, c0_3, c0_4, c1_0, c1_1, c1_2, c2_0, c2_1, c2_2, c3_0, c3_1, c3_2, c3_3, c3_4, c4_0, c4_1, c4_2, c4_3, c4_4, l0, l1, l2, l3, l4, hB.drew⟩) (fun hHeld => ?_)
        refine held_take 0 (some 45) ?_ rfl rfl (by kernel_rfl) (by kernel_rfl) (by kernel_rfl) (fun _ _ _ h => h) (by assumption) (by rfl) ?_ ?_
        rotate_left
        · intro w hSw
          try dsimp only at hSw
          try simp only [List.getElem_toArray, List.getElem_cons_succ, List.getElem_cons_zero]
          go_simp
          try with_reducible rfl
        try simp only [Act.put, List.setIfInBounds_toArray, List.set_cons_zero, List.set_cons_succ]
        refine held_take 1 (some 46) ?_ rfl rfl (by kernel_rfl) (by kernel_rfl) (by kernel_rfl) (fun _ _ _ h => h) (by assumption) (by rfl) ?_ ?_
        rotate_left
        · intro w hSw
          try dsimp only at hSw
          try simp only [List.getElem_toArray, List.getElem_cons_succ, List.getElem_cons_zero]
          go_simp
          try with_reducible rfl
        try simp only [Act.put, List.setIfInBounds_toArray, List.set_cons_zero, List.set_cons_succ]
        refine held_take 2 (some 47) ?_ rfl rfl (by kernel_rfl) (by kernel_rfl) (by kernel_rfl) (fun _ _ _ h => h) (by assumption) (by rfl) ?_ ?_
        rotate_left
        · intro w hSw
          try dsimp only at hSw
          try simp only [List.getElem_toArray, List.getElem_cons_succ, List.getElem_cons_zero]
          go_simp
          try with_reducible rfl
        try simp only [Act.put, List.setIfInBounds_toArray, List.set_cons_zero, List.set_cons_succ]
        refine held_take 3 (some 48) ?_ rfl rfl (by kernel_rfl) (by kernel_rfl) (by kernel_rfl) (fun _ _ _ h => h) (by assumption) (by rfl) ?_ ?_
        rotate_left
        · intro w hSw
          try dsimp only at hSw
          try simp only [List.getElem_toArray, List.getElem_cons_succ, List.getElem_cons_zero]
          go_simp
          try with_reducible rfl
        try simp only [Act.put, List.setIfInBounds_toArray, List.set_cons_zero, List.set_cons_succ]
        refine held_take 4 (some 49) ?_ rfl rfl (by kernel_rfl) (by kernel_rfl) (by kernel_rfl) (fun _ _ _ h => h) (by assumption) (by rfl) ?_ ?_
        rotate_left
        · intro w hSw
          try dsimp only at hSw
          try simp only [List.getElem_toArray, List.getElem_cons_succ, List.getElem_cons_zero]
          go_simp
          try with_reducible rfl
        try simp only [Act.put, List.setIfInBounds_toArray, List.set_cons_zero, List.set_cons_succ]
        refine held_take 6 (some 51) ?_ rfl rfl (by kernel_rfl) (by kernel_rfl) (by kernel_rfl) (fun _ _ _ h => h) (by assumption) (by rfl) ?_ ?_
        rotate_left
        · intro w hSw
          try dsimp only at hSw
          try simp only [List.getElem_toArray, List.getElem_cons_succ, List.getElem_cons_zero]
          go_simp
          try with_reducible rfl
        try simp only [Act.put, List.setIfInBounds_toArray, List.set_cons_zero, List.set_cons_succ]
        refine held_take 7 (some 52) ?_ rfl rfl (by kernel_rfl) (by kernel_rfl) (by kernel_rfl) (fun _ _ _ h => h) (by assumption) (by rfl) ?_ ?_
        rotate_left
        · intro w hSw
          try dsimp only at hSw
          try simp only [List.getElem_toArray, List.getElem_cons_succ, List.getElem_cons_zero]
          go_simp
          try with_reducible rfl
        try simp only [Act.put, List.setIfInBounds_toArray, List.set_cons_zero, List.set_cons_succ]
        refine wpAnyH_ready (rs := [5]) (by kernel_rfl) (by simp) ?_
        refine AllReadyH.cons rfl (fun K hK => ?_) AllReadyH.nil
        try simp only [List.getElem_toArray, List.getElem_cons_succ, List.getElem_cons_zero]
        go_simp
        (go_at_call 27; refine (H3.out (by trivial) (by trivial) _).mono ?_; rintro e' w' ⟨rfl, hbb⟩)
        refine hK.out _ _ (keep_p5 (by assumption) hbb) (fun hHeld => ?_)
        clear hK K
        try simp only [Act.put, List.setIfInBounds_toArray, List.set_cons_zero, List.set_cons_succ]
        refine held_take 8 (some 53) ?_ rfl rfl (by kernel_rfl) (by kernel_rfl) (by kernel_rfl) (fun _ _ _ h => h) (by assumption) (by rfl) ?_ ?_
        rotate_left
        · intro w hSw
          try dsimp only at hSw
          try simp only [List.getElem_toArray, List.getElem_cons_succ, List.getElem_cons_zero]
          go_simp
          try with_reducible rfl
        try simp only [Act.put, List.setIfInBounds_toArray, List.set_cons_zero, List.set_cons_succ]
        refine held_take 9 (some 54) ?_ rfl rfl (by kernel_rfl) (by kernel_rfl) (by kernel_rfl) (fun _ _ _ h => h) (by assumption) (by rfl) ?_ ?_
        rotate_left
        · intro w hSw
          try dsimp only at hSw
          try simp only [List.getElem_toArray, List.getElem_cons_succ, List.getElem_cons_zero]
          go_simp
          try with_reducible rfl
        try simp only [Act.put, List.setIfInBounds_toArray, List.set_cons_zero, List.set_cons_succ]
        refine held_take 10 (some 55) ?_ rfl rfl (by kernel_rfl) (by kernel_rfl) (by kernel_rfl) (fun _ _ _ h => h) (by assumption) (by rfl) ?_ ?_
        rotate_left
        · intro w hSw
          try dsimp only at hSw
          try simp only [List.getElem_toArray, List.getElem_cons_succ, List.getElem_cons_zero]
          go_simp
          try with_reducible rfl
        try simp only [Act.put, List.setIfInBounds_toArray, List.set_cons_zero, List.set_cons_succ]
        refine held_take 11 (some 56) ?_ rfl rfl (by kernel_rfl) (by kernel_rfl) (by kernel_rfl) (fun _ _ _ h => h) (by assumption) (by rfl) ?_ ?_
        rotate_left
        · intro w hSw
          try dsimp only at hSw
          try simp only [List.getElem_toArray, List.getElem_cons_succ, List.getElem_cons_zero]
          go_simp
          try with_reducible rfl
        try simp only [Act.put, List.setIfInBounds_toArray, List.set_cons_zero, List.set_cons_succ]
        refine held_take 12 (some 57) ?_ rfl rfl (by kernel_rfl) (by kernel_rfl) (by kernel_rfl) (fun _ _ _ h => h) (by assumption) (by rfl) ?_ ?_
        rotate_left
        · intro w hSw
          try dsimp only at hSw
          try simp only [List.getElem_toArray, List.getElem_cons_succ, List.getElem_cons_zero]
          go_simp
          try with_reducible rfl
        try simp only [Act.put, List.setIfInBounds_toArray, List.set_cons_zero, List.set_cons_succ]
        refine held_take 13 (some 58) ?_ rfl rfl (by kernel_rfl) (by kernel_rfl) (by kernel_rfl) (fun _ _ _ h => h) (by assumption) (by rfl) ?_ ?_
        rotate_left
        · intro w hSw
          try dsimp only at hSw
          try simp only [List.getElem_toArray, List.getElem_cons_succ, List.getElem_cons_zero]
          go_simp
          try with_reducible rfl
        try simp only [Act.put, List.setIfInBounds_toArray, List.set_cons_zero, List.set_cons_succ]
        refine held_take 14 (some 59) ?_ rfl rfl (by kernel_rfl) (by kernel_rfl) (by kernel_rfl) (fun _ _ _ h => h) (by assumption) (by rfl) ?_ ?_
        rotate_left
        · intro w hSw
          try dsimp only at hSw
          try simp only [List.getElem_toArray, List.getElem_cons_succ, List.getElem_cons_zero]
          go_simp
          try with_reducible rfl
        try simp only [Act.put, List.setIfInBounds_toArray, List.set_cons_zero, List.set_cons_succ]
        refine held_take 15 (some 60) ?_ rfl rfl (by kernel_rfl) (by kernel_rfl) (by kernel_rfl) (fun _ _ _ h => h) (by assumption) (by rfl) ?_ ?_
        rotate_left
        · intro w hSw
          try dsimp only at hSw
          try simp only [List.getElem_toArray, List.getElem_cons_succ, List.getElem_cons_zero]
          go_simp
          try with_reducible rfl
        try simp only [Act.put, List.setIfInBounds_toArray, List.set_cons_zero, List.set_cons_succ]
        refine held_take 16 (some 61) ?_ rfl rfl (by kernel_rfl) (by kernel_rfl) (by kernel_rfl) (fun _ _ _ h => h) (by assumption) (by rfl) ?_ ?_
        rotate_left
        · intro w hSw
          try dsimp only at hSw
          try simp only [List.getElem_toArray, List.getElem_cons_succ, List.getElem_cons_zero]
          go_simp
          try with_reducible rfl
        try simp only [Act.put, List.setIfInBounds_toArray, List.set_cons_zero, List.set_cons_succ]
        refine held_take 18 (some 63) ?_ rfl rfl (by kernel_rfl) (by kernel_rfl) (by kernel_rfl) (fun _ _ _ h => h) (by assumption) (by rfl) ?_ ?_
        rotate_left
        · intro w hSw
          try dsimp only at hSw
          try simp only [List.getElem_toArray, List.getElem_cons_succ, List.getElem_cons_zero]
          go_simp
          try with_reducible rfl
        try simp only [Act.put, List.setIfInBounds_toArray, List.set_cons_zero, List.set_cons_succ]
        refine held_take 19 (some 64) ?_ rfl rfl (by kernel_rfl) (by kernel_rfl) (by kernel_rfl) (fun _ _ _ h => h) (by assumption) (by rfl) ?_ ?_
        rotate_left
        · intro w hSw
          try dsimp only at hSw
          try simp only [List.getElem_toArray, List.getElem_cons_succ, List.getElem_cons_zero]
          go_simp
          try with_reducible rfl
        try simp only [Act.put, List.setIfInBounds_toArray, List.set_cons_zero, List.set_cons_succ]
        refine wpAnyH_ready (rs := [17]) (by kernel_rfl) (by simp) ?_
        refine AllReadyH.cons rfl (fun K hK => ?_) AllReadyH.nil
        try simp only [List.getElem_toArray, List.getElem_cons_succ, List.getElem_cons_zero]
        go_simp
        (go_at_call 27; refine (H6.out (by trivial) (by trivial) _).mono ?_; rintro e' w' ⟨rfl, hbb⟩)
        refine hK.out _ _ (keep_p5 (by assumption) hbb) (fun hHeld => ?_)
        clear hK K
        try simp only [Act.put, List.setIfInBounds_toArray, List.set_cons_zero, List.set_cons_succ]
        refine held_take 20 (some 65) ?_ rfl rfl (by kernel_rfl) (by kernel_rfl) (by kernel_rfl) (fun _ _ _ h => h) (by assumption) (by rfl) ?_ ?_
        rotate_left
        · intro w hSw
          try dsimp only at hSw
          try simp only [List.getElem_toArray, List.getElem_cons_succ, List.getElem_cons_zero]
          go_simp
          try with_reducible rfl
        try simp only [Act.put, List.setIfInBounds_toArray, List.set_cons_zero, List.set_cons_succ]
        refine held_skip 21 (some 66) rfl rfl (by kernel_rfl) (by kernel_rfl) (by kernel_rfl) (fun _ _ _ h => h) (by assumption) (by rfl) ?_
        try simp only [Act.put, List.setIfInBounds_toArray, List.set_cons_zero, List.set_cons_succ]
        refine held_skip 22 (some 67) rfl rfl (by kernel_rfl) (by kernel_rfl) (by kernel_rfl) (fun _ _ _ h => h) (by assumption) (by rfl) ?_
        try simp only [Act.put, List.setIfInBounds_toArray, List.set_cons_zero, List.set_cons_succ]
        refine held_take 23 (some 68) ?_ rfl rfl (by kernel_rfl) (by kernel_rfl) (by kernel_rfl) (fun _ _ _ h => h) (by assumption) (by rfl) ?_ ?_
        rotate_left
        · intro w hSw
          try dsimp only at hSw
          try simp only [List.getElem_toArray, List.getElem_cons_succ, List.getElem_cons_zero]
          go_simp
          try with_reducible rfl
        try simp only [Act.put, List.setIfInBounds_toArray, List.set_cons_zero, List.set_cons_succ]
        refine held_take 24 (some 69) ?_ rfl rfl (by kernel_rfl) (by kernel_rfl) (by kernel_rfl) (fun _ _ _ h => h) (by assumption) (by rfl) ?_ ?_
        rotate_left
        · intro w hSw
          try dsimp only at hSw
          try simp only [List.getElem_toArray, List.getElem_cons_succ, List.getElem_cons_zero]
          go_simp
          try with_reducible rfl
        try simp only [Act.put, List.setIfInBounds_toArray, List.set_cons_zero, List.set_cons_succ]
        refine held_take 25 (some 70) ?_ rfl rfl (by kernel_rfl) (by kernel_rfl) (by kernel_rfl) (fun _ _ _ h => h) (by assumption) (by rfl) ?_ ?_
        rotate_left
        · intro w hSw
          try dsimp only at hSw
          try simp only [List.getElem_toArray, List.getElem_cons_succ, List.getElem_cons_zero]
          go_simp
          try with_reducible rfl
        try simp only [Act.put, List.setIfInBounds_toArray, List.set_cons_zero, List.set_cons_succ]
        refine held_take 26 (some 71) ?_ rfl rfl (by kernel_rfl) (by kernel_rfl) (by kernel_rfl) (fun _ _ _ h => h) (by assumption) (by rfl) ?_ ?_
        rotate_left
        · intro w hSw
          try dsimp only at hSw
          try simp only [List.getElem_toArray, List.getElem_cons_succ, List.getElem_cons_zero]
          go_simp
          try with_reducible rfl
        try simp only [Act.put, List.setIfInBounds_toArray, List.set_cons_zero, List.set_cons_succ]
        refine held_take 27 (some 72) ?_ rfl rfl (by kernel_rfl) (by kernel_rfl) (by kernel_rfl) (fun _ _ _ h => h) (by assumption) (by rfl) ?_ ?_
        rotate_left
        · intro w hSw
          try dsimp only at hSw
          try simp only [List.getElem_toArray, List.getElem_cons_succ, List.getElem_cons_zero]
          go_simp
          try with_reducible rfl
        try simp only [Act.put, List.setIfInBounds_toArray, List.set_cons_zero, List.set_cons_succ]
        refine held_take 28 (some 73) ?_ rfl rfl (by kernel_rfl) (by kernel_rfl) (by kernel_rfl) (fun _ _ _ h => h) (by assumption) (by rfl) ?_ ?_
        rotate_left
        · intro w hSw
          try dsimp only at hSw
          try simp only [List.getElem_toArray, List.getElem_cons_succ, List.getElem_cons_zero]
          go_simp
          try with_reducible rfl
        try simp only [Act.put, List.setIfInBounds_toArray, List.set_cons_zero, List.set_cons_succ]
        refine held_take 29 (some 74) ?_ rfl rfl (by kernel_rfl) (by kernel_rfl) (by kernel_rfl) (fun _ _ _ h => h) (by assumption) (by rfl) ?_ ?_
        rotate_left
        · intro w hSw
          try dsimp only at hSw
          try simp only [List.getElem_toArray, List.getElem_cons_succ, List.getElem_cons_zero]
          go_simp
          try with_reducible rfl
        try simp only [Act.put, List.setIfInBounds_toArray, List.set_cons_zero, List.set_cons_succ]
        refine held_take 30 (some 75) ?_ rfl rfl (by kernel_rfl) (by kernel_rfl) (by kernel_rfl) (fun _ _ _ h => h) (by assumption) (by rfl) ?_ ?_
        rotate_left
        · intro w hSw
          try dsimp only at hSw
          try simp only [List.getElem_toArray, List.getElem_cons_succ, List.getElem_cons_zero]
          go_simp
          try with_reducible rfl
        try simp only [Act.put, List.setIfInBounds_toArray, List.set_cons_zero, List.set_cons_succ]
        refine held_take 31 (some 76) ?_ rfl rfl (by kernel_rfl) (by kernel_rfl) (by kernel_rfl) (fun _ _ _ h => h) (by assumption) (by rfl) ?_ ?_
        rotate_left
        · intro w hSw
          try dsimp only at hSw
          try simp only [List.getElem_toArray, List.getElem_cons_succ, List.getElem_cons_zero]
          go_simp
          try with_reducible rfl
        try simp only [Act.put, List.setIfInBounds_toArray, List.set_cons_zero, List.set_cons_succ]
        refine wpAnyH_ready (rs := [32]) (by kernel_rfl) (by simp) ?_
        refine AllReadyH.cons rfl (fun K hK => ?_) AllReadyH.nil
        try simp only [List.getElem_toArray, List.getElem_cons_succ, List.getElem_cons_zero]
        go_simp
        (go_at_call 29; refine (EC.out (by trivial) (by trivial) _).mono ?_; rintro e' w' ⟨rfl, hbb⟩)
        refine hK.out _ _ (keep_p5 (by assumption) hbb) (fun hHeld => ?_)
        clear hK K
        try simp only [Act.put, List.setIfInBounds_toArray, List.set_cons_zero, List.set_cons_succ]
        refine held_take 33 (some 78) ?_ rfl rfl (by kernel_rfl) (by kernel_rfl) (by kernel_rfl) (fun _ _ _ h => h) (by assumption) (by rfl) ?_ ?_
        rotate_left
        · intro w hSw
          try dsimp only at hSw
          try simp only [List.getElem_toArray, List.getElem_cons_succ, List.getElem_cons_zero]
          go_simp
          try with_reducible rfl
        try simp only [Act.put, List.setIfInBounds_toArray, List.set_cons_zero, List.set_cons_succ]
        refine held_take 34 (some 79) ?_ rfl rfl (by kernel_rfl) (by kernel_rfl) (by kernel_rfl) (fun _ _ _ h => h) (by assumption) (by rfl) ?_ ?_
        rotate_left
        · intro w hSw
          try dsimp only at hSw
          try simp only [List.getElem_toArray, List.getElem_cons_succ, List.getElem_cons_zero]
          go_simp
          try with_reducible rfl
        try simp only [Act.put, List.setIfInBounds_toArray, List.set_cons_zero, List.set_cons_succ]
        refine held_take 35 (some 80) ?_ rfl rfl (by kernel_rfl) (by kernel_rfl) (by kernel_rfl) (fun _ _ _ h => h) (by assumption) (by rfl) ?_ ?_
        rotate_left
        · intro w hSw
          try dsimp only at hSw
          try simp only [List.getElem_toArray, List.getElem_cons_succ, List.getElem_cons_zero]
          go_simp
          try with_reducible rfl
        try simp only [Act.put, List.setIfInBounds_toArray, List.set_cons_zero, List.set_cons_succ]
        refine held_take 36 (some 4) ?_ rfl rfl (by kernel_rfl) (by kernel_rfl) (by kernel_rfl) (fun _ _ _ h => h) (by assumption) (by rfl) ?_ ?_
        rotate_left
        · intro w hSw
          try dsimp only at hSw
          try simp only [List.getElem_toArray, List.getElem_cons_succ, List.getElem_cons_zero]
          go_simp
          try with_reducible rfl
        try simp only [Act.put, List.setIfInBounds_toArray, List.set_cons_zero, List.set_cons_succ]
        refine wpAnyH_done (by kernel_rfl) ?_ _
        have hh := hHeld
        go_wp2
        go_ret
        exact ⟨rfl, by rw [hn]; exact tail_p5 hh⟩
set_option maxRecDepth 100000 in
set_option maxHeartbeats 16000000 in
theorem spanParted_gt (w : World) (hO : OpsIn w) (d : Dp) (wa : d.wf) (e : Evr) (we : e.wf) (hc : ecmp e d.evr = 1) : Calls Tryd.prog 7 #[d.val, e.val] w fun e w' => e = .returned (.bool true) ∧ Below w.heap.size w w' := by
  have LA := Lib.hid (fun W => long04 d.evr W ⟨wa.2.2.2.1, wa.2.2.2.2⟩)
  have LE := Lib.hid (fun W => long04 e W ⟨we.2.1, we.2.2⟩)
  have AW := Lib.hid (fun W (h : Below w.heap.size w W) => awake04 W (hO.below h))
  have S0 := new_p2 d e w
  dsimp only at S0
  have oa := Evr.ok_of d.evr
  have oe := Evr.ok_of e
  have H1 := Lib.hid (fun ha he W => has_k d e 1 (1) false W (oa ha) (oe he) (by decide) (by decide) hc (by decide +kernel))
  have H2 := Lib.hid (fun ha he W => has_k d e 2 (1) false W (oa ha) (oe he) (by decide) (by decide) hc (by decide +kernel))
  have H4 := Lib.hid (fun ha he W => has_k d e 4 (1) true W (oa ha) (oe he) (by decide) (by decide) hc (by decide +kernel))
  have H3 := Lib.hid (fun ha he W => has_k d e 3 (1) false W (oa ha) (oe he) (by decide) (by decide) hc (by decide +kernel))
  have H6 := Lib.hid (fun ha he W => has_k d e 6 (1) true W (oa ha) (oe he) (by decide) (by decide) hc (by decide +kernel))
  have EC := Lib.hid (fun ha he W => evr_k e d.evr (1) W (oe he) (oa ha) hc)
  clear oa oe wa we hO hc
  generalize longB d.evr = la at *
  generalize longB e = le at *
  unfold Evr.val at LA LE EC H1 H2 H4 H3 H6
  unfold Dp.val at H1 H2 H4 H3 H6
  dsimp only at H1 H2 H4 H3 H6
  unfold Dp.val Evr.val
  go_enter Tryd.func7, Tryd.ntmps7
  go_wp2_with fail
  go_at_call 23
  generalize ((w.alloc (.cells #[.string (bs d.name), .int .u8 d.op, .int .i64 d.evr.epoch, .string (bs d.evr.ver), .string (bs d.evr.rel)] 25)).alloc (.cells #[.int .i64 e.epoch, .string (bs e.ver), .string (bs e.rel)] 23)) = W at *
  generalize hn : w.heap.size = n at *
  obtain ⟨c0_0, c0_1, c0_2, c0_3, c0_4, c1_0, c1_1, c1_2, l0, l1, hB⟩ := id S0
  go_wp2_with fail
  go_at_call 23
  refine (LA.out _).mono ?_
  rintro e1 w1 ⟨rfl, h⟩
  have S1 := keep_p2 S0 h
  clear S0 h
  obtain ⟨c0_0, c0_1, c0_2, c0_3, c0_4, c1_0, c1_1, c1_2, l0, l1, hB⟩ := id S1
  cases la with
  | true =>
    go_wp2_with fail
    go_at_call 24
    refine (AW.out _ hB).mono ?_
    rintro e9 w9 ⟨rfl, h⟩
    go_wp2
    go_ret
    exact ⟨rfl, by rw [hn]; exact hB.trans (h.mono (by omega))⟩
  | false =>
    go_wp2_with fail
    go_at_call 23
    refine (LE.out _).mono ?_
    rintro e2 w2 ⟨rfl, h⟩
    have S2 := keep_p2 S1 h
    clear c0_0 c0_1 c0_2 c0_3 c0_4 c1_0 c1_1 c1_2 l0 l1 hB
    clear S1 h
    obtain ⟨c0_0, c0_1, c0_2, c0_3, c0_4, c1_0, c1_1, c1_2, l0, l1, hB⟩ := id S2
    cases le with
    | true =>
      go_wp2_with fail
      go_at_call 24
      refine (AW.out _ hB).mono ?_
      rintro e9 w9 ⟨rfl, h⟩
      go_wp2
      go_ret
      exact ⟨rfl, by rw [hn]; exact hB.trans (h.mono (by omega))⟩
    | false =>
      go_wp2_with fail
      go_at_call 24
      refine (AW.out _ hB).mono ?_
      rintro e3 w3 ⟨rfl, h⟩
      have S3 := keep_p2 S2 h
      clear c0_0 c0_1 c0_2 c0_3 c0_4 c1_0 c1_1 c1_2 l0 l1 hB
      clear S2 h
      obtain ⟨c0_0, c0_1, c0_2, c0_3, c0_4, c1_0, c1_1, c1_2, l0, l1, hB⟩ := id S3
      have SG := grow_p3 S3
      dsimp only at SG
      go_wp2_with fail
      generalize hV : w3.alloc (.cells #[.bool false, .bool false, .bool false] 34) = V at *
      generalize w3.heap.size = g at *
      clear c0_0 c0_1 c0_2 c0_3 c0_4 c1_0 c1_1 c1_2 l0 l1 hB S3 hV
      obtain ⟨c0_0, c0_1, c0_2, c0_3, c0_4, c1_0, c1_1, c1_2, c2_0, c2_1, c2_2, l0, l1, l2, z0, z1, z2, lg, hB⟩ := id SG
      refine wp_loop_rounds 4 ?_
      rw [rounds_succ]
      go_wp2_with fail
      go_at_call 27
      refine (H1.out (by trivial) (by trivial) _).mono ?_
      rintro er0 wr0 ⟨rfl, h⟩
      have h' := ((Below.refl V.heap.size V).alloc (Nat.le_refl _) _).trans (h.mono (by simp))
      have T0 := keep_p3 SG h'
      clear c0_0 c0_1 c0_2 c0_3 c0_4 c1_0 c1_1 c1_2 c2_0 c2_1 c2_2 l0 l1 l2 z0 z1 z2 lg hB
      clear SG h h'
      obtain ⟨c0_0, c0_1, c0_2, c0_3, c0_4, c1_0, c1_1, c1_2, c2_0, c2_1, c2_2, l0, l1, l2, z0, z1, z2, lg, hB⟩ := id T0
      have S0' := set_p3_0 T0 false
      go_wp2_with fail
      generalize wr0.setCell { block := g, off := 0 } (Value.bool false) = v0 at *
      clear c0_0 c0_1 c0_2 c0_3 c0_4 c1_0 c1_1 c1_2 c2_0 c2_1 c2_2 l0 l1 l2 z0 z1 z2 lg hB T0
      obtain ⟨c0_0, c0_1, c0_2, c0_3, c0_4, c1_0, c1_1, c1_2, c2_0, c2_1, c2_2, l0, l1, l2, z0, z1, z2, lg, hB⟩ := id S0'
      rw [rounds_succ]
      go_wp2_with fail
      go_at_call 27
      refine (H2.out (by trivial) (by trivial) _).mono ?_
      rintro er1 wr1 ⟨rfl, h⟩
      have h' := ((Below.refl v0.heap.size v0).alloc (Nat.le_refl _) _).trans (h.mono (by simp))
      have T1 := keep_p3 S0' h'
      clear c0_0 c0_1 c0_2 c0_3 c0_4 c1_0 c1_1 c1_2 c2_0 c2_1 c2_2 l0 l1 l2 z0 z1 z2 lg hB
      clear S0' h h'
      obtain ⟨c0_0, c0_1, c0_2, c0_3, c0_4, c1_0, c1_1, c1_2, c2_0, c2_1, c2_2, l0, l1, l2, z0, z1, z2, lg, hB⟩ := id T1
      have S1' := set_p3_1 T1 false
      go_wp2_with fail
      generalize wr1.setCell { block := g, off := 1 } (Value.bool false) = v1 at *
      clear c0_0 c0_1 c0_2 c0_3 c0_4 c1_0 c1_1 c1_2 c2_0 c2_1 c2_2 l0 l1 l2 z0 z1 z2 lg hB T1
      obtain ⟨c0_0, c0_1, c0_2, c0_3, c0_4, c1_0, c1_1, c1_2, c2_0, c2_1, c2_2, l0, l1, l2, z0, z1, z2, lg, hB⟩ := id S1'
      rw [rounds_succ]
      go_wp2_with fail
      go_at_call 27
      refine (H4.out (by trivial) (by trivial) _).mono ?_
      rintro er2 wr2 ⟨rfl, h⟩
      have h' := ((Below.refl v1.heap.size v1).alloc (Nat.le_refl _) _).trans (h.mono (by simp))
      have T2 := keep_p3 S1' h'
      clear c0_0 c0_1 c0_2 c0_3 c0_4 c1_0 c1_1 c1_2 c2_0 c2_1 c2_2 l0 l1 l2 z0 z1 z2 lg hB
      clear S1' h h'
      obtain ⟨c0_0, c0_1, c0_2, c0_3, c0_4, c1_0, c1_1, c1_2, c2_0, c2_1, c2_2, l0, l1, l2, z0, z1, z2, lg, hB⟩ := id T2
      have S2' := set_p3_2 T2 true
      go_wp2_with fail
      generalize wr2.setCell { block := g, off := 2 } (Value.bool true) = v2 at *
      clear c0_0 c0_1 c0_2 c0_3 c0_4 c1_0 c1_1 c1_2 c2_0 c2_1 c2_2 l0 l1 l2 z0 z1 z2 lg hB T2
      obtain ⟨c0_0, c0_1, c0_2, c0_3, c0_4, c1_0, c1_1, c1_2, c2_0, c2_1, c2_2, l0, l1, l2, z0, z1, z2, lg, hB⟩ := id S2'
      rw [rounds_succ]
      go_wp2_with fail
      go_region
      · generalize hV : ((v2.alloc (.cells #[.string (bs d.name), .int .u8 d.op, .int .i64 d.evr.epoch, .string (bs d.evr.ver), .string (bs d.evr.rel)] 25)).alloc (.cells #[.string (bs d.name), .int .u8 d.op, .int .i64 d.evr.epoch, .string (bs d.evr.ver), .string (bs d.evr.rel)] 25)).drew = V at *
        obtain ⟨m, hm⟩ : ∃ m, m = v2.heap.size := ⟨_, rfl⟩
        obtain ⟨q, hq⟩ : ∃ q, q = v2.heap.size + 1 := ⟨_, rfl⟩
        obtain ⟨SY, k1, k2, d1, d2, d4, d5, d3⟩ := twop_0 S2' hV hm hq
        have SX := set_p5 SY d1 d2 d4 d5 d3
        rw [← hq, ← hm]
        clear c0_0 c0_1 c0_2 c0_3 c0_4 c1_0 c1_1 c1_2 c2_0 c2_1 c2_2 l0 l1 l2 z0 z1 z2 lg hB S2' hV hm hq
        have SYh := Lib.hid SY
        obtain ⟨yc0_0, yc0_1, yc0_2, yc0_3, yc0_4, yc1_0, yc1_1, yc1_2, yc2_0, yc2_1, yc2_2, yc3_0, yc3_1, yc3_2, yc3_3, yc3_4, yc4_0, yc4_1, yc4_2, yc4_3, yc4_4, yl0, yl1, yl2, yl3, yl4, yhB⟩ := SY
        go_wp2_with fail
        generalize (V.setCell { block := m, off := 1 } (Value.int IntKind.u8 3)).setCell { block := q, off := 1 } (Value.int IntKind.u8 6) = U at *
        clear SYh k1 k2 yc0_0 yc0_1 yc0_2 yc0_3 yc0_4 yc1_0 yc1_1 yc1_2 yc2_0 yc2_1 yc2_2 yc3_0 yc3_1 yc3_2 yc3_3 yc3_4 yc4_0 yc4_1 yc4_2 yc4_3 yc4_4 yl0 yl1 yl2 yl3 yl4 yhB
        obtain ⟨c0_0, c0_1, c0_2, c0_3, c0_4, c1_0, c1_1, c1_2, c2_0, c2_1, c2_2, c3_0, c3_1, c3_2, c3_3, c3_4, c4_0, c4_1, c4_2, c4_3, c4_4, l0, l1, l2, l3, l4, hB⟩ := id SX
        refine wp_region_held_drew (S := fun W => W.cell? ⟨n, 0, none⟩ = some (.string (bs d.name)) ∧ W.cell? ⟨n, 1, none⟩ = some (.int .u8 d.op) ∧ W.cell? ⟨n, 2, none⟩ = some (.int .i64 d.evr.epoch) ∧ W.cell? ⟨n, 3, none⟩ = some (.string (bs d.evr.ver)) ∧ W.cell? ⟨n, 4, none⟩ = some (.string (bs d.evr.rel)) ∧ W.cell? ⟨n + 1, 0, none⟩ = some (.int .i64 e.epoch) ∧ W.cell? ⟨n + 1, 1, none⟩ = some (.string (bs e.ver)) ∧ W.cell? ⟨n + 1, 2, none⟩ = some (.string (bs e.rel)) ∧ W.cell? ⟨g, 0, none⟩ = some (.bool false) ∧ W.cell? ⟨g, 1, none⟩ = some (.bool false) ∧ W.cell? ⟨g, 2, none⟩ = some (.bool true) ∧ W.cell? ⟨m, 0, none⟩ = some (.string (bs d.name)) ∧ W.cell? ⟨m, 1, none⟩ = some (.int .u8 3) ∧ W.cell? ⟨m, 2, none⟩ = some (.int .i64 d.evr.epoch) ∧ W.cell? ⟨m, 3, none⟩ = some (.string (bs d.evr.ver)) ∧ W.cell? ⟨m, 4, none⟩ = some (.string (bs d.evr.rel)) ∧ W.cell? ⟨q, 0, none⟩ = some (.string (bs d.name)) ∧ W.cell? ⟨q, 1, none⟩ = some (.int .u8 6) ∧ W.cell? ⟨q, 2, none⟩ = some (.int .i64 d.evr.epoch) ∧ W.cell? ⟨q, 3, none⟩ = some (.string (bs d.evr.ver)) ∧ W.cell? ⟨q, 4, none⟩ = some (.string (bs d.evr.rel)) ∧ n < W.heap.size ∧ n + 1 < W.heap.size ∧ g < W.heap.size ∧ m < W.heap.size ∧ q < W.heap.size ∧ Below n w W) (by kernel_rfl) (by exact ⟨c0_0, c0_1, c0_2, c0_3, c0_4, c1_0, c1_1, c1_2, c2_0, c2_1, c2_2, c3_0, c3_1, c3_2, c3_3, c3_4, c4_0, c4_1, c4_2, c4_3, c4_4, l0, l1, l2, l3, l4, hB.drew⟩) (fun hHeld => ?_)
        refine held_take 0 (some 45) ?_ rfl rfl (by kernel_rfl) (by kernel_rfl) (by kernel_rfl) (fun _ _ _ h => h) (by assumption) (by rfl) ?_ ?_
        rotate_left
        · intro w hSw
          try dsimp only at hSw
          try simp only [List.getElem_toArray, List.getElem_cons_succ, List.getElem_cons_zero]
          go_simp
          try with_reducible rfl
        try simp only [Act.put, List.setIfInBounds_toArray, List.set_cons_zero, List.set_cons_succ]
        refine held_take 1 (some 46) ?_ rfl rfl (by kernel_rfl) (by kernel_rfl) (by kernel_rfl) (fun _ _ _ h => h) (by assumption) (by rfl) ?_ ?_
        rotate_left
        · intro w hSw
          try dsimp only at hSw
          try simp only [List.getElem_toArray, List.getElem_cons_succ, List.getElem_cons_zero]
          go_simp
          try with_reducible rfl
        try simp only [Act.put, List.setIfInBounds_toArray, List.set_cons_zero, List.set_cons_succ]
        refine held_take 2 (some 47) ?_ rfl rfl (by kernel_rfl) (by kernel_rfl) (by kernel_rfl) (fun _ _ _ h => h) (by assumption) (by rfl) ?_ ?_
        rotate_left
        · intro w hSw
          try dsimp only at hSw
          try simp only [List.getElem_toArray, List.getElem_cons_succ, List.getElem_cons_zero]
          go_simp
          try with_reducible rfl
        try simp only [Act.put, List.setIfInBounds_toArray, List.set_cons_zero, List.set_cons_succ]
        refine held_take 3 (some 48) ?_ rfl rfl (by kernel_rfl) (by kernel_rfl) (by kernel_rfl) (fun _ _ _ h => h) (by assumption) (by rfl) ?_ ?_
        rotate_left
        · intro w hSw
          try dsimp only at hSw
          try simp only [List.getElem_toArray, List.getElem_cons_succ, List.getElem_cons_zero]
          go_simp
          try with_reducible rfl
        try simp only [Act.put, List.setIfInBounds_toArray, List.set_cons_zero, List.set_cons_succ]
        refine held_take 4 (some 49) ?_ rfl rfl (by kernel_rfl) (by kernel_rfl) (by kernel_rfl) (fun _ _ _ h => h) (by assumption) (by rfl) ?_ ?_
        rotate_left
        · intro w hSw
          try dsimp only at hSw
          try simp only [List.getElem_toArray, List.getElem_cons_succ, List.getElem_cons_zero]
          go_simp
          try with_reducible rfl
        try simp only [Act.put, List.setIfInBounds_toArray, List.set_cons_zero, List.set_cons_succ]
        refine held_take 6 (some 51) ?_ rfl rfl (by kernel_rfl) (by kernel_rfl) (by kernel_rfl) (fun _ _ _ h => h) (by assumption) (by rfl) ?_ ?_
        rotate_left
        · intro w hSw
          try dsimp only at hSw
          try simp only [List.getElem_toArray, List.getElem_cons_succ, List.getElem_cons_zero]
          go_simp
          try with_reducible rfl
        try simp only [Act.put, List.setIfInBounds_toArray, List.set_cons_zero, List.set_cons_succ]
        refine held_take 7 (some 52) ?_ rfl rfl (by kernel_rfl) (by kernel_rfl) (by kernel_rfl) (fun _ _ _ h => h) (by assumption) (by rfl) ?_ ?_
        rotate_left
        · intro w hSw
          try dsimp only at hSw
          try simp only [List.getElem_toArray, List.getElem_cons_succ, List.getElem_cons_zero]
          go_simp
          try with_reducible rfl
        try simp only [Act.put, List.setIfInBounds_toArray, List.set_cons_zero, List.set_cons_succ]
        refine wpAnyH_ready (rs := [5]) (by kernel_rfl) (by simp) ?_
        refine AllReadyH.cons rfl (fun K hK => ?_) AllReadyH.nil
        try simp only [List.getElem_toArray, List.getElem_cons_succ, List.getElem_cons_zero]
        go_simp
        (go_at_call 27; refine (H3.out (by trivial) (by trivial) _).mono ?_; rintro e' w' ⟨rfl, hbb⟩)
        refine hK.out _ _ (keep_p5 (by assumption) hbb) (fun hHeld => ?_)
        clear hK K
        try simp only [Act.put, List.setIfInBounds_toArray, List.set_cons_zero, List.set_cons_succ]
        refine held_take 8 (some 53) ?_ rfl rfl (by kernel_rfl) (by kernel_rfl) (by kernel_rfl) (fun _ _ _ h => h) (by assumption) (by rfl) ?_ ?_
        rotate_left
        · intro w hSw
          try dsimp only at hSw
          try simp only [List.getElem_toArray, List.getElem_cons_succ, List.getElem_cons_zero]
          go_simp
          try with_reducible rfl
        try simp only [Act.put, List.setIfInBounds_toArray, List.set_cons_zero, List.set_cons_succ]
        refine held_take 9 (some 54) ?_ rfl rfl (by kernel_rfl) (by kernel_rfl) (by kernel_rfl) (fun _ _ _ h => h) (by assumption) (by rfl) ?_ ?_
        rotate_left
        · intro w hSw
          try dsimp only at hSw
          try simp only [List.getElem_toArray, List.getElem_cons_succ, List.getElem_cons_zero]
          go_simp
          try with_reducible rfl
        try simp only [Act.put, List.setIfInBounds_toArray, List.set_cons_zero, List.set_cons_succ]
        refine held_take 10 (some 55) ?_ rfl rfl (by kernel_rfl) (by kernel_rfl) (by kernel_rfl) (fun _ _ _ h => h) (by assumption) (by rfl) ?_ ?_
        rotate_left
        · intro w hSw
          try dsimp only at hSw
          try simp only [List.getElem_toArray, List.getElem_cons_succ, List.getElem_cons_zero]
          go_simp
          try with_reducible rfl
        try simp only [Act.put, List.setIfInBounds_toArray, List.set_cons_zero, List.set_cons_succ]
        refine held_take 11 (some 56) ?_ rfl rfl (by kernel_rfl) (by kernel_rfl) (by kernel_rfl) (fun _ _ _ h => h) (by assumption) (by rfl) ?_ ?_
        rotate_left
        · intro w hSw
          try dsimp only at hSw
          try simp only [List.getElem_toArray, List.getElem_cons_succ, List.getElem_cons_zero]
          go_simp
          try with_reducible rfl
        try simp only [Act.put, List.setIfInBounds_toArray, List.set_cons_zero, List.set_cons_succ]
        refine held_take 12 (some 57) ?_ rfl rfl (by kernel_rfl) (by kernel_rfl) (by kernel_rfl) (fun _ _ _ h => h) (by assumption) (by rfl) ?_ ?_
        rotate_left
        · intro w hSw
          try dsimp only at hSw
          try simp only [List.getElem_toArray, List.getElem_cons_succ, List.getElem_cons_zero]
          go_simp
          try with_reducible rfl
        try simp only [Act.put, List.setIfInBounds_toArray, List.set_cons_zero, List.set_cons_succ]
        refine held_take 13 (some 58) ?_ rfl rfl (by kernel_rfl) (by kernel_rfl) (by kernel_rfl) (fun _ _ _ h => h) (by assumption) (by rfl) ?_ ?_
        rotate_left
        · intro w hSw
          try dsimp only at hSw
          try simp only [List.getElem_toArray, List.getElem_cons_succ, List.getElem_cons_zero]
          go_simp
          try with_reducible rfl
        try simp only [Act.put, List.setIfInBounds_toArray, List.set_cons_zero, List.set_cons_succ]
        refine held_take 14 (some 59) ?_ rfl rfl (by kernel_rfl) (by kernel_rfl) (by kernel_rfl) (fun _ _ _ h => h) (by assumption) (by rfl) ?_ ?_
        rotate_left
        · intro w hSw
          try dsimp only at hSw
          try simp only [List.getElem_toArray, List.getElem_cons_succ, List.getElem_cons_zero]
          go_simp
          try with_reducible rfl
        try simp only [Act.put, List.setIfInBounds_toArray, List.set_cons_zero, List.set_cons_succ]
        refine held_take 15 (some 60) ?_ rfl rfl (by kernel_rfl) (by kernel_rfl) (by kernel_rfl) (fun _ _ _ h => h) (by assumption) (by rfl) ?_ ?_
        rotate_left
        · intro w hSw
          try dsimp only at hSw
          try simp only [List.getElem_toArray, List.getElem_cons_succ, List.getElem_cons_zero]
          go_simp
          try with_reducible rfl
        try simp only [Act.put, List.setIfInBounds_toArray, List.set_cons_zero, List.set_cons_succ]
        refine held_take 16 (some 61) ?_ rfl rfl (by kernel_rfl) (by kernel_rfl) (by kernel_rfl) (fun _ _ _ h => h) (by assumption) (by rfl) ?_ ?_
        rotate_left
        · intro w hSw
          try dsimp only at hSw
          try simp only [List.getElem_toArray, List.getElem_cons_succ, List.getElem_cons_zero]
          go_simp
          try with_reducible rfl
        try simp only [Act.put, List.setIfInBounds_toArray, List.set_cons_zero, List.set_cons_succ]
        refine held_take 18 (some 63) ?_ rfl rfl (by kernel_rfl) (by kernel_rfl) (by kernel_rfl) (fun _ _ _ h => h) (by assumption) (by rfl) ?_ ?_
        rotate_left
        · intro w hSw
          try dsimp only at hSw
          try simp only [List.getElem_toArray, List.getElem_cons_succ, List.getElem_cons_zero]
          go_simp
          try with_reducible rfl
        try simp only [Act.put, List.setIfInBounds_toArray, List.set_cons_zero, List.set_cons_succ]
        refine held_take 19 (some 64) ?_ rfl rfl (by kernel_rfl) (by kernel_rfl) (by kernel_rfl) (fun _ _ _ h => h) (by assumption) (by rfl) ?_ ?_
        rotate_left
        · intro w hSw
          try dsimp only at hSw
          try simp only [List.getElem_toArray, List.getElem_cons_succ, List.getElem_cons_zero]
          go_simp
          try with_reducible rfl
        try simp only [Act.put, List.setIfInBounds_toArray, List.set_cons_zero, List.set_cons_succ]
        refine wpAnyH_ready (rs := [17]) (by kernel_rfl) (by simp) ?_
        refine AllReadyH.cons rfl (fun K hK => ?_) AllReadyH.nil
        try simp only [List.getElem_toArray, List.getElem_cons_succ, List.getElem_cons_zero]
        go_simp
        (go_at_call 27; refine (H6.out (by trivial) (by trivial) _).mono ?_; rintro e' w' ⟨rfl, hbb⟩)
        refine hK.out _ _ (keep_p5 (by assumption) hbb) (fun hHeld => ?_)
        clear hK K
        try simp only [Act.put, List.setIfInBounds_toArray, List.set_cons_zero, List.set_cons_succ]
        refine held_take 20 (some 65) ?_ rfl rfl (by kernel_rfl) (by kernel_rfl) (by kernel_rfl) (fun _ _ _ h => h) (by assumption) (by rfl) ?_ ?_
        rotate_left
        · intro w hSw
          try dsimp only at hSw
          try simp only [List.getElem_toArray, List.getElem_cons_succ, List.getElem_cons_zero]
          go_simp
          try with_reducible rfl
        try simp only [Act.put, List.setIfInBounds_toArray, List.set_cons_zero, List.set_cons_succ]
        refine held_take 21 (some 66) ?_ rfl rfl (by kernel_rfl) (by kernel_rfl) (by kernel_rfl) (fun _ _ _ h => h) (by assumption) (by rfl) ?_ ?_
        rotate_left
        · intro w hSw
          try dsimp only at hSw
          try simp only [List.getElem_toArray, List.getElem_cons_succ, List.getElem_cons_zero]
          go_simp
          try with_reducible rfl
        try simp only [Act.put, List.setIfInBounds_toArray, List.set_cons_zero, List.set_cons_succ]
        refine held_take 22 (some 67) ?_ rfl rfl (by kernel_rfl) (by kernel_rfl) (by kernel_rfl) (fun _ _ _ h => h) (by assumption) (by rfl) ?_ ?_
        rotate_left
        · intro w hSw
          try dsimp only at hSw
          try simp only [List.getElem_toArray, List.getElem_cons_succ, List.getElem_cons_zero]
          go_simp
          try with_reducible rfl
        try simp only [Act.put, List.setIfInBounds_toArray, List.set_cons_zero, List.set_cons_succ]
        refine held_take 23 (some 68) ?_ rfl rfl (by kernel_rfl) (by kernel_rfl) (by kernel_rfl) (fun _ _ _ h => h) (by assumption) (by rfl) ?_ ?_
        rotate_left
        · intro w hSw
          try dsimp only at hSw
          try simp only [List.getElem_toArray, List.getElem_cons_succ, List.getElem_cons_zero]
          go_simp
          try with_reducible rfl
        try simp only [Act.put, List.setIfInBounds_toArray, List.set_cons_zero, List.set_cons_succ]
        refine held_take 24 (some 69) ?_ rfl rfl (by kernel_rfl) (by kernel_rfl) (by kernel_rfl) (fun _ _ _ h => h) (by assumption) (by rfl) ?_ ?_
        rotate_left
        · intro w hSw
          try dsimp only at hSw
          try simp only [List.getElem_toArray, List.getElem_cons_succ, List.getElem_cons_zero]
          go_simp
          try with_reducible rfl
        try simp only [Act.put, List.setIfInBounds_toArray, List.set_cons_zero, List.set_cons_succ]
        refine held_take 25 (some 70) ?_ rfl rfl (by kernel_rfl) (by kernel_rfl) (by kernel_rfl) (fun _ _ _ h => h) (by assumption) (by rfl) ?_ ?_
        rotate_left
        · intro w hSw
          try dsimp only at hSw
          try simp only [List.getElem_toArray, List.getElem_cons_succ, List.getElem_cons_zero]
          go_simp
          try with_reducible rfl
        try simp only [Act.put, List.setIfInBounds_toArray, List.set_cons_zero, List.set_cons_succ]
        refine held_take 26 (some 71) ?_ rfl rfl (by kernel_rfl) (by kernel_rfl) (by kernel_rfl) (fun _ _ _ h => h) (by assumption) (by rfl) ?_ ?_
        rotate_left
        · intro w hSw
          try dsimp only at hSw
          try simp only [List.getElem_toArray, List.getElem_cons_succ, List.getElem_cons_zero]
          go_simp
          try with_reducible rfl
        try simp only [Act.put, List.setIfInBounds_toArray, List.set_cons_zero, List.set_cons_succ]
        refine held_take 27 (some 72) ?_ rfl rfl (by kernel_rfl) (by kernel_rfl) (by kernel_rfl) (fun _ _ _ h => h) (by assumption) (by rfl) ?_ ?_
        rotate_left
        · intro w hSw
          try dsimp only at hSw
          try simp only [List.getElem_toArray, List.getElem_cons_succ, List.getElem_cons_zero]
          go_simp
          try with_reducible rfl
        try simp only [Act.put, List.setIfInBounds_toArray, List.set_cons_zero, List.set_cons_succ]
        refine held_take 28 (some 73) ?_ rfl rfl (by kernel_rfl) (by kernel_rfl) (by kernel_rfl) (fun _ _ _ h => h) (by assumption) (by rfl) ?_ ?_
        rotate_left
        · intro w hSw
          try dsimp only at hSw
          try simp only [List.getElem_toArray, List.getElem_cons_succ, List.getElem_cons_zero]
          go_simp
          try with_reducible rfl
        try simp only [Act.put, List.setIfInBounds_toArray, List.set_cons_zero, List.set_cons_succ]
        refine held_take 29 (some 74) ?_ rfl rfl (by kernel_rfl) (by kernel_rfl) (by kernel_rfl) (fun _ _ _ h => h) (by assumption) (by rfl) ?_ ?_
        rotate_left
        · intro w hSw
          try dsimp only at hSw
          try simp only [List.getElem_toArray, List.getElem_cons_succ, List.getElem_cons_zero]
          go_simp
          try with_reducible rfl
        try simp only [Act.put, List.setIfInBounds_toArray, List.set_cons_zero, List.set_cons_succ]
        refine held_take 30 (some 75) ?_ rfl rfl (by kernel_rfl) (by kernel_rfl) (by kernel_rfl) (fun _ _ _ h => h) (by assumption) (by rfl) ?_ ?_
        rotate_left
        · intro w hSw
          try dsimp only at hSw
          try simp only [List.getElem_toArray, List.getElem_cons_succ, List.getElem_cons_zero]
          go_simp
          try with_reducible rfl
        try simp only [Act.put, List.setIfInBounds_toArray, List.set_cons_zero, List.set_cons_succ]
        refine held_take 31 (some 76) ?_ rfl rfl (by kernel_rfl) (by kernel_rfl) (by kernel_rfl) (fun _ _ _ h => h) (by assumption) (by rfl) ?_ ?_
        rotate_left
        · intro w hSw
          try dsimp only at hSw
          try simp only [List.getElem_toArray, List.getElem_cons_succ, List.getElem_cons_zero]
          go_simp
          try with_reducible rfl
        try simp only [Act.put, List.setIfInBounds_toArray, List.set_cons_zero, List.set_cons_succ]
        refine wpAnyH_ready (rs := [32]) (by kernel_rfl) (by simp) ?_
        refine AllReadyH.cons rfl (fun K hK => ?_) AllReadyH.nil
        try simp only [List.getElem_toArray, List.getElem_cons_succ, List.getElem_cons_zero]
        go_simp
        (go_at_call 29; refine (EC.out (by trivial) (by trivial) _).mono ?_; rintro e' w' ⟨rfl, hbb⟩)
        refine hK.out _ _ (keep_p5 (by assumption) hbb) (fun hHeld => ?_)
        clear hK K
        try simp only [Act.put, List.setIfInBounds_toArray, List.set_cons_zero, List.set_cons_succ]
        refine held_take 33 (some 78) ?_ rfl rfl (by kernel_rfl) (by kernel_rfl) (by kernel_rfl) (fun _ _ _ h => h) (by assumption) (by rfl) ?_ ?_
        rotate_left
        · intro w hSw
          try dsimp only at hSw
          try simp only [List.getElem_toArray, List.getElem_cons_succ, List.getElem_cons_zero]
          go_simp
          try with_reducible rfl
        try simp only [Act.put, List.setIfInBounds_toArray, List.set_cons_zero, List.set_cons_succ]
        refine held_take 34 (some 79) ?_ rfl rfl (by kernel_rfl) (by kernel_rfl) (by kernel_rfl) (fun _ _ _ h => h) (by assumption) (by rfl) ?_ ?_
        rotate_left
        · intro w hSw
          try dsimp only at hSw
          try simp only [List.getElem_toArray, List.getElem_cons_succ, List.getElem_cons_zero]
          go_simp
          try with_reducible rfl
        try simp only [Act.put, List.setIfInBounds_toArray, List.set_cons_zero, List.set_cons_succ]
        refine held_take 35 (some 80) ?_ rfl rfl (by kernel_rfl) (by kernel_rfl) (by kernel_rfl) (fun _ _ _ h => h) (by assumption) (by rfl) ?_ ?_
        rotate_left
        · intro w hSw
          try dsimp only at hSw
          try simp only [List.getElem_toArray, List.getElem_cons_succ, List.getElem_cons_zero]
          go_simp
          try with_reducible rfl
        try simp only [Act.put, List.setIfInBounds_toArray, List.set_cons_zero, List.set_cons_succ]
        refine held_take 36 (some 4) ?_ rfl rfl (by kernel_rfl) (by kernel_rfl) (by kernel_rfl) (fun _ _ _ h => h) (by assumption) (by rfl) ?_ ?_
        rotate_left
        · intro w hSw
          try dsimp only at hSw
          try simp only [List.getElem_toArray, List.getElem_cons_succ, List.getElem_cons_zero]
          go_simp
          try with_reducible rfl
        try simp only [Act.put, List.setIfInBounds_toArray, List.set_cons_zero, List.set_cons_succ]
        refine wpAnyH_done (by kernel_rfl) ?_ _
        have hh := hHeld
        go_wp2
        go_ret
        exact ⟨rfl, by rw [hn]; exact tail_p5 hh⟩
      · generalize hV : ((v2.alloc (.cells #[.string (bs d.name), .int .u8 d.op, .int .i64 d.evr.epoch, .string (bs d.evr.ver), .string (bs d.evr.rel)] 25)).alloc (.cells #[.string (bs d.name), .int .u8 d.op, .int .i64 d.evr.epoch, .string (bs d.evr.ver), .string (bs d.evr.rel)] 25)).drew = V at *
        obtain ⟨m, hm⟩ : ∃ m, m = v2.heap.size + 1 := ⟨_, rfl⟩
        obtain ⟨q, hq⟩ : ∃ q, q = v2.heap.size := ⟨_, rfl⟩
        obtain ⟨SY, k1, k2, d1, d2, d4, d5, d3⟩ := twop_1 S2' hV hm hq
        have SX := set_p5 SY d1 d2 d4 d5 d3
        rw [← hm, ← hq]
        clear c0_0 c0_1 c0_2 c0_3 c0_4 c1_0 c1_1 c1_2 c2_0 c2_1 c2_2 l0 l1 l2 z0 z1 z2 lg hB S2' hV hm hq
        have SYh := Lib.hid SY
        obtain ⟨yc0_0, yc0_1, yc0_2, yc0_3, yc0_4, yc1_0, yc1_1, yc1_2, yc2_0, yc2_1, yc2_2, yc3_0, yc3_1, yc3_2, yc3_3, yc3_4, yc4_0, yc4_1, yc4_2, yc4_3, yc4_4, yl0, yl1, yl2, yl3, yl4, yhB⟩ := SY
        go_wp2_with fail
        generalize (V.setCell { block := m, off := 1 } (Value.int IntKind.u8 3)).setCell { block := q, off := 1 } (Value.int IntKind.u8 6) = U at *
        clear SYh k1 k2 yc0_0 yc0_1 yc0_2 yc0_3 yc0_4 yc1_0 yc1_1 yc1_2 yc2_0 yc2_1 yc2_2 yc3_0 yc3_1 yc3_2 yc3_3 yc3_4 yc4_0 yc4_1 yc4_2 yc4_3 yc4_4 yl0 yl1 yl2 yl3 yl4 yhB
        obtain ⟨c0_0, c0_1, c0_2, c0_3, c0_4, c1_0, c1_1, c1_2, c2_0, c2_1, c2_2, c3_0, c3_1, c3_2, c3_3, c3_4, c4_0, c4_1, c4_2, c4_3, c4_4, l0, l1, l2, l3, l4, hB⟩ := id SX
        refine wp_region_held_drew (S := fun W => W.cell? ⟨n, 0, none⟩ = some (.string (bs d.name)) ∧ W.cell? ⟨n, 1, none⟩ = some (.int .u8 d.op) ∧ W.cell? ⟨n, 2, none⟩ = some (.int .i64 d.evr.epoch) ∧ W.cell? ⟨n, 3, none⟩ = some (.string (bs d.evr.ver)) ∧ W.cell? ⟨n, 4, none⟩ = some (.string (bs d.evr.rel)) ∧ W.cell? ⟨n + 1, 0, none⟩ = some (.int .i64 e.epoch) ∧ W.cell? ⟨n + 1, 1, none⟩ = some (.string (bs e.ver)) ∧ W.cell? ⟨n + 1, 2, none⟩ = some (.string (bs e.rel)) ∧ W.cell? ⟨g, 0, none⟩ = some (.bool false) ∧ W.cell? ⟨g, 1, none⟩ = some (.bool false) ∧ W.cell? ⟨g, 2, none⟩ = some (.bool true) ∧ W.cell? ⟨m, 0, none⟩ = some (.string (bs d.name)) ∧ W.cell? ⟨m, 1, none⟩ = some (.int .u8 3) ∧ W.cell? ⟨m, 2, none⟩ = some (.int .i64 d.evr.epoch) ∧ W.cell? ⟨m, 3, none⟩ = some (.string (bs d.evr.ver)) ∧ W.cell? ⟨m, 4, none⟩ = some (.string (bs d.evr.rel)) ∧ W.cell? ⟨q, 0, none⟩ = some (.string (bs d.name)) ∧ W.cell? ⟨q, 1, none⟩ = some (.int .u8 6) ∧ W.cell? ⟨q, 2, none⟩ = some (.int .i64 d.evr.epoch) ∧ W.cell? ⟨q, 3, none⟩ = some (.string (bs d.evr.ver)) ∧ W.cell? ⟨q, 4, none⟩ = some (.string (bs d.evr.rel)) ∧ n < W.heap.size ∧ n + 1 < W.heap.size ∧ g < W.heap.size ∧ m < W.heap.size ∧ q < W.heap.size ∧ Below n w W) (by kernel_rfl) (by exact ⟨c0_0, c0_1, c0_2, c0_3, c0_4, c1_0, c1_1, c1_2, c2_0, c2_1, c2_2, c3_0, c3_1, c3_2, c3_3, c3_4, c4_0, c4_1, c4_2, c4_3, c4_4, l0, l1, l2, l3, l4, hB.drew⟩) (fun hHeld => ?_)
        refine held_take 0 (some 45) ?_ rfl rfl (by kernel_rfl) (by kernel_rfl) (by kernel_rfl) (fun _ _ _ h => h) (by assumption) (by rfl) ?_ ?_
        rotate_left
        · intro w hSw
          try dsimp only at hSw
          try simp only [List.getElem_toArray, List.getElem_cons_succ, List.getElem_cons_zero]
          go_simp
          try with_reducible rfl
        try simp only [Act.put, List.setIfInBounds_toArray, List.set_cons_zero, List.set_cons_succ]
        refine held_take 1 (some 46) ?_ rfl rfl (by kernel_rfl) (by kernel_rfl) (by kernel_rfl) (fun _ _ _ h => h) (by assumption) (by rfl) ?_ ?_
        rotate_left
        · intro w hSw
          try dsimp only at hSw
          try simp only [List.getElem_toArray, List.getElem_cons_succ, List.getElem_cons_zero]
          go_simp
          try with_reducible rfl
        try simp only [Act.put, List.setIfInBounds_toArray, List.set_cons_zero, List.set_cons_succ]
        refine held_take 2 (some 47) ?_ rfl rfl (by kernel_rfl) (by kernel_rfl) (by kernel_rfl) (fun _ _ _ h => h) (by assumption) (by rfl) ?_ ?_
        rotate_left
        · intro w hSw
          try dsimp only at hSw
          try simp only [List.getElem_toArray, List.getElem_cons_succ, List.getElem_cons_zero]
          go_simp
          try with_reducible rfl
        try simp only [Act.put, List.setIfInBounds_toArray, List.set_cons_zero, List.set_cons_succ]
        refine held_take 3 (some 48) ?_ rfl rfl (by kernel_rfl) (by kernel_rfl) (by kernel_rfl) (fun _ _ _ h => h) (by assumption) (by rfl) ?_ ?_
        rotate_left
        · intro w hSw
          try dsimp only at hSw
          try simp only [List.getElem_toArray, List.getElem_cons_succ, List.getElem_cons_zero]
          go_simp
          try with_reducible rfl
        try simp only [Act.put, List.setIfInBounds_toArray, List.set_cons_zero, List.set_cons_succ]
        refine held_take 4 (some 49) ?_ rfl rfl (by kernel_rfl) (by kernel_rfl) (by kernel_rfl) (fun _ _ _ h => h) (by assumption) (by rfl) ?_ ?_
        rotate_left
        · intro w hSw
          try dsimp only at hSw
          try simp only [List.getElem_toArray, List.getElem_cons_succ, List.getElem_cons_zero]
          go_simp
          try with_reducible rfl
        try simp only [Act.put, List.setIfInBounds_toArray, List.set_cons_zero, List.set_cons_succ]
        refine held_take 6 (some 51) ?_ rfl rfl (by kernel_rfl) (by kernel_rfl) (by kernel_rfl) (fun _ _ _ h => h) (by assumption) (by rfl) ?_ ?_
        rotate_left
        · intro w hSw
          try dsimp only at hSw
          try simp only [List.getElem_toArray, List.getElem_cons_succ, List.getElem_cons_zero]
          go_simp
          try with_reducible rfl
        try simp only [Act.put, List.setIfInBounds_toArray, List.set_cons_zero, List.set_cons_succ]
        refine held_take 7 (some 52) ?_ rfl rfl (by kernel_rfl) (by kernel_rfl) (by kernel_rfl) (fun _ _ _ h => h) (by assumption) (by rfl) ?_ ?_
        rotate_left
        · intro w hSw
          try dsimp only at hSw
          try simp only [List.getElem_toArray, List.getElem_cons_succ, List.getElem_cons_zero]
          go_simp
          try with_reducible rfl
        try simp only [Act.put, List.setIfInBounds_toArray, List.set_cons_zero, List.set_cons_succ]
        refine wpAnyH_ready (rs := [5]) (by kernel_rfl) (by simp) ?_
        refine AllReadyH.cons rfl (fun K hK => ?_) AllReadyH.nil
        try simp only [List.getElem_toArray, List.getElem_cons_succ, List.getElem_cons_zero]
        go_simp
        (go_at_call 27; refine (H3.out (by trivial) (by trivial) _).mono ?_; rintro e' w' ⟨rfl, hbb⟩)
        refine hK.out _ _ (keep_p5 (by assumption) hbb) (fun hHeld => ?_)
        clear hK K
        try simp only [Act.put, List.setIfInBounds_toArray, List.set_cons_zero, List.set_cons_succ]
        refine held_take 8 (some 53) ?_ rfl rfl (by kernel_rfl) (by kernel_rfl) (by kernel_rfl) (fun _ _ _ h => h) (by assumption) (by rfl) ?_ ?_
        rotate_left
        · intro w hSw
          try dsimp only at hSw
          try simp only [List.getElem_toArray, List.getElem_cons_succ, List.getElem_cons_zero]
          go_simp
          try with_reducible rfl
        try simp only [Act.put, List.setIfInBounds_toArray, List.set_cons_zero, List.set_cons_succ]
        refine held_take 9 (some 54) ?_ rfl rfl (by kernel_rfl) (by kernel_rfl) (by kernel_rfl) (fun _ _ _ h => h) (by assumption) (by rfl) ?_ ?_
        rotate_left
        · intro w hSw
          try dsimp only at hSw
          try simp only [List.getElem_toArray, List.getElem_cons_succ, List.getElem_cons_zero]
          go_simp
          try with_reducible rfl
        try simp only [Act.put, List.setIfInBounds_toArray, List.set_cons_zero, List.set_cons_succ]
        refine held_take 10 (some 55) ?_ rfl rfl (by kernel_rfl) (by kernel_rfl) (by kernel_rfl) (fun _ _ _ h => h) (by assumption) (by rfl) ?_ ?_
        rotate_left
        · intro w hSw
          try dsimp only at hSw
          try simp only [List.getElem_toArray, List.getElem_cons_succ, List.getElem_cons_zero]
          go_simp
          try with_reducible rfl
        try simp only [Act.put, List.setIfInBounds_toArray, List.set_cons_zero, List.set_cons_succ]
        refine held_take 11 (some 56) ?_ rfl rfl (by kernel_rfl) (by kernel_rfl) (by kernel_rfl) (fun _ _ _ h => h) (by assumption) (by rfl) ?_ ?_
        rotate_left
        · intro w hSw
          try dsimp only at hSw
          try simp only [List.getElem_toArray, List.getElem_cons_succ, List.getElem_cons_zero]
          go_simp
          try with_reducible rfl
        try simp only [Act.put, List.setIfInBounds_toArray, List.set_cons_zero, List.set_cons_succ]
        refine held_take 12 (some 57) ?_ rfl rfl (by kernel_rfl) (by kernel_rfl) (by kernel_rfl) (fun _ _ _ h => h) (by assumption) (by rfl) ?_ ?_
        rotate_left
        · intro w hSw
          try dsimp only at hSw
          try simp only [List.getElem_toArray, List.getElem_cons_succ, List.getElem_cons_zero]
          go_simp
          try with_reducible rfl
        try simp only [Act.put, List.setIfInBounds_toArray, List.set_cons_zero, List.set_cons_succ]
        refine held_take 13 (some 58) ?_ rfl rfl (by kernel_rfl) (by kernel_rfl) (by kernel_rfl) (fun _ _ _ h => h) (by assumption) (by rfl) ?_ ?_
        rotate_left
        · intro w hSw
          try dsimp only at hSw
          try simp only [List.getElem_toArray, List.getElem_cons_succ, List.getElem_cons_zero]
          go_simp
          try with_reducible rfl
        try simp only [Act.put, List.setIfInBounds_toArray, List.set_cons_zero, List.set_cons_succ]
        refine held_take 14 (some 59) ?_ rfl rfl (by kernel_rfl) (by kernel_rfl) (by kernel_rfl) (fun _ _ _ h => h) (by assumption) (by rfl) ?_ ?_
        rotate_left
        · intro w hSw
          try dsimp only at hSw
          try simp only [List.getElem_toArray, List.getElem_cons_succ, List.getElem_cons_zero]
          go_simp
          try with_reducible rfl
        try simp only [Act.put, List.setIfInBounds_toArray, List.set_cons_zero, List.set_cons_succ]
        refine held_take 15 (some 60) ?_ rfl rfl (by kernel_rfl) (by kernel_rfl) (by kernel_rfl) (fun _ _ _ h => h) (by assumption) (by rfl) ?_ ?_
        rotate_left
        · intro w hSw
          try dsimp only at hSw
          try simp only [List.getElem_toArray, List.getElem_cons_succ, List.getElem_cons_zero]
          go_simp
          try with_reducible rfl
        try simp only [Act.put, List.setIfInBounds_toArray, List.set_cons_zero, List.set_cons_succ]
        refine held_take 16 (some 61) ?_ rfl rfl (by kernel_rfl) (by kernel_rfl) (by kernel_rfl) (fun _ _ _ h => h) (by assumption) (by rfl) ?_ ?_
        rotate_left
        · intro w hSw
          try dsimp only at hSw
          try simp only [List.getElem_toArray, List.getElem_cons_succ, List.getElem_cons_zero]
          go_simp
          try with_reducible rfl
        try simp only [Act.put, List.setIfInBounds_toArray, List.set_cons_zero, List.set_cons_succ]
        refine held_take 18 (some 63) ?_ rfl rfl (by kernel_rfl) (by kernel_rfl) (by kernel_rfl) (fun _ _ _ h => h) (by assumption) (by rfl) ?_ ?_
        rotate_left
        · intro w hSw
          try dsimp only at hSw
          try simp only [List.getElem_toArray, List.getElem_cons_succ, List.getElem_cons_zero]
          go_simp
          try with_reducible rfl
        try simp only [Act.put, List.setIfInBounds_toArray, List.set_cons_zero, List.set_cons_succ]
        refine held_take 19 (some 64) ?_ rfl rfl (by kernel_rfl) (by kernel_rfl) (by kernel_rfl) (fun _ _ _ h => h) (by assumption) (by rfl) ?_ ?_
        rotate_left
        · intro w hSw
          try dsimp only at hSw
          try simp only [List.getElem_toArray, List.getElem_cons_succ, List.getElem_cons_zero]
          go_simp
          try with_reducible rfl
        try simp only [Act.put, List.setIfInBounds_toArray, List.set_cons_zero, List.set_cons_succ]
        refine wpAnyH_ready (rs := [17]) (by kernel_rfl) (by simp) ?_
        refine AllReadyH.cons rfl (fun K hK => ?_) AllReadyH.nil
        try simp only [List.getElem_toArray, List.getElem_cons_succ, List.getElem_cons_zero]
        go_simp
        (go_at_call 27; refine (H6.out (by trivial) (by trivial) _).mono ?_; rintro e' w' ⟨rfl, hbb⟩)
        refine hK.out _ _ (keep_p5 (by assumption) hbb) (fun hHeld => ?_)
        clear hK K
        try simp only [Act.put, List.setIfInBounds_toArray, List.set_cons_zero, List.set_cons_succ]
        refine held_take 20 (some 65) ?_ rfl rfl (by kernel_rfl) (by kernel_rfl) (by kernel_rfl) (fun _ _ _ h => h) (by assumption) (by rfl) ?_ ?_
        rotate_left
        · intro w hSw
          try dsimp only at hSw
          try simp only [List.getElem_toArray, List.getElem_cons_succ, List.getElem_cons_zero]
          go_simp
          try with_reducible rfl
        try simp only [Act.put, List.setIfInBounds_toArray, List.set_cons_zero, List.set_cons_succ]
        refine held_take 21 (some 66) ?_ rfl rfl (by kernel_rfl) (by kernel_rfl) (by kernel_rfl) (fun _ _ _ h => h) (by assumption) (by rfl) ?_ ?_
        rotate_left
        · intro w hSw
          try dsimp only at hSw
          try simp only [List.getElem_toArray, List.getElem_cons_succ, List.getElem_cons_zero]
          go_simp
          try with_reducible rfl
        try simp only [Act.put, List.setIfInBounds_toArray, List.set_cons_zero, List.set_cons_succ]
        refine held_take 22 (some 67) ?_ rfl rfl (by kernel_rfl) (by kernel_rfl) (by kernel_rfl) (fun _ _ _ h => h) (by assumption) (by rfl) ?_ ?_
        rotate_left
        · intro w hSw
          try dsimp only at hSw
          try simp only [List.getElem_toArray, List.getElem_cons_succ, List.getElem_cons_zero]
          go_simp
          try with_reducible rfl
        try simp only [Act.put, List.setIfInBounds_toArray, List.set_cons_zero, List.set_cons_succ]
        refine held_take 23 (some 68) ?_ rfl rfl (by kernel_rfl) (by kernel_rfl) (by kernel_rfl) (fun _ _ _ h => h) (by assumption) (by rfl) ?_ ?_
        rotate_left
        · intro w hSw
          try dsimp only at hSw
          try simp only [List.getElem_toArray, List.getElem_cons_succ, List.getElem_cons_zero]
          go_simp
          try with_reducible rfl
        try simp only [Act.put, List.setIfInBounds_toArray, List.set_cons_zero, List.set_cons_succ]
        refine held_take 24 (some 69) ?_ rfl rfl (by kernel_rfl) (by kernel_rfl) (by kernel_rfl) (fun _ _ _ h => h) (by assumption) (by rfl) ?_ ?_
        rotate_left
        · intro w hSw
          try dsimp only at hSw
          try simp only [List.getElem_toArray, List.getElem_cons_succ, List.getElem_cons_zero]
          go_simp
          try with_reducible rfl
        try simp only [Act.put, List.setIfInBounds_toArray, List.set_cons_zero, List.set_cons_succ]
        refine held_take 25 (some 70) ?_ rfl rfl (by kernel_rfl) (by kernel_rfl) (by kernel_rfl) (fun _ _ _ h => h) (by assumption) (by rfl) ?_ ?_
        rotate_left
        · intro w hSw
          try dsimp only at hSw
          try simp only [List.getElem_toArray, List.getElem_cons_succ, List.getElem_cons_zero]
          go_simp
          try with_reducible rfl
        try simp only [Act.put, List.setIfInBounds_toArray, List.set_cons_zero, List.set_cons_succ]
        refine held_take 26 (some 71) ?_ rfl rfl (by kernel_rfl) (by kernel_rfl) (by kernel_rfl) (fun _ _ _ h => h) (by assumption) (by rfl) ?_ ?_
        rotate_left
        · intro w hSw
          try dsimp only at hSw
          try simp only [List.getElem_toArray, List.getElem_cons_succ, List.getElem_cons_zero]
          go_simp
          try with_reducible rfl
        try simp only [Act.put, List.setIfInBounds_toArray, List.set_cons_zero, List.set_cons_succ]
        refine held_take 27 (some 72) ?_ rfl rfl (by kernel_rfl) (by kernel_rfl) (by kernel_rfl) (fun _ _ _ h => h) (by assumption) (by rfl) ?_ ?_
        rotate_left
        · intro w hSw
          try dsimp only at hSw
          try simp only [List.getElem_toArray, List.getElem_cons_succ, List.getElem_cons_zero]
          go_simp
          try with_reducible rfl
        try simp only [Act.put, List.setIfInBounds_toArray, List.set_cons_zero, List.set_cons_succ]
        refine held_take 28 (some 73) ?_ rfl rfl (by kernel_rfl) (by kernel_rfl) (by kernel_rfl) (fun _ _ _ h => h) (by assumption) (by rfl) ?_ ?_
        rotate_left
        · intro w hSw
          try dsimp only at hSw
          try simp only [List.getElem_toArray, List.getElem_cons_succ, List.getElem_cons_zero]
          go_simp
          try with_reducible rfl
        try simp only [Act.put, List.setIfInBounds_toArray, List.set_cons_zero, List.set_cons_succ]
        refine held_take 29 (some 74) ?_ rfl rfl (by kernel_rfl) (by kernel_rfl) (by kernel_rfl) (fun _ _ _ h => h) (by assumption) (by rfl) ?_ ?_
        rotate_left
        · intro w hSw
          try dsimp only at hSw
          try simp only [List.getElem_toArray, List.getElem_cons_succ, List.getElem_cons_zero]
          go_simp
          try with_reducible rfl
        try simp only [Act.put, List.setIfInBounds_toArray, List.set_cons_zero, List.set_cons_succ]
        refine held_take 30 (some 75) ?_ rfl rfl (by kernel_rfl) (by kernel_rfl) (by kernel_rfl) (fun _ _ _ h => h) (by assumption) (by rfl) ?_ ?_
        rotate_left
        · intro w hSw
          try dsimp only at hSw
          try simp only [List.getElem_toArray, List.getElem_cons_succ, List.getElem_cons_zero]
          go_simp
          try with_reducible rfl
        try simp only [Act.put, List.setIfInBounds_toArray, List.set_cons_zero, List.set_cons_succ]
        refine held_take 31 (some 76) ?_ rfl rfl (by kernel_rfl) (by kernel_rfl) (by kernel_rfl) (fun _ _ _ h => h) (by assumption) (by rfl) ?_ ?_
        rotate_left
        · intro w hSw
          try dsimp only at hSw
          try simp only [List.getElem_toArray, List.getElem_cons_succ, List.getElem_cons_zero]
          go_simp
          try with_reducible rfl
        try simp only [Act.put, List.setIfInBounds_toArray, List.set_cons_zero, List.set_cons_succ]
        refine wpAnyH_ready (rs := [32]) (by kernel_rfl) (by simp) ?_
        refine AllReadyH.cons rfl (fun K hK => ?_) AllReadyH.nil
        try simp only [List.getElem_toArray, List.getElem_cons_succ, List.getElem_cons_zero]
        go_simp
        (go_at_call 29; refine (EC.out (by trivial) (by trivial) _).mono ?_; rintro e' w' ⟨rfl, hbb⟩)
        refine hK.out _ _ (keep_p5 (by assumption) hbb) (fun hHeld => ?_)
        clear hK K
        try simp only [Act.put, List.setIfInBounds_toArray, List.set_cons_zero, List.set_cons_succ]
        refine held_take 33 (some 78) ?_ rfl rfl (by kernel_rfl) (by kernel_rfl) (by kernel_rfl) (fun _ _ _ h => h) (by assumption) (by rfl) ?_ ?_
        rotate_left
        · intro w hSw
          try dsimp only at hSw
          try simp only [List.getElem_toArray, List.getElem_cons_succ, List.getElem_cons_zero]
          go_simp
          try with_reducible rfl
        try simp only [Act.put, List.setIfInBounds_toArray, List.set_cons_zero, List.set_cons_succ]
        refine held_take 34 (some 79) ?_ rfl rfl (by kernel_rfl) (by kernel_rfl) (by kernel_rfl) (fun _ _ _ h => h) (by assumption) (by rfl) ?_ ?_
        rotate_left
        · intro w hSw
          try dsimp only at hSw
          try simp only [List.getElem_toArray, List.getElem_cons_succ, List.getElem_cons_zero]
          go_simp
          try with_reducible rfl
        try simp only [Act.put, List.setIfInBounds_toArray, List.set_cons_zero, List.set_cons_succ]
        refine held_take 35 (some 80) ?_ rfl rfl (by kernel_rfl) (by kernel_rfl) (by kernel_rfl) (fun _ _ _ h => h) (by assumption) (by rfl) ?_ ?_
        rotate_left
        · intro w hSw
          try dsimp only at hSw
          try simp only [List.getElem_toArray, List.getElem_cons_succ, List.getElem_cons_zero]
          go_simp
          try with_reducible rfl
        try simp only [Act.put, List.setIfInBounds_toArray, List.set_cons_zero, List.set_cons_succ]
        refine held_take 36 (some 4) ?_ rfl rfl (by kernel_rfl) (by kernel_rfl) (by kernel_rfl) (fun _ _ _ h => h) (by assumption) (by rfl) ?_ ?_
        rotate_left
        · intro w hSw
          try dsimp only at hSw
          try simp only [List.getElem_toArray, List.getElem_cons_succ, List.getElem_cons_zero]
          go_simp
          try with_reducible rfl
        try simp only [Act.put, List.setIfInBounds_toArray, List.set_cons_zero, List.set_cons_succ]
        refine wpAnyH_done (by kernel_rfl) ?_ _
        have hh := hHeld
        go_wp2
        go_ret
        exact ⟨rfl, by rw [hn]; exact tail_p5 hh⟩
theorem spanParted_row (w : World) (hO : OpsIn w) (d : Dp) (wa : d.wf) (e : Evr) (we : e.wf) : Calls Tryd.prog 7 #[d.val, e.val] w fun e w' => e = .returned (.bool true) ∧ Below w.heap.size w w' := by
  rcases ecmp_three e d.evr with h | h | h
  · exact spanParted_lt w hO d wa e we h
  · exact spanParted_eq w hO d wa e we h
  · exact spanParted_gt w hO d wa e we h
end Go.Proofs.YtaibdghalhbpnaaDoor
