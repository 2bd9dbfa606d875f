/- EvrParts, walked. -/
import Derived.Test.YtaibdghalhbpnaaDoorEvrOrder
import Derived.Test.YtaibdghalhbpnaaDoorRowLaid
namespace Go.Proofs.YtaibdghalhbpnaaDoor
open Go.RowKit Go.Shelf

theorem evr_val (a b : Evr) (c : Int) (ha : a.ok) (hb : b.ok) (hc : ecmp a b = c) (W : World) : Calls Tryd.prog 29 #[a.val, b.val] W fun e w' => e = .returned (.int .i64 c) ∧ Below W.heap.size W w' := by
  subst hc
  exact evr_any a b W ha.1 hb.1 ha.2 hb.2
/-- by version alone -/
theorem ecmp_ver (v x : Bytes) : ecmp ⟨0, v, []⟩ ⟨0, x, []⟩ = comp v x := by rw [ecmp_eq (a := ⟨0, v, []⟩) (b := ⟨0, x, []⟩) rfl]; simp
theorem ecmp_rel (l y : Bytes) (hl : l ≠ []) (hy : y ≠ []) : ecmp ⟨0, [49], l⟩ ⟨0, [49], y⟩ = comp l y := by rw [ecmp_eq (a := ⟨0, [49], l⟩) (b := ⟨0, [49], y⟩) rfl, if_neg]; simp [comp_self, hl, hy]
theorem ecmp_norel (a b : Evr) (h : a.epoch = b.epoch) (hv : comp a.ver b.ver = 0) (hr : a.rel = [] ∨ b.rel = []) : ecmp a b = 0 := by rw [ecmp_eq h, if_pos (.inr hr)]; exact hv
theorem keep_q2 {a b : Evr} {n : Nat} {w W W' : World} (h : W.cell? ⟨n, 0, none⟩ = some (.int .i64 a.epoch) ∧ W.cell? ⟨n, 1, none⟩ = some (.string (bs a.ver)) ∧ W.cell? ⟨n, 2, none⟩ = some (.string (bs a.rel)) ∧ W.cell? ⟨n + 1, 0, none⟩ = some (.int .i64 b.epoch) ∧ W.cell? ⟨n + 1, 1, none⟩ = some (.string (bs b.ver)) ∧ W.cell? ⟨n + 1, 2, none⟩ = some (.string (bs b.rel)) ∧ n < W.heap.size ∧ n + 1 < W.heap.size ∧ Below n w W) (hb : Below W.heap.size W W') :
    W'.cell? ⟨n, 0, none⟩ = some (.int .i64 a.epoch) ∧ W'.cell? ⟨n, 1, none⟩ = some (.string (bs a.ver)) ∧ W'.cell? ⟨n, 2, none⟩ = some (.string (bs a.rel)) ∧ W'.cell? ⟨n + 1, 0, none⟩ = some (.int .i64 b.epoch) ∧ W'.cell? ⟨n + 1, 1, none⟩ = some (.string (bs b.ver)) ∧ W'.cell? ⟨n + 1, 2, none⟩ = some (.string (bs b.rel)) ∧ n < W'.heap.size ∧ n + 1 < W'.heap.size ∧ Below n w W' := by
  obtain ⟨c0_0, c0_1, c0_2, c1_0, c1_1, c1_2, l0, l1, hB⟩ := h
  have hB_le : n ≤ W.heap.size := by omega
  exact ⟨(hb.cell (p := ⟨n, 0, none⟩) l0).trans c0_0, (hb.cell (p := ⟨n, 1, none⟩) l0).trans c0_1, (hb.cell (p := ⟨n, 2, none⟩) l0).trans c0_2, (hb.cell (p := ⟨n + 1, 0, none⟩) l1).trans c1_0, (hb.cell (p := ⟨n + 1, 1, none⟩) l1).trans c1_1, (hb.cell (p := ⟨n + 1, 2, none⟩) l1).trans c1_2, Nat.lt_of_lt_of_le l0 hb.size, Nat.lt_of_lt_of_le l1 hb.size, hB.trans (hb.mono hB_le)⟩
theorem tail_q2 {a b : Evr} {n : Nat} {w W : World} (h : W.cell? ⟨n, 0, none⟩ = some (.int .i64 a.epoch) ∧ W.cell? ⟨n, 1, none⟩ = some (.string (bs a.ver)) ∧ W.cell? ⟨n, 2, none⟩ = some (.string (bs a.rel)) ∧ W.cell? ⟨n + 1, 0, none⟩ = some (.int .i64 b.epoch) ∧ W.cell? ⟨n + 1, 1, none⟩ = some (.string (bs b.ver)) ∧ W.cell? ⟨n + 1, 2, none⟩ = some (.string (bs b.rel)) ∧ n < W.heap.size ∧ n + 1 < W.heap.size ∧ Below n w W) : Below n w W := h.2.2.2.2.2.2.2.2
theorem keep_q4 {a b : Evr} {s : ByteArray} {m q : Nat} {n : Nat} {w W W' : World} (h : W.cell? ⟨n, 0, none⟩ = some (.int .i64 a.epoch) ∧ W.cell? ⟨n, 1, none⟩ = some (.string (bs a.ver)) ∧ W.cell? ⟨n, 2, none⟩ = some (.string (bs a.rel)) ∧ W.cell? ⟨n + 1, 0, none⟩ = some (.int .i64 b.epoch) ∧ W.cell? ⟨n + 1, 1, none⟩ = some (.string (bs b.ver)) ∧ W.cell? ⟨n + 1, 2, none⟩ = some (.string (bs b.rel)) ∧ W.cell? ⟨m, 0, none⟩ = some (.int .i64 a.epoch) ∧ W.cell? ⟨m, 1, none⟩ = some (.string (bs a.ver)) ∧ W.cell? ⟨m, 2, none⟩ = some (.string ⟨#[]⟩) ∧ W.cell? ⟨q, 0, none⟩ = some (.int .i64 b.epoch) ∧ W.cell? ⟨q, 1, none⟩ = some (.string (bs b.ver)) ∧ W.cell? ⟨q, 2, none⟩ = some (.string s) ∧ n < W.heap.size ∧ n + 1 < W.heap.size ∧ m < W.heap.size ∧ q < W.heap.size ∧ Below n w W) (hb : Below W.heap.size W W') :
    W'.cell? ⟨n, 0, none⟩ = some (.int .i64 a.epoch) ∧ W'.cell? ⟨n, 1, none⟩ = some (.string (bs a.ver)) ∧ W'.cell? ⟨n, 2, none⟩ = some (.string (bs a.rel)) ∧ W'.cell? ⟨n + 1, 0, none⟩ = some (.int .i64 b.epoch) ∧ W'.cell? ⟨n + 1, 1, none⟩ = some (.string (bs b.ver)) ∧ W'.cell? ⟨n + 1, 2, none⟩ = some (.string (bs b.rel)) ∧ W'.cell? ⟨m, 0, none⟩ = some (.int .i64 a.epoch) ∧ W'.cell? ⟨m, 1, none⟩ = some (.string (bs a.ver)) ∧ W'.cell? ⟨m, 2, none⟩ = some (.string ⟨#[]⟩) ∧ W'.cell? ⟨q, 0, none⟩ = some (.int .i64 b.epoch) ∧ W'.cell? ⟨q, 1, none⟩ = some (.string (bs b.ver)) ∧ W'.cell? ⟨q, 2, none⟩ = some (.string s) ∧ n < W'.heap.size ∧ n + 1 < W'.heap.size ∧ m < W'.heap.size ∧ q < W'.heap.size ∧ Below n w W' := by
  obtain ⟨c0_0, c0_1, c0_2, c1_0, c1_1, c1_2, c2_0, c2_1, c2_2, c3_0, c3_1, c3_2, l0, l1, l2, l3, hB⟩ := h
  have hB_le : n ≤ W.heap.size := by omega
  exact ⟨(hb.cell (p := ⟨n, 0, none⟩) l0).trans c0_0, (hb.cell (p := ⟨n, 1, none⟩) l0).trans c0_1, (hb.cell (p := ⟨n, 2, none⟩) l0).trans c0_2, (hb.cell (p := ⟨n + 1, 0, none⟩) l1).trans c1_0, (hb.cell (p := ⟨n + 1, 1, none⟩) l1).trans c1_1, (hb.cell (p := ⟨n + 1, 2, none⟩) l1).trans c1_2, (hb.cell (p := ⟨m, 0, none⟩) l2).trans c2_0, (hb.cell (p := ⟨m, 1, none⟩) l2).trans c2_1, (hb.cell (p := ⟨m, 2, none⟩) l2).trans c2_2, (hb.cell (p := ⟨q, 0, none⟩) l3).trans c3_0, (hb.cell (p := ⟨q, 1, none⟩) l3).trans c3_1, (hb.cell (p := ⟨q, 2, none⟩) l3).trans c3_2, Nat.lt_of_lt_of_le l0 hb.size, Nat.lt_of_lt_of_le l1 hb.size, Nat.lt_of_lt_of_le l2 hb.size, Nat.lt_of_lt_of_le l3 hb.size, hB.trans (hb.mono hB_le)⟩
theorem tail_q4 {a b : Evr} {s : ByteArray} {m q : Nat} {n : Nat} {w W : World} (h : W.cell? ⟨n, 0, none⟩ = some (.int .i64 a.epoch) ∧ W.cell? ⟨n, 1, none⟩ = some (.string (bs a.ver)) ∧ W.cell? ⟨n, 2, none⟩ = some (.string (bs a.rel)) ∧ W.cell? ⟨n + 1, 0, none⟩ = some (.int .i64 b.epoch) ∧ W.cell? ⟨n + 1, 1, none⟩ = some (.string (bs b.ver)) ∧ W.cell? ⟨n + 1, 2, none⟩ = some (.string (bs b.rel)) ∧ W.cell? ⟨m, 0, none⟩ = some (.int .i64 a.epoch) ∧ W.cell? ⟨m, 1, none⟩ = some (.string (bs a.ver)) ∧ W.cell? ⟨m, 2, none⟩ = some (.string ⟨#[]⟩) ∧ W.cell? ⟨q, 0, none⟩ = some (.int .i64 b.epoch) ∧ W.cell? ⟨q, 1, none⟩ = some (.string (bs b.ver)) ∧ W.cell? ⟨q, 2, none⟩ = some (.string s) ∧ n < W.heap.size ∧ n + 1 < W.heap.size ∧ m < W.heap.size ∧ q < W.heap.size ∧ Below n w W) : Below n w W := h.2.2.2.2.2.2.2.2.2.2.2.2.2.2.2.2
theorem new_q2 (a b : Evr) (w : World) : let W := ((w.alloc (.cells #[.int .i64 a.epoch, .string (bs a.ver), .string (bs a.rel)] 23)).alloc (.cells #[.int .i64 b.epoch, .string (bs b.ver), .string (bs b.rel)] 23)); let n := w.heap.size; W.cell? ⟨n, 0, none⟩ = some (.int .i64 a.epoch) ∧ W.cell? ⟨n, 1, none⟩ = some (.string (bs a.ver)) ∧ W.cell? ⟨n, 2, none⟩ = some (.string (bs a.rel)) ∧ W.cell? ⟨n + 1, 0, none⟩ = some (.int .i64 b.epoch) ∧ W.cell? ⟨n + 1, 1, none⟩ = some (.string (bs b.ver)) ∧ W.cell? ⟨n + 1, 2, none⟩ = some (.string (bs b.rel)) ∧ n < W.heap.size ∧ n + 1 < W.heap.size ∧ Below n w W := by
  refine ⟨?_, ?_, ?_, ?_, ?_, ?_, ?_, ?_, ?_⟩
  all_goals first | exact (World.cell?_alloc_at _ _ _ _ (by simp)).trans rfl | exact (World.cell?_alloc_past _ _ _ (by simp; try omega)).trans ((World.cell?_alloc_at _ _ _ _ (by simp)).trans rfl) | exact (((Below.refl _ _).alloc (by simp; try omega) _).alloc (by simp; try omega) _) | (simp; try omega)
theorem twoq_0 {a b : Evr} {n m q : Nat} {w W V : World} (h : W.cell? ⟨n, 0, none⟩ = some (.int .i64 a.epoch) ∧ W.cell? ⟨n, 1, none⟩ = some (.string (bs a.ver)) ∧ W.cell? ⟨n, 2, none⟩ = some (.string (bs a.rel)) ∧ W.cell? ⟨n + 1, 0, none⟩ = some (.int .i64 b.epoch) ∧ W.cell? ⟨n + 1, 1, none⟩ = some (.string (bs b.ver)) ∧ W.cell? ⟨n + 1, 2, none⟩ = some (.string (bs b.rel)) ∧ n < W.heap.size ∧ n + 1 < W.heap.size ∧ Below n w W) (hV : ((W.alloc (.cells #[.int .i64 a.epoch, .string (bs a.ver), .string (bs a.rel)] 23)).alloc (.cells #[.int .i64 b.epoch, .string (bs b.ver), .string (bs b.rel)] 23)).drew = V) (hm : m = W.heap.size) (hq : q = W.heap.size + 1) : (V.cell? ⟨n, 0, none⟩ = some (.int .i64 a.epoch) ∧ V.cell? ⟨n, 1, none⟩ = some (.string (bs a.ver)) ∧ V.cell? ⟨n, 2, none⟩ = some (.string (bs a.rel)) ∧ V.cell? ⟨n + 1, 0, none⟩ = some (.int .i64 b.epoch) ∧ V.cell? ⟨n + 1, 1, none⟩ = some (.string (bs b.ver)) ∧ V.cell? ⟨n + 1, 2, none⟩ = some (.string (bs b.rel)) ∧ V.cell? ⟨m, 0, none⟩ = some (.int .i64 a.epoch) ∧ V.cell? ⟨m, 1, none⟩ = some (.string (bs a.ver)) ∧ V.cell? ⟨m, 2, none⟩ = some (.string (bs a.rel)) ∧ V.cell? ⟨q, 0, none⟩ = some (.int .i64 b.epoch) ∧ V.cell? ⟨q, 1, none⟩ = some (.string (bs b.ver)) ∧ V.cell? ⟨q, 2, none⟩ = some (.string (bs b.rel)) ∧ n < V.heap.size ∧ n + 1 < V.heap.size ∧ m < V.heap.size ∧ q < V.heap.size ∧ Below n w V) ∧ V.frozen? ⟨m, 2, none⟩ = false ∧ V.frozen? ⟨q, 2, none⟩ = false ∧ n + 1 < m ∧ n + 1 < q ∧ m ≠ q := by
  obtain ⟨c0_0, c0_1, c0_2, c1_0, c1_1, c1_2, l0, l1, hB⟩ := h
  subst hV; subst hm; subst hq
  exact ⟨⟨(World.cell?_alloc_lt _ _ ⟨n, 0, none⟩ (by simp; omega)).trans ((World.cell?_alloc_lt _ _ ⟨n, 0, none⟩ l0).trans c0_0), (World.cell?_alloc_lt _ _ ⟨n, 1, none⟩ (by simp; omega)).trans ((World.cell?_alloc_lt _ _ ⟨n, 1, none⟩ l0).trans c0_1), (World.cell?_alloc_lt _ _ ⟨n, 2, none⟩ (by simp; omega)).trans ((World.cell?_alloc_lt _ _ ⟨n, 2, none⟩ l0).trans c0_2), (World.cell?_alloc_lt _ _ ⟨n + 1, 0, none⟩ (by simp; omega)).trans ((World.cell?_alloc_lt _ _ ⟨n + 1, 0, none⟩ l1).trans c1_0), (World.cell?_alloc_lt _ _ ⟨n + 1, 1, none⟩ (by simp; omega)).trans ((World.cell?_alloc_lt _ _ ⟨n + 1, 1, none⟩ l1).trans c1_1), (World.cell?_alloc_lt _ _ ⟨n + 1, 2, none⟩ (by simp; omega)).trans ((World.cell?_alloc_lt _ _ ⟨n + 1, 2, none⟩ l1).trans c1_2), (World.cell?_alloc_past _ _ _ (by simp)).trans ((World.cell?_alloc_at _ _ _ _ rfl).trans rfl), (World.cell?_alloc_past _ _ _ (by simp)).trans ((World.cell?_alloc_at _ _ _ _ rfl).trans rfl), (World.cell?_alloc_past _ _ _ (by simp)).trans ((World.cell?_alloc_at _ _ _ _ rfl).trans rfl), (World.cell?_alloc_at _ _ _ _ (by simp)).trans rfl, (World.cell?_alloc_at _ _ _ _ (by simp)).trans rfl, (World.cell?_alloc_at _ _ _ _ (by simp)).trans rfl, (by simp [World.drew]; try omega), (by simp [World.drew]; try omega), (by simp [World.drew]; try omega), (by simp [World.drew]; try omega), ((hB.alloc (by omega) _).alloc (by simp; omega) _).drew⟩, (World.frozen?_alloc_past _ _ _ (by simp)).trans (World.frozen?_alloc_at _ _ _ _ rfl), World.frozen?_alloc_at _ _ _ _ (by simp), by omega, by omega, by omega⟩
theorem twoq_1 {a b : Evr} {n m q : Nat} {w W V : World} (h : W.cell? ⟨n, 0, none⟩ = some (.int .i64 a.epoch) ∧ W.cell? ⟨n, 1, none⟩ = some (.string (bs a.ver)) ∧ W.cell? ⟨n, 2, none⟩ = some (.string (bs a.rel)) ∧ W.cell? ⟨n + 1, 0, none⟩ = some (.int .i64 b.epoch) ∧ W.cell? ⟨n + 1, 1, none⟩ = some (.string (bs b.ver)) ∧ W.cell? ⟨n + 1, 2, none⟩ = some (.string (bs b.rel)) ∧ n < W.heap.size ∧ n + 1 < W.heap.size ∧ Below n w W) (hV : ((W.alloc (.cells #[.int .i64 b.epoch, .string (bs b.ver), .string (bs b.rel)] 23)).alloc (.cells #[.int .i64 a.epoch, .string (bs a.ver), .string (bs a.rel)] 23)).drew = V) (hm : m = W.heap.size + 1) (hq : q = W.heap.size) : (V.cell? ⟨n, 0, none⟩ = some (.int .i64 a.epoch) ∧ V.cell? ⟨n, 1, none⟩ = some (.string (bs a.ver)) ∧ V.cell? ⟨n, 2, none⟩ = some (.string (bs a.rel)) ∧ V.cell? ⟨n + 1, 0, none⟩ = some (.int .i64 b.epoch) ∧ V.cell? ⟨n + 1, 1, none⟩ = some (.string (bs b.ver)) ∧ V.cell? ⟨n + 1, 2, none⟩ = some (.string (bs b.rel)) ∧ V.cell? ⟨m, 0, none⟩ = some (.int .i64 a.epoch) ∧ V.cell? ⟨m, 1, none⟩ = some (.string (bs a.ver)) ∧ V.cell? ⟨m, 2, none⟩ = some (.string (bs a.rel)) ∧ V.cell? ⟨q, 0, none⟩ = some (.int .i64 b.epoch) ∧ V.cell? ⟨q, 1, none⟩ = some (.string (bs b.ver)) ∧ V.cell? ⟨q, 2, none⟩ = some (.string (bs b.rel)) ∧ n < V.heap.size ∧ n + 1 < V.heap.size ∧ m < V.heap.size ∧ q < V.heap.size ∧ Below n w V) ∧ V.frozen? ⟨m, 2, none⟩ = false ∧ V.frozen? ⟨q, 2, none⟩ = false ∧ n + 1 < m ∧ n + 1 < q ∧ m ≠ q := by
  obtain ⟨c0_0, c0_1, c0_2, c1_0, c1_1, c1_2, l0, l1, hB⟩ := h
  subst hV; subst hm; subst hq
  exact ⟨⟨(World.cell?_alloc_lt _ _ ⟨n, 0, none⟩ (by simp; omega)).trans ((World.cell?_alloc_lt _ _ ⟨n, 0, none⟩ l0).trans c0_0), (World.cell?_alloc_lt _ _ ⟨n, 1, none⟩ (by simp; omega)).trans ((World.cell?_alloc_lt _ _ ⟨n, 1, none⟩ l0).trans c0_1), (World.cell?_alloc_lt _ _ ⟨n, 2, none⟩ (by simp; omega)).trans ((World.cell?_alloc_lt _ _ ⟨n, 2, none⟩ l0).trans c0_2), (World.cell?_alloc_lt _ _ ⟨n + 1, 0, none⟩ (by simp; omega)).trans ((World.cell?_alloc_lt _ _ ⟨n + 1, 0, none⟩ l1).trans c1_0), (World.cell?_alloc_lt _ _ ⟨n + 1, 1, none⟩ (by simp; omega)).trans ((World.cell?_alloc_lt _ _ ⟨n + 1, 1, none⟩ l1).trans c1_1), (World.cell?_alloc_lt _ _ ⟨n + 1, 2, none⟩ (by simp; omega)).trans ((World.cell?_alloc_lt _ _ ⟨n + 1, 2, none⟩ l1).trans c1_2), (World.cell?_alloc_at _ _ _ _ (by simp)).trans rfl, (World.cell?_alloc_at _ _ _ _ (by simp)).trans rfl, (World.cell?_alloc_at _ _ _ _ (by simp)).trans rfl, (World.cell?_alloc_past _ _ _ (by simp)).trans ((World.cell?_alloc_at _ _ _ _ rfl).trans rfl), (World.cell?_alloc_past _ _ _ (by simp)).trans ((World.cell?_alloc_at _ _ _ _ rfl).trans rfl), (World.cell?_alloc_past _ _ _ (by simp)).trans ((World.cell?_alloc_at _ _ _ _ rfl).trans rfl), (by simp [World.drew]; try omega), (by simp [World.drew]; try omega), (by simp [World.drew]; try omega), (by simp [World.drew]; try omega), ((hB.alloc (by omega) _).alloc (by simp; omega) _).drew⟩, World.frozen?_alloc_at _ _ _ _ (by simp), (World.frozen?_alloc_past _ _ _ (by simp)).trans (World.frozen?_alloc_at _ _ _ _ rfl), by omega, by omega, by omega⟩
theorem set_q4 {a b : Evr} {s : ByteArray} {n m q : Nat} {w V : World} (h : V.cell? ⟨n, 0, none⟩ = some (.int .i64 a.epoch) ∧ V.cell? ⟨n, 1, none⟩ = some (.string (bs a.ver)) ∧ V.cell? ⟨n, 2, none⟩ = some (.string (bs a.rel)) ∧ V.cell? ⟨n + 1, 0, none⟩ = some (.int .i64 b.epoch) ∧ V.cell? ⟨n + 1, 1, none⟩ = some (.string (bs b.ver)) ∧ V.cell? ⟨n + 1, 2, none⟩ = some (.string (bs b.rel)) ∧ V.cell? ⟨m, 0, none⟩ = some (.int .i64 a.epoch) ∧ V.cell? ⟨m, 1, none⟩ = some (.string (bs a.ver)) ∧ V.cell? ⟨m, 2, none⟩ = some (.string (bs a.rel)) ∧ V.cell? ⟨q, 0, none⟩ = some (.int .i64 b.epoch) ∧ V.cell? ⟨q, 1, none⟩ = some (.string (bs b.ver)) ∧ V.cell? ⟨q, 2, none⟩ = some (.string (bs b.rel)) ∧ n < V.heap.size ∧ n + 1 < V.heap.size ∧ m < V.heap.size ∧ q < V.heap.size ∧ Below n w V) (h1 : n + 1 < m) (h2 : n + 1 < q) (h3 : m ≠ q) : ((V.setCell ⟨m, 2, none⟩ (.string ⟨#[]⟩)).setCell ⟨q, 2, none⟩ (.string s)).cell? ⟨n, 0, none⟩ = some (.int .i64 a.epoch) ∧ ((V.setCell ⟨m, 2, none⟩ (.string ⟨#[]⟩)).setCell ⟨q, 2, none⟩ (.string s)).cell? ⟨n, 1, none⟩ = some (.string (bs a.ver)) ∧ ((V.setCell ⟨m, 2, none⟩ (.string ⟨#[]⟩)).setCell ⟨q, 2, none⟩ (.string s)).cell? ⟨n, 2, none⟩ = some (.string (bs a.rel)) ∧ ((V.setCell ⟨m, 2, none⟩ (.string ⟨#[]⟩)).setCell ⟨q, 2, none⟩ (.string s)).cell? ⟨n + 1, 0, none⟩ = some (.int .i64 b.epoch) ∧ ((V.setCell ⟨m, 2, none⟩ (.string ⟨#[]⟩)).setCell ⟨q, 2, none⟩ (.string s)).cell? ⟨n + 1, 1, none⟩ = some (.string (bs b.ver)) ∧ ((V.setCell ⟨m, 2, none⟩ (.string ⟨#[]⟩)).setCell ⟨q, 2, none⟩ (.string s)).cell? ⟨n + 1, 2, none⟩ = some (.string (bs b.rel)) ∧ ((V.setCell ⟨m, 2, none⟩ (.string ⟨#[]⟩)).setCell ⟨q, 2, none⟩ (.string s)).cell? ⟨m, 0, none⟩ = some (.int .i64 a.epoch) ∧ ((V.setCell ⟨m, 2, none⟩ (.string ⟨#[]⟩)).setCell ⟨q, 2, none⟩ (.string s)).cell? ⟨m, 1, none⟩ = some (.string (bs a.ver)) ∧ ((V.setCell ⟨m, 2, none⟩ (.string ⟨#[]⟩)).setCell ⟨q, 2, none⟩ (.string s)).cell? ⟨m, 2, none⟩ = some (.string ⟨#[]⟩) ∧ ((V.setCell ⟨m, 2, none⟩ (.string ⟨#[]⟩)).setCell ⟨q, 2, none⟩ (.string s)).cell? ⟨q, 0, none⟩ = some (.int .i64 b.epoch) ∧ ((V.setCell ⟨m, 2, none⟩ (.string ⟨#[]⟩)).setCell ⟨q, 2, none⟩ (.string s)).cell? ⟨q, 1, none⟩ = some (.string (bs b.ver)) ∧ ((V.setCell ⟨m, 2, none⟩ (.string ⟨#[]⟩)).setCell ⟨q, 2, none⟩ (.string s)).cell? ⟨q, 2, none⟩ = some (.string s) ∧ n < ((V.setCell ⟨m, 2, none⟩ (.string ⟨#[]⟩)).setCell ⟨q, 2, none⟩ (.string s)).heap.size ∧ n + 1 < ((V.setCell ⟨m, 2, none⟩ (.string ⟨#[]⟩)).setCell ⟨q, 2, none⟩ (.string s)).heap.size ∧ m < ((V.setCell ⟨m, 2, none⟩ (.string ⟨#[]⟩)).setCell ⟨q, 2, none⟩ (.string s)).heap.size ∧ q < ((V.setCell ⟨m, 2, none⟩ (.string ⟨#[]⟩)).setCell ⟨q, 2, none⟩ (.string s)).heap.size ∧ Below n w ((V.setCell ⟨m, 2, none⟩ (.string ⟨#[]⟩)).setCell ⟨q, 2, none⟩ (.string s)) := by
  obtain ⟨c0_0, c0_1, c0_2, c1_0, c1_1, c1_2, c2_0, c2_1, c2_2, c3_0, c3_1, c3_2, l0, l1, l2, l3, hB⟩ := h
  refine ⟨?_, ?_, ?_, ?_, ?_, ?_, ?_, ?_, ?_, ?_, ?_, ?_, ?_, ?_, ?_, ?_, ?_⟩
  all_goals first | (rw [World.cell?_setCell_other _ _ _ _ (by simp; try omega), World.cell?_setCell_other _ _ _ _ (by simp; try omega)]; assumption) | (rw [World.cell?_setCell_other _ _ _ _ (by simp; try omega)]; exact World.cell?_setCell_same _ _ _ (by assumption)) | (refine World.cell?_setCell_same _ _ _ (u := .string (bs b.rel)) ?_; rw [World.cell?_setCell_other _ _ _ _ (by simp; try omega)]; assumption) | (simp [World.setCell]; assumption) | exact (hB.setCell (by show n ≤ m; omega) _).setCell (by show n ≤ q; omega) _
set_option maxRecDepth 100000 in
set_option maxHeartbeats 16000000 in
theorem evrParts_a (w : World) (hI : EvIn w) (a : Evr) (wa : a.wf) (b : Evr) (wb : b.wf) (s : ByteArray) (hs : s.size ≤ maxLen) (la : largeB a = true) : Calls Tryd.prog 22 #[a.val, b.val, .string s] w fun e w' => e = .returned (.bool true) ∧ Below w.heap.size w w' := by
  have WK := Lib.hid (fun W (h : Below w.heap.size w W) => works_any W (hI.below h))
  have LA := Lib.hid (fun W => large_any a W wa)
  have LB := Lib.hid (fun W => large_any b W wb)
  have S0 := new_q2 a b w
  dsimp only at S0
  unfold maxLen at hs
  clear hI wa wb
  rw [la] at LA
  clear la
  unfold Evr.val at *
  go_enter Tryd.func22, Tryd.ntmps22
  go_wp2_with fail
  go_at_call 45
  generalize ((w.alloc (.cells #[.int .i64 a.epoch, .string (bs a.ver), .string (bs a.rel)] 23)).alloc (.cells #[.int .i64 b.epoch, .string (bs b.ver), .string (bs b.rel)] 23)) = W at *
  generalize hn : w.heap.size = n at *
  obtain ⟨c0_0, c0_1, c0_2, c1_0, c1_1, c1_2, l0, l1, hB⟩ := id S0
  go_wp2_with fail
  go_at_call 45
  refine (WK.out _ hB).mono ?_
  rintro e1 w1 ⟨rfl, h⟩
  have S1 := keep_q2 S0 h
  clear S0 h
  obtain ⟨c0_0, c0_1, c0_2, c1_0, c1_1, c1_2, l0, l1, hB⟩ := id S1
  go_wp2_with fail
  go_at_call 51
  refine (LA.out _).mono ?_
  rintro e2 w2 ⟨rfl, h⟩
  have S2 := keep_q2 S1 h
  clear c0_0 c0_1 c0_2 c1_0 c1_1 c1_2 l0 l1 hB
  clear S1 h
  obtain ⟨c0_0, c0_1, c0_2, c1_0, c1_1, c1_2, l0, l1, hB⟩ := id S2
  go_wp2_with fail
  go_at_call 45
  refine (WK.out _ hB).mono ?_
  rintro e9 w9 ⟨rfl, h⟩
  go_wp2
  go_ret
  exact ⟨rfl, by rw [hn]; exact hB.trans (h.mono (by omega))⟩
set_option maxRecDepth 100000 in
set_option maxHeartbeats 16000000 in
theorem evrParts_b (w : World) (hI : EvIn w) (a : Evr) (wa : a.wf) (b : Evr) (wb : b.wf) (s : ByteArray) (hs : s.size ≤ maxLen) (la : largeB a = false) (lb : largeB b = true) : Calls Tryd.prog 22 #[a.val, b.val, .string s] w fun e w' => e = .returned (.bool true) ∧ Below w.heap.size w w' := by
  have WK := Lib.hid (fun W (h : Below w.heap.size w W) => works_any W (hI.below h))
  have LA := Lib.hid (fun W => large_any a W wa)
  have LB := Lib.hid (fun W => large_any b W wb)
  have S0 := new_q2 a b w
  dsimp only at S0
  unfold maxLen at hs
  clear hI wa wb
  rw [la] at LA
  rw [lb] at LB
  clear la lb
  unfold Evr.val at *
  go_enter Tryd.func22, Tryd.ntmps22
  go_wp2_with fail
  go_at_call 45
  generalize ((w.alloc (.cells #[.int .i64 a.epoch, .string (bs a.ver), .string (bs a.rel)] 23)).alloc (.cells #[.int .i64 b.epoch, .string (bs b.ver), .string (bs b.rel)] 23)) = W at *
  generalize hn : w.heap.size = n at *
  obtain ⟨c0_0, c0_1, c0_2, c1_0, c1_1, c1_2, l0, l1, hB⟩ := id S0
  go_wp2_with fail
  go_at_call 45
  refine (WK.out _ hB).mono ?_
  rintro e1 w1 ⟨rfl, h⟩
  have S1 := keep_q2 S0 h
  clear S0 h
  obtain ⟨c0_0, c0_1, c0_2, c1_0, c1_1, c1_2, l0, l1, hB⟩ := id S1
  go_wp2_with fail
  go_at_call 51
  refine (LA.out _).mono ?_
  rintro e2 w2 ⟨rfl, h⟩
  have S2 := keep_q2 S1 h
  clear c0_0 c0_1 c0_2 c1_0 c1_1 c1_2 l0 l1 hB
  clear S1 h
  obtain ⟨c0_0, c0_1, c0_2, c1_0, c1_1, c1_2, l0, l1, hB⟩ := id S2
  go_wp2_with fail
  go_at_call 51
  refine (LB.out _).mono ?_
  rintro e3 w3 ⟨rfl, h⟩
  have S3 := keep_q2 S2 h
  clear c0_0 c0_1 c0_2 c1_0 c1_1 c1_2 l0 l1 hB
  clear S2 h
  obtain ⟨c0_0, c0_1, c0_2, c1_0, c1_1, c1_2, l0, l1, hB⟩ := id S3
  go_wp2_with fail
  go_at_call 45
  refine (WK.out _ hB).mono ?_
  rintro e9 w9 ⟨rfl, h⟩
  go_wp2
  go_ret
  exact ⟨rfl, by rw [hn]; exact hB.trans (h.mono (by omega))⟩
set_option maxRecDepth 100000 in
set_option maxHeartbeats 16000000 in
theorem evrParts_s (w : World) (hI : EvIn w) (a : Evr) (wa : a.wf) (b : Evr) (wb : b.wf) (s : ByteArray) (hs : s.size ≤ maxLen) (la : largeB a = false) (lb : largeB b = false) (ls : 300 < s.size) : Calls Tryd.prog 22 #[a.val, b.val, .string s] w fun e w' => e = .returned (.bool true) ∧ Below w.heap.size w w' := by
  have WK := Lib.hid (fun W (h : Below w.heap.size w W) => works_any W (hI.below h))
  have LA := Lib.hid (fun W => large_any a W wa)
  have LB := Lib.hid (fun W => large_any b W wb)
  have S0 := new_q2 a b w
  dsimp only at S0
  unfold maxLen at hs
  clear hI wa wb
  rw [la] at LA
  rw [lb] at LB
  clear la lb
  have ls2 : (300 : Int) < (s.size : Int) := by omega
  clear ls
  unfold Evr.val at *
  go_enter Tryd.func22, Tryd.ntmps22
  go_wp2_with fail
  go_at_call 45
  generalize ((w.alloc (.cells #[.int .i64 a.epoch, .string (bs a.ver), .string (bs a.rel)] 23)).alloc (.cells #[.int .i64 b.epoch, .string (bs b.ver), .string (bs b.rel)] 23)) = W at *
  generalize hn : w.heap.size = n at *
  obtain ⟨c0_0, c0_1, c0_2, c1_0, c1_1, c1_2, l0, l1, hB⟩ := id S0
  go_wp2_with fail
  go_at_call 45
  refine (WK.out _ hB).mono ?_
  rintro e1 w1 ⟨rfl, h⟩
  have S1 := keep_q2 S0 h
  clear S0 h
  obtain ⟨c0_0, c0_1, c0_2, c1_0, c1_1, c1_2, l0, l1, hB⟩ := id S1
  go_wp2_with fail
  go_at_call 51
  refine (LA.out _).mono ?_
  rintro e2 w2 ⟨rfl, h⟩
  have S2 := keep_q2 S1 h
  clear c0_0 c0_1 c0_2 c1_0 c1_1 c1_2 l0 l1 hB
  clear S1 h
  obtain ⟨c0_0, c0_1, c0_2, c1_0, c1_1, c1_2, l0, l1, hB⟩ := id S2
  go_wp2_with fail
  go_at_call 51
  refine (LB.out _).mono ?_
  rintro e3 w3 ⟨rfl, h⟩
  have S3 := keep_q2 S2 h
  clear c0_0 c0_1 c0_2 c1_0 c1_1 c1_2 l0 l1 hB
  clear S2 h
  obtain ⟨c0_0, c0_1, c0_2, c1_0, c1_1, c1_2, l0, l1, hB⟩ := id S3
  go_wp2_with fail
  go_at_call 45
  refine (WK.out _ hB).mono ?_
  rintro e9 w9 ⟨rfl, h⟩
  go_wp2
  go_ret
  exact ⟨rfl, by rw [hn]; exact hB.trans (h.mono (by omega))⟩
set_option maxRecDepth 100000 in
set_option maxHeartbeats 16000000 in
theorem evrParts_lt (w : World) (hI : EvIn w) (a : Evr) (wa : a.wf) (b : Evr) (wb : b.wf) (s : ByteArray) (hs : s.size ≤ maxLen) (la : largeB a = false) (lb : largeB b = false) (ls : s.size ≤ 300) (he : a.epoch < b.epoch) : Calls Tryd.prog 22 #[a.val, b.val, .string s] w fun e w' => e = .returned (.bool true) ∧ Below w.heap.size w w' := by
  have WK := Lib.hid (fun W (h : Below w.heap.size w W) => works_any W (hI.below h))
  have LA := Lib.hid (fun W => large_any a W wa)
  have LB := Lib.hid (fun W => large_any b W wb)
  have S0 := new_q2 a b w
  dsimp only at S0
  unfold maxLen at hs
  have ls2 : (s.size : Int) ≤ 300 := by omega
  have ka := large_small la
  have kb := large_small lb
  rw [la] at LA
  rw [lb] at LB
  have EC := Lib.hid (fun W => evr_val a b (-1) ka kb (ecmp_lt he) W)
  have e1 : ¬ a.epoch = b.epoch := by omega
  have e2 : (a.epoch == b.epoch) = false := by simpa using e1
  have e3 : ¬ b.epoch < a.epoch := by omega
  have e4 : decide (b.epoch < a.epoch) = false := decide_eq_false e3
  clear hI wa wb la lb ls ka kb
  unfold Evr.val at *
  go_enter Tryd.func22, Tryd.ntmps22
  go_wp2_with fail
  go_at_call 45
  generalize ((w.alloc (.cells #[.int .i64 a.epoch, .string (bs a.ver), .string (bs a.rel)] 23)).alloc (.cells #[.int .i64 b.epoch, .string (bs b.ver), .string (bs b.rel)] 23)) = W at *
  generalize hn : w.heap.size = n at *
  obtain ⟨c0_0, c0_1, c0_2, c1_0, c1_1, c1_2, l0, l1, hB⟩ := id S0
  go_wp2_with fail
  go_at_call 45
  refine (WK.out _ hB).mono ?_
  rintro e1 w1 ⟨rfl, h⟩
  have S1 := keep_q2 S0 h
  clear S0 h
  obtain ⟨c0_0, c0_1, c0_2, c1_0, c1_1, c1_2, l0, l1, hB⟩ := id S1
  go_wp2_with fail
  go_at_call 51
  refine (LA.out _).mono ?_
  rintro e2 w2 ⟨rfl, h⟩
  have S2 := keep_q2 S1 h
  clear c0_0 c0_1 c0_2 c1_0 c1_1 c1_2 l0 l1 hB
  clear S1 h
  obtain ⟨c0_0, c0_1, c0_2, c1_0, c1_1, c1_2, l0, l1, hB⟩ := id S2
  go_wp2_with fail
  go_at_call 51
  refine (LB.out _).mono ?_
  rintro e3 w3 ⟨rfl, h⟩
  have S3 := keep_q2 S2 h
  clear c0_0 c0_1 c0_2 c1_0 c1_1 c1_2 l0 l1 hB
  clear S2 h
  obtain ⟨c0_0, c0_1, c0_2, c1_0, c1_1, c1_2, l0, l1, hB⟩ := id S3
  go_wp2_with fail
  go_at_call 29
  refine (EC.out _).mono ?_
  rintro e4 w4 ⟨rfl, h⟩
  have S4 := keep_q2 S3 h
  clear c0_0 c0_1 c0_2 c1_0 c1_1 c1_2 l0 l1 hB
  clear S3 h
  obtain ⟨c0_0, c0_1, c0_2, c1_0, c1_1, c1_2, l0, l1, hB⟩ := id S4
  go_wp2_with fail
  go_ret
  exact ⟨rfl, by rw [hn]; exact hB⟩
set_option maxRecDepth 100000 in
set_option maxHeartbeats 16000000 in
theorem evrParts_gt (w : World) (hI : EvIn w) (a : Evr) (wa : a.wf) (b : Evr) (wb : b.wf) (s : ByteArray) (hs : s.size ≤ maxLen) (la : largeB a = false) (lb : largeB b = false) (ls : s.size ≤ 300) (he : b.epoch < a.epoch) : Calls Tryd.prog 22 #[a.val, b.val, .string s] w fun e w' => e = .returned (.bool true) ∧ Below w.heap.size w w' := by
  have WK := Lib.hid (fun W (h : Below w.heap.size w W) => works_any W (hI.below h))
  have LA := Lib.hid (fun W => large_any a W wa)
  have LB := Lib.hid (fun W => large_any b W wb)
  have S0 := new_q2 a b w
  dsimp only at S0
  unfold maxLen at hs
  have ls2 : (s.size : Int) ≤ 300 := by omega
  have ka := large_small la
  have kb := large_small lb
  rw [la] at LA
  rw [lb] at LB
  have EC := Lib.hid (fun W => evr_val a b (1) ka kb (ecmp_gt he) W)
  have e1 : ¬ a.epoch = b.epoch := by omega
  have e2 : (a.epoch == b.epoch) = false := by simpa using e1
  have e3 : ¬ a.epoch < b.epoch := by omega
  clear hI wa wb la lb ls ka kb
  unfold Evr.val at *
  go_enter Tryd.func22, Tryd.ntmps22
  go_wp2_with fail
  go_at_call 45
  generalize ((w.alloc (.cells #[.int .i64 a.epoch, .string (bs a.ver), .string (bs a.rel)] 23)).alloc (.cells #[.int .i64 b.epoch, .string (bs b.ver), .string (bs b.rel)] 23)) = W at *
  generalize hn : w.heap.size = n at *
  obtain ⟨c0_0, c0_1, c0_2, c1_0, c1_1, c1_2, l0, l1, hB⟩ := id S0
  go_wp2_with fail
  go_at_call 45
  refine (WK.out _ hB).mono ?_
  rintro e1 w1 ⟨rfl, h⟩
  have S1 := keep_q2 S0 h
  clear S0 h
  obtain ⟨c0_0, c0_1, c0_2, c1_0, c1_1, c1_2, l0, l1, hB⟩ := id S1
  go_wp2_with fail
  go_at_call 51
  refine (LA.out _).mono ?_
  rintro e2 w2 ⟨rfl, h⟩
  have S2 := keep_q2 S1 h
  clear c0_0 c0_1 c0_2 c1_0 c1_1 c1_2 l0 l1 hB
  clear S1 h
  obtain ⟨c0_0, c0_1, c0_2, c1_0, c1_1, c1_2, l0, l1, hB⟩ := id S2
  go_wp2_with fail
  go_at_call 51
  refine (LB.out _).mono ?_
  rintro e3 w3 ⟨rfl, h⟩
  have S3 := keep_q2 S2 h
  clear c0_0 c0_1 c0_2 c1_0 c1_1 c1_2 l0 l1 hB
  clear S2 h
  obtain ⟨c0_0, c0_1, c0_2, c1_0, c1_1, c1_2, l0, l1, hB⟩ := id S3
  go_wp2_with fail
  go_at_call 29
  refine (EC.out _).mono ?_
  rintro e4 w4 ⟨rfl, h⟩
  have S4 := keep_q2 S3 h
  clear c0_0 c0_1 c0_2 c1_0 c1_1 c1_2 l0 l1 hB
  clear S3 h
  obtain ⟨c0_0, c0_1, c0_2, c1_0, c1_1, c1_2, l0, l1, hB⟩ := id S4
  go_wp2_with fail
  go_ret
  exact ⟨rfl, by rw [hn]; exact hB⟩
set_option maxRecDepth 100000 in
set_option maxHeartbeats 16000000 in
theorem evrParts_ver (w : World) (hI : EvIn w) (a : Evr) (wa : a.wf) (b : Evr) (wb : b.wf) (s : ByteArray) (hs : s.size ≤ maxLen) (la : largeB a = false) (lb : largeB b = false) (ls : s.size ≤ 300) (he : a.epoch = b.epoch) (hv : ¬ comp a.ver b.ver = 0) : Calls Tryd.prog 22 #[a.val, b.val, .string s] w fun e w' => e = .returned (.bool true) ∧ Below w.heap.size w w' := by
  have WK := Lib.hid (fun W (h : Below w.heap.size w W) => works_any W (hI.below h))
  have LA := Lib.hid (fun W => large_any a W wa)
  have LB := Lib.hid (fun W => large_any b W wb)
  have S0 := new_q2 a b w
  dsimp only at S0
  unfold maxLen at hs
  have ls2 : (s.size : Int) ≤ 300 := by omega
  have ka := large_small la
  have kb := large_small lb
  rw [la] at LA
  rw [lb] at LB
  have EC := Lib.hid (fun W => evr_val a b _ ka kb (by rw [ecmp_eq he, if_pos (.inl hv)]) W)
  have V1 := Lib.hid (fun W => evr_val ⟨0, a.ver, []⟩ ⟨0, b.ver, []⟩ _ ⟨ka.1, Nat.zero_le _⟩ ⟨kb.1, Nat.zero_le _⟩ (ecmp_ver _ _) W)
  have hv2 : (comp a.ver b.ver == 0) = false := by simpa using hv
  generalize comp a.ver b.ver = c at *
  have hbn : bs [] = (⟨#[]⟩ : ByteArray) := rfl
  have hb1 : bs [49] = (⟨#[49]⟩ : ByteArray) := rfl
  have e1 : (a.epoch == b.epoch) = true := by simpa using he
  have HE := Lib.hid he
  clear hI wa wb la lb ls ka kb he 
  try clear hr
  unfold Evr.val at *
  dsimp only at *
  rw [hbn] at V1
  clear hbn hb1 HE
  have e2 : (a.epoch != b.epoch) = false := by simpa using e1
  go_enter Tryd.func22, Tryd.ntmps22
  go_wp2_with fail
  go_at_call 45
  generalize ((w.alloc (.cells #[.int .i64 a.epoch, .string (bs a.ver), .string (bs a.rel)] 23)).alloc (.cells #[.int .i64 b.epoch, .string (bs b.ver), .string (bs b.rel)] 23)) = W at *
  generalize hn : w.heap.size = n at *
  obtain ⟨c0_0, c0_1, c0_2, c1_0, c1_1, c1_2, l0, l1, hB⟩ := id S0
  go_wp2_with fail
  go_at_call 45
  refine (WK.out _ hB).mono ?_
  rintro e1 w1 ⟨rfl, h⟩
  have S1 := keep_q2 S0 h
  clear S0 h
  obtain ⟨c0_0, c0_1, c0_2, c1_0, c1_1, c1_2, l0, l1, hB⟩ := id S1
  go_wp2_with fail
  go_at_call 51
  refine (LA.out _).mono ?_
  rintro e2 w2 ⟨rfl, h⟩
  have S2 := keep_q2 S1 h
  clear c0_0 c0_1 c0_2 c1_0 c1_1 c1_2 l0 l1 hB
  clear S1 h
  obtain ⟨c0_0, c0_1, c0_2, c1_0, c1_1, c1_2, l0, l1, hB⟩ := id S2
  go_wp2_with fail
  go_at_call 51
  refine (LB.out _).mono ?_
  rintro e3 w3 ⟨rfl, h⟩
  have S3 := keep_q2 S2 h
  clear c0_0 c0_1 c0_2 c1_0 c1_1 c1_2 l0 l1 hB
  clear S2 h
  obtain ⟨c0_0, c0_1, c0_2, c1_0, c1_1, c1_2, l0, l1, hB⟩ := id S3
  go_wp2_with fail
  go_at_call 29
  refine (EC.out _).mono ?_
  rintro e4 w4 ⟨rfl, h⟩
  have S4 := keep_q2 S3 h
  clear c0_0 c0_1 c0_2 c1_0 c1_1 c1_2 l0 l1 hB
  clear S3 h
  obtain ⟨c0_0, c0_1, c0_2, c1_0, c1_1, c1_2, l0, l1, hB⟩ := id S4
  go_wp2_with fail
  go_at_call 29
  refine (V1.out _).mono ?_
  rintro e5 w5 ⟨rfl, h⟩
  have S5 := keep_q2 S4 h
  clear c0_0 c0_1 c0_2 c1_0 c1_1 c1_2 l0 l1 hB
  clear S4 h
  obtain ⟨c0_0, c0_1, c0_2, c1_0, c1_1, c1_2, l0, l1, hB⟩ := id S5
  go_wp2_with fail
  go_ret
  exact ⟨rfl, by rw [hn]; exact hB⟩
set_option maxRecDepth 100000 in
set_option maxHeartbeats 16000000 in
theorem evrParts_norel (w : World) (hI : EvIn w) (a : Evr) (wa : a.wf) (b : Evr) (wb : b.wf) (s : ByteArray) (hs : s.size ≤ maxLen) (la : largeB a = false) (lb : largeB b = false) (ls : s.size ≤ 300) (he : a.epoch = b.epoch) (hv : comp a.ver b.ver = 0) (hr : a.rel = [] ∨ b.rel = []) : Calls Tryd.prog 22 #[a.val, b.val, .string s] w fun e w' => e = .returned (.bool true) ∧ Below w.heap.size w w' := by
  have WK := Lib.hid (fun W (h : Below w.heap.size w W) => works_any W (hI.below h))
  have LA := Lib.hid (fun W => large_any a W wa)
  have LB := Lib.hid (fun W => large_any b W wb)
  have S0 := new_q2 a b w
  dsimp only at S0
  unfold maxLen at hs
  have ls2 : (s.size : Int) ≤ 300 := by omega
  have ka := large_small la
  have kb := large_small lb
  rw [la] at LA
  rw [lb] at LB
  have V1 := Lib.hid (fun W => evr_val ⟨0, a.ver, []⟩ ⟨0, b.ver, []⟩ 0 ⟨ka.1, Nat.zero_le _⟩ ⟨kb.1, Nat.zero_le _⟩ (by rw [ecmp_ver]; exact hv) W)
  have D1 := Lib.hid (fun W => evr_val ⟨a.epoch, a.ver, []⟩ b 0 ⟨ka.1, Nat.zero_le _⟩ kb (ecmp_norel _ _ he hv (.inl rfl)) W)
  have D2 := Lib.hid (fun W => evr_val b ⟨a.epoch, a.ver, []⟩ 0 kb ⟨ka.1, Nat.zero_le _⟩ (ecmp_norel _ _ he.symm (by have := comp_neg a.ver b.ver; dsimp only; omega) (.inr rfl)) W)
  have D3 := Lib.hid (fun W => evr_val ⟨b.epoch, b.ver, s.toList⟩ ⟨a.epoch, a.ver, []⟩ 0 ⟨kb.1, by rw [size_toList]; show s.size ≤ 1000000; omega⟩ ⟨ka.1, Nat.zero_le _⟩ (ecmp_norel _ _ he.symm (by have := comp_neg a.ver b.ver; dsimp only; omega) (.inr rfl)) W)
  have EC := Lib.hid (fun W => evr_val a b 0 ka kb (ecmp_norel a b he hv hr) W)
  have hbn : bs [] = (⟨#[]⟩ : ByteArray) := rfl
  have hb1 : bs [49] = (⟨#[49]⟩ : ByteArray) := rfl
  have e1 : (a.epoch == b.epoch) = true := by simpa using he
  have HE := Lib.hid he
  have hq : (bs a.rel).toList = [] ∨ (¬ (bs a.rel).toList = [] ∧ (bs a.rel).toList.isEmpty = false ∧ (bs b.rel).toList = []) := by
    rw [bs_toList, bs_toList]
    by_cases g : a.rel = []
    · exact .inl g
    · exact .inr ⟨g, by simpa using g, hr.resolve_left g⟩
  clear hI wa wb la lb ls ka kb he hv
  try clear hr
  unfold Evr.val at *
  dsimp only at *
  rw [hbn] at V1
  rw [hbn] at D1
  rw [hbn] at D2
  rw [hbn] at D3
  rw [bs_of] at D3
  clear hbn hb1 HE
  have e2 : (a.epoch != b.epoch) = false := by simpa using e1
  go_enter Tryd.func22, Tryd.ntmps22
  go_wp2_with fail
  go_at_call 45
  generalize ((w.alloc (.cells #[.int .i64 a.epoch, .string (bs a.ver), .string (bs a.rel)] 23)).alloc (.cells #[.int .i64 b.epoch, .string (bs b.ver), .string (bs b.rel)] 23)) = W at *
  generalize hn : w.heap.size = n at *
  obtain ⟨c0_0, c0_1, c0_2, c1_0, c1_1, c1_2, l0, l1, hB⟩ := id S0
  go_wp2_with fail
  go_at_call 45
  refine (WK.out _ hB).mono ?_
  rintro e1 w1 ⟨rfl, h⟩
  have S1 := keep_q2 S0 h
  clear S0 h
  obtain ⟨c0_0, c0_1, c0_2, c1_0, c1_1, c1_2, l0, l1, hB⟩ := id S1
  go_wp2_with fail
  go_at_call 51
  refine (LA.out _).mono ?_
  rintro e2 w2 ⟨rfl, h⟩
  have S2 := keep_q2 S1 h
  clear c0_0 c0_1 c0_2 c1_0 c1_1 c1_2 l0 l1 hB
  clear S1 h
  obtain ⟨c0_0, c0_1, c0_2, c1_0, c1_1, c1_2, l0, l1, hB⟩ := id S2
  go_wp2_with fail
  go_at_call 51
  refine (LB.out _).mono ?_
  rintro e3 w3 ⟨rfl, h⟩
  have S3 := keep_q2 S2 h
  clear c0_0 c0_1 c0_2 c1_0 c1_1 c1_2 l0 l1 hB
  clear S2 h
  obtain ⟨c0_0, c0_1, c0_2, c1_0, c1_1, c1_2, l0, l1, hB⟩ := id S3
  go_wp2_with fail
  go_at_call 29
  refine (EC.out _).mono ?_
  rintro e4 w4 ⟨rfl, h⟩
  have S4 := keep_q2 S3 h
  clear c0_0 c0_1 c0_2 c1_0 c1_1 c1_2 l0 l1 hB
  clear S3 h
  obtain ⟨c0_0, c0_1, c0_2, c1_0, c1_1, c1_2, l0, l1, hB⟩ := id S4
  go_wp2_with fail
  go_at_call 29
  refine (V1.out _).mono ?_
  rintro e5 w5 ⟨rfl, h⟩
  have S5 := keep_q2 S4 h
  clear c0_0 c0_1 c0_2 c1_0 c1_1 c1_2 l0 l1 hB
  clear S4 h
  obtain ⟨c0_0, c0_1, c0_2, c1_0, c1_1, c1_2, l0, l1, hB⟩ := id S5
  clear e1 e2
  go_wp2_with fail
  go_region
  · generalize hV : ((w5.alloc (.cells #[.int .i64 a.epoch, .string (bs a.ver), .string (bs a.rel)] 23)).alloc (.cells #[.int .i64 b.epoch, .string (bs b.ver), .string (bs b.rel)] 23)).drew = V at *
    obtain ⟨m, hm⟩ : ∃ m, m = w5.heap.size := ⟨_, rfl⟩
    obtain ⟨q, hqq⟩ : ∃ q, q = w5.heap.size + 1 := ⟨_, rfl⟩
    obtain ⟨SY, z1, z2, d1, d2, d3⟩ := twoq_0 S5 hV hm hqq
    have SX := set_q4 (s := s) SY d1 d2 d3
    rw [← hqq, ← hm]
    clear c0_0 c0_1 c0_2 c1_0 c1_1 c1_2 l0 l1 hB S5 hV hm hqq
    have SYh := Lib.hid SY
    obtain ⟨yc0_0, yc0_1, yc0_2, yc1_0, yc1_1, yc1_2, yc2_0, yc2_1, yc2_2, yc3_0, yc3_1, yc3_2, yl0, yl1, yl2, yl3, yhB⟩ := SY
    go_wp2_with fail
    generalize (V.setCell { block := m, off := 2 } (Value.string { data := #[] })).setCell { block := q, off := 2 } (Value.string s) = w6 at *
    clear SYh z1 z2 yc0_0 yc0_1 yc0_2 yc1_0 yc1_1 yc1_2 yc2_0 yc2_1 yc2_2 yc3_0 yc3_1 yc3_2 yl0 yl1 yl2 yl3 yhB
    have S6 := SX
    clear SX
    obtain ⟨c0_0, c0_1, c0_2, c1_0, c1_1, c1_2, c2_0, c2_1, c2_2, c3_0, c3_1, c3_2, l0, l1, l2, l3, hB⟩ := id S6
    go_wp2_with fail
    go_at_call 29
    refine (D1.out _).mono ?_
    rintro e7 w7 ⟨rfl, h⟩
    have S7 := keep_q4 S6 h
    clear c0_0 c0_1 c0_2 c1_0 c1_1 c1_2 c2_0 c2_1 c2_2 c3_0 c3_1 c3_2 l0 l1 l2 l3 hB
    clear S6 h
    obtain ⟨c0_0, c0_1, c0_2, c1_0, c1_1, c1_2, c2_0, c2_1, c2_2, c3_0, c3_1, c3_2, l0, l1, l2, l3, hB⟩ := id S7
    go_wp2_with fail
    go_at_call 29
    refine (D2.out _).mono ?_
    rintro e8 w8 ⟨rfl, h⟩
    have S8 := keep_q4 S7 h
    clear c0_0 c0_1 c0_2 c1_0 c1_1 c1_2 c2_0 c2_1 c2_2 c3_0 c3_1 c3_2 l0 l1 l2 l3 hB
    clear S7 h
    obtain ⟨c0_0, c0_1, c0_2, c1_0, c1_1, c1_2, c2_0, c2_1, c2_2, c3_0, c3_1, c3_2, l0, l1, l2, l3, hB⟩ := id S8
    go_wp2_with fail
    go_at_call 29
    refine (D3.out _).mono ?_
    rintro e9 w9 ⟨rfl, h⟩
    have S9 := keep_q4 S8 h
    clear c0_0 c0_1 c0_2 c1_0 c1_1 c1_2 c2_0 c2_1 c2_2 c3_0 c3_1 c3_2 l0 l1 l2 l3 hB
    clear S8 h
    obtain ⟨c0_0, c0_1, c0_2, c1_0, c1_1, c1_2, c2_0, c2_1, c2_2, c3_0, c3_1, c3_2, l0, l1, l2, l3, hB⟩ := id S9
    rcases hq with q1 | ⟨q1, q2, q3⟩
    · go_wp2_with fail
      go_ret
      exact ⟨rfl, by rw [hn]; exact hB⟩
    · go_wp2_with fail
      go_ret
      exact ⟨rfl, by rw [hn]; exact hB⟩
  · generalize hV : ((w5.alloc (.cells #[.int .i64 b.epoch, .string (bs b.ver), .string (bs b.rel)] 23)).alloc (.cells #[.int .i64 a.epoch, .string (bs a.ver), .string (bs a.rel)] 23)).drew = V at *
    obtain ⟨m, hm⟩ : ∃ m, m = w5.heap.size + 1 := ⟨_, rfl⟩
    obtain ⟨q, hqq⟩ : ∃ q, q = w5.heap.size := ⟨_, rfl⟩
    obtain ⟨SY, z1, z2, d1, d2, d3⟩ := twoq_1 S5 hV hm hqq
    have SX := set_q4 (s := s) SY d1 d2 d3
    rw [← hm, ← hqq]
    clear c0_0 c0_1 c0_2 c1_0 c1_1 c1_2 l0 l1 hB S5 hV hm hqq
    have SYh := Lib.hid SY
    obtain ⟨yc0_0, yc0_1, yc0_2, yc1_0, yc1_1, yc1_2, yc2_0, yc2_1, yc2_2, yc3_0, yc3_1, yc3_2, yl0, yl1, yl2, yl3, yhB⟩ := SY
    go_wp2_with fail
    generalize (V.setCell { block := m, off := 2 } (Value.string { data := #[] })).setCell { block := q, off := 2 } (Value.string s) = w6 at *
    clear SYh z1 z2 yc0_0 yc0_1 yc0_2 yc1_0 yc1_1 yc1_2 yc2_0 yc2_1 yc2_2 yc3_0 yc3_1 yc3_2 yl0 yl1 yl2 yl3 yhB
    have S6 := SX
    clear SX
    obtain ⟨c0_0, c0_1, c0_2, c1_0, c1_1, c1_2, c2_0, c2_1, c2_2, c3_0, c3_1, c3_2, l0, l1, l2, l3, hB⟩ := id S6
    go_wp2_with fail
    go_at_call 29
    refine (D1.out _).mono ?_
    rintro e7 w7 ⟨rfl, h⟩
    have S7 := keep_q4 S6 h
    clear c0_0 c0_1 c0_2 c1_0 c1_1 c1_2 c2_0 c2_1 c2_2 c3_0 c3_1 c3_2 l0 l1 l2 l3 hB
    clear S6 h
    obtain ⟨c0_0, c0_1, c0_2, c1_0, c1_1, c1_2, c2_0, c2_1, c2_2, c3_0, c3_1, c3_2, l0, l1, l2, l3, hB⟩ := id S7
    go_wp2_with fail
    go_at_call 29
    refine (D2.out _).mono ?_
    rintro e8 w8 ⟨rfl, h⟩
    have S8 := keep_q4 S7 h
    clear c0_0 c0_1 c0_2 c1_0 c1_1 c1_2 c2_0 c2_1 c2_2 c3_0 c3_1 c3_2 l0 l1 l2 l3 hB
    clear S7 h
    obtain ⟨c0_0, c0_1, c0_2, c1_0, c1_1, c1_2, c2_0, c2_1, c2_2, c3_0, c3_1, c3_2, l0, l1, l2, l3, hB⟩ := id S8
    go_wp2_with fail
    go_at_call 29
    refine (D3.out _).mono ?_
    rintro e9 w9 ⟨rfl, h⟩
    have S9 := keep_q4 S8 h
    clear c0_0 c0_1 c0_2 c1_0 c1_1 c1_2 c2_0 c2_1 c2_2 c3_0 c3_1 c3_2 l0 l1 l2 l3 hB
    clear S8 h
    obtain ⟨c0_0, c0_1, c0_2, c1_0, c1_1, c1_2, c2_0, c2_1, c2_2, c3_0, c3_1, c3_2, l0, l1, l2, l3, hB⟩ := id S9
    rcases hq with q1 | ⟨q1, q2, q3⟩
    · go_wp2_with fail
      go_ret
      exact ⟨rfl, by rw [hn]; exact hB⟩
    · go_wp2_with fail
      go_ret
      exact ⟨rfl, by rw [hn]; exact hB⟩
set_option maxRecDepth 100000 in
set_option maxHeartbeats 16000000 in
theorem evrParts_rel (w : World) (hI : EvIn w) (a : Evr) (wa : a.wf) (b : Evr) (wb : b.wf) (s : ByteArray) (hs : s.size ≤ maxLen) (la : largeB a = false) (lb : largeB b = false) (ls : s.size ≤ 300) (he : a.epoch = b.epoch) (hv : comp a.ver b.ver = 0) (hr : ¬ (a.rel = [] ∨ b.rel = [])) : Calls Tryd.prog 22 #[a.val, b.val, .string s] w fun e w' => e = .returned (.bool true) ∧ Below w.heap.size w w' := by
  have WK := Lib.hid (fun W (h : Below w.heap.size w W) => works_any W (hI.below h))
  have LA := Lib.hid (fun W => large_any a W wa)
  have LB := Lib.hid (fun W => large_any b W wb)
  have S0 := new_q2 a b w
  dsimp only at S0
  unfold maxLen at hs
  have ls2 : (s.size : Int) ≤ 300 := by omega
  have ka := large_small la
  have kb := large_small lb
  rw [la] at LA
  rw [lb] at LB
  have V1 := Lib.hid (fun W => evr_val ⟨0, a.ver, []⟩ ⟨0, b.ver, []⟩ 0 ⟨ka.1, Nat.zero_le _⟩ ⟨kb.1, Nat.zero_le _⟩ (by rw [ecmp_ver]; exact hv) W)
  have D1 := Lib.hid (fun W => evr_val ⟨a.epoch, a.ver, []⟩ b 0 ⟨ka.1, Nat.zero_le _⟩ kb (ecmp_norel _ _ he hv (.inl rfl)) W)
  have D2 := Lib.hid (fun W => evr_val b ⟨a.epoch, a.ver, []⟩ 0 kb ⟨ka.1, Nat.zero_le _⟩ (ecmp_norel _ _ he.symm (by have := comp_neg a.ver b.ver; dsimp only; omega) (.inr rfl)) W)
  have D3 := Lib.hid (fun W => evr_val ⟨b.epoch, b.ver, s.toList⟩ ⟨a.epoch, a.ver, []⟩ 0 ⟨kb.1, by rw [size_toList]; show s.size ≤ 1000000; omega⟩ ⟨ka.1, Nat.zero_le _⟩ (ecmp_norel _ _ he.symm (by have := comp_neg a.ver b.ver; dsimp only; omega) (.inr rfl)) W)
  have EC := Lib.hid (fun W => evr_val a b (comp a.rel b.rel) ka kb (by rw [ecmp_eq he, if_neg (fun h => h.elim (fun h => h hv) hr)]) W)
  have R1 := Lib.hid (fun W => evr_val ⟨0, [49], a.rel⟩ ⟨0, [49], b.rel⟩ (comp a.rel b.rel) ⟨(by show 1 ≤ 1000000; decide), ka.2⟩ ⟨(by show 1 ≤ 1000000; decide), kb.2⟩ (ecmp_rel _ _ (fun h => hr (.inl h)) (fun h => hr (.inr h))) W)
  generalize comp a.rel b.rel = c at *
  have hbn : bs [] = (⟨#[]⟩ : ByteArray) := rfl
  have hb1 : bs [49] = (⟨#[49]⟩ : ByteArray) := rfl
  have e1 : (a.epoch == b.epoch) = true := by simpa using he
  have HE := Lib.hid he
  have q1 : ¬ (bs a.rel).toList = [] := by rw [bs_toList]; exact fun h => hr (.inl h)
  have q2 : (bs a.rel).toList.isEmpty = false := by simpa using q1
  have q3 : ¬ (bs b.rel).toList = [] := by rw [bs_toList]; exact fun h => hr (.inr h)
  have q4 : (bs b.rel).toList.isEmpty = false := by simpa using q3
  clear hI wa wb la lb ls ka kb he hv
  try clear hr
  unfold Evr.val at *
  dsimp only at *
  rw [hbn] at V1
  rw [hbn] at D1
  rw [hbn] at D2
  rw [hbn] at D3
  rw [bs_of] at D3
  rw [hb1] at R1
  clear hbn hb1 HE
  have e2 : (a.epoch != b.epoch) = false := by simpa using e1
  go_enter Tryd.func22, Tryd.ntmps22
  go_wp2_with fail
  go_at_call 45
  generalize ((w.alloc (.cells #[.int .i64 a.epoch, .string (bs a.ver), .string (bs a.rel)] 23)).alloc (.cells #[.int .i64 b.epoch, .string (bs b.ver), .string (bs b.rel)] 23)) = W at *
  generalize hn : w.heap.size = n at *
  obtain ⟨c0_0, c0_1, c0_2, c1_0, c1_1, c1_2, l0, l1, hB⟩ := id S0
  go_wp2_with fail
  go_at_call 45
  refine (WK.out _ hB).mono ?_
  rintro e1 w1 ⟨rfl, h⟩
  have S1 := keep_q2 S0 h
  clear S0 h
  obtain ⟨c0_0, c0_1, c0_2, c1_0, c1_1, c1_2, l0, l1, hB⟩ := id S1
  go_wp2_with fail
  go_at_call 51
  refine (LA.out _).mono ?_
  rintro e2 w2 ⟨rfl, h⟩
  have S2 := keep_q2 S1 h
  clear c0_0 c0_1 c0_2 c1_0 c1_1 c1_2 l0 l1 hB
  clear S1 h
  obtain ⟨c0_0, c0_1, c0_2, c1_0, c1_1, c1_2, l0, l1, hB⟩ := id S2
  go_wp2_with fail
  go_at_call 51
  refine (LB.out _).mono ?_
  rintro e3 w3 ⟨rfl, h⟩
  have S3 := keep_q2 S2 h
  clear c0_0 c0_1 c0_2 c1_0 c1_1 c1_2 l0 l1 hB
  clear S2 h
  obtain ⟨c0_0, c0_1, c0_2, c1_0, c1_1, c1_2, l0, l1, hB⟩ := id S3
  go_wp2_with fail
  go_at_call 29
  refine (EC.out _).mono ?_
  rintro e4 w4 ⟨rfl, h⟩
  have S4 := keep_q2 S3 h
  clear c0_0 c0_1 c0_2 c1_0 c1_1 c1_2 l0 l1 hB
  clear S3 h
  obtain ⟨c0_0, c0_1, c0_2, c1_0, c1_1, c1_2, l0, l1, hB⟩ := id S4
  go_wp2_with fail
  go_at_call 29
  refine (V1.out _).mono ?_
  rintro e5 w5 ⟨rfl, h⟩
  have S5 := keep_q2 S4 h
  clear c0_0 c0_1 c0_2 c1_0 c1_1 c1_2 l0 l1 hB
  clear S4 h
  obtain ⟨c0_0, c0_1, c0_2, c1_0, c1_1, c1_2, l0, l1, hB⟩ := id S5
  clear e1 e2
  go_wp2_with fail
  go_region
  · generalize hV : ((w5.alloc (.cells #[.int .i64 a.epoch, .string (bs a.ver), .string (bs a.rel)] 23)).alloc (.cells #[.int .i64 b.epoch, .string (bs b.ver), .string (bs b.rel)] 23)).drew = V at *
    obtain ⟨m, hm⟩ : ∃ m, m = w5.heap.size := ⟨_, rfl⟩
    obtain ⟨q, hqq⟩ : ∃ q, q = w5.heap.size + 1 := ⟨_, rfl⟩
    obtain ⟨SY, z1, z2, d1, d2, d3⟩ := twoq_0 S5 hV hm hqq
    have SX := set_q4 (s := s) SY d1 d2 d3
    rw [← hqq, ← hm]
    clear c0_0 c0_1 c0_2 c1_0 c1_1 c1_2 l0 l1 hB S5 hV hm hqq
    have SYh := Lib.hid SY
    obtain ⟨yc0_0, yc0_1, yc0_2, yc1_0, yc1_1, yc1_2, yc2_0, yc2_1, yc2_2, yc3_0, yc3_1, yc3_2, yl0, yl1, yl2, yl3, yhB⟩ := SY
    go_wp2_with fail
    generalize (V.setCell { block := m, off := 2 } (Value.string { data := #[] })).setCell { block := q, off := 2 } (Value.string s) = w6 at *
    clear SYh z1 z2 yc0_0 yc0_1 yc0_2 yc1_0 yc1_1 yc1_2 yc2_0 yc2_1 yc2_2 yc3_0 yc3_1 yc3_2 yl0 yl1 yl2 yl3 yhB
    have S6 := SX
    clear SX
    obtain ⟨c0_0, c0_1, c0_2, c1_0, c1_1, c1_2, c2_0, c2_1, c2_2, c3_0, c3_1, c3_2, l0, l1, l2, l3, hB⟩ := id S6
    go_wp2_with fail
    go_at_call 29
    refine (D1.out _).mono ?_
    rintro e7 w7 ⟨rfl, h⟩
    have S7 := keep_q4 S6 h
    clear c0_0 c0_1 c0_2 c1_0 c1_1 c1_2 c2_0 c2_1 c2_2 c3_0 c3_1 c3_2 l0 l1 l2 l3 hB
    clear S6 h
    obtain ⟨c0_0, c0_1, c0_2, c1_0, c1_1, c1_2, c2_0, c2_1, c2_2, c3_0, c3_1, c3_2, l0, l1, l2, l3, hB⟩ := id S7
    go_wp2_with fail
    go_at_call 29
    refine (D2.out _).mono ?_
    rintro e8 w8 ⟨rfl, h⟩
    have S8 := keep_q4 S7 h
    clear c0_0 c0_1 c0_2 c1_0 c1_1 c1_2 c2_0 c2_1 c2_2 c3_0 c3_1 c3_2 l0 l1 l2 l3 hB
    clear S7 h
    obtain ⟨c0_0, c0_1, c0_2, c1_0, c1_1, c1_2, c2_0, c2_1, c2_2, c3_0, c3_1, c3_2, l0, l1, l2, l3, hB⟩ := id S8
    go_wp2_with fail
    go_at_call 29
    refine (D3.out _).mono ?_
    rintro e9 w9 ⟨rfl, h⟩
    have S9 := keep_q4 S8 h
    clear c0_0 c0_1 c0_2 c1_0 c1_1 c1_2 c2_0 c2_1 c2_2 c3_0 c3_1 c3_2 l0 l1 l2 l3 hB
    clear S8 h
    obtain ⟨c0_0, c0_1, c0_2, c1_0, c1_1, c1_2, c2_0, c2_1, c2_2, c3_0, c3_1, c3_2, l0, l1, l2, l3, hB⟩ := id S9
    go_wp2_with fail
    go_at_call 29
    refine (R1.out _).mono ?_
    rintro e10 w10 ⟨rfl, h⟩
    have S10 := keep_q4 S9 h
    clear c0_0 c0_1 c0_2 c1_0 c1_1 c1_2 c2_0 c2_1 c2_2 c3_0 c3_1 c3_2 l0 l1 l2 l3 hB
    clear S9 h
    obtain ⟨c0_0, c0_1, c0_2, c1_0, c1_1, c1_2, c2_0, c2_1, c2_2, c3_0, c3_1, c3_2, l0, l1, l2, l3, hB⟩ := id S10
    go_wp2_with fail
    go_ret
    exact ⟨rfl, by rw [hn]; exact hB⟩
  · generalize hV : ((w5.alloc (.cells #[.int .i64 b.epoch, .string (bs b.ver), .string (bs b.rel)] 23)).alloc (.cells #[.int .i64 a.epoch, .string (bs a.ver), .string (bs a.rel)] 23)).drew = V at *
    obtain ⟨m, hm⟩ : ∃ m, m = w5.heap.size + 1 := ⟨_, rfl⟩
    obtain ⟨q, hqq⟩ : ∃ q, q = w5.heap.size := ⟨_, rfl⟩
    obtain ⟨SY, z1, z2, d1, d2, d3⟩ := twoq_1 S5 hV hm hqq
    have SX := set_q4 (s := s) SY d1 d2 d3
    rw [← hm, ← hqq]
    clear c0_0 c0_1 c0_2 c1_0 c1_1 c1_2 l0 l1 hB S5 hV hm hqq
    have SYh := Lib.hid SY
    obtain ⟨yc0_0, yc0_1, yc0_2, yc1_0, yc1_1, yc1_2, yc2_0, yc2_1, yc2_2, yc3_0, yc3_1, yc3_2, yl0, yl1, yl2, yl3, yhB⟩ := SY
    go_wp2_with fail
    generalize (V.setCell { block := m, off := 2 } (Value.string { data := #[] })).setCell { block := q, off := 2 } (Value.string s) = w6 at *
    clear SYh z1 z2 yc0_0 yc0_1 yc0_2 yc1_0 yc1_1 yc1_2 yc2_0 yc2_1 yc2_2 yc3_0 yc3_1 yc3_2 yl0 yl1 yl2 yl3 yhB
    have S6 := SX
    clear SX
    obtain ⟨c0_0, c0_1, c0_2, c1_0, c1_1, c1_2, c2_0, c2_1, c2_2, c3_0, c3_1, c3_2, l0, l1, l2, l3, hB⟩ := id S6
    go_wp2_with fail
    go_at_call 29
    refine (D1.out _).mono ?_
    rintro e7 w7 ⟨rfl, h⟩
    have S7 := keep_q4 S6 h
    clear c0_0 c0_1 c0_2 c1_0 c1_1 c1_2 c2_0 c2_1 c2_2 c3_0 c3_1 c3_2 l0 l1 l2 l3 hB
    clear S6 h
    obtain ⟨c0_0, c0_1, c0_2, c1_0, c1_1, c1_2, c2_0, c2_1, c2_2, c3_0, c3_1, c3_2, l0, l1, l2, l3, hB⟩ := id S7
    go_wp2_with fail
    go_at_call 29
    refine (D2.out _).mono ?_
    rintro e8 w8 ⟨rfl, h⟩
    have S8 := keep_q4 S7 h
    clear c0_0 c0_1 c0_2 c1_0 c1_1 c1_2 c2_0 c2_1 c2_2 c3_0 c3_1 c3_2 l0 l1 l2 l3 hB
    clear S7 h
    obtain ⟨c0_0, c0_1, c0_2, c1_0, c1_1, c1_2, c2_0, c2_1, c2_2, c3_0, c3_1, c3_2, l0, l1, l2, l3, hB⟩ := id S8
    go_wp2_with fail
    go_at_call 29
    refine (D3.out _).mono ?_
    rintro e9 w9 ⟨rfl, h⟩
    have S9 := keep_q4 S8 h
    clear c0_0 c0_1 c0_2 c1_0 c1_1 c1_2 c2_0 c2_1 c2_2 c3_0 c3_1 c3_2 l0 l1 l2 l3 hB
    clear S8 h
    obtain ⟨c0_0, c0_1, c0_2, c1_0, c1_1, c1_2, c2_0, c2_1, c2_2, c3_0, c3_1, c3_2, l0, l1, l2, l3, hB⟩ := id S9
    go_wp2_with fail
    go_at_call 29
    refine (R1.out _).mono ?_
    rintro e10 w10 ⟨rfl, h⟩
    have S10 := keep_q4 S9 h
    clear c0_0 c0_1 c0_2 c1_0 c1_1 c1_2 c2_0 c2_1 c2_2 c3_0 c3_1 c3_2 l0 l1 l2 l3 hB
    clear S9 h
    obtain ⟨c0_0, c0_1, c0_2, c1_0, c1_1, c1_2, c2_0, c2_1, c2_2, c3_0, c3_1, c3_2, l0, l1, l2, l3, hB⟩ := id S10
    go_wp2_with fail
    go_ret
    exact ⟨rfl, by rw [hn]; exact hB⟩
theorem evrParts_row (w : World) (hI : EvIn w) (a : Evr) (wa : a.wf) (b : Evr) (wb : b.wf) (s : ByteArray) (hs : s.size ≤ maxLen) : Calls Tryd.prog 22 #[a.val, b.val, .string s] w fun e w' => e = .returned (.bool true) ∧ Below w.heap.size w w' := by
  cases la : largeB a with
  | true => exact evrParts_a w hI a wa b wb s hs la
  | false =>
    cases lb : largeB b with
    | true => exact evrParts_b w hI a wa b wb s hs la lb
    | false =>
      by_cases ls : s.size ≤ 300
      · by_cases h1 : a.epoch < b.epoch
        · exact evrParts_lt w hI a wa b wb s hs la lb ls h1
        by_cases h2 : b.epoch < a.epoch
        · exact evrParts_gt w hI a wa b wb s hs la lb ls h2
        have he : a.epoch = b.epoch := by omega
        by_cases hv : comp a.ver b.ver = 0
        · by_cases hr : a.rel = [] ∨ b.rel = []
          · exact evrParts_norel w hI a wa b wb s hs la lb ls he hv hr
          · exact evrParts_rel w hI a wa b wb s hs la lb ls he hv hr
        · exact evrParts_ver w hI a wa b wb s hs la lb ls he hv
      · exact evrParts_s w hI a wa b wb s hs la lb (by omega)
end Go.Proofs.YtaibdghalhbpnaaDoor
