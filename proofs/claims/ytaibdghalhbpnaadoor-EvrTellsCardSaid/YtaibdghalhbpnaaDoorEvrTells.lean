/- EvrTells, walked. -/
import Derived.Test.YtaibdghalhbpnaaDoorEvRefP
import Derived.Test.YtaibdghalhbpnaaDoorEvLaw
import Derived.Test.YtaibdghalhbpnaaDoorEvRef
import Derived.Test.YtaibdghalhbpnaaDoorRowLaid
import Derived.Deep.RegionHeld3
namespace Go.Proofs.YtaibdghalhbpnaaDoor
open Go.RowKit Go.Shelf

theorem show_form (e : Evr) : ∃ T c, showV e = .tuple #[.string T, .int .i64 c] := by
  unfold showV
  split
  · exact ⟨_, _, rfl⟩
  · exact ⟨_, _, rfl⟩
theorem parse_form (s : Bytes) : ∃ p x y c, parseV s = .tuple #[.agg #[.int .i64 p, .string x, .string y], .int .i64 c] := by
  unfold parseV
  split
  · exact ⟨_, _, _, _, rfl⟩
  · exact ⟨_, _, _, _, rfl⟩
theorem bool_two (r : Bool) : r = true ∨ r = false := by cases r <;> simp
theorem keep_t2 {a b : Evr} {n : Nat} {w W W' : World} (h : W.cell? ⟨n, 0, none⟩ = some (.int .i64 a.epoch) ∧ W.cell? ⟨n, 1, none⟩ = some (.string (bs a.ver)) ∧ W.cell? ⟨n, 2, none⟩ = some (.string (bs a.rel)) ∧ W.cell? ⟨n + 1, 0, none⟩ = some (.int .i64 b.epoch) ∧ W.cell? ⟨n + 1, 1, none⟩ = some (.string (bs b.ver)) ∧ W.cell? ⟨n + 1, 2, none⟩ = some (.string (bs b.rel)) ∧ n < W.heap.size ∧ n + 1 < W.heap.size ∧ Below n w W) (hb : Below W.heap.size W W') :
    W'.cell? ⟨n, 0, none⟩ = some (.int .i64 a.epoch) ∧ W'.cell? ⟨n, 1, none⟩ = some (.string (bs a.ver)) ∧ W'.cell? ⟨n, 2, none⟩ = some (.string (bs a.rel)) ∧ W'.cell? ⟨n + 1, 0, none⟩ = some (.int .i64 b.epoch) ∧ W'.cell? ⟨n + 1, 1, none⟩ = some (.string (bs b.ver)) ∧ W'.cell? ⟨n + 1, 2, none⟩ = some (.string (bs b.rel)) ∧ n < W'.heap.size ∧ n + 1 < W'.heap.size ∧ Below n w W' := by
  obtain ⟨c0_0, c0_1, c0_2, c1_0, c1_1, c1_2, l0, l1, hB⟩ := h
  have hB_le : n ≤ W.heap.size := by omega
  exact ⟨(hb.cell (p := ⟨n, 0, none⟩) l0).trans c0_0, (hb.cell (p := ⟨n, 1, none⟩) l0).trans c0_1, (hb.cell (p := ⟨n, 2, none⟩) l0).trans c0_2, (hb.cell (p := ⟨n + 1, 0, none⟩) l1).trans c1_0, (hb.cell (p := ⟨n + 1, 1, none⟩) l1).trans c1_1, (hb.cell (p := ⟨n + 1, 2, none⟩) l1).trans c1_2, Nat.lt_of_lt_of_le l0 hb.size, Nat.lt_of_lt_of_le l1 hb.size, hB.trans (hb.mono hB_le)⟩
theorem keep_t3 {a b : Evr} {p : Int} {x y : ByteArray} {m : Nat} {n : Nat} {w W W' : World} (h : W.cell? ⟨n, 0, none⟩ = some (.int .i64 a.epoch) ∧ W.cell? ⟨n, 1, none⟩ = some (.string (bs a.ver)) ∧ W.cell? ⟨n, 2, none⟩ = some (.string (bs a.rel)) ∧ W.cell? ⟨n + 1, 0, none⟩ = some (.int .i64 b.epoch) ∧ W.cell? ⟨n + 1, 1, none⟩ = some (.string (bs b.ver)) ∧ W.cell? ⟨n + 1, 2, none⟩ = some (.string (bs b.rel)) ∧ W.cell? ⟨m, 0, none⟩ = some (.int .i64 p) ∧ W.cell? ⟨m, 1, none⟩ = some (.string x) ∧ W.cell? ⟨m, 2, none⟩ = some (.string y) ∧ n < W.heap.size ∧ n + 1 < W.heap.size ∧ m < W.heap.size ∧ Below n w W) (hb : Below W.heap.size W W') :
    W'.cell? ⟨n, 0, none⟩ = some (.int .i64 a.epoch) ∧ W'.cell? ⟨n, 1, none⟩ = some (.string (bs a.ver)) ∧ W'.cell? ⟨n, 2, none⟩ = some (.string (bs a.rel)) ∧ W'.cell? ⟨n + 1, 0, none⟩ = some (.int .i64 b.epoch) ∧ W'.cell? ⟨n + 1, 1, none⟩ = some (.string (bs b.ver)) ∧ W'.cell? ⟨n + 1, 2, none⟩ = some (.string (bs b.rel)) ∧ W'.cell? ⟨m, 0, none⟩ = some (.int .i64 p) ∧ W'.cell? ⟨m, 1, none⟩ = some (.string x) ∧ W'.cell? ⟨m, 2, none⟩ = some (.string y) ∧ n < W'.heap.size ∧ n + 1 < W'.heap.size ∧ m < W'.heap.size ∧ Below n w W' := by
  obtain ⟨c0_0, c0_1, c0_2, c1_0, c1_1, c1_2, c2_0, c2_1, c2_2, l0, l1, l2, hB⟩ := h
  have hB_le : n ≤ W.heap.size := by omega
  exact ⟨(hb.cell (p := ⟨n, 0, none⟩) l0).trans c0_0, (hb.cell (p := ⟨n, 1, none⟩) l0).trans c0_1, (hb.cell (p := ⟨n, 2, none⟩) l0).trans c0_2, (hb.cell (p := ⟨n + 1, 0, none⟩) l1).trans c1_0, (hb.cell (p := ⟨n + 1, 1, none⟩) l1).trans c1_1, (hb.cell (p := ⟨n + 1, 2, none⟩) l1).trans c1_2, (hb.cell (p := ⟨m, 0, none⟩) l2).trans c2_0, (hb.cell (p := ⟨m, 1, none⟩) l2).trans c2_1, (hb.cell (p := ⟨m, 2, none⟩) l2).trans c2_2, Nat.lt_of_lt_of_le l0 hb.size, Nat.lt_of_lt_of_le l1 hb.size, Nat.lt_of_lt_of_le l2 hb.size, hB.trans (hb.mono hB_le)⟩
theorem keep_t4 {a b : Evr} {p : Int} {x y : ByteArray} {m q : Nat} {n : Nat} {w W W' : World} (h : W.cell? ⟨n, 0, none⟩ = some (.int .i64 a.epoch) ∧ W.cell? ⟨n, 1, none⟩ = some (.string (bs a.ver)) ∧ W.cell? ⟨n, 2, none⟩ = some (.string (bs a.rel)) ∧ W.cell? ⟨n + 1, 0, none⟩ = some (.int .i64 b.epoch) ∧ W.cell? ⟨n + 1, 1, none⟩ = some (.string (bs b.ver)) ∧ W.cell? ⟨n + 1, 2, none⟩ = some (.string (bs b.rel)) ∧ W.cell? ⟨m, 0, none⟩ = some (.int .i64 p) ∧ W.cell? ⟨m, 1, none⟩ = some (.string x) ∧ W.cell? ⟨m, 2, none⟩ = some (.string y) ∧ W.cell? ⟨q, 0, none⟩ = some (.int .i64 p) ∧ W.cell? ⟨q, 1, none⟩ = some (.string x) ∧ W.cell? ⟨q, 2, none⟩ = some (.string y) ∧ n < W.heap.size ∧ n + 1 < W.heap.size ∧ m < W.heap.size ∧ q < W.heap.size ∧ Below n w W) (hb : Below W.heap.size W W') :
    W'.cell? ⟨n, 0, none⟩ = some (.int .i64 a.epoch) ∧ W'.cell? ⟨n, 1, none⟩ = some (.string (bs a.ver)) ∧ W'.cell? ⟨n, 2, none⟩ = some (.string (bs a.rel)) ∧ W'.cell? ⟨n + 1, 0, none⟩ = some (.int .i64 b.epoch) ∧ W'.cell? ⟨n + 1, 1, none⟩ = some (.string (bs b.ver)) ∧ W'.cell? ⟨n + 1, 2, none⟩ = some (.string (bs b.rel)) ∧ W'.cell? ⟨m, 0, none⟩ = some (.int .i64 p) ∧ W'.cell? ⟨m, 1, none⟩ = some (.string x) ∧ W'.cell? ⟨m, 2, none⟩ = some (.string y) ∧ W'.cell? ⟨q, 0, none⟩ = some (.int .i64 p) ∧ W'.cell? ⟨q, 1, none⟩ = some (.string x) ∧ W'.cell? ⟨q, 2, none⟩ = some (.string y) ∧ n < W'.heap.size ∧ n + 1 < W'.heap.size ∧ m < W'.heap.size ∧ q < W'.heap.size ∧ Below n w W' := by
  obtain ⟨c0_0, c0_1, c0_2, c1_0, c1_1, c1_2, c2_0, c2_1, c2_2, c3_0, c3_1, c3_2, l0, l1, l2, l3, hB⟩ := h
  have hB_le : n ≤ W.heap.size := by omega
  exact ⟨(hb.cell (p := ⟨n, 0, none⟩) l0).trans c0_0, (hb.cell (p := ⟨n, 1, none⟩) l0).trans c0_1, (hb.cell (p := ⟨n, 2, none⟩) l0).trans c0_2, (hb.cell (p := ⟨n + 1, 0, none⟩) l1).trans c1_0, (hb.cell (p := ⟨n + 1, 1, none⟩) l1).trans c1_1, (hb.cell (p := ⟨n + 1, 2, none⟩) l1).trans c1_2, (hb.cell (p := ⟨m, 0, none⟩) l2).trans c2_0, (hb.cell (p := ⟨m, 1, none⟩) l2).trans c2_1, (hb.cell (p := ⟨m, 2, none⟩) l2).trans c2_2, (hb.cell (p := ⟨q, 0, none⟩) l3).trans c3_0, (hb.cell (p := ⟨q, 1, none⟩) l3).trans c3_1, (hb.cell (p := ⟨q, 2, none⟩) l3).trans c3_2, Nat.lt_of_lt_of_le l0 hb.size, Nat.lt_of_lt_of_le l1 hb.size, Nat.lt_of_lt_of_le l2 hb.size, Nat.lt_of_lt_of_le l3 hb.size, hB.trans (hb.mono hB_le)⟩
theorem tail_t2 {a b : Evr} {n : Nat} {w W : World} (h : W.cell? ⟨n, 0, none⟩ = some (.int .i64 a.epoch) ∧ W.cell? ⟨n, 1, none⟩ = some (.string (bs a.ver)) ∧ W.cell? ⟨n, 2, none⟩ = some (.string (bs a.rel)) ∧ W.cell? ⟨n + 1, 0, none⟩ = some (.int .i64 b.epoch) ∧ W.cell? ⟨n + 1, 1, none⟩ = some (.string (bs b.ver)) ∧ W.cell? ⟨n + 1, 2, none⟩ = some (.string (bs b.rel)) ∧ n < W.heap.size ∧ n + 1 < W.heap.size ∧ Below n w W) : Below n w W := h.2.2.2.2.2.2.2.2
theorem tail_t4 {a b : Evr} {p : Int} {x y : ByteArray} {m q : Nat} {n : Nat} {w W : World} (h : W.cell? ⟨n, 0, none⟩ = some (.int .i64 a.epoch) ∧ W.cell? ⟨n, 1, none⟩ = some (.string (bs a.ver)) ∧ W.cell? ⟨n, 2, none⟩ = some (.string (bs a.rel)) ∧ W.cell? ⟨n + 1, 0, none⟩ = some (.int .i64 b.epoch) ∧ W.cell? ⟨n + 1, 1, none⟩ = some (.string (bs b.ver)) ∧ W.cell? ⟨n + 1, 2, none⟩ = some (.string (bs b.rel)) ∧ W.cell? ⟨m, 0, none⟩ = some (.int .i64 p) ∧ W.cell? ⟨m, 1, none⟩ = some (.string x) ∧ W.cell? ⟨m, 2, none⟩ = some (.string y) ∧ W.cell? ⟨q, 0, none⟩ = some (.int .i64 p) ∧ W.cell? ⟨q, 1, none⟩ = some (.string x) ∧ W.cell? ⟨q, 2, none⟩ = some (.string y) ∧ n < W.heap.size ∧ n + 1 < W.heap.size ∧ m < W.heap.size ∧ q < W.heap.size ∧ Below n w W) : Below n w W := h.2.2.2.2.2.2.2.2.2.2.2.2.2.2.2.2
theorem new_t2 (a b : Evr) (w : World) : let W := ((w.alloc (.cells #[.int .i64 a.epoch, .string (bs a.ver), .string (bs a.rel)] 23)).alloc (.cells #[.int .i64 b.epoch, .string (bs b.ver), .string (bs b.rel)] 23)); let n := w.heap.size; W.cell? ⟨n, 0, none⟩ = some (.int .i64 a.epoch) ∧ W.cell? ⟨n, 1, none⟩ = some (.string (bs a.ver)) ∧ W.cell? ⟨n, 2, none⟩ = some (.string (bs a.rel)) ∧ W.cell? ⟨n + 1, 0, none⟩ = some (.int .i64 b.epoch) ∧ W.cell? ⟨n + 1, 1, none⟩ = some (.string (bs b.ver)) ∧ W.cell? ⟨n + 1, 2, none⟩ = some (.string (bs b.rel)) ∧ n < W.heap.size ∧ n + 1 < W.heap.size ∧ Below n w W := by
  refine ⟨?_, ?_, ?_, ?_, ?_, ?_, ?_, ?_, ?_⟩
  all_goals first | exact (World.cell?_alloc_at _ _ _ _ (by simp)).trans rfl | exact (World.cell?_alloc_past _ _ _ (by simp; try omega)).trans ((World.cell?_alloc_at _ _ _ _ (by simp)).trans rfl) | exact (((Below.refl _ _).alloc (by simp; try omega) _).alloc (by simp; try omega) _) | (simp; try omega)
theorem grow_t3 {a b : Evr} (p : Int) (x y : ByteArray) {n : Nat} {w W : World} (h : W.cell? ⟨n, 0, none⟩ = some (.int .i64 a.epoch) ∧ W.cell? ⟨n, 1, none⟩ = some (.string (bs a.ver)) ∧ W.cell? ⟨n, 2, none⟩ = some (.string (bs a.rel)) ∧ W.cell? ⟨n + 1, 0, none⟩ = some (.int .i64 b.epoch) ∧ W.cell? ⟨n + 1, 1, none⟩ = some (.string (bs b.ver)) ∧ W.cell? ⟨n + 1, 2, none⟩ = some (.string (bs b.rel)) ∧ n < W.heap.size ∧ n + 1 < W.heap.size ∧ Below n w W) : let V := W.alloc (.cells #[.int .i64 p, .string x, .string y] 23); let m := W.heap.size; V.cell? ⟨n, 0, none⟩ = some (.int .i64 a.epoch) ∧ V.cell? ⟨n, 1, none⟩ = some (.string (bs a.ver)) ∧ V.cell? ⟨n, 2, none⟩ = some (.string (bs a.rel)) ∧ V.cell? ⟨n + 1, 0, none⟩ = some (.int .i64 b.epoch) ∧ V.cell? ⟨n + 1, 1, none⟩ = some (.string (bs b.ver)) ∧ V.cell? ⟨n + 1, 2, none⟩ = some (.string (bs b.rel)) ∧ V.cell? ⟨m, 0, none⟩ = some (.int .i64 p) ∧ V.cell? ⟨m, 1, none⟩ = some (.string x) ∧ V.cell? ⟨m, 2, none⟩ = some (.string y) ∧ n < V.heap.size ∧ n + 1 < V.heap.size ∧ m < V.heap.size ∧ Below n w V := by
  obtain ⟨c0_0, c0_1, c0_2, c1_0, c1_1, c1_2, l0, l1, hB⟩ := h
  exact ⟨(World.cell?_alloc_lt W _ ⟨n, 0, none⟩ l0).trans c0_0, (World.cell?_alloc_lt W _ ⟨n, 1, none⟩ l0).trans c0_1, (World.cell?_alloc_lt W _ ⟨n, 2, none⟩ l0).trans c0_2, (World.cell?_alloc_lt W _ ⟨n + 1, 0, none⟩ l1).trans c1_0, (World.cell?_alloc_lt W _ ⟨n + 1, 1, none⟩ l1).trans c1_1, (World.cell?_alloc_lt W _ ⟨n + 1, 2, none⟩ l1).trans c1_2, (World.cell?_alloc_at _ _ _ _ rfl).trans rfl, (World.cell?_alloc_at _ _ _ _ rfl).trans rfl, (World.cell?_alloc_at _ _ _ _ rfl).trans rfl, by simp; omega, by simp; omega, by simp, hB.alloc (by omega) _⟩
theorem grow_t4 {a b : Evr} {p : Int} {x y : ByteArray} {m : Nat} {n : Nat} {w W : World} (h : W.cell? ⟨n, 0, none⟩ = some (.int .i64 a.epoch) ∧ W.cell? ⟨n, 1, none⟩ = some (.string (bs a.ver)) ∧ W.cell? ⟨n, 2, none⟩ = some (.string (bs a.rel)) ∧ W.cell? ⟨n + 1, 0, none⟩ = some (.int .i64 b.epoch) ∧ W.cell? ⟨n + 1, 1, none⟩ = some (.string (bs b.ver)) ∧ W.cell? ⟨n + 1, 2, none⟩ = some (.string (bs b.rel)) ∧ W.cell? ⟨m, 0, none⟩ = some (.int .i64 p) ∧ W.cell? ⟨m, 1, none⟩ = some (.string x) ∧ W.cell? ⟨m, 2, none⟩ = some (.string y) ∧ n < W.heap.size ∧ n + 1 < W.heap.size ∧ m < W.heap.size ∧ Below n w W) : let V := W.alloc (.cells #[.int .i64 p, .string x, .string y] 23); let q := W.heap.size; V.cell? ⟨n, 0, none⟩ = some (.int .i64 a.epoch) ∧ V.cell? ⟨n, 1, none⟩ = some (.string (bs a.ver)) ∧ V.cell? ⟨n, 2, none⟩ = some (.string (bs a.rel)) ∧ V.cell? ⟨n + 1, 0, none⟩ = some (.int .i64 b.epoch) ∧ V.cell? ⟨n + 1, 1, none⟩ = some (.string (bs b.ver)) ∧ V.cell? ⟨n + 1, 2, none⟩ = some (.string (bs b.rel)) ∧ V.cell? ⟨m, 0, none⟩ = some (.int .i64 p) ∧ V.cell? ⟨m, 1, none⟩ = some (.string x) ∧ V.cell? ⟨m, 2, none⟩ = some (.string y) ∧ V.cell? ⟨q, 0, none⟩ = some (.int .i64 p) ∧ V.cell? ⟨q, 1, none⟩ = some (.string x) ∧ V.cell? ⟨q, 2, none⟩ = some (.string y) ∧ n < V.heap.size ∧ n + 1 < V.heap.size ∧ m < V.heap.size ∧ q < V.heap.size ∧ Below n w V := by
  obtain ⟨c0_0, c0_1, c0_2, c1_0, c1_1, c1_2, c2_0, c2_1, c2_2, l0, l1, l2, hB⟩ := h
  exact ⟨(World.cell?_alloc_lt W _ ⟨n, 0, none⟩ l0).trans c0_0, (World.cell?_alloc_lt W _ ⟨n, 1, none⟩ l0).trans c0_1, (World.cell?_alloc_lt W _ ⟨n, 2, none⟩ l0).trans c0_2, (World.cell?_alloc_lt W _ ⟨n + 1, 0, none⟩ l1).trans c1_0, (World.cell?_alloc_lt W _ ⟨n + 1, 1, none⟩ l1).trans c1_1, (World.cell?_alloc_lt W _ ⟨n + 1, 2, none⟩ l1).trans c1_2, (World.cell?_alloc_lt W _ ⟨m, 0, none⟩ l2).trans c2_0, (World.cell?_alloc_lt W _ ⟨m, 1, none⟩ l2).trans c2_1, (World.cell?_alloc_lt W _ ⟨m, 2, none⟩ l2).trans c2_2, (World.cell?_alloc_at _ _ _ _ rfl).trans rfl, (World.cell?_alloc_at _ _ _ _ rfl).trans rfl, (World.cell?_alloc_at _ _ _ _ rfl).trans rfl, by simp; omega, by simp; omega, by simp; omega, by simp, hB.alloc (by omega) _⟩
set_option maxRecDepth 100000 in
set_option maxHeartbeats 16000000 in
theorem evrTells_a (w : World) (hI : EvIn w) (a : Evr) (wa : a.wf) (b : Evr) (wb : b.wf) (s : ByteArray) (hs : s.size ≤ maxLen) (la : largeB a = true) : Calls Tryd.prog 19 #[a.val, b.val, .string s] w fun e w' => e = .returned (.bool true) ∧ Below w.heap.size w w' := by
  have LA := Lib.hid (fun W => large_any a W wa)
  have LB := Lib.hid (fun W => large_any b W wb)
  have S0 := new_t2 a b w
  dsimp only at S0
  unfold maxLen at hs
  rw [la] at LA
  clear la
  clear hI wa wb
  unfold Evr.val at *
  go_enter Tryd.func19, Tryd.ntmps19
  go_wp2_with fail
  go_at_call 51
  generalize ((w.alloc (.cells #[.int .i64 a.epoch, .string (bs a.ver), .string (bs a.rel)] 23)).alloc (.cells #[.int .i64 b.epoch, .string (bs b.ver), .string (bs b.rel)] 23)) = W at *
  generalize hn : w.heap.size = n at *
  obtain ⟨c0_0, c0_1, c0_2, c1_0, c1_1, c1_2, l0, l1, hB⟩ := id S0
  go_wp2_with fail
  go_at_call 51
  refine (LA.out _).mono ?_
  rintro e1 w1 ⟨rfl, h⟩
  have S1 := keep_t2 S0 h
  clear S0 h
  obtain ⟨c0_0, c0_1, c0_2, c1_0, c1_1, c1_2, l0, l1, hB⟩ := id S1
  go_wp2
  go_ret
  exact ⟨rfl, by rw [hn]; exact hB⟩
set_option maxRecDepth 100000 in
set_option maxHeartbeats 16000000 in
theorem evrTells_b (w : World) (hI : EvIn w) (a : Evr) (wa : a.wf) (b : Evr) (wb : b.wf) (s : ByteArray) (hs : s.size ≤ maxLen) (la : largeB a = false) (lb : largeB b = true) : Calls Tryd.prog 19 #[a.val, b.val, .string s] w fun e w' => e = .returned (.bool true) ∧ Below w.heap.size w w' := by
  have LA := Lib.hid (fun W => large_any a W wa)
  have LB := Lib.hid (fun W => large_any b W wb)
  have S0 := new_t2 a b w
  dsimp only at S0
  unfold maxLen at hs
  rw [la] at LA
  clear la
  rw [lb] at LB
  clear lb
  clear hI wa wb
  unfold Evr.val at *
  go_enter Tryd.func19, Tryd.ntmps19
  go_wp2_with fail
  go_at_call 51
  generalize ((w.alloc (.cells #[.int .i64 a.epoch, .string (bs a.ver), .string (bs a.rel)] 23)).alloc (.cells #[.int .i64 b.epoch, .string (bs b.ver), .string (bs b.rel)] 23)) = W at *
  generalize hn : w.heap.size = n at *
  obtain ⟨c0_0, c0_1, c0_2, c1_0, c1_1, c1_2, l0, l1, hB⟩ := id S0
  go_wp2_with fail
  go_at_call 51
  refine (LA.out _).mono ?_
  rintro e1 w1 ⟨rfl, h⟩
  have S1 := keep_t2 S0 h
  clear S0 h
  obtain ⟨c0_0, c0_1, c0_2, c1_0, c1_1, c1_2, l0, l1, hB⟩ := id S1
  go_wp2_with fail
  go_at_call 51
  refine (LB.out _).mono ?_
  rintro e2 w2 ⟨rfl, h⟩
  have S2 := keep_t2 S1 h
  clear c0_0 c0_1 c0_2 c1_0 c1_1 c1_2 l0 l1 hB
  clear S1 h
  obtain ⟨c0_0, c0_1, c0_2, c1_0, c1_1, c1_2, l0, l1, hB⟩ := id S2
  go_wp2
  go_ret
  exact ⟨rfl, by rw [hn]; exact hB⟩
set_option maxRecDepth 100000 in
set_option maxHeartbeats 16000000 in
theorem evrTells_s (w : World) (hI : EvIn w) (a : Evr) (wa : a.wf) (b : Evr) (wb : b.wf) (s : ByteArray) (hs : s.size ≤ maxLen) (la : largeB a = false) (lb : largeB b = false) (ls : 1000 < s.size) : Calls Tryd.prog 19 #[a.val, b.val, .string s] w fun e w' => e = .returned (.bool true) ∧ Below w.heap.size w w' := by
  have LA := Lib.hid (fun W => large_any a W wa)
  have LB := Lib.hid (fun W => large_any b W wb)
  have S0 := new_t2 a b w
  dsimp only at S0
  unfold maxLen at hs
  rw [la] at LA
  clear la
  rw [lb] at LB
  clear lb
  have ls2 : (1000 : Int) < (s.size : Int) := by omega
  clear ls
  clear hI wa wb
  unfold Evr.val at *
  go_enter Tryd.func19, Tryd.ntmps19
  go_wp2_with fail
  go_at_call 51
  generalize ((w.alloc (.cells #[.int .i64 a.epoch, .string (bs a.ver), .string (bs a.rel)] 23)).alloc (.cells #[.int .i64 b.epoch, .string (bs b.ver), .string (bs b.rel)] 23)) = W at *
  generalize hn : w.heap.size = n at *
  obtain ⟨c0_0, c0_1, c0_2, c1_0, c1_1, c1_2, l0, l1, hB⟩ := id S0
  go_wp2_with fail
  go_at_call 51
  refine (LA.out _).mono ?_
  rintro e1 w1 ⟨rfl, h⟩
  have S1 := keep_t2 S0 h
  clear S0 h
  obtain ⟨c0_0, c0_1, c0_2, c1_0, c1_1, c1_2, l0, l1, hB⟩ := id S1
  go_wp2_with fail
  go_at_call 51
  refine (LB.out _).mono ?_
  rintro e2 w2 ⟨rfl, h⟩
  have S2 := keep_t2 S1 h
  clear c0_0 c0_1 c0_2 c1_0 c1_1 c1_2 l0 l1 hB
  clear S1 h
  obtain ⟨c0_0, c0_1, c0_2, c1_0, c1_1, c1_2, l0, l1, hB⟩ := id S2
  go_wp2
  go_ret
  exact ⟨rfl, by rw [hn]; exact hB⟩
set_option maxRecDepth 100000 in
set_option maxHeartbeats 16000000 in
theorem evrTells_all (w : World) (hI : EvIn w) (a : Evr) (wa : a.wf) (b : Evr) (wb : b.wf) (s : ByteArray) (hs : s.size ≤ maxLen) (la : largeB a = false) (lb : largeB b = false) (ls : s.size ≤ 1000) : Calls Tryd.prog 19 #[a.val, b.val, .string s] w fun e w' => e = .returned (.bool true) ∧ Below w.heap.size w w' := by
  have LA := Lib.hid (fun W => large_any a W wa)
  have LB := Lib.hid (fun W => large_any b W wb)
  have S0 := new_t2 a b w
  dsimp only at S0
  unfold maxLen at hs
  rw [la] at LA
  rw [lb] at LB
  have ls2 : (s.size : Int) ≤ 1000 := by omega
  have ka := large_small la
  have kb := large_small lb
  have SW := Lib.hid (fun W (h : Below w.heap.size w W) => evShow_any a W wa (hI.below h))
  have RW := Lib.hid (fun W => revShow_any a W wa)
  have PW := Lib.hid (fun W (h : Below w.heap.size w W) => evParse_any s W (by omega) (hI.below h))
  have QW := Lib.hid (fun W => revParse_any s W (by omega))
  have M1 := Lib.hid (fun W => evMay_any a true W wa)
  have M2 := Lib.hid (fun W => evMay_any a false W wa)
  have N1 := Lib.hid (fun W => revMay_any a true W wa)
  have N2 := Lib.hid (fun W => revMay_any a false W wa)
  have CW := Lib.hid (fun W => evr_any a b W ka.1 kb.1 ka.2 kb.2)
  have DW := Lib.hid (fun W => revr_any a b W ka.1 kb.1 ka.2 kb.2)
  obtain ⟨T, c, hT⟩ := show_form a
  rw [hT] at SW RW
  obtain ⟨p, x, y, d, hP⟩ := parse_form s.toList
  rw [hP] at PW QW
  generalize mayB a true = r1 at *
  generalize mayB a false = r2 at *
  generalize ecmp a b = z at *
  clear hI wa wb la lb ls ka kb hT hP
  unfold Evr.val at *
  go_enter Tryd.func19, Tryd.ntmps19
  go_wp2_with fail
  go_at_call 51
  generalize ((w.alloc (.cells #[.int .i64 a.epoch, .string (bs a.ver), .string (bs a.rel)] 23)).alloc (.cells #[.int .i64 b.epoch, .string (bs b.ver), .string (bs b.rel)] 23)) = W at *
  generalize hn : w.heap.size = n at *
  obtain ⟨c0_0, c0_1, c0_2, c1_0, c1_1, c1_2, l0, l1, hB⟩ := id S0
  go_wp2_with fail
  go_at_call 51
  refine (LA.out _).mono ?_
  rintro e1 w1 ⟨rfl, h⟩
  have S1 := keep_t2 S0 h
  clear S0 h
  obtain ⟨c0_0, c0_1, c0_2, c1_0, c1_1, c1_2, l0, l1, hB⟩ := id S1
  go_wp2_with fail
  go_at_call 51
  refine (LB.out _).mono ?_
  rintro e2 w2 ⟨rfl, h⟩
  have S2 := keep_t2 S1 h
  clear c0_0 c0_1 c0_2 c1_0 c1_1 c1_2 l0 l1 hB
  clear S1 h
  obtain ⟨c0_0, c0_1, c0_2, c1_0, c1_1, c1_2, l0, l1, hB⟩ := id S2
  go_wp2_with fail
  go_at_call 48
  refine (SW.out _ hB).mono ?_
  rintro e3 w3 ⟨rfl, h⟩
  have S3 := keep_t2 S2 h
  clear c0_0 c0_1 c0_2 c1_0 c1_1 c1_2 l0 l1 hB
  clear S2 h
  obtain ⟨c0_0, c0_1, c0_2, c1_0, c1_1, c1_2, l0, l1, hB⟩ := id S3
  go_wp2_with fail
  go_at_call 52
  refine (RW.out _).mono ?_
  rintro e4 w4 ⟨rfl, h⟩
  have S4 := keep_t2 S3 h
  clear c0_0 c0_1 c0_2 c1_0 c1_1 c1_2 l0 l1 hB
  clear S3 h
  obtain ⟨c0_0, c0_1, c0_2, c1_0, c1_1, c1_2, l0, l1, hB⟩ := id S4
  go_wp2_with fail
  go_at_call 53
  refine (PW.out _ hB).mono ?_
  rintro e5 w5 ⟨rfl, h⟩
  have S5 := keep_t2 S4 h
  clear c0_0 c0_1 c0_2 c1_0 c1_1 c1_2 l0 l1 hB
  clear S4 h
  obtain ⟨c0_0, c0_1, c0_2, c1_0, c1_1, c1_2, l0, l1, hB⟩ := id S5
  have SG := grow_t3 p x y S5
  dsimp only at SG
  go_wp2_with fail
  go_at_call 54
  generalize hV : w5.alloc (.cells #[.int .i64 p, .string x, .string y] 23) = V at *
  generalize w5.heap.size = m at *
  clear c0_0 c0_1 c0_2 c1_0 c1_1 c1_2 l0 l1 hB S5 hV
  refine (QW.out _).mono ?_
  rintro e20 w20 ⟨rfl, h⟩
  have S20 := keep_t3 SG h
  clear SG h
  obtain ⟨c0_0, c0_1, c0_2, c1_0, c1_1, c1_2, c2_0, c2_1, c2_2, l0, l1, l2, hB⟩ := id S20
  have SH2 := grow_t4 S20
  dsimp only at SH2
  go_wp2_with fail
  generalize hV : w20.alloc (.cells #[.int .i64 p, .string x, .string y] 23) = V2 at *
  generalize w20.heap.size = q at *
  clear c0_0 c0_1 c0_2 c1_0 c1_1 c1_2 c2_0 c2_1 c2_2 l0 l1 l2 hB S20 hV
  obtain ⟨c0_0, c0_1, c0_2, c1_0, c1_1, c1_2, c2_0, c2_1, c2_2, c3_0, c3_1, c3_2, l0, l1, l2, l3, hB⟩ := id SH2
  go_region_held3 (fun W => W.cell? ⟨n, 0, none⟩ = some (.int .i64 a.epoch) ∧ W.cell? ⟨n, 1, none⟩ = some (.string (bs a.ver)) ∧ W.cell? ⟨n, 2, none⟩ = some (.string (bs a.rel)) ∧ W.cell? ⟨n + 1, 0, none⟩ = some (.int .i64 b.epoch) ∧ W.cell? ⟨n + 1, 1, none⟩ = some (.string (bs b.ver)) ∧ W.cell? ⟨n + 1, 2, none⟩ = some (.string (bs b.rel)) ∧ W.cell? ⟨m, 0, none⟩ = some (.int .i64 p) ∧ W.cell? ⟨m, 1, none⟩ = some (.string x) ∧ W.cell? ⟨m, 2, none⟩ = some (.string y) ∧ W.cell? ⟨q, 0, none⟩ = some (.int .i64 p) ∧ W.cell? ⟨q, 1, none⟩ = some (.string x) ∧ W.cell? ⟨q, 2, none⟩ = some (.string y) ∧ n < W.heap.size ∧ n + 1 < W.heap.size ∧ m < W.heap.size ∧ q < W.heap.size ∧ Below n w W) (first | exact keep_t4 (by assumption) hbb | exact ⟨c0_0, c0_1, c0_2, c1_0, c1_1, c1_2, c2_0, c2_1, c2_2, c3_0, c3_1, c3_2, l0, l1, l2, l3, hB.drew⟩ | go_keep) (first | (go_at_call 50; ((with_reducible refine (M1.out _).mono ?_); rintro e w' ⟨rfl, hbb⟩)) | (go_at_call 50; ((with_reducible refine (M2.out _).mono ?_); rintro e w' ⟨rfl, hbb⟩)) | (go_at_call 55; ((with_reducible refine (N1.out _).mono ?_); rintro e w' ⟨rfl, hbb⟩)) | (go_at_call 55; ((with_reducible refine (N2.out _).mono ?_); rintro e w' ⟨rfl, hbb⟩)) | (go_at_call 29; ((with_reducible refine (CW.out _).mono ?_); rintro e w' ⟨rfl, hbb⟩)) | (go_at_call 56; ((with_reducible refine (DW.out _).mono ?_); rintro e w' ⟨rfl, hbb⟩)))
  all_goals
    rename_i hh
    go_wp2
    go_ret
    exact ⟨rfl, by rw [hn]; exact tail_t4 hh⟩
theorem evrTells_row (w : World) (hI : EvIn w) (a : Evr) (wa : a.wf) (b : Evr) (wb : b.wf) (s : ByteArray) (hs : s.size ≤ maxLen) : Calls Tryd.prog 19 #[a.val, b.val, .string s] w fun e w' => e = .returned (.bool true) ∧ Below w.heap.size w w' := by
  cases la : largeB a with
  | true => exact evrTells_a w hI a wa b wb s hs la
  | false =>
    cases lb : largeB b with
    | true => exact evrTells_b w hI a wa b wb s hs la lb
    | false =>
      by_cases ls : s.size ≤ 1000
      · exact evrTells_all w hI a wa b wb s hs la lb ls
      · exact evrTells_s w hI a wa b wb s hs la lb (by omega)
end Go.Proofs.YtaibdghalhbpnaaDoor
