/- DepBack, walked. -/
import Derived.Test.YtmmebheciolnoaaDoorDepAwake
namespace Go.Proofs.YtmmebheciolnoaaDoor
open Go.RowKit Go.Shelf

theorem keep_d2 {d : Dp} {a0 : ByteArray} {a1 a2 : Int} {a3 a4 : ByteArray} {m : Nat} {n : Nat} {w W W' : World} (h : W.cell? ⟨n, 0, none⟩ = some (.string (bs d.name)) ∧ W.cell? ⟨n, 1, none⟩ = some (.int .u8 d.op) ∧ W.cell? ⟨n, 2, none⟩ = some (.int .i64 d.evr.epoch) ∧ W.cell? ⟨n, 3, none⟩ = some (.string (bs d.evr.ver)) ∧ W.cell? ⟨n, 4, none⟩ = some (.string (bs d.evr.rel)) ∧ W.cell? ⟨m, 0, none⟩ = some (.string a0) ∧ W.cell? ⟨m, 1, none⟩ = some (.int .u8 a1) ∧ W.cell? ⟨m, 2, none⟩ = some (.int .i64 a2) ∧ W.cell? ⟨m, 3, none⟩ = some (.string a3) ∧ W.cell? ⟨m, 4, none⟩ = some (.string a4) ∧ n < W.heap.size ∧ m < W.heap.size ∧ Below n w W) (hb : Below W.heap.size W W') :
    W'.cell? ⟨n, 0, none⟩ = some (.string (bs d.name)) ∧ W'.cell? ⟨n, 1, none⟩ = some (.int .u8 d.op) ∧ W'.cell? ⟨n, 2, none⟩ = some (.int .i64 d.evr.epoch) ∧ W'.cell? ⟨n, 3, none⟩ = some (.string (bs d.evr.ver)) ∧ W'.cell? ⟨n, 4, none⟩ = some (.string (bs d.evr.rel)) ∧ W'.cell? ⟨m, 0, none⟩ = some (.string a0) ∧ W'.cell? ⟨m, 1, none⟩ = some (.int .u8 a1) ∧ W'.cell? ⟨m, 2, none⟩ = some (.int .i64 a2) ∧ W'.cell? ⟨m, 3, none⟩ = some (.string a3) ∧ W'.cell? ⟨m, 4, none⟩ = some (.string a4) ∧ n < W'.heap.size ∧ m < W'.heap.size ∧ Below n w W' := by
  obtain ⟨c0_0, c0_1, c0_2, c0_3, c0_4, c1_0, c1_1, c1_2, c1_3, c1_4, l0, l1, hB⟩ := h
  have hB_le : n ≤ W.heap.size := by omega
  exact ⟨(hb.cell (p := ⟨n, 0, none⟩) l0).trans c0_0, (hb.cell (p := ⟨n, 1, none⟩) l0).trans c0_1, (hb.cell (p := ⟨n, 2, none⟩) l0).trans c0_2, (hb.cell (p := ⟨n, 3, none⟩) l0).trans c0_3, (hb.cell (p := ⟨n, 4, none⟩) l0).trans c0_4, (hb.cell (p := ⟨m, 0, none⟩) l1).trans c1_0, (hb.cell (p := ⟨m, 1, none⟩) l1).trans c1_1, (hb.cell (p := ⟨m, 2, none⟩) l1).trans c1_2, (hb.cell (p := ⟨m, 3, none⟩) l1).trans c1_3, (hb.cell (p := ⟨m, 4, none⟩) l1).trans c1_4, Nat.lt_of_lt_of_le l0 hb.size, Nat.lt_of_lt_of_le l1 hb.size, hB.trans (hb.mono hB_le)⟩
theorem keep_d3 {d : Dp} {a0 : ByteArray} {a1 a2 : Int} {a3 a4 : ByteArray} {m : Nat} {b0 : ByteArray} {b1 b2 : Int} {b3 b4 : ByteArray} {q : Nat} {n : Nat} {w W W' : World} (h : W.cell? ⟨n, 0, none⟩ = some (.string (bs d.name)) ∧ W.cell? ⟨n, 1, none⟩ = some (.int .u8 d.op) ∧ W.cell? ⟨n, 2, none⟩ = some (.int .i64 d.evr.epoch) ∧ W.cell? ⟨n, 3, none⟩ = some (.string (bs d.evr.ver)) ∧ W.cell? ⟨n, 4, none⟩ = some (.string (bs d.evr.rel)) ∧ W.cell? ⟨m, 0, none⟩ = some (.string a0) ∧ W.cell? ⟨m, 1, none⟩ = some (.int .u8 a1) ∧ W.cell? ⟨m, 2, none⟩ = some (.int .i64 a2) ∧ W.cell? ⟨m, 3, none⟩ = some (.string a3) ∧ W.cell? ⟨m, 4, none⟩ = some (.string a4) ∧ W.cell? ⟨q, 0, none⟩ = some (.string b0) ∧ W.cell? ⟨q, 1, none⟩ = some (.int .u8 b1) ∧ W.cell? ⟨q, 2, none⟩ = some (.int .i64 b2) ∧ W.cell? ⟨q, 3, none⟩ = some (.string b3) ∧ W.cell? ⟨q, 4, none⟩ = some (.string b4) ∧ n < W.heap.size ∧ m < W.heap.size ∧ q < W.heap.size ∧ Below n w W) (hb : Below W.heap.size W W') :
    W'.cell? ⟨n, 0, none⟩ = some (.string (bs d.name)) ∧ W'.cell? ⟨n, 1, none⟩ = some (.int .u8 d.op) ∧ W'.cell? ⟨n, 2, none⟩ = some (.int .i64 d.evr.epoch) ∧ W'.cell? ⟨n, 3, none⟩ = some (.string (bs d.evr.ver)) ∧ W'.cell? ⟨n, 4, none⟩ = some (.string (bs d.evr.rel)) ∧ W'.cell? ⟨m, 0, none⟩ = some (.string a0) ∧ W'.cell? ⟨m, 1, none⟩ = some (.int .u8 a1) ∧ W'.cell? ⟨m, 2, none⟩ = some (.int .i64 a2) ∧ W'.cell? ⟨m, 3, none⟩ = some (.string a3) ∧ W'.cell? ⟨m, 4, none⟩ = some (.string a4) ∧ W'.cell? ⟨q, 0, none⟩ = some (.string b0) ∧ W'.cell? ⟨q, 1, none⟩ = some (.int .u8 b1) ∧ W'.cell? ⟨q, 2, none⟩ = some (.int .i64 b2) ∧ W'.cell? ⟨q, 3, none⟩ = some (.string b3) ∧ W'.cell? ⟨q, 4, none⟩ = some (.string b4) ∧ n < W'.heap.size ∧ m < W'.heap.size ∧ q < W'.heap.size ∧ Below n w W' := by
  obtain ⟨c0_0, c0_1, c0_2, c0_3, c0_4, c1_0, c1_1, c1_2, c1_3, c1_4, c2_0, c2_1, c2_2, c2_3, c2_4, l0, l1, l2, hB⟩ := h
  have hB_le : n ≤ W.heap.size := by omega
  exact ⟨(hb.cell (p := ⟨n, 0, none⟩) l0).trans c0_0, (hb.cell (p := ⟨n, 1, none⟩) l0).trans c0_1, (hb.cell (p := ⟨n, 2, none⟩) l0).trans c0_2, (hb.cell (p := ⟨n, 3, none⟩) l0).trans c0_3, (hb.cell (p := ⟨n, 4, none⟩) l0).trans c0_4, (hb.cell (p := ⟨m, 0, none⟩) l1).trans c1_0, (hb.cell (p := ⟨m, 1, none⟩) l1).trans c1_1, (hb.cell (p := ⟨m, 2, none⟩) l1).trans c1_2, (hb.cell (p := ⟨m, 3, none⟩) l1).trans c1_3, (hb.cell (p := ⟨m, 4, none⟩) l1).trans c1_4, (hb.cell (p := ⟨q, 0, none⟩) l2).trans c2_0, (hb.cell (p := ⟨q, 1, none⟩) l2).trans c2_1, (hb.cell (p := ⟨q, 2, none⟩) l2).trans c2_2, (hb.cell (p := ⟨q, 3, none⟩) l2).trans c2_3, (hb.cell (p := ⟨q, 4, none⟩) l2).trans c2_4, Nat.lt_of_lt_of_le l0 hb.size, Nat.lt_of_lt_of_le l1 hb.size, Nat.lt_of_lt_of_le l2 hb.size, hB.trans (hb.mono hB_le)⟩
theorem tail_d2 {d : Dp} {a0 : ByteArray} {a1 a2 : Int} {a3 a4 : ByteArray} {m : Nat} {n : Nat} {w W : World} (h : W.cell? ⟨n, 0, none⟩ = some (.string (bs d.name)) ∧ W.cell? ⟨n, 1, none⟩ = some (.int .u8 d.op) ∧ W.cell? ⟨n, 2, none⟩ = some (.int .i64 d.evr.epoch) ∧ W.cell? ⟨n, 3, none⟩ = some (.string (bs d.evr.ver)) ∧ W.cell? ⟨n, 4, none⟩ = some (.string (bs d.evr.rel)) ∧ W.cell? ⟨m, 0, none⟩ = some (.string a0) ∧ W.cell? ⟨m, 1, none⟩ = some (.int .u8 a1) ∧ W.cell? ⟨m, 2, none⟩ = some (.int .i64 a2) ∧ W.cell? ⟨m, 3, none⟩ = some (.string a3) ∧ W.cell? ⟨m, 4, none⟩ = some (.string a4) ∧ n < W.heap.size ∧ m < W.heap.size ∧ Below n w W) : Below n w W := h.2.2.2.2.2.2.2.2.2.2.2.2
theorem tail_d3 {d : Dp} {a0 : ByteArray} {a1 a2 : Int} {a3 a4 : ByteArray} {m : Nat} {b0 : ByteArray} {b1 b2 : Int} {b3 b4 : ByteArray} {q : Nat} {n : Nat} {w W : World} (h : W.cell? ⟨n, 0, none⟩ = some (.string (bs d.name)) ∧ W.cell? ⟨n, 1, none⟩ = some (.int .u8 d.op) ∧ W.cell? ⟨n, 2, none⟩ = some (.int .i64 d.evr.epoch) ∧ W.cell? ⟨n, 3, none⟩ = some (.string (bs d.evr.ver)) ∧ W.cell? ⟨n, 4, none⟩ = some (.string (bs d.evr.rel)) ∧ W.cell? ⟨m, 0, none⟩ = some (.string a0) ∧ W.cell? ⟨m, 1, none⟩ = some (.int .u8 a1) ∧ W.cell? ⟨m, 2, none⟩ = some (.int .i64 a2) ∧ W.cell? ⟨m, 3, none⟩ = some (.string a3) ∧ W.cell? ⟨m, 4, none⟩ = some (.string a4) ∧ W.cell? ⟨q, 0, none⟩ = some (.string b0) ∧ W.cell? ⟨q, 1, none⟩ = some (.int .u8 b1) ∧ W.cell? ⟨q, 2, none⟩ = some (.int .i64 b2) ∧ W.cell? ⟨q, 3, none⟩ = some (.string b3) ∧ W.cell? ⟨q, 4, none⟩ = some (.string b4) ∧ n < W.heap.size ∧ m < W.heap.size ∧ q < W.heap.size ∧ Below n w W) : Below n w W := h.2.2.2.2.2.2.2.2.2.2.2.2.2.2.2.2.2.2
theorem grow_d2 {d : Dp} (a0 : ByteArray) (a1 a2 : Int) (a3 a4 : ByteArray) {n : Nat} {w W : World} (h : W.cell? ⟨n, 0, none⟩ = some (.string (bs d.name)) ∧ W.cell? ⟨n, 1, none⟩ = some (.int .u8 d.op) ∧ W.cell? ⟨n, 2, none⟩ = some (.int .i64 d.evr.epoch) ∧ W.cell? ⟨n, 3, none⟩ = some (.string (bs d.evr.ver)) ∧ W.cell? ⟨n, 4, none⟩ = some (.string (bs d.evr.rel)) ∧ n < W.heap.size ∧ Below n w W) : let V := W.alloc (.cells #[.string a0, .int .u8 a1, .int .i64 a2, .string a3, .string a4] 40); let m := W.heap.size; V.cell? ⟨n, 0, none⟩ = some (.string (bs d.name)) ∧ V.cell? ⟨n, 1, none⟩ = some (.int .u8 d.op) ∧ V.cell? ⟨n, 2, none⟩ = some (.int .i64 d.evr.epoch) ∧ V.cell? ⟨n, 3, none⟩ = some (.string (bs d.evr.ver)) ∧ V.cell? ⟨n, 4, none⟩ = some (.string (bs d.evr.rel)) ∧ V.cell? ⟨m, 0, none⟩ = some (.string a0) ∧ V.cell? ⟨m, 1, none⟩ = some (.int .u8 a1) ∧ V.cell? ⟨m, 2, none⟩ = some (.int .i64 a2) ∧ V.cell? ⟨m, 3, none⟩ = some (.string a3) ∧ V.cell? ⟨m, 4, none⟩ = some (.string a4) ∧ n < V.heap.size ∧ m < V.heap.size ∧ Below n w V := by
  obtain ⟨c0_0, c0_1, c0_2, c0_3, c0_4, l0, hB⟩ := h
  exact ⟨(World.cell?_alloc_lt W _ ⟨n, 0, none⟩ l0).trans c0_0, (World.cell?_alloc_lt W _ ⟨n, 1, none⟩ l0).trans c0_1, (World.cell?_alloc_lt W _ ⟨n, 2, none⟩ l0).trans c0_2, (World.cell?_alloc_lt W _ ⟨n, 3, none⟩ l0).trans c0_3, (World.cell?_alloc_lt W _ ⟨n, 4, none⟩ l0).trans c0_4, (World.cell?_alloc_at _ _ _ _ rfl).trans rfl, (World.cell?_alloc_at _ _ _ _ rfl).trans rfl, (World.cell?_alloc_at _ _ _ _ rfl).trans rfl, (World.cell?_alloc_at _ _ _ _ rfl).trans rfl, (World.cell?_alloc_at _ _ _ _ rfl).trans rfl, by simp; omega, by simp, hB.alloc (by omega) _⟩
theorem grow_d3 {d : Dp} {a0 : ByteArray} {a1 a2 : Int} {a3 a4 : ByteArray} {m : Nat} (b0 : ByteArray) (b1 b2 : Int) (b3 b4 : ByteArray) {n : Nat} {w W : World} (h : W.cell? ⟨n, 0, none⟩ = some (.string (bs d.name)) ∧ W.cell? ⟨n, 1, none⟩ = some (.int .u8 d.op) ∧ W.cell? ⟨n, 2, none⟩ = some (.int .i64 d.evr.epoch) ∧ W.cell? ⟨n, 3, none⟩ = some (.string (bs d.evr.ver)) ∧ W.cell? ⟨n, 4, none⟩ = some (.string (bs d.evr.rel)) ∧ W.cell? ⟨m, 0, none⟩ = some (.string a0) ∧ W.cell? ⟨m, 1, none⟩ = some (.int .u8 a1) ∧ W.cell? ⟨m, 2, none⟩ = some (.int .i64 a2) ∧ W.cell? ⟨m, 3, none⟩ = some (.string a3) ∧ W.cell? ⟨m, 4, none⟩ = some (.string a4) ∧ n < W.heap.size ∧ m < W.heap.size ∧ Below n w W) : let V := W.alloc (.cells #[.string b0, .int .u8 b1, .int .i64 b2, .string b3, .string b4] 40); let q := W.heap.size; V.cell? ⟨n, 0, none⟩ = some (.string (bs d.name)) ∧ V.cell? ⟨n, 1, none⟩ = some (.int .u8 d.op) ∧ V.cell? ⟨n, 2, none⟩ = some (.int .i64 d.evr.epoch) ∧ V.cell? ⟨n, 3, none⟩ = some (.string (bs d.evr.ver)) ∧ V.cell? ⟨n, 4, none⟩ = some (.string (bs d.evr.rel)) ∧ V.cell? ⟨m, 0, none⟩ = some (.string a0) ∧ V.cell? ⟨m, 1, none⟩ = some (.int .u8 a1) ∧ V.cell? ⟨m, 2, none⟩ = some (.int .i64 a2) ∧ V.cell? ⟨m, 3, none⟩ = some (.string a3) ∧ V.cell? ⟨m, 4, none⟩ = some (.string a4) ∧ V.cell? ⟨q, 0, none⟩ = some (.string b0) ∧ V.cell? ⟨q, 1, none⟩ = some (.int .u8 b1) ∧ V.cell? ⟨q, 2, none⟩ = some (.int .i64 b2) ∧ V.cell? ⟨q, 3, none⟩ = some (.string b3) ∧ V.cell? ⟨q, 4, none⟩ = some (.string b4) ∧ n < V.heap.size ∧ m < V.heap.size ∧ q < V.heap.size ∧ Below n w V := by
  obtain ⟨c0_0, c0_1, c0_2, c0_3, c0_4, c1_0, c1_1, c1_2, c1_3, c1_4, l0, l1, hB⟩ := h
  exact ⟨(World.cell?_alloc_lt W _ ⟨n, 0, none⟩ l0).trans c0_0, (World.cell?_alloc_lt W _ ⟨n, 1, none⟩ l0).trans c0_1, (World.cell?_alloc_lt W _ ⟨n, 2, none⟩ l0).trans c0_2, (World.cell?_alloc_lt W _ ⟨n, 3, none⟩ l0).trans c0_3, (World.cell?_alloc_lt W _ ⟨n, 4, none⟩ l0).trans c0_4, (World.cell?_alloc_lt W _ ⟨m, 0, none⟩ l1).trans c1_0, (World.cell?_alloc_lt W _ ⟨m, 1, none⟩ l1).trans c1_1, (World.cell?_alloc_lt W _ ⟨m, 2, none⟩ l1).trans c1_2, (World.cell?_alloc_lt W _ ⟨m, 3, none⟩ l1).trans c1_3, (World.cell?_alloc_lt W _ ⟨m, 4, none⟩ l1).trans c1_4, (World.cell?_alloc_at _ _ _ _ rfl).trans rfl, (World.cell?_alloc_at _ _ _ _ rfl).trans rfl, (World.cell?_alloc_at _ _ _ _ rfl).trans rfl, (World.cell?_alloc_at _ _ _ _ rfl).trans rfl, (World.cell?_alloc_at _ _ _ _ rfl).trans rfl, by simp; omega, by simp; omega, by simp, hB.alloc (by omega) _⟩
theorem ofV_some (d : Dp) : ofV (some d) = .tuple #[.agg #[.string (bs d.name), .int .u8 d.op, .int .i64 d.evr.epoch, .string (bs d.evr.ver), .string (bs d.evr.rel)], .int .i64 0] := rfl
theorem dpOf_wf {l : List Bytes} {d : Dp} (h : dpOf l = some d) : d.wf := by
  obtain ⟨hn, ho, h3⟩ := dmay_iff.1 (words_dpOf h).1
  have h1 := (name_iff.1 hn).2.1
  refine ⟨by unfold maxLen; omega, opMay_wf ho, ?_⟩
  rcases h3 with ⟨_, e⟩ | ⟨_, _, hm⟩
  · rw [e]; exact ⟨rfl, Nat.zero_le _, Nat.zero_le _⟩
  · obtain ⟨p0, p1, p2, p3⟩ := may_parts hm
    exact ⟨WalkArith.wf_i64 (by omega), by unfold maxLen; omega, by unfold maxLen; omega⟩
theorem x_box (W : World) (x : Dp) : let V := W.alloc (.cells #[.string (bs x.name), .int .u8 x.op, .int .i64 x.evr.epoch, .string (bs x.evr.ver), .string (bs x.evr.rel)] 40); let t := W.heap.size; V.cell? ⟨t, 0, none⟩ = some (.string (bs x.name)) ∧ V.cell? ⟨t, 1, none⟩ = some (.int .u8 x.op) ∧ V.cell? ⟨t, 2, none⟩ = some (.int .i64 x.evr.epoch) ∧ V.cell? ⟨t, 3, none⟩ = some (.string (bs x.evr.ver)) ∧ V.cell? ⟨t, 4, none⟩ = some (.string (bs x.evr.rel)) ∧ t < V.heap.size := by
  refine ⟨?_, ?_, ?_, ?_, ?_, by simp⟩ <;> exact (World.cell?_alloc_at _ _ _ _ rfl).trans rfl
theorem x_keep {V W : World} {x : Dp} {t : Nat} (h : V.cell? ⟨t, 0, none⟩ = some (.string (bs x.name)) ∧ V.cell? ⟨t, 1, none⟩ = some (.int .u8 x.op) ∧ V.cell? ⟨t, 2, none⟩ = some (.int .i64 x.evr.epoch) ∧ V.cell? ⟨t, 3, none⟩ = some (.string (bs x.evr.ver)) ∧ V.cell? ⟨t, 4, none⟩ = some (.string (bs x.evr.rel)) ∧ t < V.heap.size) (hb : Below V.heap.size V W) :
    W.cell? ⟨t, 0, none⟩ = some (.string (bs x.name)) ∧ W.cell? ⟨t, 1, none⟩ = some (.int .u8 x.op) ∧ W.cell? ⟨t, 2, none⟩ = some (.int .i64 x.evr.epoch) ∧ W.cell? ⟨t, 3, none⟩ = some (.string (bs x.evr.ver)) ∧ W.cell? ⟨t, 4, none⟩ = some (.string (bs x.evr.rel)) ∧ t < W.heap.size := by
  obtain ⟨h0, h1, h2, h3, h4, hl⟩ := h
  exact ⟨(hb.cell (p := ⟨t, 0, none⟩) hl).trans h0, (hb.cell (p := ⟨t, 1, none⟩) hl).trans h1, (hb.cell (p := ⟨t, 2, none⟩) hl).trans h2, (hb.cell (p := ⟨t, 3, none⟩) hl).trans h3, (hb.cell (p := ⟨t, 4, none⟩) hl).trans h4, Nat.lt_of_lt_of_le hl hb.size⟩
set_option maxRecDepth 100000 in
set_option maxHeartbeats 16000000 in
theorem depBack_a (w : World) (hI : DpIn w) (d : Dp) (wd : d.wf) (s : ByteArray) (hs : s.size ≤ maxLen) (la : longD d = true) : Calls Tryd.prog 8 #[d.val, .string s] w fun e w' => e = .returned (.bool true) ∧ Below w.heap.size w w' := by
  have LA := Lib.hid (fun W => long06_any d W wd)
  have AW := Lib.hid (fun W (h : Below w.heap.size w W) => awake06 W (hI.below h))
  have S0 := new_d1 d w
  dsimp only at S0
  rw [la] at LA
  unfold maxLen at hs
  clear la
  clear hI wd
  unfold Dp.val at *
  go_enter Tryd.func8, Tryd.ntmps8
  go_wp2_with fail
  go_at_call 36
  generalize (w.alloc (.cells #[.string (bs d.name), .int .u8 d.op, .int .i64 d.evr.epoch, .string (bs d.evr.ver), .string (bs d.evr.rel)] 40)) = W at *
  generalize hn : w.heap.size = n at *
  obtain ⟨c0_0, c0_1, c0_2, c0_3, c0_4, l0, hB⟩ := id S0
  refine (LA.out _).mono ?_
  rintro e1 w1 ⟨rfl, h⟩
  have S1 := keep_d1 S0 h
  clear S0 h c0_0 c0_1 c0_2 c0_3 c0_4 l0 hB
  obtain ⟨c0_0, c0_1, c0_2, c0_3, c0_4, l0, hB⟩ := id S1
  go_wp2_with fail
  go_at_call 30
  refine (AW.out _ hB).mono ?_
  rintro e2 w2 ⟨rfl, h⟩
  have S2 := keep_d1 S1 h
  clear c0_0 c0_1 c0_2 c0_3 c0_4 l0 hB
  clear S1 h
  obtain ⟨c0_0, c0_1, c0_2, c0_3, c0_4, l0, hB⟩ := id S2
  go_wp2_with fail
  go_ret
  exact ⟨rfl, by rw [hn]; exact hB⟩
set_option maxRecDepth 100000 in
set_option maxHeartbeats 16000000 in
theorem depBack_s (w : World) (hI : DpIn w) (d : Dp) (wd : d.wf) (s : ByteArray) (hs : s.size ≤ maxLen) (la : longD d = false) (ls : 1000 < s.size) : Calls Tryd.prog 8 #[d.val, .string s] w fun e w' => e = .returned (.bool true) ∧ Below w.heap.size w w' := by
  have LA := Lib.hid (fun W => long06_any d W wd)
  have AW := Lib.hid (fun W (h : Below w.heap.size w W) => awake06 W (hI.below h))
  have S0 := new_d1 d w
  dsimp only at S0
  rw [la] at LA
  unfold maxLen at hs
  clear la
  have ls2 : (1000 : Int) < (s.size : Int) := by omega
  clear hI wd ls
  unfold Dp.val at *
  go_enter Tryd.func8, Tryd.ntmps8
  go_wp2_with fail
  go_at_call 36
  generalize (w.alloc (.cells #[.string (bs d.name), .int .u8 d.op, .int .i64 d.evr.epoch, .string (bs d.evr.ver), .string (bs d.evr.rel)] 40)) = W at *
  generalize hn : w.heap.size = n at *
  obtain ⟨c0_0, c0_1, c0_2, c0_3, c0_4, l0, hB⟩ := id S0
  refine (LA.out _).mono ?_
  rintro e1 w1 ⟨rfl, h⟩
  have S1 := keep_d1 S0 h
  clear S0 h c0_0 c0_1 c0_2 c0_3 c0_4 l0 hB
  obtain ⟨c0_0, c0_1, c0_2, c0_3, c0_4, l0, hB⟩ := id S1
  go_wp2_with fail
  go_at_call 30
  refine (AW.out _ hB).mono ?_
  rintro e2 w2 ⟨rfl, h⟩
  have S2 := keep_d1 S1 h
  clear c0_0 c0_1 c0_2 c0_3 c0_4 l0 hB
  clear S1 h
  obtain ⟨c0_0, c0_1, c0_2, c0_3, c0_4, l0, hB⟩ := id S2
  go_wp2_with fail
  go_ret
  exact ⟨rfl, by rw [hn]; exact hB⟩
set_option maxRecDepth 100000 in
set_option maxHeartbeats 16000000 in
theorem depBack_nn (w : World) (hI : DpIn w) (d : Dp) (wd : d.wf) (s : ByteArray) (hs : s.size ≤ maxLen) (la : longD d = false) (ls : s.size ≤ 1000) (hm : dmayB d = false) (hp : dpOf (splitSp s.toList) = none) : Calls Tryd.prog 8 #[d.val, .string s] w fun e w' => e = .returned (.bool true) ∧ Below w.heap.size w w' := by
  have LA := Lib.hid (fun W => long06_any d W wd)
  have AW := Lib.hid (fun W (h : Below w.heap.size w W) => awake06 W (hI.below h))
  have S0 := new_d1 d w
  dsimp only at S0
  have SA := Lib.hid (fun W (h : Below w.heap.size w W) => dshow_any d W wd (hI.below h))
  have WA := Lib.hid (fun W (h : Below w.heap.size w W) => dwords_any d W wd (hI.below h))
  have MA := Lib.hid (fun W (h : Below w.heap.size w W) => dmay_any d W wd (hI.below h))
  have PX := Lib.hid (fun W (h : Below w.heap.size w W) => dparse_any s W (by omega) (hI.below h))
  have ls2 : (s.size : Int) ≤ 1000 := by omega
  rw [la] at LA
  rw [hm] at MA
  rw [hp] at PX
  unfold WordsPost at WA
  rw [showDV_no hm] at SA
  rw [(wordsL_no hm).1, (wordsL_no hm).2] at WA
  rw [ofV_none] at PX
  unfold ZV at PX
  clear hI wd la ls hm hp hs
  unfold Dp.val at *
  go_enter Tryd.func8, Tryd.ntmps8
  go_wp2_with fail
  go_at_call 36
  generalize (w.alloc (.cells #[.string (bs d.name), .int .u8 d.op, .int .i64 d.evr.epoch, .string (bs d.evr.ver), .string (bs d.evr.rel)] 40)) = W at *
  generalize hn : w.heap.size = n at *
  obtain ⟨c0_0, c0_1, c0_2, c0_3, c0_4, l0, hB⟩ := id S0
  refine (LA.out _).mono ?_
  rintro e1 w1 ⟨rfl, h⟩
  have S1 := keep_d1 S0 h
  clear S0 h c0_0 c0_1 c0_2 c0_3 c0_4 l0 hB
  obtain ⟨c0_0, c0_1, c0_2, c0_3, c0_4, l0, hB⟩ := id S1
  go_wp2_with fail
  go_at_call 30
  refine (AW.out _ hB).mono ?_
  rintro e2 w2 ⟨rfl, h⟩
  have S2 := keep_d1 S1 h
  clear c0_0 c0_1 c0_2 c0_3 c0_4 l0 hB
  clear S1 h
  obtain ⟨c0_0, c0_1, c0_2, c0_3, c0_4, l0, hB⟩ := id S2
  go_wp2_with fail
  go_at_call 41
  refine (SA.out _ hB).mono ?_
  rintro e3 w3 ⟨rfl, h⟩
  have S3 := keep_d1 S2 h
  clear c0_0 c0_1 c0_2 c0_3 c0_4 l0 hB
  clear S2 h
  obtain ⟨c0_0, c0_1, c0_2, c0_3, c0_4, l0, hB⟩ := id S3
  go_wp2_with fail
  go_at_call 42
  refine (WA.out _ hB).mono ?_
  rintro e4 w4 ⟨Aa, ca, rfl, Ta, _, h⟩
  have S4 := keep_d1 S3 h
  clear S3 h c0_0 c0_1 c0_2 c0_3 c0_4 l0 hB
  obtain ⟨c0_0, c0_1, c0_2, c0_3, c0_4, l0, hB⟩ := id S4
  clear SA WA LA
  go_wp2_with fail
  go_at_call 40
  refine (MA.out _ hB).mono ?_
  rintro e5 w5 ⟨rfl, h⟩
  have S5 := keep_d1 S4 h
  have Ta := Ta.calls h
  clear S4 h MA c0_0 c0_1 c0_2 c0_3 c0_4 l0 hB
  obtain ⟨c0_0, c0_1, c0_2, c0_3, c0_4, l0, hB⟩ := id S5
  go_wp2_with fail
  go_at_call 31
  refine (PX.out _ hB).mono ?_
  rintro e6 w6 ⟨rfl, h⟩
  have S6 := keep_d1 S5 h
  clear c0_0 c0_1 c0_2 c0_3 c0_4 l0 hB
  clear S5 h
  obtain ⟨c0_0, c0_1, c0_2, c0_3, c0_4, l0, hB⟩ := id S6
  clear PX
  have hB1 := (tail_d1 S6).alloc (hn ▸ (tail_d1 S6).size) (.cells #[.string ⟨#[]⟩, .int .u8 0, .int .i64 0, .string ⟨#[]⟩, .string ⟨#[]⟩] 40)
  go_wp2_with fail
  go_ret
  exact ⟨rfl, by rw [hn]; exact hB1⟩
set_option maxRecDepth 100000 in
set_option maxHeartbeats 16000000 in
theorem depBack_ny (w : World) (hI : DpIn w) (d : Dp) (wd : d.wf) (s : ByteArray) (hs : s.size ≤ maxLen) (la : longD d = false) (ls : s.size ≤ 1000) (hm : dmayB d = false) (x : Dp) (hp : dpOf (splitSp s.toList) = some x) : Calls Tryd.prog 8 #[d.val, .string s] w fun e w' => e = .returned (.bool true) ∧ Below w.heap.size w w' := by
  have LA := Lib.hid (fun W => long06_any d W wd)
  have AW := Lib.hid (fun W (h : Below w.heap.size w W) => awake06 W (hI.below h))
  have S0 := new_d1 d w
  dsimp only at S0
  have SA := Lib.hid (fun W (h : Below w.heap.size w W) => dshow_any d W wd (hI.below h))
  have WA := Lib.hid (fun W (h : Below w.heap.size w W) => dwords_any d W wd (hI.below h))
  have MA := Lib.hid (fun W (h : Below w.heap.size w W) => dmay_any d W wd (hI.below h))
  have PX := Lib.hid (fun W (h : Below w.heap.size w W) => dparse_any s W (by omega) (hI.below h))
  have ls2 : (s.size : Int) ≤ 1000 := by omega
  rw [la] at LA
  rw [hm] at MA
  rw [hp] at PX
  unfold WordsPost at WA
  rw [showDV_no hm] at SA
  rw [(wordsL_no hm).1, (wordsL_no hm).2] at WA
  have hx := dp_there hp
  have wx := dpOf_wf hp
  have SX := Lib.hid (fun W (h : Below w.heap.size w W) => dshow_any x W wx (hI.below h))
  have MX := Lib.hid (fun W (h : Below w.heap.size w W) => dmay_any x W wx (hI.below h))
  rw [showDV_yes hx.1, hx.2, bs_of] at SX
  rw [hx.1] at MX
  rw [ofV_some] at PX
  unfold Dp.val at SX MX
  clear hx wx
  clear hI wd la ls hm hp hs
  unfold Dp.val at *
  go_enter Tryd.func8, Tryd.ntmps8
  go_wp2_with fail
  go_at_call 36
  generalize (w.alloc (.cells #[.string (bs d.name), .int .u8 d.op, .int .i64 d.evr.epoch, .string (bs d.evr.ver), .string (bs d.evr.rel)] 40)) = W at *
  generalize hn : w.heap.size = n at *
  obtain ⟨c0_0, c0_1, c0_2, c0_3, c0_4, l0, hB⟩ := id S0
  refine (LA.out _).mono ?_
  rintro e1 w1 ⟨rfl, h⟩
  have S1 := keep_d1 S0 h
  clear S0 h c0_0 c0_1 c0_2 c0_3 c0_4 l0 hB
  obtain ⟨c0_0, c0_1, c0_2, c0_3, c0_4, l0, hB⟩ := id S1
  go_wp2_with fail
  go_at_call 30
  refine (AW.out _ hB).mono ?_
  rintro e2 w2 ⟨rfl, h⟩
  have S2 := keep_d1 S1 h
  clear c0_0 c0_1 c0_2 c0_3 c0_4 l0 hB
  clear S1 h
  obtain ⟨c0_0, c0_1, c0_2, c0_3, c0_4, l0, hB⟩ := id S2
  go_wp2_with fail
  go_at_call 41
  refine (SA.out _ hB).mono ?_
  rintro e3 w3 ⟨rfl, h⟩
  have S3 := keep_d1 S2 h
  clear c0_0 c0_1 c0_2 c0_3 c0_4 l0 hB
  clear S2 h
  obtain ⟨c0_0, c0_1, c0_2, c0_3, c0_4, l0, hB⟩ := id S3
  go_wp2_with fail
  go_at_call 42
  refine (WA.out _ hB).mono ?_
  rintro e4 w4 ⟨Aa, ca, rfl, Ta, _, h⟩
  have S4 := keep_d1 S3 h
  clear S3 h c0_0 c0_1 c0_2 c0_3 c0_4 l0 hB
  obtain ⟨c0_0, c0_1, c0_2, c0_3, c0_4, l0, hB⟩ := id S4
  clear SA WA LA
  go_wp2_with fail
  go_at_call 40
  refine (MA.out _ hB).mono ?_
  rintro e5 w5 ⟨rfl, h⟩
  have S5 := keep_d1 S4 h
  have Ta := Ta.calls h
  clear S4 h MA c0_0 c0_1 c0_2 c0_3 c0_4 l0 hB
  obtain ⟨c0_0, c0_1, c0_2, c0_3, c0_4, l0, hB⟩ := id S5
  go_wp2_with fail
  go_at_call 31
  refine (PX.out _ hB).mono ?_
  rintro e6 w6 ⟨rfl, h⟩
  have S6 := keep_d1 S5 h
  clear c0_0 c0_1 c0_2 c0_3 c0_4 l0 hB
  clear S5 h
  obtain ⟨c0_0, c0_1, c0_2, c0_3, c0_4, l0, hB⟩ := id S6
  clear PX
  have HB := Lib.hid (tail_d1 S6)
  have hs3 : w6.heap.size + 1 = (w6.alloc (.cells #[.string (bs x.name), .int .u8 x.op, .int .i64 x.evr.epoch, .string (bs x.evr.ver), .string (bs x.evr.rel)] 40)).heap.size := by simp
  have hB1 := (tail_d1 S6).alloc (hn ▸ (tail_d1 S6).size) (.cells #[.string (bs x.name), .int .u8 x.op, .int .i64 x.evr.epoch, .string (bs x.evr.ver), .string (bs x.evr.rel)] 40)
  have cx := x_box w6 x
  go_wp2_with fail
  go_at_call 41
  generalize hV : w6.alloc (.cells #[.string (bs x.name), .int .u8 x.op, .int .i64 x.evr.epoch, .string (bs x.evr.ver), .string (bs x.evr.rel)] 40) = V at *
  generalize w6.heap.size = t at *
  clear hV S6 hs3 c0_0 c0_1 c0_2 c0_3 c0_4 l0 hB
  refine (SX.out _ hB1).mono ?_
  rintro e20 w20 ⟨rfl, h⟩
  have cx2 := x_keep cx h
  have hB2 := hB1.trans (h.mono (hn ▸ hB1.size))
  clear cx h hB1 SX
  obtain ⟨x0, x1, x2, x3, x4, xl⟩ := cx2
  go_wp2_with fail
  go_at_call 40
  refine (MX.out _ hB2).mono ?_
  rintro e21 w21 ⟨rfl, h⟩
  go_wp2_with fail
  go_ret
  exact ⟨rfl, by rw [hn]; exact hB2.trans (h.mono (hn ▸ hB2.size))⟩
set_option maxRecDepth 100000 in
set_option maxHeartbeats 16000000 in
theorem depBack_yn (w : World) (hI : DpIn w) (d : Dp) (wd : d.wf) (s : ByteArray) (hs : s.size ≤ maxLen) (la : longD d = false) (ls : s.size ≤ 1000) (hm : dmayB d = true) (hp : dpOf (splitSp s.toList) = none) : Calls Tryd.prog 8 #[d.val, .string s] w fun e w' => e = .returned (.bool true) ∧ Below w.heap.size w w' := by
  have LA := Lib.hid (fun W => long06_any d W wd)
  have AW := Lib.hid (fun W (h : Below w.heap.size w W) => awake06 W (hI.below h))
  have S0 := new_d1 d w
  dsimp only at S0
  have SA := Lib.hid (fun W (h : Below w.heap.size w W) => dshow_any d W wd (hI.below h))
  have WA := Lib.hid (fun W (h : Below w.heap.size w W) => dwords_any d W wd (hI.below h))
  have MA := Lib.hid (fun W (h : Below w.heap.size w W) => dmay_any d W wd (hI.below h))
  have PX := Lib.hid (fun W (h : Below w.heap.size w W) => dparse_any s W (by omega) (hI.below h))
  have ls2 : (s.size : Int) ≤ 1000 := by omega
  rw [la] at LA
  rw [hm] at MA
  rw [hp] at PX
  unfold WordsPost at WA
  rw [showDV_yes hm] at SA
  rw [(wordsL_yes hm).1, (wordsL_yes hm).2] at WA
  have hln := dpText_len hm
  have hPT := dp_back hm
  have PT := Lib.hid (fun W (h : Below w.heap.size w W) => dparse_any (bs (dpText d)) W (by rw [bs_size]; omega) (hI.below h))
  rw [bs_toList, hPT, ofV_some] at PT
  have OT := Lib.hid (fun A c W (h : Below w.heap.size w W) (hT : TR W A ((dwords d).map bs)) => dof_any A c _ W (by rw [List.length_map]; rcases dwords_len d with h | h <;> omega) (fun x hx => by
    obtain ⟨y, hy, rfl⟩ := List.mem_map.1 hx
    rw [bs_size]
    have := split_le (dpText d) y (by unfold dpText; rw [split_dwords hm]; exact hy)
    omega) hT (hI.below h))
  rw [map_bs2, dpOf_words hm, ofV_some] at OT
  generalize bs (dpText d) = T at *
  generalize (dwords d).map bs = L at *
  clear hln hPT
  rw [ofV_none] at PX
  unfold ZV at PX
  clear hI wd la ls hm hp hs
  unfold Dp.val at *
  go_enter Tryd.func8, Tryd.ntmps8
  go_wp2_with fail
  go_at_call 36
  generalize (w.alloc (.cells #[.string (bs d.name), .int .u8 d.op, .int .i64 d.evr.epoch, .string (bs d.evr.ver), .string (bs d.evr.rel)] 40)) = W at *
  generalize hn : w.heap.size = n at *
  obtain ⟨c0_0, c0_1, c0_2, c0_3, c0_4, l0, hB⟩ := id S0
  refine (LA.out _).mono ?_
  rintro e1 w1 ⟨rfl, h⟩
  have S1 := keep_d1 S0 h
  clear S0 h c0_0 c0_1 c0_2 c0_3 c0_4 l0 hB
  obtain ⟨c0_0, c0_1, c0_2, c0_3, c0_4, l0, hB⟩ := id S1
  go_wp2_with fail
  go_at_call 30
  refine (AW.out _ hB).mono ?_
  rintro e2 w2 ⟨rfl, h⟩
  have S2 := keep_d1 S1 h
  clear c0_0 c0_1 c0_2 c0_3 c0_4 l0 hB
  clear S1 h
  obtain ⟨c0_0, c0_1, c0_2, c0_3, c0_4, l0, hB⟩ := id S2
  go_wp2_with fail
  go_at_call 41
  refine (SA.out _ hB).mono ?_
  rintro e3 w3 ⟨rfl, h⟩
  have S3 := keep_d1 S2 h
  clear c0_0 c0_1 c0_2 c0_3 c0_4 l0 hB
  clear S2 h
  obtain ⟨c0_0, c0_1, c0_2, c0_3, c0_4, l0, hB⟩ := id S3
  go_wp2_with fail
  go_at_call 42
  refine (WA.out _ hB).mono ?_
  rintro e4 w4 ⟨Aa, ca, rfl, Ta, _, h⟩
  have S4 := keep_d1 S3 h
  clear S3 h c0_0 c0_1 c0_2 c0_3 c0_4 l0 hB
  obtain ⟨c0_0, c0_1, c0_2, c0_3, c0_4, l0, hB⟩ := id S4
  clear SA WA LA
  go_wp2_with fail
  go_at_call 40
  refine (MA.out _ hB).mono ?_
  rintro e5 w5 ⟨rfl, h⟩
  have S5 := keep_d1 S4 h
  have Ta := Ta.calls h
  clear S4 h MA c0_0 c0_1 c0_2 c0_3 c0_4 l0 hB
  obtain ⟨c0_0, c0_1, c0_2, c0_3, c0_4, l0, hB⟩ := id S5
  go_wp2_with fail
  go_at_call 31
  refine (PT.out _ hB).mono ?_
  rintro e6 w6 ⟨rfl, h⟩
  have S6 := keep_d1 S5 h
  have Ta := Ta.calls h
  clear S5 h PT c0_0 c0_1 c0_2 c0_3 c0_4 l0 hB
  obtain ⟨c0_0, c0_1, c0_2, c0_3, c0_4, l0, hB⟩ := id S6
  have Ta := Ta.calls ((Below.refl w6.heap.size w6).alloc (Nat.le_refl _) (.cells #[.string (bs d.name), .int .u8 d.op, .int .i64 d.evr.epoch, .string (bs d.evr.ver), .string (bs d.evr.rel)] 40))
  have SG := grow_d2 ((bs d.name)) (d.op) (d.evr.epoch) ((bs d.evr.ver)) ((bs d.evr.rel)) S6
  dsimp only at SG
  go_wp2_with fail
  go_at_call 33
  generalize hV : w6.alloc (.cells #[.string (bs d.name), .int .u8 d.op, .int .i64 d.evr.epoch, .string (bs d.evr.ver), .string (bs d.evr.rel)] 40) = Vm at *
  generalize w6.heap.size = m at *
  clear S6 hV c0_0 c0_1 c0_2 c0_3 c0_4 l0 hB
  obtain ⟨c0_0, c0_1, c0_2, c0_3, c0_4, c1_0, c1_1, c1_2, c1_3, c1_4, l0, l1, hB⟩ := id SG
  refine (OT.out _ _ _ hB Ta).mono ?_
  rintro e7 w7 ⟨rfl, h⟩
  have S7 := keep_d2 SG h
  clear SG h c0_0 c0_1 c0_2 c0_3 c0_4 c1_0 c1_1 c1_2 c1_3 c1_4 l0 l1 hB
  obtain ⟨c0_0, c0_1, c0_2, c0_3, c0_4, c1_0, c1_1, c1_2, c1_3, c1_4, l0, l1, hB⟩ := id S7
  clear OT Ta
  have SG := grow_d3 ((bs d.name)) (d.op) (d.evr.epoch) ((bs d.evr.ver)) ((bs d.evr.rel)) S7
  dsimp only at SG
  go_wp2_with fail
  go_at_call 31
  generalize hV : w7.alloc (.cells #[.string (bs d.name), .int .u8 d.op, .int .i64 d.evr.epoch, .string (bs d.evr.ver), .string (bs d.evr.rel)] 40) = Vq at *
  generalize w7.heap.size = q at *
  clear S7 hV c0_0 c0_1 c0_2 c0_3 c0_4 c1_0 c1_1 c1_2 c1_3 c1_4 l0 l1 hB
  obtain ⟨c0_0, c0_1, c0_2, c0_3, c0_4, c1_0, c1_1, c1_2, c1_3, c1_4, c2_0, c2_1, c2_2, c2_3, c2_4, l0, l1, l2, hB⟩ := id SG
  refine (PX.out _ hB).mono ?_
  rintro e8 w8 ⟨rfl, h⟩
  have S8 := keep_d3 SG h
  clear SG h c0_0 c0_1 c0_2 c0_3 c0_4 c1_0 c1_1 c1_2 c1_3 c1_4 c2_0 c2_1 c2_2 c2_3 c2_4 l0 l1 l2 hB
  obtain ⟨c0_0, c0_1, c0_2, c0_3, c0_4, c1_0, c1_1, c1_2, c1_3, c1_4, c2_0, c2_1, c2_2, c2_3, c2_4, l0, l1, l2, hB⟩ := id S8
  have hB1 := (tail_d3 S8).alloc (hn ▸ (tail_d3 S8).size) (.cells #[.string ⟨#[]⟩, .int .u8 0, .int .i64 0, .string ⟨#[]⟩, .string ⟨#[]⟩] 40)
  go_wp2_with fail
  go_ret
  exact ⟨rfl, by rw [hn]; exact hB1⟩
set_option maxRecDepth 100000 in
set_option maxHeartbeats 16000000 in
theorem depBack_yy (w : World) (hI : DpIn w) (d : Dp) (wd : d.wf) (s : ByteArray) (hs : s.size ≤ maxLen) (la : longD d = false) (ls : s.size ≤ 1000) (hm : dmayB d = true) (x : Dp) (hp : dpOf (splitSp s.toList) = some x) : Calls Tryd.prog 8 #[d.val, .string s] w fun e w' => e = .returned (.bool true) ∧ Below w.heap.size w w' := by
  have LA := Lib.hid (fun W => long06_any d W wd)
  have AW := Lib.hid (fun W (h : Below w.heap.size w W) => awake06 W (hI.below h))
  have S0 := new_d1 d w
  dsimp only at S0
  have SA := Lib.hid (fun W (h : Below w.heap.size w W) => dshow_any d W wd (hI.below h))
  have WA := Lib.hid (fun W (h : Below w.heap.size w W) => dwords_any d W wd (hI.below h))
  have MA := Lib.hid (fun W (h : Below w.heap.size w W) => dmay_any d W wd (hI.below h))
  have PX := Lib.hid (fun W (h : Below w.heap.size w W) => dparse_any s W (by omega) (hI.below h))
  have ls2 : (s.size : Int) ≤ 1000 := by omega
  rw [la] at LA
  rw [hm] at MA
  rw [hp] at PX
  unfold WordsPost at WA
  rw [showDV_yes hm] at SA
  rw [(wordsL_yes hm).1, (wordsL_yes hm).2] at WA
  have hln := dpText_len hm
  have hPT := dp_back hm
  have PT := Lib.hid (fun W (h : Below w.heap.size w W) => dparse_any (bs (dpText d)) W (by rw [bs_size]; omega) (hI.below h))
  rw [bs_toList, hPT, ofV_some] at PT
  have OT := Lib.hid (fun A c W (h : Below w.heap.size w W) (hT : TR W A ((dwords d).map bs)) => dof_any A c _ W (by rw [List.length_map]; rcases dwords_len d with h | h <;> omega) (fun x hx => by
    obtain ⟨y, hy, rfl⟩ := List.mem_map.1 hx
    rw [bs_size]
    have := split_le (dpText d) y (by unfold dpText; rw [split_dwords hm]; exact hy)
    omega) hT (hI.below h))
  rw [map_bs2, dpOf_words hm, ofV_some] at OT
  generalize bs (dpText d) = T at *
  generalize (dwords d).map bs = L at *
  clear hln hPT
  have hx := dp_there hp
  have wx := dpOf_wf hp
  have SX := Lib.hid (fun W (h : Below w.heap.size w W) => dshow_any x W wx (hI.below h))
  have MX := Lib.hid (fun W (h : Below w.heap.size w W) => dmay_any x W wx (hI.below h))
  rw [showDV_yes hx.1, hx.2, bs_of] at SX
  rw [hx.1] at MX
  rw [ofV_some] at PX
  unfold Dp.val at SX MX
  clear hx wx
  clear hI wd la ls hm hp hs
  unfold Dp.val at *
  go_enter Tryd.func8, Tryd.ntmps8
  go_wp2_with fail
  go_at_call 36
  generalize (w.alloc (.cells #[.string (bs d.name), .int .u8 d.op, .int .i64 d.evr.epoch, .string (bs d.evr.ver), .string (bs d.evr.rel)] 40)) = W at *
  generalize hn : w.heap.size = n at *
  obtain ⟨c0_0, c0_1, c0_2, c0_3, c0_4, l0, hB⟩ := id S0
  refine (LA.out _).mono ?_
  rintro e1 w1 ⟨rfl, h⟩
  have S1 := keep_d1 S0 h
  clear S0 h c0_0 c0_1 c0_2 c0_3 c0_4 l0 hB
  obtain ⟨c0_0, c0_1, c0_2, c0_3, c0_4, l0, hB⟩ := id S1
  go_wp2_with fail
  go_at_call 30
  refine (AW.out _ hB).mono ?_
  rintro e2 w2 ⟨rfl, h⟩
  have S2 := keep_d1 S1 h
  clear c0_0 c0_1 c0_2 c0_3 c0_4 l0 hB
  clear S1 h
  obtain ⟨c0_0, c0_1, c0_2, c0_3, c0_4, l0, hB⟩ := id S2
  go_wp2_with fail
  go_at_call 41
  refine (SA.out _ hB).mono ?_
  rintro e3 w3 ⟨rfl, h⟩
  have S3 := keep_d1 S2 h
  clear c0_0 c0_1 c0_2 c0_3 c0_4 l0 hB
  clear S2 h
  obtain ⟨c0_0, c0_1, c0_2, c0_3, c0_4, l0, hB⟩ := id S3
  go_wp2_with fail
  go_at_call 42
  refine (WA.out _ hB).mono ?_
  rintro e4 w4 ⟨Aa, ca, rfl, Ta, _, h⟩
  have S4 := keep_d1 S3 h
  clear S3 h c0_0 c0_1 c0_2 c0_3 c0_4 l0 hB
  obtain ⟨c0_0, c0_1, c0_2, c0_3, c0_4, l0, hB⟩ := id S4
  clear SA WA LA
  go_wp2_with fail
  go_at_call 40
  refine (MA.out _ hB).mono ?_
  rintro e5 w5 ⟨rfl, h⟩
  have S5 := keep_d1 S4 h
  have Ta := Ta.calls h
  clear S4 h MA c0_0 c0_1 c0_2 c0_3 c0_4 l0 hB
  obtain ⟨c0_0, c0_1, c0_2, c0_3, c0_4, l0, hB⟩ := id S5
  go_wp2_with fail
  go_at_call 31
  refine (PT.out _ hB).mono ?_
  rintro e6 w6 ⟨rfl, h⟩
  have S6 := keep_d1 S5 h
  have Ta := Ta.calls h
  clear S5 h PT c0_0 c0_1 c0_2 c0_3 c0_4 l0 hB
  obtain ⟨c0_0, c0_1, c0_2, c0_3, c0_4, l0, hB⟩ := id S6
  have Ta := Ta.calls ((Below.refl w6.heap.size w6).alloc (Nat.le_refl _) (.cells #[.string (bs d.name), .int .u8 d.op, .int .i64 d.evr.epoch, .string (bs d.evr.ver), .string (bs d.evr.rel)] 40))
  have SG := grow_d2 ((bs d.name)) (d.op) (d.evr.epoch) ((bs d.evr.ver)) ((bs d.evr.rel)) S6
  dsimp only at SG
  go_wp2_with fail
  go_at_call 33
  generalize hV : w6.alloc (.cells #[.string (bs d.name), .int .u8 d.op, .int .i64 d.evr.epoch, .string (bs d.evr.ver), .string (bs d.evr.rel)] 40) = Vm at *
  generalize w6.heap.size = m at *
  clear S6 hV c0_0 c0_1 c0_2 c0_3 c0_4 l0 hB
  obtain ⟨c0_0, c0_1, c0_2, c0_3, c0_4, c1_0, c1_1, c1_2, c1_3, c1_4, l0, l1, hB⟩ := id SG
  refine (OT.out _ _ _ hB Ta).mono ?_
  rintro e7 w7 ⟨rfl, h⟩
  have S7 := keep_d2 SG h
  clear SG h c0_0 c0_1 c0_2 c0_3 c0_4 c1_0 c1_1 c1_2 c1_3 c1_4 l0 l1 hB
  obtain ⟨c0_0, c0_1, c0_2, c0_3, c0_4, c1_0, c1_1, c1_2, c1_3, c1_4, l0, l1, hB⟩ := id S7
  clear OT Ta
  have SG := grow_d3 ((bs d.name)) (d.op) (d.evr.epoch) ((bs d.evr.ver)) ((bs d.evr.rel)) S7
  dsimp only at SG
  go_wp2_with fail
  go_at_call 31
  generalize hV : w7.alloc (.cells #[.string (bs d.name), .int .u8 d.op, .int .i64 d.evr.epoch, .string (bs d.evr.ver), .string (bs d.evr.rel)] 40) = Vq at *
  generalize w7.heap.size = q at *
  clear S7 hV c0_0 c0_1 c0_2 c0_3 c0_4 c1_0 c1_1 c1_2 c1_3 c1_4 l0 l1 hB
  obtain ⟨c0_0, c0_1, c0_2, c0_3, c0_4, c1_0, c1_1, c1_2, c1_3, c1_4, c2_0, c2_1, c2_2, c2_3, c2_4, l0, l1, l2, hB⟩ := id SG
  refine (PX.out _ hB).mono ?_
  rintro e8 w8 ⟨rfl, h⟩
  have S8 := keep_d3 SG h
  clear SG h c0_0 c0_1 c0_2 c0_3 c0_4 c1_0 c1_1 c1_2 c1_3 c1_4 c2_0 c2_1 c2_2 c2_3 c2_4 l0 l1 l2 hB
  obtain ⟨c0_0, c0_1, c0_2, c0_3, c0_4, c1_0, c1_1, c1_2, c1_3, c1_4, c2_0, c2_1, c2_2, c2_3, c2_4, l0, l1, l2, hB⟩ := id S8
  have HB := Lib.hid (tail_d3 S8)
  have hs3 : w8.heap.size + 1 = (w8.alloc (.cells #[.string (bs x.name), .int .u8 x.op, .int .i64 x.evr.epoch, .string (bs x.evr.ver), .string (bs x.evr.rel)] 40)).heap.size := by simp
  have hB1 := (tail_d3 S8).alloc (hn ▸ (tail_d3 S8).size) (.cells #[.string (bs x.name), .int .u8 x.op, .int .i64 x.evr.epoch, .string (bs x.evr.ver), .string (bs x.evr.rel)] 40)
  have cx := x_box w8 x
  go_wp2_with fail
  go_at_call 41
  generalize hV : w8.alloc (.cells #[.string (bs x.name), .int .u8 x.op, .int .i64 x.evr.epoch, .string (bs x.evr.ver), .string (bs x.evr.rel)] 40) = V at *
  generalize w8.heap.size = t at *
  clear hV S8 hs3 c0_0 c0_1 c0_2 c0_3 c0_4 c1_0 c1_1 c1_2 c1_3 c1_4 c2_0 c2_1 c2_2 c2_3 c2_4 l0 l1 l2 hB
  refine (SX.out _ hB1).mono ?_
  rintro e20 w20 ⟨rfl, h⟩
  have cx2 := x_keep cx h
  have hB2 := hB1.trans (h.mono (hn ▸ hB1.size))
  clear cx h hB1 SX
  obtain ⟨x0, x1, x2, x3, x4, xl⟩ := cx2
  go_wp2_with fail
  go_at_call 40
  refine (MX.out _ hB2).mono ?_
  rintro e21 w21 ⟨rfl, h⟩
  go_wp2_with fail
  go_ret
  exact ⟨rfl, by rw [hn]; exact hB2.trans (h.mono (hn ▸ hB2.size))⟩
theorem depBack_row (w : World) (hI : DpIn w) (d : Dp) (wd : d.wf) (s : ByteArray) (hs : s.size ≤ maxLen) : Calls Tryd.prog 8 #[d.val, .string s] w fun e w' => e = .returned (.bool true) ∧ Below w.heap.size w w' := by
  cases la : longD d with
  | true => exact depBack_a w hI d wd s hs la
  | false =>
    by_cases ls : s.size ≤ 1000
    · cases hm : dmayB d with
      | false =>
        cases hp : dpOf (splitSp s.toList) with
        | none => exact depBack_nn w hI d wd s hs la ls hm hp
        | some x => exact depBack_ny w hI d wd s hs la ls hm x hp
      | true =>
        cases hp : dpOf (splitSp s.toList) with
        | none => exact depBack_yn w hI d wd s hs la ls hm hp
        | some x => exact depBack_yy w hI d wd s hs la ls hm x hp
    · exact depBack_s w hI d wd s hs la (by omega)
end Go.Proofs.YtmmebheciolnoaaDoor
