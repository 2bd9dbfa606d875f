/- SpanMeets, walked. -/
import Derived.Test.YtaibdghalhbpnaaDoorSpAwake
import Derived.Test.YtaibdghalhbpnaaDoorRowLaid
namespace Go.Proofs.YtaibdghalhbpnaaDoor
open Go.RowKit Go.Shelf

theorem Evr.ok_of (e : Evr) (h : longB e = false) : e.ok := by
  unfold longB at h
  simp only [Bool.or_eq_false_iff, decide_eq_false_iff_not] at h
  unfold Evr.ok; omega
theorem keep_dde {a b : Dp} {e : Evr} {n : Nat} {w W W' : World} (h : W.cell? ⟨n, 0, none⟩ = some (.string (bs a.name)) ∧ W.cell? ⟨n, 1, none⟩ = some (.int .u8 a.op) ∧ W.cell? ⟨n, 2, none⟩ = some (.int .i64 a.evr.epoch) ∧ W.cell? ⟨n, 3, none⟩ = some (.string (bs a.evr.ver)) ∧ W.cell? ⟨n, 4, none⟩ = some (.string (bs a.evr.rel)) ∧ W.cell? ⟨n + 1, 0, none⟩ = some (.string (bs b.name)) ∧ W.cell? ⟨n + 1, 1, none⟩ = some (.int .u8 b.op) ∧ W.cell? ⟨n + 1, 2, none⟩ = some (.int .i64 b.evr.epoch) ∧ W.cell? ⟨n + 1, 3, none⟩ = some (.string (bs b.evr.ver)) ∧ W.cell? ⟨n + 1, 4, none⟩ = some (.string (bs b.evr.rel)) ∧ W.cell? ⟨n + 1 + 1, 0, none⟩ = some (.int .i64 e.epoch) ∧ W.cell? ⟨n + 1 + 1, 1, none⟩ = some (.string (bs e.ver)) ∧ W.cell? ⟨n + 1 + 1, 2, none⟩ = some (.string (bs e.rel)) ∧ n + 1 + 1 < W.heap.size ∧ Below n w W) (hb : Below W.heap.size W W') :
    W'.cell? ⟨n, 0, none⟩ = some (.string (bs a.name)) ∧ W'.cell? ⟨n, 1, none⟩ = some (.int .u8 a.op) ∧ W'.cell? ⟨n, 2, none⟩ = some (.int .i64 a.evr.epoch) ∧ W'.cell? ⟨n, 3, none⟩ = some (.string (bs a.evr.ver)) ∧ W'.cell? ⟨n, 4, none⟩ = some (.string (bs a.evr.rel)) ∧ W'.cell? ⟨n + 1, 0, none⟩ = some (.string (bs b.name)) ∧ W'.cell? ⟨n + 1, 1, none⟩ = some (.int .u8 b.op) ∧ W'.cell? ⟨n + 1, 2, none⟩ = some (.int .i64 b.evr.epoch) ∧ W'.cell? ⟨n + 1, 3, none⟩ = some (.string (bs b.evr.ver)) ∧ W'.cell? ⟨n + 1, 4, none⟩ = some (.string (bs b.evr.rel)) ∧ W'.cell? ⟨n + 1 + 1, 0, none⟩ = some (.int .i64 e.epoch) ∧ W'.cell? ⟨n + 1 + 1, 1, none⟩ = some (.string (bs e.ver)) ∧ W'.cell? ⟨n + 1 + 1, 2, none⟩ = some (.string (bs e.rel)) ∧ n + 1 + 1 < W'.heap.size ∧ Below n w W' := by
  obtain ⟨c0_0, c0_1, c0_2, c0_3, c0_4, c1_0, c1_1, c1_2, c1_3, c1_4, c2_0, c2_1, c2_2, hl, hB⟩ := h
  exact ⟨(hb.cell (p := ⟨n, 0, none⟩) (by show n < W.heap.size; omega)).trans c0_0, (hb.cell (p := ⟨n, 1, none⟩) (by show n < W.heap.size; omega)).trans c0_1, (hb.cell (p := ⟨n, 2, none⟩) (by show n < W.heap.size; omega)).trans c0_2, (hb.cell (p := ⟨n, 3, none⟩) (by show n < W.heap.size; omega)).trans c0_3, (hb.cell (p := ⟨n, 4, none⟩) (by show n < W.heap.size; omega)).trans c0_4, (hb.cell (p := ⟨n + 1, 0, none⟩) (by show n + 1 < W.heap.size; omega)).trans c1_0, (hb.cell (p := ⟨n + 1, 1, none⟩) (by show n + 1 < W.heap.size; omega)).trans c1_1, (hb.cell (p := ⟨n + 1, 2, none⟩) (by show n + 1 < W.heap.size; omega)).trans c1_2, (hb.cell (p := ⟨n + 1, 3, none⟩) (by show n + 1 < W.heap.size; omega)).trans c1_3, (hb.cell (p := ⟨n + 1, 4, none⟩) (by show n + 1 < W.heap.size; omega)).trans c1_4, (hb.cell (p := ⟨n + 1 + 1, 0, none⟩) (by show n + 1 + 1 < W.heap.size; omega)).trans c2_0, (hb.cell (p := ⟨n + 1 + 1, 1, none⟩) (by show n + 1 + 1 < W.heap.size; omega)).trans c2_1, (hb.cell (p := ⟨n + 1 + 1, 2, none⟩) (by show n + 1 + 1 < W.heap.size; omega)).trans c2_2, Nat.lt_of_lt_of_le hl hb.size, hB.trans (hb.mono (by omega))⟩
theorem tail_dde {a b : Dp} {e : Evr} {n : Nat} {w W : World} (h : W.cell? ⟨n, 0, none⟩ = some (.string (bs a.name)) ∧ W.cell? ⟨n, 1, none⟩ = some (.int .u8 a.op) ∧ W.cell? ⟨n, 2, none⟩ = some (.int .i64 a.evr.epoch) ∧ W.cell? ⟨n, 3, none⟩ = some (.string (bs a.evr.ver)) ∧ W.cell? ⟨n, 4, none⟩ = some (.string (bs a.evr.rel)) ∧ W.cell? ⟨n + 1, 0, none⟩ = some (.string (bs b.name)) ∧ W.cell? ⟨n + 1, 1, none⟩ = some (.int .u8 b.op) ∧ W.cell? ⟨n + 1, 2, none⟩ = some (.int .i64 b.evr.epoch) ∧ W.cell? ⟨n + 1, 3, none⟩ = some (.string (bs b.evr.ver)) ∧ W.cell? ⟨n + 1, 4, none⟩ = some (.string (bs b.evr.rel)) ∧ W.cell? ⟨n + 1 + 1, 0, none⟩ = some (.int .i64 e.epoch) ∧ W.cell? ⟨n + 1 + 1, 1, none⟩ = some (.string (bs e.ver)) ∧ W.cell? ⟨n + 1 + 1, 2, none⟩ = some (.string (bs e.rel)) ∧ n + 1 + 1 < W.heap.size ∧ Below n w W) : Below n w W := h.2.2.2.2.2.2.2.2.2.2.2.2.2.2
theorem new_dde (a b : Dp) (e : Evr) (w : World) : let W := (((w.alloc (.cells #[.string (bs a.name), .int .u8 a.op, .int .i64 a.evr.epoch, .string (bs a.evr.ver), .string (bs a.evr.rel)] 25)).alloc (.cells #[.string (bs b.name), .int .u8 b.op, .int .i64 b.evr.epoch, .string (bs b.evr.ver), .string (bs b.evr.rel)] 25)).alloc (.cells #[.int .i64 e.epoch, .string (bs e.ver), .string (bs e.rel)] 23)); let n := w.heap.size; W.cell? ⟨n, 0, none⟩ = some (.string (bs a.name)) ∧ W.cell? ⟨n, 1, none⟩ = some (.int .u8 a.op) ∧ W.cell? ⟨n, 2, none⟩ = some (.int .i64 a.evr.epoch) ∧ W.cell? ⟨n, 3, none⟩ = some (.string (bs a.evr.ver)) ∧ W.cell? ⟨n, 4, none⟩ = some (.string (bs a.evr.rel)) ∧ W.cell? ⟨n + 1, 0, none⟩ = some (.string (bs b.name)) ∧ W.cell? ⟨n + 1, 1, none⟩ = some (.int .u8 b.op) ∧ W.cell? ⟨n + 1, 2, none⟩ = some (.int .i64 b.evr.epoch) ∧ W.cell? ⟨n + 1, 3, none⟩ = some (.string (bs b.evr.ver)) ∧ W.cell? ⟨n + 1, 4, none⟩ = some (.string (bs b.evr.rel)) ∧ W.cell? ⟨n + 1 + 1, 0, none⟩ = some (.int .i64 e.epoch) ∧ W.cell? ⟨n + 1 + 1, 1, none⟩ = some (.string (bs e.ver)) ∧ W.cell? ⟨n + 1 + 1, 2, none⟩ = some (.string (bs e.rel)) ∧ n + 1 + 1 < W.heap.size ∧ Below n w W := by
  refine ⟨?_, ?_, ?_, ?_, ?_, ?_, ?_, ?_, ?_, ?_, ?_, ?_, ?_, ?_, ?_⟩
  all_goals first | exact (World.cell?_alloc_at _ _ _ _ (by simp)).trans rfl | exact (World.cell?_alloc_past _ _ _ (by simp; try omega)).trans ((World.cell?_alloc_at _ _ _ _ (by simp)).trans rfl) | exact (World.cell?_alloc_past _ _ _ (by simp; try omega)).trans ((World.cell?_alloc_past _ _ _ (by simp; try omega)).trans ((World.cell?_alloc_at _ _ _ _ (by simp)).trans rfl)) | exact ((((Below.refl _ _).alloc (by simp; try omega) _).alloc (by simp; try omega) _).alloc (by simp; try omega) _) | (simp; try omega)

set_option maxRecDepth 100000 in
set_option maxHeartbeats 8000000 in
theorem spanMeets_row (w : World) (hO : OpsIn w) (a : Dp) (wa : a.wf) (b : Dp) (wb : b.wf) (e : Evr) (we : e.wf) : Calls Tryd.prog 3 #[a.val, b.val, e.val] w fun e w' => e = .returned (.bool true) ∧ Below w.heap.size w w' := by
  have LA := Lib.hid (fun W => long04 a.evr W ⟨wa.2.2.2.1, wa.2.2.2.2⟩)
  have LB := Lib.hid (fun W => long04 b.evr W ⟨wb.2.2.2.1, wb.2.2.2.2⟩)
  have LE := Lib.hid (fun W => long04 e W ⟨we.2.1, we.2.2⟩)
  have AW := Lib.hid (fun W (h : Below w.heap.size w W) => awake04 W (hO.below h))
  have S0 := new_dde a b e w
  dsimp only at S0
  have oa := Evr.ok_of a.evr
  have ob := Evr.ok_of b.evr
  have oe := Evr.ok_of e
  have ua := u8_wf wa.2.1
  have ub := u8_wf wb.2.1
  have M1 := Lib.hid (fun ha hb W => meet_any a b W (oa ha) (ob hb) ua.1 ua.2 ub.1 ub.2)
  have M2 := Lib.hid (fun ha hb W => rmeet_any a b W (oa ha) (ob hb))
  have H1 := Lib.hid (fun ha he W => has_any a e W (oa ha) (oe he) ua.1 ua.2)
  have H2 := Lib.hid (fun ha he W => rhas_any a e W (oa ha) (oe he))
  clear oa ob oe ua ub wa wb we hO
  generalize longB a.evr = la at *
  generalize longB b.evr = lb at *
  generalize longB e = le at *
  generalize meetP a b = r1 at *
  generalize hasP a e = r2 at *
  unfold Evr.val at LA LB LE H1 H2
  unfold Dp.val at M1 M2 H1 H2
  unfold Dp.val Evr.val
  go_enter Tryd.func3, Tryd.ntmps3
  go_wp2_with fail
  go_at_call 23
  generalize (((w.alloc (.cells #[.string (bs a.name), .int .u8 a.op, .int .i64 a.evr.epoch, .string (bs a.evr.ver), .string (bs a.evr.rel)] 25)).alloc (.cells #[.string (bs b.name), .int .u8 b.op, .int .i64 b.evr.epoch, .string (bs b.evr.ver), .string (bs b.evr.rel)] 25)).alloc (.cells #[.int .i64 e.epoch, .string (bs e.ver), .string (bs e.rel)] 23)) = W at *
  generalize hn : w.heap.size = n at *
  refine (LA.out W).mono ?_
  rintro e1 w1 ⟨rfl, h⟩
  have S1 := keep_dde S0 h
  clear S0 h
  obtain ⟨c0_0, c0_1, c0_2, c0_3, c0_4, c1_0, c1_1, c1_2, c1_3, c1_4, c2_0, c2_1, c2_2, hl, hB⟩ := id S1
  cases la with
  | true =>
    go_wp2_with fail
    go_at_call 24
    refine (AW.out _ hB).mono ?_
    rintro e2 w2 ⟨rfl, h⟩
    go_wp2
    go_ret
    exact ⟨rfl, by rw [hn]; exact hB.trans (h.mono (by omega))⟩
  | false =>
    go_wp2_with fail
    go_at_call 23
    refine (LB.out _).mono ?_
    rintro e2 w2 ⟨rfl, h⟩
    have S2 := keep_dde S1 h
    clear c0_0 c0_1 c0_2 c0_3 c0_4 c1_0 c1_1 c1_2 c1_3 c1_4 c2_0 c2_1 c2_2 hl hB S1 h
    obtain ⟨c0_0, c0_1, c0_2, c0_3, c0_4, c1_0, c1_1, c1_2, c1_3, c1_4, c2_0, c2_1, c2_2, hl, hB⟩ := id S2
    cases lb with
    | true =>
      go_wp2_with fail
      go_at_call 24
      refine (AW.out _ hB).mono ?_
      rintro e2 w2 ⟨rfl, h⟩
      go_wp2
      go_ret
      exact ⟨rfl, by rw [hn]; exact hB.trans (h.mono (by omega))⟩
    | false =>
      go_wp2_with fail
      go_at_call 23
      refine (LE.out _).mono ?_
      rintro e2 w3 ⟨rfl, h⟩
      have S3 := keep_dde S2 h
      clear c0_0 c0_1 c0_2 c0_3 c0_4 c1_0 c1_1 c1_2 c1_3 c1_4 c2_0 c2_1 c2_2 hl hB S2 h
      obtain ⟨c0_0, c0_1, c0_2, c0_3, c0_4, c1_0, c1_1, c1_2, c1_3, c1_4, c2_0, c2_1, c2_2, hl, hB⟩ := id S3
      cases le with
      | true =>
        go_wp2_with fail
        go_at_call 24
        refine (AW.out _ hB).mono ?_
        rintro e2 w2 ⟨rfl, h⟩
        go_wp2
        go_ret
        exact ⟨rfl, by rw [hn]; exact hB.trans (h.mono (by omega))⟩
      | false =>
        go_wp2_with fail
        go_region_held3 (fun W => W.cell? ⟨n, 0, none⟩ = some (.string (bs a.name)) ∧ W.cell? ⟨n, 1, none⟩ = some (.int .u8 a.op) ∧ W.cell? ⟨n, 2, none⟩ = some (.int .i64 a.evr.epoch) ∧ W.cell? ⟨n, 3, none⟩ = some (.string (bs a.evr.ver)) ∧ W.cell? ⟨n, 4, none⟩ = some (.string (bs a.evr.rel)) ∧ W.cell? ⟨n + 1, 0, none⟩ = some (.string (bs b.name)) ∧ W.cell? ⟨n + 1, 1, none⟩ = some (.int .u8 b.op) ∧ W.cell? ⟨n + 1, 2, none⟩ = some (.int .i64 b.evr.epoch) ∧ W.cell? ⟨n + 1, 3, none⟩ = some (.string (bs b.evr.ver)) ∧ W.cell? ⟨n + 1, 4, none⟩ = some (.string (bs b.evr.rel)) ∧ W.cell? ⟨n + 1 + 1, 0, none⟩ = some (.int .i64 e.epoch) ∧ W.cell? ⟨n + 1 + 1, 1, none⟩ = some (.string (bs e.ver)) ∧ W.cell? ⟨n + 1 + 1, 2, none⟩ = some (.string (bs e.rel)) ∧ n + 1 + 1 < W.heap.size ∧ Below n w W) (first | exact keep_dde (by assumption) hbb | exact ⟨c0_0, c0_1, c0_2, c0_3, c0_4, c1_0, c1_1, c1_2, c1_3, c1_4, c2_0, c2_1, c2_2, hl, hB.drew⟩ | go_keep) (first | (go_at_call 25; refine (M1.out (by trivial) (by trivial) _).mono ?_; rintro e w' ⟨rfl, hbb⟩) | (go_at_call 26; refine (M2.out (by trivial) (by trivial) _).mono ?_; rintro e w' ⟨rfl, hbb⟩) | (go_at_call 27; refine (H1.out (by trivial) (by trivial) _).mono ?_; rintro e w' ⟨rfl, hbb⟩) | (go_at_call 28; refine (H2.out (by trivial) (by trivial) _).mono ?_; rintro e w' ⟨rfl, hbb⟩) | (go_at_call 24; refine (AW.out _ (tail_dde (by assumption))).mono ?_; rintro e w' ⟨rfl, hbb⟩))
        rename_i hh
        go_wp2
        go_ret
        exact ⟨rfl, by rw [hn]; exact hh.2.2.2.2.2.2.2.2.2.2.2.2.2.2⟩
end Go.Proofs.YtaibdghalhbpnaaDoor
