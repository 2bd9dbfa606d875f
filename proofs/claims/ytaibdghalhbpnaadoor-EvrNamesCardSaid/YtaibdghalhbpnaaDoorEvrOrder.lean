/- EvrOrder, walked. -/
import Derived.Test.YtaibdghalhbpnaaDoorEvLaw
import Derived.Test.YtaibdghalhbpnaaDoorSpLaw
import Derived.Deep.RegionHeld3
import Derived.RegionTactic
import Derived.ChangeAlike
namespace Go.Proofs.YtaibdghalhbpnaaDoor
open Go.RowKit Go.Shelf

theorem ecmp_bd (a b : Evr) : -1 ≤ ecmp a b ∧ ecmp a b ≤ 1 := by rcases ecmp_three a b with h | h | h <;> omega
theorem evr_ok (a b : Evr) (ha : largeB a = false) (hb : largeB b = false) (W : World) : Calls Tryd.prog 29 #[a.val, b.val] W fun e w' => e = .returned (.int .i64 (ecmp a b)) ∧ Below W.heap.size W w' :=
  evr_any a b W (large_small ha).1 (large_small hb).1 (large_small ha).2 (large_small hb).2
theorem keep_o3 {a b c : Evr} {n : Nat} {w W W' : World} (h : W.cell? ⟨n, 0, none⟩ = some (.int .i64 a.epoch) ∧ W.cell? ⟨n, 1, none⟩ = some (.string (bs a.ver)) ∧ W.cell? ⟨n, 2, none⟩ = some (.string (bs a.rel)) ∧ W.cell? ⟨n + 1, 0, none⟩ = some (.int .i64 b.epoch) ∧ W.cell? ⟨n + 1, 1, none⟩ = some (.string (bs b.ver)) ∧ W.cell? ⟨n + 1, 2, none⟩ = some (.string (bs b.rel)) ∧ W.cell? ⟨n + 1 + 1, 0, none⟩ = some (.int .i64 c.epoch) ∧ W.cell? ⟨n + 1 + 1, 1, none⟩ = some (.string (bs c.ver)) ∧ W.cell? ⟨n + 1 + 1, 2, none⟩ = some (.string (bs c.rel)) ∧ n < W.heap.size ∧ n + 1 < W.heap.size ∧ n + 1 + 1 < W.heap.size ∧ Below n w W) (hb : Below W.heap.size W W') :
    W'.cell? ⟨n, 0, none⟩ = some (.int .i64 a.epoch) ∧ W'.cell? ⟨n, 1, none⟩ = some (.string (bs a.ver)) ∧ W'.cell? ⟨n, 2, none⟩ = some (.string (bs a.rel)) ∧ W'.cell? ⟨n + 1, 0, none⟩ = some (.int .i64 b.epoch) ∧ W'.cell? ⟨n + 1, 1, none⟩ = some (.string (bs b.ver)) ∧ W'.cell? ⟨n + 1, 2, none⟩ = some (.string (bs b.rel)) ∧ W'.cell? ⟨n + 1 + 1, 0, none⟩ = some (.int .i64 c.epoch) ∧ W'.cell? ⟨n + 1 + 1, 1, none⟩ = some (.string (bs c.ver)) ∧ W'.cell? ⟨n + 1 + 1, 2, none⟩ = some (.string (bs c.rel)) ∧ n < W'.heap.size ∧ n + 1 < W'.heap.size ∧ n + 1 + 1 < W'.heap.size ∧ Below n w W' := by
  obtain ⟨c0_0, c0_1, c0_2, c1_0, c1_1, c1_2, c2_0, c2_1, c2_2, l0, l1, l2, hB⟩ := h
  have hB_le : n ≤ W.heap.size := by omega
  exact ⟨(hb.cell (p := ⟨n, 0, none⟩) l0).trans c0_0, (hb.cell (p := ⟨n, 1, none⟩) l0).trans c0_1, (hb.cell (p := ⟨n, 2, none⟩) l0).trans c0_2, (hb.cell (p := ⟨n + 1, 0, none⟩) l1).trans c1_0, (hb.cell (p := ⟨n + 1, 1, none⟩) l1).trans c1_1, (hb.cell (p := ⟨n + 1, 2, none⟩) l1).trans c1_2, (hb.cell (p := ⟨n + 1 + 1, 0, none⟩) l2).trans c2_0, (hb.cell (p := ⟨n + 1 + 1, 1, none⟩) l2).trans c2_1, (hb.cell (p := ⟨n + 1 + 1, 2, none⟩) l2).trans c2_2, Nat.lt_of_lt_of_le l0 hb.size, Nat.lt_of_lt_of_le l1 hb.size, Nat.lt_of_lt_of_le l2 hb.size, hB.trans (hb.mono hB_le)⟩
theorem tail_o3 {a b c : Evr} {n : Nat} {w W : World} (h : W.cell? ⟨n, 0, none⟩ = some (.int .i64 a.epoch) ∧ W.cell? ⟨n, 1, none⟩ = some (.string (bs a.ver)) ∧ W.cell? ⟨n, 2, none⟩ = some (.string (bs a.rel)) ∧ W.cell? ⟨n + 1, 0, none⟩ = some (.int .i64 b.epoch) ∧ W.cell? ⟨n + 1, 1, none⟩ = some (.string (bs b.ver)) ∧ W.cell? ⟨n + 1, 2, none⟩ = some (.string (bs b.rel)) ∧ W.cell? ⟨n + 1 + 1, 0, none⟩ = some (.int .i64 c.epoch) ∧ W.cell? ⟨n + 1 + 1, 1, none⟩ = some (.string (bs c.ver)) ∧ W.cell? ⟨n + 1 + 1, 2, none⟩ = some (.string (bs c.rel)) ∧ n < W.heap.size ∧ n + 1 < W.heap.size ∧ n + 1 + 1 < W.heap.size ∧ Below n w W) : Below n w W := h.2.2.2.2.2.2.2.2.2.2.2.2
theorem new_o3 (a b c : Evr) (w : World) : let W := (((w.alloc (.cells #[.int .i64 a.epoch, .string (bs a.ver), .string (bs a.rel)] 23)).alloc (.cells #[.int .i64 b.epoch, .string (bs b.ver), .string (bs b.rel)] 23)).alloc (.cells #[.int .i64 c.epoch, .string (bs c.ver), .string (bs c.rel)] 23)); let n := w.heap.size; W.cell? ⟨n, 0, none⟩ = some (.int .i64 a.epoch) ∧ W.cell? ⟨n, 1, none⟩ = some (.string (bs a.ver)) ∧ W.cell? ⟨n, 2, none⟩ = some (.string (bs a.rel)) ∧ W.cell? ⟨n + 1, 0, none⟩ = some (.int .i64 b.epoch) ∧ W.cell? ⟨n + 1, 1, none⟩ = some (.string (bs b.ver)) ∧ W.cell? ⟨n + 1, 2, none⟩ = some (.string (bs b.rel)) ∧ W.cell? ⟨n + 1 + 1, 0, none⟩ = some (.int .i64 c.epoch) ∧ W.cell? ⟨n + 1 + 1, 1, none⟩ = some (.string (bs c.ver)) ∧ W.cell? ⟨n + 1 + 1, 2, none⟩ = some (.string (bs c.rel)) ∧ n < W.heap.size ∧ n + 1 < W.heap.size ∧ n + 1 + 1 < W.heap.size ∧ Below n w W := by
  refine ⟨?_, ?_, ?_, ?_, ?_, ?_, ?_, ?_, ?_, ?_, ?_, ?_, ?_⟩
  all_goals first | exact (World.cell?_alloc_at _ _ _ _ (by simp)).trans rfl | exact (World.cell?_alloc_past _ _ _ (by simp; try omega)).trans ((World.cell?_alloc_at _ _ _ _ (by simp)).trans rfl) | exact (World.cell?_alloc_past _ _ _ (by simp; try omega)).trans ((World.cell?_alloc_past _ _ _ (by simp; try omega)).trans ((World.cell?_alloc_at _ _ _ _ (by simp)).trans rfl)) | exact ((((Below.refl _ _).alloc (by simp; try omega) _).alloc (by simp; try omega) _).alloc (by simp; try omega) _) | (simp; try omega)
set_option maxRecDepth 100000 in
set_option maxHeartbeats 16000000 in
theorem evrOrder_row (w : World) (hI : EvIn w) (a : Evr) (wa : a.wf) (b : Evr) (wb : b.wf) (c : Evr) (wc : c.wf) : Calls Tryd.prog 21 #[a.val, b.val, c.val] w fun e w' => e = .returned (.bool true) ∧ Below w.heap.size w w' := by
  have WK := Lib.hid (fun W (h : Below w.heap.size w W) => works_any W (hI.below h))
  have LA := Lib.hid (fun W => large_any a W wa)
  have LB := Lib.hid (fun W => large_any b W wb)
  have LC := Lib.hid (fun W => large_any c W wc)
  have S0 := new_o3 a b c w
  dsimp only at S0
  have Eab := Lib.hid (fun ha hb W => evr_ok a b ha hb W)
  have Ebc := Lib.hid (fun hb hc W => evr_ok b c hb hc W)
  have Eba := Lib.hid (fun hb ha W => evr_ok b a hb ha W)
  have Eaa := Lib.hid (fun ha ha2 W => evr_ok a a ha ha2 W)
  have Eac := Lib.hid (fun ha hc W => evr_ok a c ha hc W)
  rw [ecmp_neg a b] at Eba
  rw [ecmp_self a] at Eaa
  have bx := ecmp_bd a b
  have bY := ecmp_bd b c
  have bz := ecmp_bd a c
  have LW := Lib.hid (fun ha hb hc => @ecmp_le_trans a b c ha hb hc)
  have LG := Lib.hid (fun ha hb hc => @ecmp_le_trans c b a hc hb ha)
  rw [ecmp_neg a b, ecmp_neg b c, ecmp_neg a c] at LG
  clear hI wa wb wc
  generalize largeB a = la at *
  generalize largeB b = lb at *
  generalize largeB c = lc at *
  generalize ecmp a b = x at *
  generalize ecmp b c = y at *
  generalize ecmp a c = z at *
  unfold Evr.val at *
  have nx : IntKind.i64.wrap (-x) = -x := by rw [IntWalk.i64_in _ (by omega)]
  go_enter Tryd.func21, Tryd.ntmps21
  go_wp2_with fail
  go_at_call 45
  generalize (((w.alloc (.cells #[.int .i64 a.epoch, .string (bs a.ver), .string (bs a.rel)] 23)).alloc (.cells #[.int .i64 b.epoch, .string (bs b.ver), .string (bs b.rel)] 23)).alloc (.cells #[.int .i64 c.epoch, .string (bs c.ver), .string (bs c.rel)] 23)) = W at *
  generalize hn : w.heap.size = n at *
  obtain ⟨c0_0, c0_1, c0_2, c1_0, c1_1, c1_2, c2_0, c2_1, c2_2, l0, l1, l2, hB⟩ := id S0
  go_wp2_with fail
  go_at_call 45
  refine (WK.out _ hB).mono ?_
  rintro e1 w1 ⟨rfl, h⟩
  have S1 := keep_o3 S0 h
  clear S0 h
  obtain ⟨c0_0, c0_1, c0_2, c1_0, c1_1, c1_2, c2_0, c2_1, c2_2, l0, l1, l2, hB⟩ := id S1
  go_wp2_with fail
  go_at_call 51
  refine (LA.out _).mono ?_
  rintro e2 w2 ⟨rfl, h⟩
  have S2 := keep_o3 S1 h
  clear c0_0 c0_1 c0_2 c1_0 c1_1 c1_2 c2_0 c2_1 c2_2 l0 l1 l2 hB
  clear S1 h
  obtain ⟨c0_0, c0_1, c0_2, c1_0, c1_1, c1_2, c2_0, c2_1, c2_2, l0, l1, l2, hB⟩ := id S2
  cases la with
  | true =>
    go_wp2_with fail
    go_at_call 45
    refine (WK.out _ hB).mono ?_
    rintro e9 w9 ⟨rfl, h⟩
    go_wp2
    go_ret
    exact ⟨rfl, by rw [hn]; exact hB.trans (h.mono (by omega))⟩
  | false =>
    go_wp2_with fail
    go_at_call 51
    refine (LB.out _).mono ?_
    rintro e3 w3 ⟨rfl, h⟩
    have S3 := keep_o3 S2 h
    clear c0_0 c0_1 c0_2 c1_0 c1_1 c1_2 c2_0 c2_1 c2_2 l0 l1 l2 hB
    clear S2 h
    obtain ⟨c0_0, c0_1, c0_2, c1_0, c1_1, c1_2, c2_0, c2_1, c2_2, l0, l1, l2, hB⟩ := id S3
    cases lb with
    | true =>
      go_wp2_with fail
      go_at_call 45
      refine (WK.out _ hB).mono ?_
      rintro e9 w9 ⟨rfl, h⟩
      go_wp2
      go_ret
      exact ⟨rfl, by rw [hn]; exact hB.trans (h.mono (by omega))⟩
    | false =>
      go_wp2_with fail
      go_at_call 51
      refine (LC.out _).mono ?_
      rintro e4 w4 ⟨rfl, h⟩
      have S4 := keep_o3 S3 h
      clear c0_0 c0_1 c0_2 c1_0 c1_1 c1_2 c2_0 c2_1 c2_2 l0 l1 l2 hB
      clear S3 h
      obtain ⟨c0_0, c0_1, c0_2, c1_0, c1_1, c1_2, c2_0, c2_1, c2_2, l0, l1, l2, hB⟩ := id S4
      cases lc with
      | true =>
        go_wp2_with fail
        go_at_call 45
        refine (WK.out _ hB).mono ?_
        rintro e9 w9 ⟨rfl, h⟩
        go_wp2
        go_ret
        exact ⟨rfl, by rw [hn]; exact hB.trans (h.mono (by omega))⟩
      | false =>
        go_wp2_with fail
        go_region_held3 (fun W => W.cell? ⟨n, 0, none⟩ = some (.int .i64 a.epoch) ∧ W.cell? ⟨n, 1, none⟩ = some (.string (bs a.ver)) ∧ W.cell? ⟨n, 2, none⟩ = some (.string (bs a.rel)) ∧ W.cell? ⟨n + 1, 0, none⟩ = some (.int .i64 b.epoch) ∧ W.cell? ⟨n + 1, 1, none⟩ = some (.string (bs b.ver)) ∧ W.cell? ⟨n + 1, 2, none⟩ = some (.string (bs b.rel)) ∧ W.cell? ⟨n + 1 + 1, 0, none⟩ = some (.int .i64 c.epoch) ∧ W.cell? ⟨n + 1 + 1, 1, none⟩ = some (.string (bs c.ver)) ∧ W.cell? ⟨n + 1 + 1, 2, none⟩ = some (.string (bs c.rel)) ∧ n < W.heap.size ∧ n + 1 < W.heap.size ∧ n + 1 + 1 < W.heap.size ∧ Below n w W) (first | exact keep_o3 (by assumption) hbb | exact ⟨c0_0, c0_1, c0_2, c1_0, c1_1, c1_2, c2_0, c2_1, c2_2, l0, l1, l2, hB.drew⟩ | go_keep) (first | (go_at_call 29; ((with_reducible refine (Eab.out (by trivial) (by trivial) _).mono ?_); rintro e w' ⟨rfl, hbb⟩)) | (go_at_call 29; ((with_reducible refine (Ebc.out (by trivial) (by trivial) _).mono ?_); rintro e w' ⟨rfl, hbb⟩)))
        rename_i hh
        clear c0_0 c0_1 c0_2 c1_0 c1_1 c1_2 c2_0 c2_1 c2_2 l0 l1 l2 hB S4
        have S5 := hh
        clear hh
        obtain ⟨c0_0, c0_1, c0_2, c1_0, c1_1, c1_2, c2_0, c2_1, c2_2, l0, l1, l2, hB⟩ := id S5
        have b1 := bx.1
        have b2 := bx.2
        have b3 := bY.1
        have b4 := bY.2
        have b5 := bz.1
        have b6 := bz.2
        have c1 : ¬ x < -1 := by omega
        have c2 : ¬ 1 < x := by omega
        clear bx bY bz
        go_wp2_with fail
        go_at_call 29
        refine (Eba.out (by trivial) (by trivial) _).mono ?_
        rintro e6 w6 ⟨rfl, h⟩
        have S6 := keep_o3 S5 h
        clear c0_0 c0_1 c0_2 c1_0 c1_1 c1_2 c2_0 c2_1 c2_2 l0 l1 l2 hB
        clear S5 h
        obtain ⟨c0_0, c0_1, c0_2, c1_0, c1_1, c1_2, c2_0, c2_1, c2_2, l0, l1, l2, hB⟩ := id S6
        go_wp2_with fail
        go_at_call 29
        refine (Eaa.out (by trivial) (by trivial) _).mono ?_
        rintro e7 w7 ⟨rfl, h⟩
        have S7 := keep_o3 S6 h
        clear c0_0 c0_1 c0_2 c1_0 c1_1 c1_2 c2_0 c2_1 c2_2 l0 l1 l2 hB
        clear S6 h
        obtain ⟨c0_0, c0_1, c0_2, c1_0, c1_1, c1_2, c2_0, c2_1, c2_2, l0, l1, l2, hB⟩ := id S7
        by_cases g0 : a.rel = []
        · have f1 : (bs a.rel).toList = [] := by rw [bs_toList, g0]
          clear g0
          go_wp2_with fail
          go_ret
          exact ⟨rfl, by rw [hn]; exact hB⟩
        have q0 : ¬ (bs a.rel).toList = [] := by rw [bs_toList]; exact g0
        have p0 : (bs a.rel).toList.isEmpty = false := by rw [bs_toList]; simpa using g0
        by_cases g1 : b.rel = []
        · have f1 : (bs b.rel).toList = [] := by rw [bs_toList, g1]
          clear g0 g1
          go_wp2_with fail
          go_ret
          exact ⟨rfl, by rw [hn]; exact hB⟩
        have q1 : ¬ (bs b.rel).toList = [] := by rw [bs_toList]; exact g1
        have p1 : (bs b.rel).toList.isEmpty = false := by rw [bs_toList]; simpa using g1
        by_cases g2 : c.rel = []
        · have f1 : (bs c.rel).toList = [] := by rw [bs_toList, g2]
          clear g0 g1 g2
          go_wp2_with fail
          go_ret
          exact ⟨rfl, by rw [hn]; exact hB⟩
        have q2 : ¬ (bs c.rel).toList = [] := by rw [bs_toList]; exact g2
        have p2 : (bs c.rel).toList.isEmpty = false := by rw [bs_toList]; simpa using g2
        have L1 := LW.out g0 g1 g2
        have L2 := LG.out g0 g1 g2
        clear LW LG g0 g1 g2
        have HL1 := Lib.hid L1
        have HL2 := Lib.hid L2
        clear L1 L2
        go_wp2_with fail
        go_at_call 29
        refine (Eac.out (by trivial) (by trivial) _).mono ?_
        rintro e8 w8 ⟨rfl, h⟩
        have S8 := keep_o3 S7 h
        clear c0_0 c0_1 c0_2 c1_0 c1_1 c1_2 c2_0 c2_1 c2_2 l0 l1 l2 hB
        clear S7 h
        obtain ⟨c0_0, c0_1, c0_2, c1_0, c1_1, c1_2, c2_0, c2_1, c2_2, l0, l1, l2, hB⟩ := id S8
        have L1 := HL1.out
        have L2 := HL2.out
        clear HL1 HL2 c1 c2 nx Eab Ebc Eba Eaa Eac LA LB LC WK S8 c0_0 c0_1 c0_2 c1_0 c1_1 c1_2 c2_0 c2_1 c2_2 l0 l1 l2
        have ex : x = -1 ∨ x = 0 ∨ x = 1 := by omega
        have ey : y = -1 ∨ y = 0 ∨ y = 1 := by omega
        have ez : z = -1 ∨ z = 0 ∨ z = 1 := by omega
        clear b1 b2 b3 b4 b5 b6
        rcases ex with rfl | rfl | rfl <;> rcases ey with rfl | rfl | rfl <;> rcases ez with rfl | rfl | rfl <;> first | (exfalso; revert L1 L2; decide) | skip
        all_goals
          clear L1 L2
          go_wp2_with fail
          go_ret
          exact ⟨rfl, by rw [hn]; exact hB⟩
end Go.Proofs.YtaibdghalhbpnaaDoor
