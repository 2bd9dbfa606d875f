/- DepOf -/
import Derived.Test.YtnfagaccbkeikaaGreatDoorRichReadsRowG24
import Derived.RegionTactic
import Derived.ChangeAlike
/- Walks: the dependency of words. -/



namespace Go.Proofs.YtnfagaccbkeikaaGreatDoor
open Go.RowKit Go.Shelf
set_option linter.unusedVariables false

set_option maxRecDepth 100000 in
set_option maxHeartbeats 16000000 in
theorem dof_one (A : Option Addr) (c : Nat) (x : ByteArray) (w : World) (hx : x.size ≤ 4000000000) (hT : TR w A [x]) (hI : DpIn w) : Calls Tryz.prog 133 #[.slice A 1 c] w fun e w' => e = .returned (ofV (dpOf [x.toList])) ∧ Below w.heap.size w w' := by
  have MA := Lib.hid (fun W (h : Below w.heap.size w W) => dmay_any ⟨x.toList, 0, zeroE⟩ W (word_wf x hx) (hI.below h))
  clear hI
  unfold Dp.val zeroE at MA
  dsimp only at MA
  rw [bs_of, show bs [] = (⟨#[]⟩ : ByteArray) from rfl] at MA
  have S0 := new_of x w
  dsimp only at S0
  obtain ⟨r, hr⟩ : ∃ r, r = dpOf [x.toList] := ⟨_, rfl⟩
  rw [← hr]
  unfold dpOf zeroE at hr
  dsimp only at hr
  obtain ⟨b, o, rfl, hb, hc⟩ := hT.one
  clear hT
  cases hm : dmayB ⟨x.toList, 0, ⟨0, [], []⟩⟩ with
  | false =>
    rw [hm] at MA hr
    rw [if_neg (by decide)] at hr
    have HR := Lib.hid hr
    clear hr hm
    go_enter Tryz.func133, Tryz.ntmps133
    go_wp2_with fail
    go_at_call 99
    generalize ((w.alloc (.cells #[.string ⟨#[]⟩, .int .u8 0, .int .i64 0, .string ⟨#[]⟩, .string ⟨#[]⟩] 26)).alloc (.cells #[.string x, .int .u8 0, .int .i64 0, .string ⟨#[]⟩, .string ⟨#[]⟩] 26)) = W at *
    generalize hn : w.heap.size = n at *
    obtain ⟨c0_0, c0_1, c0_2, c0_3, c0_4, c1_0, c1_1, c1_2, c1_3, c1_4, l0, l1, f0_0, f0_1, f0_2, f0_3, f0_4, f1_0, f1_1, f1_2, f1_3, f1_4, hB⟩ := id S0
    refine (MA.out _ hB).mono ?_
    rintro e1 w1 ⟨rfl, h⟩
    have S1 := keep_of S0 h
    clear S0 h c0_0 c0_1 c0_2 c0_3 c0_4 c1_0 c1_1 c1_2 c1_3 c1_4 l0 l1 f0_0 f0_1 f0_2 f0_3 f0_4 f1_0 f1_1 f1_2 f1_3 f1_4 hB
    obtain ⟨c0_0, c0_1, c0_2, c0_3, c0_4, c1_0, c1_1, c1_2, c1_3, c1_4, l0, l1, f0_0, f0_1, f0_2, f0_3, f0_4, f1_0, f1_1, f1_2, f1_3, f1_4, hB⟩ := id S1
    go_wp2_with fail
    have SF := (set_of04 (set_of03 (set_of02 (set_of01 (set_of00 S1 (.string ⟨#[]⟩)) (.int .u8 0)) (.int .i64 0)) (.string ⟨#[]⟩)) (.string ⟨#[]⟩))
    generalize ((((w1.setCell { block := n, off := 0 } (Value.string { data := #[] })).setCell { block := n, off := 1 } (Value.int IntKind.u8 0)).setCell { block := n, off := 2 } (Value.int IntKind.i64 0)).setCell { block := n, off := 3 } (Value.string { data := #[] })).setCell { block := n, off := 4 } (Value.string { data := #[] }) = U at *
    clear c0_0 c0_1 c0_2 c0_3 c0_4 c1_0 c1_1 c1_2 c1_3 c1_4 l0 l1 f0_0 f0_1 f0_2 f0_3 f0_4 f1_0 f1_1 f1_2 f1_3 f1_4 hB
    obtain ⟨c0_0, c0_1, c0_2, c0_3, c0_4, c1_0, c1_1, c1_2, c1_3, c1_4, l0, l1, f0_0, f0_1, f0_2, f0_3, f0_4, f1_0, f1_1, f1_2, f1_3, f1_4, hB⟩ := id SF
    exact bodyPost_ret (v := ZV) (by unfold ZV; simp [results, Tryz.results133, go_sem, c0_0, c0_1, c0_2, c0_3, c0_4]) rfl ⟨by rw [HR.out]; rfl, by rw [hn]; exact hB⟩
  | true =>
    rw [hm] at MA hr
    rw [if_pos rfl] at hr
    have HR := Lib.hid (show ofV r = .tuple #[.agg #[.string x, .int .u8 0, .int .i64 0, .string ⟨#[]⟩, .string ⟨#[]⟩], .int .i64 0] from by rw [hr]; unfold ofV Dp.val; dsimp only; rw [bs_of]; rfl)
    clear hr hm
    go_enter Tryz.func133, Tryz.ntmps133
    go_wp2_with fail
    go_at_call 99
    generalize ((w.alloc (.cells #[.string ⟨#[]⟩, .int .u8 0, .int .i64 0, .string ⟨#[]⟩, .string ⟨#[]⟩] 26)).alloc (.cells #[.string x, .int .u8 0, .int .i64 0, .string ⟨#[]⟩, .string ⟨#[]⟩] 26)) = W at *
    generalize hn : w.heap.size = n at *
    obtain ⟨c0_0, c0_1, c0_2, c0_3, c0_4, c1_0, c1_1, c1_2, c1_3, c1_4, l0, l1, f0_0, f0_1, f0_2, f0_3, f0_4, f1_0, f1_1, f1_2, f1_3, f1_4, hB⟩ := id S0
    refine (MA.out _ hB).mono ?_
    rintro e1 w1 ⟨rfl, h⟩
    have S1 := keep_of S0 h
    clear S0 h c0_0 c0_1 c0_2 c0_3 c0_4 c1_0 c1_1 c1_2 c1_3 c1_4 l0 l1 f0_0 f0_1 f0_2 f0_3 f0_4 f1_0 f1_1 f1_2 f1_3 f1_4 hB
    obtain ⟨c0_0, c0_1, c0_2, c0_3, c0_4, c1_0, c1_1, c1_2, c1_3, c1_4, l0, l1, f0_0, f0_1, f0_2, f0_3, f0_4, f1_0, f1_1, f1_2, f1_3, f1_4, hB⟩ := id S1
    go_wp2_with fail
    have SF := (set_of04 (set_of03 (set_of02 (set_of01 (set_of00 S1 (.string x)) (.int .u8 0)) (.int .i64 0)) (.string ⟨#[]⟩)) (.string ⟨#[]⟩))
    generalize ((((w1.setCell { block := n, off := 0 } (Value.string x)).setCell { block := n, off := 1 } (Value.int IntKind.u8 0)).setCell { block := n, off := 2 } (Value.int IntKind.i64 0)).setCell { block := n, off := 3 } (Value.string { data := #[] })).setCell { block := n, off := 4 } (Value.string { data := #[] }) = U at *
    clear c0_0 c0_1 c0_2 c0_3 c0_4 c1_0 c1_1 c1_2 c1_3 c1_4 l0 l1 f0_0 f0_1 f0_2 f0_3 f0_4 f1_0 f1_1 f1_2 f1_3 f1_4 hB
    obtain ⟨c0_0, c0_1, c0_2, c0_3, c0_4, c1_0, c1_1, c1_2, c1_3, c1_4, l0, l1, f0_0, f0_1, f0_2, f0_3, f0_4, f1_0, f1_1, f1_2, f1_3, f1_4, hB⟩ := id SF
    rw [HR.out]
    exact bodyPost_ret (v := .tuple #[.agg #[.string x, .int .u8 0, .int .i64 0, .string ⟨#[]⟩, .string ⟨#[]⟩], .int .i64 0]) (by simp [results, Tryz.results133, go_sem, c0_0, c0_1, c0_2, c0_3, c0_4]) rfl ⟨rfl, by rw [hn]; exact hB⟩
set_option maxRecDepth 100000 in
set_option maxHeartbeats 16000000 in
theorem dof_three_a (A : Option Addr) (c : Nat) (x y z : ByteArray) (w : World) (hx : x.size ≤ 4000000000) (hy : y.size ≤ 4000000000) (hz : z.size ≤ 4000000000) (hT : TR w A [x, y, z]) (hI : DpIn w) (h2 : (opOf y.toList).2 = false) : Calls Tryz.prog 133 #[.slice A 3 c] w fun e w' => e = .returned (ofV (dpOf [x.toList, y.toList, z.toList])) ∧ Below w.heap.size w w' := by
  have OP := Lib.hid (fun W (h : Below w.heap.size w W) => opParse_any y (by unfold maxLen; omega) W (hI.2.1.below h))
  have EP := Lib.hid (fun W (h : Below w.heap.size w W) => evParse_any z W hz (hI.1.below h))
  have MA := Lib.hid (fun W (h : Below w.heap.size w W) => fun d hd => dmay_any d W hd (hI.below h))
  clear hI
  have S0 := new_of x w
  dsimp only at S0
  obtain ⟨r, hr⟩ : ∃ r, r = dpOf [x.toList, y.toList, z.toList] := ⟨_, rfl⟩
  rw [← hr]
  unfold dpOf at hr
  dsimp only at hr
  obtain ⟨b, o, rfl, hb, hc, hc1, hc2⟩ := hT.three
  clear hT
  have hq := @opText_of y.toList
  generalize opOf y.toList = q at *
  obtain ⟨q1, q2⟩ := q
  dsimp only at *
  obtain rfl := h2
  obtain ⟨p, v, l, f, hP⟩ := parseV_any z.toList
  rw [hP] at EP
  have HR := Lib.hid (show r = none from by rw [hr]; split <;> first | rfl | (rw [if_neg (by simp)]))
  clear hr hP MA hq
  go_enter Tryz.func133, Tryz.ntmps133
  go_wp2_with fail
  go_at_call 132
  generalize ((w.alloc (.cells #[.string ⟨#[]⟩, .int .u8 0, .int .i64 0, .string ⟨#[]⟩, .string ⟨#[]⟩] 26)).alloc (.cells #[.string x, .int .u8 0, .int .i64 0, .string ⟨#[]⟩, .string ⟨#[]⟩] 26)) = W at *
  generalize hn : w.heap.size = n at *
  obtain ⟨c0_0, c0_1, c0_2, c0_3, c0_4, c1_0, c1_1, c1_2, c1_3, c1_4, l0, l1, f0_0, f0_1, f0_2, f0_3, f0_4, f1_0, f1_1, f1_2, f1_3, f1_4, hB⟩ := id S0
  have c9 : W.cell? ⟨b, o + 2, none⟩ = some (.string z) := (hB.cell (p := ⟨b, o + 2, none⟩) (by omega)).trans hc2
  refine (OP.out _ hB).mono ?_
  rintro e1 w1 ⟨rfl, rfl⟩
  go_wp2_with fail
  go_at_call 172
  refine (EP.out _ hB).mono ?_
  rintro e2 w2 ⟨rfl, h⟩
  have S2 := keep_of S0 h
  clear S0 h c9 hc hc1 hc2 OP EP c0_0 c0_1 c0_2 c0_3 c0_4 c1_0 c1_1 c1_2 c1_3 c1_4 l0 l1 f0_0 f0_1 f0_2 f0_3 f0_4 f1_0 f1_1 f1_2 f1_3 f1_4 hB
  obtain ⟨c0_0, c0_1, c0_2, c0_3, c0_4, c1_0, c1_1, c1_2, c1_3, c1_4, l0, l1, f0_0, f0_1, f0_2, f0_3, f0_4, f1_0, f1_1, f1_2, f1_3, f1_4, hB⟩ := id S2
  go_wp2_with fail
  have SF := (set_of04 (set_of03 (set_of02 (set_of01 (set_of00 S2 (.string ⟨#[]⟩)) (.int .u8 0)) (.int .i64 0)) (.string ⟨#[]⟩)) (.string ⟨#[]⟩))
  generalize (((((w2).setCell ⟨n, 0, none⟩ (.string ⟨#[]⟩)).setCell ⟨n, 1, none⟩ (.int .u8 0)).setCell ⟨n, 2, none⟩ (.int .i64 0)).setCell ⟨n, 3, none⟩ (.string ⟨#[]⟩)).setCell ⟨n, 4, none⟩ (.string ⟨#[]⟩) = U at *
  clear S2 c0_0 c0_1 c0_2 c0_3 c0_4 c1_0 c1_1 c1_2 c1_3 c1_4 l0 l1 f0_0 f0_1 f0_2 f0_3 f0_4 f1_0 f1_1 f1_2 f1_3 f1_4 hB
  obtain ⟨c0_0, c0_1, c0_2, c0_3, c0_4, c1_0, c1_1, c1_2, c1_3, c1_4, l0, l1, f0_0, f0_1, f0_2, f0_3, f0_4, f1_0, f1_1, f1_2, f1_3, f1_4, hB⟩ := id SF
  exact bodyPost_ret (v := ZV) (by unfold ZV; simp [results, Tryz.results133, go_sem, c0_0, c0_1, c0_2, c0_3, c0_4, l0]) rfl ⟨by rw [HR.out]; rfl, by rw [hn]; exact hB.alloc (by omega) _⟩
set_option maxRecDepth 100000 in
set_option maxHeartbeats 16000000 in
theorem dof_three_b (A : Option Addr) (c : Nat) (x y z : ByteArray) (w : World) (hx : x.size ≤ 4000000000) (hy : y.size ≤ 4000000000) (hz : z.size ≤ 4000000000) (hT : TR w A [x, y, z]) (hI : DpIn w) (h2 : (opOf y.toList).2 = true) (h0 : (opOf y.toList).1 = 0) : Calls Tryz.prog 133 #[.slice A 3 c] w fun e w' => e = .returned (ofV (dpOf [x.toList, y.toList, z.toList])) ∧ Below w.heap.size w w' := by
  have OP := Lib.hid (fun W (h : Below w.heap.size w W) => opParse_any y (by unfold maxLen; omega) W (hI.2.1.below h))
  have EP := Lib.hid (fun W (h : Below w.heap.size w W) => evParse_any z W hz (hI.1.below h))
  have MA := Lib.hid (fun W (h : Below w.heap.size w W) => fun d hd => dmay_any d W hd (hI.below h))
  clear hI
  have S0 := new_of x w
  dsimp only at S0
  obtain ⟨r, hr⟩ : ∃ r, r = dpOf [x.toList, y.toList, z.toList] := ⟨_, rfl⟩
  rw [← hr]
  unfold dpOf at hr
  dsimp only at hr
  obtain ⟨b, o, rfl, hb, hc, hc1, hc2⟩ := hT.three
  clear hT
  have hq := @opText_of y.toList
  generalize opOf y.toList = q at *
  obtain ⟨q1, q2⟩ := q
  dsimp only at *
  obtain rfl := h2
  obtain ⟨p, v, l, f, hP⟩ := parseV_any z.toList
  rw [hP] at EP
  have HR := Lib.hid (show r = none from by rw [hr]; split <;> first | rfl | (rw [if_neg (by simp [h0])]))
  have h1 : (q1 == 0) = true := by simpa using h0
  clear hr hP MA hq h0
  go_enter Tryz.func133, Tryz.ntmps133
  go_wp2_with fail
  go_at_call 132
  generalize ((w.alloc (.cells #[.string ⟨#[]⟩, .int .u8 0, .int .i64 0, .string ⟨#[]⟩, .string ⟨#[]⟩] 26)).alloc (.cells #[.string x, .int .u8 0, .int .i64 0, .string ⟨#[]⟩, .string ⟨#[]⟩] 26)) = W at *
  generalize hn : w.heap.size = n at *
  obtain ⟨c0_0, c0_1, c0_2, c0_3, c0_4, c1_0, c1_1, c1_2, c1_3, c1_4, l0, l1, f0_0, f0_1, f0_2, f0_3, f0_4, f1_0, f1_1, f1_2, f1_3, f1_4, hB⟩ := id S0
  have c9 : W.cell? ⟨b, o + 2, none⟩ = some (.string z) := (hB.cell (p := ⟨b, o + 2, none⟩) (by omega)).trans hc2
  refine (OP.out _ hB).mono ?_
  rintro e1 w1 ⟨rfl, rfl⟩
  go_wp2_with fail
  go_at_call 172
  refine (EP.out _ hB).mono ?_
  rintro e2 w2 ⟨rfl, h⟩
  have S2 := keep_of S0 h
  clear S0 h c9 hc hc1 hc2 OP EP c0_0 c0_1 c0_2 c0_3 c0_4 c1_0 c1_1 c1_2 c1_3 c1_4 l0 l1 f0_0 f0_1 f0_2 f0_3 f0_4 f1_0 f1_1 f1_2 f1_3 f1_4 hB
  obtain ⟨c0_0, c0_1, c0_2, c0_3, c0_4, c1_0, c1_1, c1_2, c1_3, c1_4, l0, l1, f0_0, f0_1, f0_2, f0_3, f0_4, f1_0, f1_1, f1_2, f1_3, f1_4, hB⟩ := id S2
  go_wp2_with fail
  have SF := (set_of04 (set_of03 (set_of02 (set_of01 (set_of00 S2 (.string ⟨#[]⟩)) (.int .u8 0)) (.int .i64 0)) (.string ⟨#[]⟩)) (.string ⟨#[]⟩))
  generalize (((((w2).setCell ⟨n, 0, none⟩ (.string ⟨#[]⟩)).setCell ⟨n, 1, none⟩ (.int .u8 0)).setCell ⟨n, 2, none⟩ (.int .i64 0)).setCell ⟨n, 3, none⟩ (.string ⟨#[]⟩)).setCell ⟨n, 4, none⟩ (.string ⟨#[]⟩) = U at *
  clear S2 c0_0 c0_1 c0_2 c0_3 c0_4 c1_0 c1_1 c1_2 c1_3 c1_4 l0 l1 f0_0 f0_1 f0_2 f0_3 f0_4 f1_0 f1_1 f1_2 f1_3 f1_4 hB
  obtain ⟨c0_0, c0_1, c0_2, c0_3, c0_4, c1_0, c1_1, c1_2, c1_3, c1_4, l0, l1, f0_0, f0_1, f0_2, f0_3, f0_4, f1_0, f1_1, f1_2, f1_3, f1_4, hB⟩ := id SF
  exact bodyPost_ret (v := ZV) (by unfold ZV; simp [results, Tryz.results133, go_sem, c0_0, c0_1, c0_2, c0_3, c0_4, l0]) rfl ⟨by rw [HR.out]; rfl, by rw [hn]; exact hB.alloc (by omega) _⟩
set_option maxRecDepth 100000 in
set_option maxHeartbeats 16000000 in
theorem dof_three_c (A : Option Addr) (c : Nat) (x y z : ByteArray) (w : World) (hx : x.size ≤ 4000000000) (hy : y.size ≤ 4000000000) (hz : z.size ≤ 4000000000) (hT : TR w A [x, y, z]) (hI : DpIn w) (h2 : (opOf y.toList).2 = true) (h0 : (opOf y.toList).1 ≠ 0) (he : evOf z.toList = none) : Calls Tryz.prog 133 #[.slice A 3 c] w fun e w' => e = .returned (ofV (dpOf [x.toList, y.toList, z.toList])) ∧ Below w.heap.size w w' := by
  have OP := Lib.hid (fun W (h : Below w.heap.size w W) => opParse_any y (by unfold maxLen; omega) W (hI.2.1.below h))
  have EP := Lib.hid (fun W (h : Below w.heap.size w W) => evParse_any z W hz (hI.1.below h))
  have MA := Lib.hid (fun W (h : Below w.heap.size w W) => fun d hd => dmay_any d W hd (hI.below h))
  clear hI
  have S0 := new_of x w
  dsimp only at S0
  obtain ⟨r, hr⟩ : ∃ r, r = dpOf [x.toList, y.toList, z.toList] := ⟨_, rfl⟩
  rw [← hr]
  unfold dpOf at hr
  dsimp only at hr
  obtain ⟨b, o, rfl, hb, hc, hc1, hc2⟩ := hT.three
  clear hT
  have hq := @opText_of y.toList
  generalize opOf y.toList = q at *
  obtain ⟨q1, q2⟩ := q
  dsimp only at *
  obtain rfl := h2
  have h1 : (q1 == 0) = false := by simpa using h0
  rw [parseV_none he] at EP
  rw [he] at hr
  have HR := Lib.hid (show r = none from hr)
  clear hr he MA h0 hq
  go_enter Tryz.func133, Tryz.ntmps133
  go_wp2_with fail
  go_at_call 132
  generalize ((w.alloc (.cells #[.string ⟨#[]⟩, .int .u8 0, .int .i64 0, .string ⟨#[]⟩, .string ⟨#[]⟩] 26)).alloc (.cells #[.string x, .int .u8 0, .int .i64 0, .string ⟨#[]⟩, .string ⟨#[]⟩] 26)) = W at *
  generalize hn : w.heap.size = n at *
  obtain ⟨c0_0, c0_1, c0_2, c0_3, c0_4, c1_0, c1_1, c1_2, c1_3, c1_4, l0, l1, f0_0, f0_1, f0_2, f0_3, f0_4, f1_0, f1_1, f1_2, f1_3, f1_4, hB⟩ := id S0
  have c9 : W.cell? ⟨b, o + 2, none⟩ = some (.string z) := (hB.cell (p := ⟨b, o + 2, none⟩) (by omega)).trans hc2
  refine (OP.out _ hB).mono ?_
  rintro e1 w1 ⟨rfl, rfl⟩
  go_wp2_with fail
  go_at_call 172
  refine (EP.out _ hB).mono ?_
  rintro e2 w2 ⟨rfl, h⟩
  have S2 := keep_of S0 h
  clear S0 h c9 hc hc1 hc2 OP EP c0_0 c0_1 c0_2 c0_3 c0_4 c1_0 c1_1 c1_2 c1_3 c1_4 l0 l1 f0_0 f0_1 f0_2 f0_3 f0_4 f1_0 f1_1 f1_2 f1_3 f1_4 hB
  obtain ⟨c0_0, c0_1, c0_2, c0_3, c0_4, c1_0, c1_1, c1_2, c1_3, c1_4, l0, l1, f0_0, f0_1, f0_2, f0_3, f0_4, f1_0, f1_1, f1_2, f1_3, f1_4, hB⟩ := id S2
  go_wp2_with fail
  have SF := (set_of04 (set_of03 (set_of02 (set_of01 (set_of00 S2 (.string ⟨#[]⟩)) (.int .u8 0)) (.int .i64 0)) (.string ⟨#[]⟩)) (.string ⟨#[]⟩))
  generalize (((((w2).setCell ⟨n, 0, none⟩ (.string ⟨#[]⟩)).setCell ⟨n, 1, none⟩ (.int .u8 0)).setCell ⟨n, 2, none⟩ (.int .i64 0)).setCell ⟨n, 3, none⟩ (.string ⟨#[]⟩)).setCell ⟨n, 4, none⟩ (.string ⟨#[]⟩) = U at *
  clear S2 c0_0 c0_1 c0_2 c0_3 c0_4 c1_0 c1_1 c1_2 c1_3 c1_4 l0 l1 f0_0 f0_1 f0_2 f0_3 f0_4 f1_0 f1_1 f1_2 f1_3 f1_4 hB
  obtain ⟨c0_0, c0_1, c0_2, c0_3, c0_4, c1_0, c1_1, c1_2, c1_3, c1_4, l0, l1, f0_0, f0_1, f0_2, f0_3, f0_4, f1_0, f1_1, f1_2, f1_3, f1_4, hB⟩ := id SF
  exact bodyPost_ret (v := ZV) (by unfold ZV; simp [results, Tryz.results133, go_sem, c0_0, c0_1, c0_2, c0_3, c0_4, l0]) rfl ⟨by rw [HR.out]; rfl, by rw [hn]; exact hB.alloc (by omega) _⟩
set_option maxRecDepth 100000 in
set_option maxHeartbeats 16000000 in
theorem dof_three_d (A : Option Addr) (c : Nat) (x y z : ByteArray) (w : World) (hx : x.size ≤ 4000000000) (hy : y.size ≤ 4000000000) (hz : z.size ≤ 4000000000) (hT : TR w A [x, y, z]) (hI : DpIn w) (h2 : (opOf y.toList).2 = true) (h0 : (opOf y.toList).1 ≠ 0) (e : Evr) (he : evOf z.toList = some e) (hm : dmayB ⟨x.toList, (opOf y.toList).1, e⟩ = false) : Calls Tryz.prog 133 #[.slice A 3 c] w fun e w' => e = .returned (ofV (dpOf [x.toList, y.toList, z.toList])) ∧ Below w.heap.size w w' := by
  have OP := Lib.hid (fun W (h : Below w.heap.size w W) => opParse_any y (by unfold maxLen; omega) W (hI.2.1.below h))
  have EP := Lib.hid (fun W (h : Below w.heap.size w W) => evParse_any z W hz (hI.1.below h))
  have MA := Lib.hid (fun W (h : Below w.heap.size w W) => fun d hd => dmay_any d W hd (hI.below h))
  clear hI
  have S0 := new_of x w
  dsimp only at S0
  obtain ⟨r, hr⟩ : ∃ r, r = dpOf [x.toList, y.toList, z.toList] := ⟨_, rfl⟩
  rw [← hr]
  unfold dpOf at hr
  dsimp only at hr
  obtain ⟨b, o, rfl, hb, hc, hc1, hc2⟩ := hT.three
  clear hT
  have hq := @opText_of y.toList
  generalize opOf y.toList = q at *
  obtain ⟨q1, q2⟩ := q
  dsimp only at *
  obtain rfl := h2
  have h1 : (q1 == 0) = false := by simpa using h0
  have hqm := (hq rfl h0).2
  rw [parseV_some he] at EP
  rw [he] at hr
  dsimp only at hr
  have M2 := Lib.hid (fun W h => MA.out W h ⟨x.toList, q1, e⟩ ⟨by rw [size_toList]; unfold maxLen; omega, opMay_wf hqm, isEvr_wf he⟩)
  unfold Dp.val at M2
  dsimp only at M2
  rw [bs_of] at M2
  clear MA he hq hqm
  rw [hm] at M2 hr
  have HR := Lib.hid (show r = none from by rw [hr, if_neg (by simp)])
  clear hr hm h0
  go_enter Tryz.func133, Tryz.ntmps133
  go_wp2_with fail
  go_at_call 132
  generalize ((w.alloc (.cells #[.string ⟨#[]⟩, .int .u8 0, .int .i64 0, .string ⟨#[]⟩, .string ⟨#[]⟩] 26)).alloc (.cells #[.string x, .int .u8 0, .int .i64 0, .string ⟨#[]⟩, .string ⟨#[]⟩] 26)) = W at *
  generalize hn : w.heap.size = n at *
  obtain ⟨c0_0, c0_1, c0_2, c0_3, c0_4, c1_0, c1_1, c1_2, c1_3, c1_4, l0, l1, f0_0, f0_1, f0_2, f0_3, f0_4, f1_0, f1_1, f1_2, f1_3, f1_4, hB⟩ := id S0
  have c9 : W.cell? ⟨b, o + 2, none⟩ = some (.string z) := (hB.cell (p := ⟨b, o + 2, none⟩) (by omega)).trans hc2
  refine (OP.out _ hB).mono ?_
  rintro e1 w1 ⟨rfl, rfl⟩
  go_wp2_with fail
  go_at_call 172
  refine (EP.out _ hB).mono ?_
  rintro e2 w2 ⟨rfl, h⟩
  have S2 := keep_of S0 h
  clear S0 h c9 hc hc1 hc2 OP EP c0_0 c0_1 c0_2 c0_3 c0_4 c1_0 c1_1 c1_2 c1_3 c1_4 l0 l1 f0_0 f0_1 f0_2 f0_3 f0_4 f1_0 f1_1 f1_2 f1_3 f1_4 hB
  obtain ⟨c0_0, c0_1, c0_2, c0_3, c0_4, c1_0, c1_1, c1_2, c1_3, c1_4, l0, l1, f0_0, f0_1, f0_2, f0_3, f0_4, f1_0, f1_1, f1_2, f1_3, f1_4, hB⟩ := id S2
  have S3 := grow_og (.int .i64 e.epoch) (.string (bs e.ver)) (.string (bs e.rel)) S2
  dsimp only at S3
  have hmn : w2.heap.size ≠ n := by omega
  have hmn1 : w2.heap.size ≠ n + 1 := by omega
  go_wp2_with fail
  generalize hV : w2.alloc (.cells #[.int .i64 e.epoch, .string (bs e.ver), .string (bs e.rel)] 24) = V at *
  generalize w2.heap.size = m at *
  clear S2 hV c0_0 c0_1 c0_2 c0_3 c0_4 c1_0 c1_1 c1_2 c1_3 c1_4 l0 l1 f0_0 f0_1 f0_2 f0_3 f0_4 f1_0 f1_1 f1_2 f1_3 f1_4 hB
  obtain ⟨c0_0, c0_1, c0_2, c0_3, c0_4, c1_0, c1_1, c1_2, c1_3, c1_4, c2_0, c2_1, c2_2, l0, l1, l2, f0_0, f0_1, f0_2, f0_3, f0_4, f1_0, f1_1, f1_2, f1_3, f1_4, hB⟩ := id S3
  go_region
  go_wp2_with fail
  have SF := drew_og (set_og14 (set_og13 (set_og12 (set_og11 S3 hmn1 (.int .u8 q1)) hmn1 (.int .i64 e.epoch)) hmn1 (.string (bs e.ver))) hmn1 (.string (bs e.rel)))
  refine (M2.out _ (tail_og SF)).mono ?_
  rintro e4 w4 ⟨rfl, h⟩
  have S4 := keep_og SF h
  clear SF h S3 c0_0 c0_1 c0_2 c0_3 c0_4 c1_0 c1_1 c1_2 c1_3 c1_4 c2_0 c2_1 c2_2 l0 l1 l2 f0_0 f0_1 f0_2 f0_3 f0_4 f1_0 f1_1 f1_2 f1_3 f1_4 hB
  obtain ⟨c0_0, c0_1, c0_2, c0_3, c0_4, c1_0, c1_1, c1_2, c1_3, c1_4, c2_0, c2_1, c2_2, l0, l1, l2, f0_0, f0_1, f0_2, f0_3, f0_4, f1_0, f1_1, f1_2, f1_3, f1_4, hB⟩ := id S4
  go_wp2_with fail
  have SF := (set_og04 (set_og03 (set_og02 (set_og01 (set_og00 S4 hmn (.string ⟨#[]⟩)) hmn (.int .u8 0)) hmn (.int .i64 0)) hmn (.string ⟨#[]⟩)) hmn (.string ⟨#[]⟩))
  generalize ((((w4.setCell { block := n, off := 0 } (Value.string { data := #[] })).setCell { block := n, off := 1 } (Value.int IntKind.u8 0)).setCell { block := n, off := 2 } (Value.int IntKind.i64 0)).setCell { block := n, off := 3 } (Value.string { data := #[] })).setCell { block := n, off := 4 } (Value.string { data := #[] }) = U at *
  clear c0_0 c0_1 c0_2 c0_3 c0_4 c1_0 c1_1 c1_2 c1_3 c1_4 c2_0 c2_1 c2_2 l0 l1 l2 f0_0 f0_1 f0_2 f0_3 f0_4 f1_0 f1_1 f1_2 f1_3 f1_4 hB
  obtain ⟨c0_0, c0_1, c0_2, c0_3, c0_4, c1_0, c1_1, c1_2, c1_3, c1_4, c2_0, c2_1, c2_2, l0, l1, l2, f0_0, f0_1, f0_2, f0_3, f0_4, f1_0, f1_1, f1_2, f1_3, f1_4, hB⟩ := id SF
  exact bodyPost_ret (v := ZV) (by unfold ZV; simp [results, Tryz.results133, go_sem, c0_0, c0_1, c0_2, c0_3, c0_4]) rfl ⟨by rw [HR.out]; rfl, by rw [hn]; exact hB⟩
set_option maxRecDepth 100000 in
set_option maxHeartbeats 16000000 in
theorem dof_three_e (A : Option Addr) (c : Nat) (x y z : ByteArray) (w : World) (hx : x.size ≤ 4000000000) (hy : y.size ≤ 4000000000) (hz : z.size ≤ 4000000000) (hT : TR w A [x, y, z]) (hI : DpIn w) (h2 : (opOf y.toList).2 = true) (h0 : (opOf y.toList).1 ≠ 0) (e : Evr) (he : evOf z.toList = some e) (hm : dmayB ⟨x.toList, (opOf y.toList).1, e⟩ = true) : Calls Tryz.prog 133 #[.slice A 3 c] w fun e w' => e = .returned (ofV (dpOf [x.toList, y.toList, z.toList])) ∧ Below w.heap.size w w' := by
  have OP := Lib.hid (fun W (h : Below w.heap.size w W) => opParse_any y (by unfold maxLen; omega) W (hI.2.1.below h))
  have EP := Lib.hid (fun W (h : Below w.heap.size w W) => evParse_any z W hz (hI.1.below h))
  have MA := Lib.hid (fun W (h : Below w.heap.size w W) => fun d hd => dmay_any d W hd (hI.below h))
  clear hI
  have S0 := new_of x w
  dsimp only at S0
  obtain ⟨r, hr⟩ : ∃ r, r = dpOf [x.toList, y.toList, z.toList] := ⟨_, rfl⟩
  rw [← hr]
  unfold dpOf at hr
  dsimp only at hr
  obtain ⟨b, o, rfl, hb, hc, hc1, hc2⟩ := hT.three
  clear hT
  have hq := @opText_of y.toList
  generalize opOf y.toList = q at *
  obtain ⟨q1, q2⟩ := q
  dsimp only at *
  obtain rfl := h2
  have h1 : (q1 == 0) = false := by simpa using h0
  have hqm := (hq rfl h0).2
  rw [parseV_some he] at EP
  rw [he] at hr
  dsimp only at hr
  have M2 := Lib.hid (fun W h => MA.out W h ⟨x.toList, q1, e⟩ ⟨by rw [size_toList]; unfold maxLen; omega, opMay_wf hqm, isEvr_wf he⟩)
  unfold Dp.val at M2
  dsimp only at M2
  rw [bs_of] at M2
  clear MA he hq hqm
  rw [hm] at M2 hr
  have HR := Lib.hid (show r = some ⟨x.toList, q1, e⟩ from by rw [hr, if_pos ⟨rfl, h0, rfl⟩])
  clear hr hm h0
  go_enter Tryz.func133, Tryz.ntmps133
  go_wp2_with fail
  go_at_call 132
  generalize ((w.alloc (.cells #[.string ⟨#[]⟩, .int .u8 0, .int .i64 0, .string ⟨#[]⟩, .string ⟨#[]⟩] 26)).alloc (.cells #[.string x, .int .u8 0, .int .i64 0, .string ⟨#[]⟩, .string ⟨#[]⟩] 26)) = W at *
  generalize hn : w.heap.size = n at *
  obtain ⟨c0_0, c0_1, c0_2, c0_3, c0_4, c1_0, c1_1, c1_2, c1_3, c1_4, l0, l1, f0_0, f0_1, f0_2, f0_3, f0_4, f1_0, f1_1, f1_2, f1_3, f1_4, hB⟩ := id S0
  have c9 : W.cell? ⟨b, o + 2, none⟩ = some (.string z) := (hB.cell (p := ⟨b, o + 2, none⟩) (by omega)).trans hc2
  refine (OP.out _ hB).mono ?_
  rintro e1 w1 ⟨rfl, rfl⟩
  go_wp2_with fail
  go_at_call 172
  refine (EP.out _ hB).mono ?_
  rintro e2 w2 ⟨rfl, h⟩
  have S2 := keep_of S0 h
  clear S0 h c9 hc hc1 hc2 OP EP c0_0 c0_1 c0_2 c0_3 c0_4 c1_0 c1_1 c1_2 c1_3 c1_4 l0 l1 f0_0 f0_1 f0_2 f0_3 f0_4 f1_0 f1_1 f1_2 f1_3 f1_4 hB
  obtain ⟨c0_0, c0_1, c0_2, c0_3, c0_4, c1_0, c1_1, c1_2, c1_3, c1_4, l0, l1, f0_0, f0_1, f0_2, f0_3, f0_4, f1_0, f1_1, f1_2, f1_3, f1_4, hB⟩ := id S2
  have S3 := grow_og (.int .i64 e.epoch) (.string (bs e.ver)) (.string (bs e.rel)) S2
  dsimp only at S3
  have hmn : w2.heap.size ≠ n := by omega
  have hmn1 : w2.heap.size ≠ n + 1 := by omega
  go_wp2_with fail
  generalize hV : w2.alloc (.cells #[.int .i64 e.epoch, .string (bs e.ver), .string (bs e.rel)] 24) = V at *
  generalize w2.heap.size = m at *
  clear S2 hV c0_0 c0_1 c0_2 c0_3 c0_4 c1_0 c1_1 c1_2 c1_3 c1_4 l0 l1 f0_0 f0_1 f0_2 f0_3 f0_4 f1_0 f1_1 f1_2 f1_3 f1_4 hB
  obtain ⟨c0_0, c0_1, c0_2, c0_3, c0_4, c1_0, c1_1, c1_2, c1_3, c1_4, c2_0, c2_1, c2_2, l0, l1, l2, f0_0, f0_1, f0_2, f0_3, f0_4, f1_0, f1_1, f1_2, f1_3, f1_4, hB⟩ := id S3
  go_region
  go_wp2_with fail
  have SF := drew_og (set_og14 (set_og13 (set_og12 (set_og11 S3 hmn1 (.int .u8 q1)) hmn1 (.int .i64 e.epoch)) hmn1 (.string (bs e.ver))) hmn1 (.string (bs e.rel)))
  refine (M2.out _ (tail_og SF)).mono ?_
  rintro e4 w4 ⟨rfl, h⟩
  have S4 := keep_og SF h
  clear SF h S3 c0_0 c0_1 c0_2 c0_3 c0_4 c1_0 c1_1 c1_2 c1_3 c1_4 c2_0 c2_1 c2_2 l0 l1 l2 f0_0 f0_1 f0_2 f0_3 f0_4 f1_0 f1_1 f1_2 f1_3 f1_4 hB
  obtain ⟨c0_0, c0_1, c0_2, c0_3, c0_4, c1_0, c1_1, c1_2, c1_3, c1_4, c2_0, c2_1, c2_2, l0, l1, l2, f0_0, f0_1, f0_2, f0_3, f0_4, f1_0, f1_1, f1_2, f1_3, f1_4, hB⟩ := id S4
  go_wp2_with fail
  have SF := (set_og04 (set_og03 (set_og02 (set_og01 (set_og00 S4 hmn (.string x)) hmn (.int .u8 q1)) hmn (.int .i64 e.epoch)) hmn (.string (bs e.ver))) hmn (.string (bs e.rel)))
  generalize ((((w4.setCell { block := n, off := 0 } (Value.string x)).setCell { block := n, off := 1 } (Value.int IntKind.u8 q1)).setCell { block := n, off := 2 } (Value.int IntKind.i64 e.epoch)).setCell { block := n, off := 3 } (Value.string (bs e.ver))).setCell { block := n, off := 4 } (Value.string (bs e.rel)) = U at *
  clear c0_0 c0_1 c0_2 c0_3 c0_4 c1_0 c1_1 c1_2 c1_3 c1_4 c2_0 c2_1 c2_2 l0 l1 l2 f0_0 f0_1 f0_2 f0_3 f0_4 f1_0 f1_1 f1_2 f1_3 f1_4 hB
  obtain ⟨c0_0, c0_1, c0_2, c0_3, c0_4, c1_0, c1_1, c1_2, c1_3, c1_4, c2_0, c2_1, c2_2, l0, l1, l2, f0_0, f0_1, f0_2, f0_3, f0_4, f1_0, f1_1, f1_2, f1_3, f1_4, hB⟩ := id SF
  rw [HR.out]
  exact bodyPost_ret (v := .tuple #[.agg #[.string x, .int .u8 q1, .int .i64 e.epoch, .string (bs e.ver), .string (bs e.rel)], .int .i64 0]) (by simp [results, Tryz.results133, go_sem, c0_0, c0_1, c0_2, c0_3, c0_4]) rfl ⟨by unfold ofV Dp.val; dsimp only; rw [bs_of], by rw [hn]; exact hB⟩
set_option maxRecDepth 100000 in
set_option maxHeartbeats 16000000 in
theorem rdof_one (A : Option Addr) (c : Nat) (x : ByteArray) (w : World) (hx : x.size ≤ 4000000000) (hT : TR w A [x]) : Calls Tryz.prog 92 #[.slice A 1 c] w fun e w' => e = .returned (ofV (dpOf [x.toList])) ∧ Below w.heap.size w w' := by
  have MA := Lib.hid (fun W (h : Below w.heap.size w W) => rdmay_any ⟨x.toList, 0, zeroE⟩ W (word_wf x hx))
  skip
  unfold Dp.val zeroE at MA
  dsimp only at MA
  rw [bs_of, show bs [] = (⟨#[]⟩ : ByteArray) from rfl] at MA
  have S0 := new_of x w
  dsimp only at S0
  obtain ⟨r, hr⟩ : ∃ r, r = dpOf [x.toList] := ⟨_, rfl⟩
  rw [← hr]
  unfold dpOf zeroE at hr
  dsimp only at hr
  obtain ⟨b, o, rfl, hb, hc⟩ := hT.one
  clear hT
  cases hm : dmayB ⟨x.toList, 0, ⟨0, [], []⟩⟩ with
  | false =>
    rw [hm] at MA hr
    rw [if_neg (by decide)] at hr
    have HR := Lib.hid hr
    clear hr hm
    go_enter Tryz.func92, Tryz.ntmps92
    go_wp2_with fail
    go_at_call 138
    generalize ((w.alloc (.cells #[.string ⟨#[]⟩, .int .u8 0, .int .i64 0, .string ⟨#[]⟩, .string ⟨#[]⟩] 26)).alloc (.cells #[.string x, .int .u8 0, .int .i64 0, .string ⟨#[]⟩, .string ⟨#[]⟩] 26)) = W at *
    generalize hn : w.heap.size = n at *
    obtain ⟨c0_0, c0_1, c0_2, c0_3, c0_4, c1_0, c1_1, c1_2, c1_3, c1_4, l0, l1, f0_0, f0_1, f0_2, f0_3, f0_4, f1_0, f1_1, f1_2, f1_3, f1_4, hB⟩ := id S0
    refine (MA.out _ hB).mono ?_
    rintro e1 w1 ⟨rfl, h⟩
    have S1 := keep_of S0 h
    clear S0 h c0_0 c0_1 c0_2 c0_3 c0_4 c1_0 c1_1 c1_2 c1_3 c1_4 l0 l1 f0_0 f0_1 f0_2 f0_3 f0_4 f1_0 f1_1 f1_2 f1_3 f1_4 hB
    obtain ⟨c0_0, c0_1, c0_2, c0_3, c0_4, c1_0, c1_1, c1_2, c1_3, c1_4, l0, l1, f0_0, f0_1, f0_2, f0_3, f0_4, f1_0, f1_1, f1_2, f1_3, f1_4, hB⟩ := id S1
    go_wp2_with fail
    have SF := (set_of04 (set_of03 (set_of02 (set_of01 (set_of00 S1 (.string ⟨#[]⟩)) (.int .u8 0)) (.int .i64 0)) (.string ⟨#[]⟩)) (.string ⟨#[]⟩))
    generalize ((((w1.setCell { block := n, off := 0 } (Value.string { data := #[] })).setCell { block := n, off := 1 } (Value.int IntKind.u8 0)).setCell { block := n, off := 2 } (Value.int IntKind.i64 0)).setCell { block := n, off := 3 } (Value.string { data := #[] })).setCell { block := n, off := 4 } (Value.string { data := #[] }) = U at *
    clear c0_0 c0_1 c0_2 c0_3 c0_4 c1_0 c1_1 c1_2 c1_3 c1_4 l0 l1 f0_0 f0_1 f0_2 f0_3 f0_4 f1_0 f1_1 f1_2 f1_3 f1_4 hB
    obtain ⟨c0_0, c0_1, c0_2, c0_3, c0_4, c1_0, c1_1, c1_2, c1_3, c1_4, l0, l1, f0_0, f0_1, f0_2, f0_3, f0_4, f1_0, f1_1, f1_2, f1_3, f1_4, hB⟩ := id SF
    exact bodyPost_ret (v := ZV) (by unfold ZV; simp [results, Tryz.results92, go_sem, c0_0, c0_1, c0_2, c0_3, c0_4]) rfl ⟨by rw [HR.out]; rfl, by rw [hn]; exact hB⟩
  | true =>
    rw [hm] at MA hr
    rw [if_pos rfl] at hr
    have HR := Lib.hid (show ofV r = .tuple #[.agg #[.string x, .int .u8 0, .int .i64 0, .string ⟨#[]⟩, .string ⟨#[]⟩], .int .i64 0] from by rw [hr]; unfold ofV Dp.val; dsimp only; rw [bs_of]; rfl)
    clear hr hm
    go_enter Tryz.func92, Tryz.ntmps92
    go_wp2_with fail
    go_at_call 138
    generalize ((w.alloc (.cells #[.string ⟨#[]⟩, .int .u8 0, .int .i64 0, .string ⟨#[]⟩, .string ⟨#[]⟩] 26)).alloc (.cells #[.string x, .int .u8 0, .int .i64 0, .string ⟨#[]⟩, .string ⟨#[]⟩] 26)) = W at *
    generalize hn : w.heap.size = n at *
    obtain ⟨c0_0, c0_1, c0_2, c0_3, c0_4, c1_0, c1_1, c1_2, c1_3, c1_4, l0, l1, f0_0, f0_1, f0_2, f0_3, f0_4, f1_0, f1_1, f1_2, f1_3, f1_4, hB⟩ := id S0
    refine (MA.out _ hB).mono ?_
    rintro e1 w1 ⟨rfl, h⟩
    have S1 := keep_of S0 h
    clear S0 h c0_0 c0_1 c0_2 c0_3 c0_4 c1_0 c1_1 c1_2 c1_3 c1_4 l0 l1 f0_0 f0_1 f0_2 f0_3 f0_4 f1_0 f1_1 f1_2 f1_3 f1_4 hB
    obtain ⟨c0_0, c0_1, c0_2, c0_3, c0_4, c1_0, c1_1, c1_2, c1_3, c1_4, l0, l1, f0_0, f0_1, f0_2, f0_3, f0_4, f1_0, f1_1, f1_2, f1_3, f1_4, hB⟩ := id S1
    go_wp2_with fail
    have SF := (set_of04 (set_of03 (set_of02 (set_of01 (set_of00 S1 (.string x)) (.int .u8 0)) (.int .i64 0)) (.string ⟨#[]⟩)) (.string ⟨#[]⟩))
    generalize ((((w1.setCell { block := n, off := 0 } (Value.string x)).setCell { block := n, off := 1 } (Value.int IntKind.u8 0)).setCell { block := n, off := 2 } (Value.int IntKind.i64 0)).setCell { block := n, off := 3 } (Value.string { data := #[] })).setCell { block := n, off := 4 } (Value.string { data := #[] }) = U at *
    clear c0_0 c0_1 c0_2 c0_3 c0_4 c1_0 c1_1 c1_2 c1_3 c1_4 l0 l1 f0_0 f0_1 f0_2 f0_3 f0_4 f1_0 f1_1 f1_2 f1_3 f1_4 hB
    obtain ⟨c0_0, c0_1, c0_2, c0_3, c0_4, c1_0, c1_1, c1_2, c1_3, c1_4, l0, l1, f0_0, f0_1, f0_2, f0_3, f0_4, f1_0, f1_1, f1_2, f1_3, f1_4, hB⟩ := id SF
    rw [HR.out]
    exact bodyPost_ret (v := .tuple #[.agg #[.string x, .int .u8 0, .int .i64 0, .string ⟨#[]⟩, .string ⟨#[]⟩], .int .i64 0]) (by simp [results, Tryz.results92, go_sem, c0_0, c0_1, c0_2, c0_3, c0_4]) rfl ⟨rfl, by rw [hn]; exact hB⟩
set_option maxRecDepth 100000 in
set_option maxHeartbeats 16000000 in
theorem rdof_three_a (A : Option Addr) (c : Nat) (x y z : ByteArray) (w : World) (hx : x.size ≤ 4000000000) (hy : y.size ≤ 4000000000) (hz : z.size ≤ 4000000000) (hT : TR w A [x, y, z]) (h2 : (opOf y.toList).2 = false) : Calls Tryz.prog 92 #[.slice A 3 c] w fun e w' => e = .returned (ofV (dpOf [x.toList, y.toList, z.toList])) ∧ Below w.heap.size w w' := by
  have OP := Lib.hid (fun W (h : Below w.heap.size w W) => ropParse_any y W)
  have EP := Lib.hid (fun W (h : Below w.heap.size w W) => revParse_any z W hz)
  have MA := Lib.hid (fun W (h : Below w.heap.size w W) => fun d hd => rdmay_any d W hd)
  skip
  have S0 := new_of x w
  dsimp only at S0
  obtain ⟨r, hr⟩ : ∃ r, r = dpOf [x.toList, y.toList, z.toList] := ⟨_, rfl⟩
  rw [← hr]
  unfold dpOf at hr
  dsimp only at hr
  obtain ⟨b, o, rfl, hb, hc, hc1, hc2⟩ := hT.three
  clear hT
  have hq := @opText_of y.toList
  generalize opOf y.toList = q at *
  obtain ⟨q1, q2⟩ := q
  dsimp only at *
  obtain rfl := h2
  obtain ⟨p, v, l, f, hP⟩ := parseV_any z.toList
  rw [hP] at EP
  have HR := Lib.hid (show r = none from by rw [hr]; split <;> first | rfl | (rw [if_neg (by simp)]))
  clear hr hP MA hq
  go_enter Tryz.func92, Tryz.ntmps92
  go_wp2_with fail
  go_at_call 91
  generalize ((w.alloc (.cells #[.string ⟨#[]⟩, .int .u8 0, .int .i64 0, .string ⟨#[]⟩, .string ⟨#[]⟩] 26)).alloc (.cells #[.string x, .int .u8 0, .int .i64 0, .string ⟨#[]⟩, .string ⟨#[]⟩] 26)) = W at *
  generalize hn : w.heap.size = n at *
  obtain ⟨c0_0, c0_1, c0_2, c0_3, c0_4, c1_0, c1_1, c1_2, c1_3, c1_4, l0, l1, f0_0, f0_1, f0_2, f0_3, f0_4, f1_0, f1_1, f1_2, f1_3, f1_4, hB⟩ := id S0
  have c9 : W.cell? ⟨b, o + 2, none⟩ = some (.string z) := (hB.cell (p := ⟨b, o + 2, none⟩) (by omega)).trans hc2
  refine (OP.out _ hB).mono ?_
  rintro e1 w1 ⟨rfl, rfl⟩
  go_wp2_with fail
  go_at_call 137
  refine (EP.out _ hB).mono ?_
  rintro e2 w2 ⟨rfl, h⟩
  have S2 := keep_of S0 h
  clear S0 h c9 hc hc1 hc2 OP EP c0_0 c0_1 c0_2 c0_3 c0_4 c1_0 c1_1 c1_2 c1_3 c1_4 l0 l1 f0_0 f0_1 f0_2 f0_3 f0_4 f1_0 f1_1 f1_2 f1_3 f1_4 hB
  obtain ⟨c0_0, c0_1, c0_2, c0_3, c0_4, c1_0, c1_1, c1_2, c1_3, c1_4, l0, l1, f0_0, f0_1, f0_2, f0_3, f0_4, f1_0, f1_1, f1_2, f1_3, f1_4, hB⟩ := id S2
  go_wp2_with fail
  have SF := (set_of04 (set_of03 (set_of02 (set_of01 (set_of00 S2 (.string ⟨#[]⟩)) (.int .u8 0)) (.int .i64 0)) (.string ⟨#[]⟩)) (.string ⟨#[]⟩))
  generalize (((((w2).setCell ⟨n, 0, none⟩ (.string ⟨#[]⟩)).setCell ⟨n, 1, none⟩ (.int .u8 0)).setCell ⟨n, 2, none⟩ (.int .i64 0)).setCell ⟨n, 3, none⟩ (.string ⟨#[]⟩)).setCell ⟨n, 4, none⟩ (.string ⟨#[]⟩) = U at *
  clear S2 c0_0 c0_1 c0_2 c0_3 c0_4 c1_0 c1_1 c1_2 c1_3 c1_4 l0 l1 f0_0 f0_1 f0_2 f0_3 f0_4 f1_0 f1_1 f1_2 f1_3 f1_4 hB
  obtain ⟨c0_0, c0_1, c0_2, c0_3, c0_4, c1_0, c1_1, c1_2, c1_3, c1_4, l0, l1, f0_0, f0_1, f0_2, f0_3, f0_4, f1_0, f1_1, f1_2, f1_3, f1_4, hB⟩ := id SF
  exact bodyPost_ret (v := ZV) (by unfold ZV; simp [results, Tryz.results92, go_sem, c0_0, c0_1, c0_2, c0_3, c0_4, l0]) rfl ⟨by rw [HR.out]; rfl, by rw [hn]; exact hB.alloc (by omega) _⟩
set_option maxRecDepth 100000 in
set_option maxHeartbeats 16000000 in
theorem rdof_three_b (A : Option Addr) (c : Nat) (x y z : ByteArray) (w : World) (hx : x.size ≤ 4000000000) (hy : y.size ≤ 4000000000) (hz : z.size ≤ 4000000000) (hT : TR w A [x, y, z]) (h2 : (opOf y.toList).2 = true) (h0 : (opOf y.toList).1 = 0) : Calls Tryz.prog 92 #[.slice A 3 c] w fun e w' => e = .returned (ofV (dpOf [x.toList, y.toList, z.toList])) ∧ Below w.heap.size w w' := by
  have OP := Lib.hid (fun W (h : Below w.heap.size w W) => ropParse_any y W)
  have EP := Lib.hid (fun W (h : Below w.heap.size w W) => revParse_any z W hz)
  have MA := Lib.hid (fun W (h : Below w.heap.size w W) => fun d hd => rdmay_any d W hd)
  skip
  have S0 := new_of x w
  dsimp only at S0
  obtain ⟨r, hr⟩ : ∃ r, r = dpOf [x.toList, y.toList, z.toList] := ⟨_, rfl⟩
  rw [← hr]
  unfold dpOf at hr
  dsimp only at hr
  obtain ⟨b, o, rfl, hb, hc, hc1, hc2⟩ := hT.three
  clear hT
  have hq := @opText_of y.toList
  generalize opOf y.toList = q at *
  obtain ⟨q1, q2⟩ := q
  dsimp only at *
  obtain rfl := h2
  obtain ⟨p, v, l, f, hP⟩ := parseV_any z.toList
  rw [hP] at EP
  have HR := Lib.hid (show r = none from by rw [hr]; split <;> first | rfl | (rw [if_neg (by simp [h0])]))
  have h1 : (q1 == 0) = true := by simpa using h0
  clear hr hP MA hq h0
  go_enter Tryz.func92, Tryz.ntmps92
  go_wp2_with fail
  go_at_call 91
  generalize ((w.alloc (.cells #[.string ⟨#[]⟩, .int .u8 0, .int .i64 0, .string ⟨#[]⟩, .string ⟨#[]⟩] 26)).alloc (.cells #[.string x, .int .u8 0, .int .i64 0, .string ⟨#[]⟩, .string ⟨#[]⟩] 26)) = W at *
  generalize hn : w.heap.size = n at *
  obtain ⟨c0_0, c0_1, c0_2, c0_3, c0_4, c1_0, c1_1, c1_2, c1_3, c1_4, l0, l1, f0_0, f0_1, f0_2, f0_3, f0_4, f1_0, f1_1, f1_2, f1_3, f1_4, hB⟩ := id S0
  have c9 : W.cell? ⟨b, o + 2, none⟩ = some (.string z) := (hB.cell (p := ⟨b, o + 2, none⟩) (by omega)).trans hc2
  refine (OP.out _ hB).mono ?_
  rintro e1 w1 ⟨rfl, rfl⟩
  go_wp2_with fail
  go_at_call 137
  refine (EP.out _ hB).mono ?_
  rintro e2 w2 ⟨rfl, h⟩
  have S2 := keep_of S0 h
  clear S0 h c9 hc hc1 hc2 OP EP c0_0 c0_1 c0_2 c0_3 c0_4 c1_0 c1_1 c1_2 c1_3 c1_4 l0 l1 f0_0 f0_1 f0_2 f0_3 f0_4 f1_0 f1_1 f1_2 f1_3 f1_4 hB
  obtain ⟨c0_0, c0_1, c0_2, c0_3, c0_4, c1_0, c1_1, c1_2, c1_3, c1_4, l0, l1, f0_0, f0_1, f0_2, f0_3, f0_4, f1_0, f1_1, f1_2, f1_3, f1_4, hB⟩ := id S2
  go_wp2_with fail
  have SF := (set_of04 (set_of03 (set_of02 (set_of01 (set_of00 S2 (.string ⟨#[]⟩)) (.int .u8 0)) (.int .i64 0)) (.string ⟨#[]⟩)) (.string ⟨#[]⟩))
  generalize (((((w2).setCell ⟨n, 0, none⟩ (.string ⟨#[]⟩)).setCell ⟨n, 1, none⟩ (.int .u8 0)).setCell ⟨n, 2, none⟩ (.int .i64 0)).setCell ⟨n, 3, none⟩ (.string ⟨#[]⟩)).setCell ⟨n, 4, none⟩ (.string ⟨#[]⟩) = U at *
  clear S2 c0_0 c0_1 c0_2 c0_3 c0_4 c1_0 c1_1 c1_2 c1_3 c1_4 l0 l1 f0_0 f0_1 f0_2 f0_3 f0_4 f1_0 f1_1 f1_2 f1_3 f1_4 hB
  obtain ⟨c0_0, c0_1, c0_2, c0_3, c0_4, c1_0, c1_1, c1_2, c1_3, c1_4, l0, l1, f0_0, f0_1, f0_2, f0_3, f0_4, f1_0, f1_1, f1_2, f1_3, f1_4, hB⟩ := id SF
  exact bodyPost_ret (v := ZV) (by unfold ZV; simp [results, Tryz.results92, go_sem, c0_0, c0_1, c0_2, c0_3, c0_4, l0]) rfl ⟨by rw [HR.out]; rfl, by rw [hn]; exact hB.alloc (by omega) _⟩
set_option maxRecDepth 100000 in
set_option maxHeartbeats 16000000 in
theorem rdof_three_c (A : Option Addr) (c : Nat) (x y z : ByteArray) (w : World) (hx : x.size ≤ 4000000000) (hy : y.size ≤ 4000000000) (hz : z.size ≤ 4000000000) (hT : TR w A [x, y, z]) (h2 : (opOf y.toList).2 = true) (h0 : (opOf y.toList).1 ≠ 0) (he : evOf z.toList = none) : Calls Tryz.prog 92 #[.slice A 3 c] w fun e w' => e = .returned (ofV (dpOf [x.toList, y.toList, z.toList])) ∧ Below w.heap.size w w' := by
  have OP := Lib.hid (fun W (h : Below w.heap.size w W) => ropParse_any y W)
  have EP := Lib.hid (fun W (h : Below w.heap.size w W) => revParse_any z W hz)
  have MA := Lib.hid (fun W (h : Below w.heap.size w W) => fun d hd => rdmay_any d W hd)
  skip
  have S0 := new_of x w
  dsimp only at S0
  obtain ⟨r, hr⟩ : ∃ r, r = dpOf [x.toList, y.toList, z.toList] := ⟨_, rfl⟩
  rw [← hr]
  unfold dpOf at hr
  dsimp only at hr
  obtain ⟨b, o, rfl, hb, hc, hc1, hc2⟩ := hT.three
  clear hT
  have hq := @opText_of y.toList
  generalize opOf y.toList = q at *
  obtain ⟨q1, q2⟩ := q
  dsimp only at *
  obtain rfl := h2
  have h1 : (q1 == 0) = false := by simpa using h0
  rw [parseV_none he] at EP
  rw [he] at hr
  have HR := Lib.hid (show r = none from hr)
  clear hr he MA h0 hq
  go_enter Tryz.func92, Tryz.ntmps92
  go_wp2_with fail
  go_at_call 91
  generalize ((w.alloc (.cells #[.string ⟨#[]⟩, .int .u8 0, .int .i64 0, .string ⟨#[]⟩, .string ⟨#[]⟩] 26)).alloc (.cells #[.string x, .int .u8 0, .int .i64 0, .string ⟨#[]⟩, .string ⟨#[]⟩] 26)) = W at *
  generalize hn : w.heap.size = n at *
  obtain ⟨c0_0, c0_1, c0_2, c0_3, c0_4, c1_0, c1_1, c1_2, c1_3, c1_4, l0, l1, f0_0, f0_1, f0_2, f0_3, f0_4, f1_0, f1_1, f1_2, f1_3, f1_4, hB⟩ := id S0
  have c9 : W.cell? ⟨b, o + 2, none⟩ = some (.string z) := (hB.cell (p := ⟨b, o + 2, none⟩) (by omega)).trans hc2
  refine (OP.out _ hB).mono ?_
  rintro e1 w1 ⟨rfl, rfl⟩
  go_wp2_with fail
  go_at_call 137
  refine (EP.out _ hB).mono ?_
  rintro e2 w2 ⟨rfl, h⟩
  have S2 := keep_of S0 h
  clear S0 h c9 hc hc1 hc2 OP EP c0_0 c0_1 c0_2 c0_3 c0_4 c1_0 c1_1 c1_2 c1_3 c1_4 l0 l1 f0_0 f0_1 f0_2 f0_3 f0_4 f1_0 f1_1 f1_2 f1_3 f1_4 hB
  obtain ⟨c0_0, c0_1, c0_2, c0_3, c0_4, c1_0, c1_1, c1_2, c1_3, c1_4, l0, l1, f0_0, f0_1, f0_2, f0_3, f0_4, f1_0, f1_1, f1_2, f1_3, f1_4, hB⟩ := id S2
  go_wp2_with fail
  have SF := (set_of04 (set_of03 (set_of02 (set_of01 (set_of00 S2 (.string ⟨#[]⟩)) (.int .u8 0)) (.int .i64 0)) (.string ⟨#[]⟩)) (.string ⟨#[]⟩))
  generalize (((((w2).setCell ⟨n, 0, none⟩ (.string ⟨#[]⟩)).setCell ⟨n, 1, none⟩ (.int .u8 0)).setCell ⟨n, 2, none⟩ (.int .i64 0)).setCell ⟨n, 3, none⟩ (.string ⟨#[]⟩)).setCell ⟨n, 4, none⟩ (.string ⟨#[]⟩) = U at *
  clear S2 c0_0 c0_1 c0_2 c0_3 c0_4 c1_0 c1_1 c1_2 c1_3 c1_4 l0 l1 f0_0 f0_1 f0_2 f0_3 f0_4 f1_0 f1_1 f1_2 f1_3 f1_4 hB
  obtain ⟨c0_0, c0_1, c0_2, c0_3, c0_4, c1_0, c1_1, c1_2, c1_3, c1_4, l0, l1, f0_0, f0_1, f0_2, f0_3, f0_4, f1_0, f1_1, f1_2, f1_3, f1_4, hB⟩ := id SF
  exact bodyPost_ret (v := ZV) (by unfold ZV; simp [results, Tryz.results92, go_sem, c0_0, c0_1, c0_2, c0_3, c0_4, l0]) rfl ⟨by rw [HR.out]; rfl, by rw [hn]; exact hB.alloc (by omega) _⟩
set_option maxRecDepth 100000 in
set_option maxHeartbeats 16000000 in
theorem rdof_three_d (A : Option Addr) (c : Nat) (x y z : ByteArray) (w : World) (hx : x.size ≤ 4000000000) (hy : y.size ≤ 4000000000) (hz : z.size ≤ 4000000000) (hT : TR w A [x, y, z]) (h2 : (opOf y.toList).2 = true) (h0 : (opOf y.toList).1 ≠ 0) (e : Evr) (he : evOf z.toList = some e) (hm : dmayB ⟨x.toList, (opOf y.toList).1, e⟩ = false) : Calls Tryz.prog 92 #[.slice A 3 c] w fun e w' => e = .returned (ofV (dpOf [x.toList, y.toList, z.toList])) ∧ Below w.heap.size w w' := by
  have OP := Lib.hid (fun W (h : Below w.heap.size w W) => ropParse_any y W)
  have EP := Lib.hid (fun W (h : Below w.heap.size w W) => revParse_any z W hz)
  have MA := Lib.hid (fun W (h : Below w.heap.size w W) => fun d hd => rdmay_any d W hd)
  skip
  have S0 := new_of x w
  dsimp only at S0
  obtain ⟨r, hr⟩ : ∃ r, r = dpOf [x.toList, y.toList, z.toList] := ⟨_, rfl⟩
  rw [← hr]
  unfold dpOf at hr
  dsimp only at hr
  obtain ⟨b, o, rfl, hb, hc, hc1, hc2⟩ := hT.three
  clear hT
  have hq := @opText_of y.toList
  generalize opOf y.toList = q at *
  obtain ⟨q1, q2⟩ := q
  dsimp only at *
  obtain rfl := h2
  have h1 : (q1 == 0) = false := by simpa using h0
  have hqm := (hq rfl h0).2
  rw [parseV_some he] at EP
  rw [he] at hr
  dsimp only at hr
  have M2 := Lib.hid (fun W h => MA.out W h ⟨x.toList, q1, e⟩ ⟨by rw [size_toList]; unfold maxLen; omega, opMay_wf hqm, isEvr_wf he⟩)
  unfold Dp.val at M2
  dsimp only at M2
  rw [bs_of] at M2
  clear MA he hq hqm
  rw [hm] at M2 hr
  have HR := Lib.hid (show r = none from by rw [hr, if_neg (by simp)])
  clear hr hm h0
  go_enter Tryz.func92, Tryz.ntmps92
  go_wp2_with fail
  go_at_call 91
  generalize ((w.alloc (.cells #[.string ⟨#[]⟩, .int .u8 0, .int .i64 0, .string ⟨#[]⟩, .string ⟨#[]⟩] 26)).alloc (.cells #[.string x, .int .u8 0, .int .i64 0, .string ⟨#[]⟩, .string ⟨#[]⟩] 26)) = W at *
  generalize hn : w.heap.size = n at *
  obtain ⟨c0_0, c0_1, c0_2, c0_3, c0_4, c1_0, c1_1, c1_2, c1_3, c1_4, l0, l1, f0_0, f0_1, f0_2, f0_3, f0_4, f1_0, f1_1, f1_2, f1_3, f1_4, hB⟩ := id S0
  have c9 : W.cell? ⟨b, o + 2, none⟩ = some (.string z) := (hB.cell (p := ⟨b, o + 2, none⟩) (by omega)).trans hc2
  refine (OP.out _ hB).mono ?_
  rintro e1 w1 ⟨rfl, rfl⟩
  go_wp2_with fail
  go_at_call 137
  refine (EP.out _ hB).mono ?_
  rintro e2 w2 ⟨rfl, h⟩
  have S2 := keep_of S0 h
  clear S0 h c9 hc hc1 hc2 OP EP c0_0 c0_1 c0_2 c0_3 c0_4 c1_0 c1_1 c1_2 c1_3 c1_4 l0 l1 f0_0 f0_1 f0_2 f0_3 f0_4 f1_0 f1_1 f1_2 f1_3 f1_4 hB
  obtain ⟨c0_0, c0_1, c0_2, c0_3, c0_4, c1_0, c1_1, c1_2, c1_3, c1_4, l0, l1, f0_0, f0_1, f0_2, f0_3, f0_4, f1_0, f1_1, f1_2, f1_3, f1_4, hB⟩ := id S2
  have S3 := grow_og (.int .i64 e.epoch) (.string (bs e.ver)) (.string (bs e.rel)) S2
  dsimp only at S3
  have hmn : w2.heap.size ≠ n := by omega
  have hmn1 : w2.heap.size ≠ n + 1 := by omega
  go_wp2_with fail
  generalize hV : w2.alloc (.cells #[.int .i64 e.epoch, .string (bs e.ver), .string (bs e.rel)] 24) = V at *
  generalize w2.heap.size = m at *
  clear S2 hV c0_0 c0_1 c0_2 c0_3 c0_4 c1_0 c1_1 c1_2 c1_3 c1_4 l0 l1 f0_0 f0_1 f0_2 f0_3 f0_4 f1_0 f1_1 f1_2 f1_3 f1_4 hB
  obtain ⟨c0_0, c0_1, c0_2, c0_3, c0_4, c1_0, c1_1, c1_2, c1_3, c1_4, c2_0, c2_1, c2_2, l0, l1, l2, f0_0, f0_1, f0_2, f0_3, f0_4, f1_0, f1_1, f1_2, f1_3, f1_4, hB⟩ := id S3
  go_region
  go_wp2_with fail
  have SF := drew_og (set_og14 (set_og13 (set_og12 (set_og11 S3 hmn1 (.int .u8 q1)) hmn1 (.int .i64 e.epoch)) hmn1 (.string (bs e.ver))) hmn1 (.string (bs e.rel)))
  refine (M2.out _ (tail_og SF)).mono ?_
  rintro e4 w4 ⟨rfl, h⟩
  have S4 := keep_og SF h
  clear SF h S3 c0_0 c0_1 c0_2 c0_3 c0_4 c1_0 c1_1 c1_2 c1_3 c1_4 c2_0 c2_1 c2_2 l0 l1 l2 f0_0 f0_1 f0_2 f0_3 f0_4 f1_0 f1_1 f1_2 f1_3 f1_4 hB
  obtain ⟨c0_0, c0_1, c0_2, c0_3, c0_4, c1_0, c1_1, c1_2, c1_3, c1_4, c2_0, c2_1, c2_2, l0, l1, l2, f0_0, f0_1, f0_2, f0_3, f0_4, f1_0, f1_1, f1_2, f1_3, f1_4, hB⟩ := id S4
  go_wp2_with fail
  have SF := (set_og04 (set_og03 (set_og02 (set_og01 (set_og00 S4 hmn (.string ⟨#[]⟩)) hmn (.int .u8 0)) hmn (.int .i64 0)) hmn (.string ⟨#[]⟩)) hmn (.string ⟨#[]⟩))
  generalize ((((w4.setCell { block := n, off := 0 } (Value.string { data := #[] })).setCell { block := n, off := 1 } (Value.int IntKind.u8 0)).setCell { block := n, off := 2 } (Value.int IntKind.i64 0)).setCell { block := n, off := 3 } (Value.string { data := #[] })).setCell { block := n, off := 4 } (Value.string { data := #[] }) = U at *
  clear c0_0 c0_1 c0_2 c0_3 c0_4 c1_0 c1_1 c1_2 c1_3 c1_4 c2_0 c2_1 c2_2 l0 l1 l2 f0_0 f0_1 f0_2 f0_3 f0_4 f1_0 f1_1 f1_2 f1_3 f1_4 hB
  obtain ⟨c0_0, c0_1, c0_2, c0_3, c0_4, c1_0, c1_1, c1_2, c1_3, c1_4, c2_0, c2_1, c2_2, l0, l1, l2, f0_0, f0_1, f0_2, f0_3, f0_4, f1_0, f1_1, f1_2, f1_3, f1_4, hB⟩ := id SF
  exact bodyPost_ret (v := ZV) (by unfold ZV; simp [results, Tryz.results92, go_sem, c0_0, c0_1, c0_2, c0_3, c0_4]) rfl ⟨by rw [HR.out]; rfl, by rw [hn]; exact hB⟩
set_option maxRecDepth 100000 in
set_option maxHeartbeats 16000000 in
theorem rdof_three_e (A : Option Addr) (c : Nat) (x y z : ByteArray) (w : World) (hx : x.size ≤ 4000000000) (hy : y.size ≤ 4000000000) (hz : z.size ≤ 4000000000) (hT : TR w A [x, y, z]) (h2 : (opOf y.toList).2 = true) (h0 : (opOf y.toList).1 ≠ 0) (e : Evr) (he : evOf z.toList = some e) (hm : dmayB ⟨x.toList, (opOf y.toList).1, e⟩ = true) : Calls Tryz.prog 92 #[.slice A 3 c] w fun e w' => e = .returned (ofV (dpOf [x.toList, y.toList, z.toList])) ∧ Below w.heap.size w w' := by
  have OP := Lib.hid (fun W (h : Below w.heap.size w W) => ropParse_any y W)
  have EP := Lib.hid (fun W (h : Below w.heap.size w W) => revParse_any z W hz)
  have MA := Lib.hid (fun W (h : Below w.heap.size w W) => fun d hd => rdmay_any d W hd)
  skip
  have S0 := new_of x w
  dsimp only at S0
  obtain ⟨r, hr⟩ : ∃ r, r = dpOf [x.toList, y.toList, z.toList] := ⟨_, rfl⟩
  rw [← hr]
  unfold dpOf at hr
  dsimp only at hr
  obtain ⟨b, o, rfl, hb, hc, hc1, hc2⟩ := hT.three
  clear hT
  have hq := @opText_of y.toList
  generalize opOf y.toList = q at *
  obtain ⟨q1, q2⟩ := q
  dsimp only at *
  obtain rfl := h2
  have h1 : (q1 == 0) = false := by simpa using h0
  have hqm := (hq rfl h0).2
  rw [parseV_some he] at EP
  rw [he] at hr
  dsimp only at hr
  have M2 := Lib.hid (fun W h => MA.out W h ⟨x.toList, q1, e⟩ ⟨by rw [size_toList]; unfold maxLen; omega, opMay_wf hqm, isEvr_wf he⟩)
  unfold Dp.val at M2
  dsimp only at M2
  rw [bs_of] at M2
  clear MA he hq hqm
  rw [hm] at M2 hr
  have HR := Lib.hid (show r = some ⟨x.toList, q1, e⟩ from by rw [hr, if_pos ⟨rfl, h0, rfl⟩])
  clear hr hm h0
  go_enter Tryz.func92, Tryz.ntmps92
  go_wp2_with fail
  go_at_call 91
  generalize ((w.alloc (.cells #[.string ⟨#[]⟩, .int .u8 0, .int .i64 0, .string ⟨#[]⟩, .string ⟨#[]⟩] 26)).alloc (.cells #[.string x, .int .u8 0, .int .i64 0, .string ⟨#[]⟩, .string ⟨#[]⟩] 26)) = W at *
  generalize hn : w.heap.size = n at *
  obtain ⟨c0_0, c0_1, c0_2, c0_3, c0_4, c1_0, c1_1, c1_2, c1_3, c1_4, l0, l1, f0_0, f0_1, f0_2, f0_3, f0_4, f1_0, f1_1, f1_2, f1_3, f1_4, hB⟩ := id S0
  have c9 : W.cell? ⟨b, o + 2, none⟩ = some (.string z) := (hB.cell (p := ⟨b, o + 2, none⟩) (by omega)).trans hc2
  refine (OP.out _ hB).mono ?_
  rintro e1 w1 ⟨rfl, rfl⟩
  go_wp2_with fail
  go_at_call 137
  refine (EP.out _ hB).mono ?_
  rintro e2 w2 ⟨rfl, h⟩
  have S2 := keep_of S0 h
  clear S0 h c9 hc hc1 hc2 OP EP c0_0 c0_1 c0_2 c0_3 c0_4 c1_0 c1_1 c1_2 c1_3 c1_4 l0 l1 f0_0 f0_1 f0_2 f0_3 f0_4 f1_0 f1_1 f1_2 f1_3 f1_4 hB
  obtain ⟨c0_0, c0_1, c0_2, c0_3, c0_4, c1_0, c1_1, c1_2, c1_3, c1_4, l0, l1, f0_0, f0_1, f0_2, f0_3, f0_4, f1_0, f1_1, f1_2, f1_3, f1_4, hB⟩ := id S2
  have S3 := grow_og (.int .i64 e.epoch) (.string (bs e.ver)) (.string (bs e.rel)) S2
  dsimp only at S3
  have hmn : w2.heap.size ≠ n := by omega
  have hmn1 : w2.heap.size ≠ n + 1 := by omega
  go_wp2_with fail
  generalize hV : w2.alloc (.cells #[.int .i64 e.epoch, .string (bs e.ver), .string (bs e.rel)] 24) = V at *
  generalize w2.heap.size = m at *
  clear S2 hV c0_0 c0_1 c0_2 c0_3 c0_4 c1_0 c1_1 c1_2 c1_3 c1_4 l0 l1 f0_0 f0_1 f0_2 f0_3 f0_4 f1_0 f1_1 f1_2 f1_3 f1_4 hB
  obtain ⟨c0_0, c0_1, c0_2, c0_3, c0_4, c1_0, c1_1, c1_2, c1_3, c1_4, c2_0, c2_1, c2_2, l0, l1, l2, f0_0, f0_1, f0_2, f0_3, f0_4, f1_0, f1_1, f1_2, f1_3, f1_4, hB⟩ := id S3
  go_region
  go_wp2_with fail
  have SF := drew_og (set_og14 (set_og13 (set_og12 (set_og11 S3 hmn1 (.int .u8 q1)) hmn1 (.int .i64 e.epoch)) hmn1 (.string (bs e.ver))) hmn1 (.string (bs e.rel)))
  refine (M2.out _ (tail_og SF)).mono ?_
  rintro e4 w4 ⟨rfl, h⟩
  have S4 := keep_og SF h
  clear SF h S3 c0_0 c0_1 c0_2 c0_3 c0_4 c1_0 c1_1 c1_2 c1_3 c1_4 c2_0 c2_1 c2_2 l0 l1 l2 f0_0 f0_1 f0_2 f0_3 f0_4 f1_0 f1_1 f1_2 f1_3 f1_4 hB
  obtain ⟨c0_0, c0_1, c0_2, c0_3, c0_4, c1_0, c1_1, c1_2, c1_3, c1_4, c2_0, c2_1, c2_2, l0, l1, l2, f0_0, f0_1, f0_2, f0_3, f0_4, f1_0, f1_1, f1_2, f1_3, f1_4, hB⟩ := id S4
  go_wp2_with fail
  have SF := (set_og04 (set_og03 (set_og02 (set_og01 (set_og00 S4 hmn (.string x)) hmn (.int .u8 q1)) hmn (.int .i64 e.epoch)) hmn (.string (bs e.ver))) hmn (.string (bs e.rel)))
  generalize ((((w4.setCell { block := n, off := 0 } (Value.string x)).setCell { block := n, off := 1 } (Value.int IntKind.u8 q1)).setCell { block := n, off := 2 } (Value.int IntKind.i64 e.epoch)).setCell { block := n, off := 3 } (Value.string (bs e.ver))).setCell { block := n, off := 4 } (Value.string (bs e.rel)) = U at *
  clear c0_0 c0_1 c0_2 c0_3 c0_4 c1_0 c1_1 c1_2 c1_3 c1_4 c2_0 c2_1 c2_2 l0 l1 l2 f0_0 f0_1 f0_2 f0_3 f0_4 f1_0 f1_1 f1_2 f1_3 f1_4 hB
  obtain ⟨c0_0, c0_1, c0_2, c0_3, c0_4, c1_0, c1_1, c1_2, c1_3, c1_4, c2_0, c2_1, c2_2, l0, l1, l2, f0_0, f0_1, f0_2, f0_3, f0_4, f1_0, f1_1, f1_2, f1_3, f1_4, hB⟩ := id SF
  rw [HR.out]
  exact bodyPost_ret (v := .tuple #[.agg #[.string x, .int .u8 q1, .int .i64 e.epoch, .string (bs e.ver), .string (bs e.rel)], .int .i64 0]) (by simp [results, Tryz.results92, go_sem, c0_0, c0_1, c0_2, c0_3, c0_4]) rfl ⟨by unfold ofV Dp.val; dsimp only; rw [bs_of], by rw [hn]; exact hB⟩
set_option maxRecDepth 100000 in
set_option maxHeartbeats 16000000 in
theorem dof_len (A : Option Addr) (c n : Nat) (w : World) (h1 : n ≠ 1) (h3 : n ≠ 3) (hn : n ≤ 1000000000) : Calls Tryz.prog 133 #[.slice A n c] w fun e w' => e = .returned ZV ∧ Below w.heap.size w w' := by
  have a1 : ((n : Int) == 1) = false := by simp only [beq_eq_false_iff_ne]; omega
  have a2 : ((n : Int) != 1) = true := by simp only [bne_iff_ne, ne_eq]; omega
  have b1 : ((n : Int) == 3) = false := by simp only [beq_eq_false_iff_ne]; omega
  have b2 : ((n : Int) != 3) = true := by simp only [bne_iff_ne, ne_eq]; omega
  clear h1 h3
  go_enter Tryz.func133, Tryz.ntmps133
  go_wp2_with fail
  exact bodyPost_ret (v := ZV) (by unfold ZV; simp [results, Tryz.results133, go_sem]) rfl ⟨rfl, (Below.refl _ _).alloc (Nat.le_refl _) _⟩
theorem dof_any (A : Option Addr) (c : Nat) (D : List ByteArray) (w : World) (hD : D.length ≤ 1000000000) (hl : ∀ s ∈ D, s.size ≤ 4000000000) (hT : TR w A D) (hI : DpIn w) : Calls Tryz.prog 133 #[.slice A D.length c] w fun e w' => e = .returned (ofV (dpOf (D.map (·.toList)))) ∧ Below w.heap.size w w' := by
  by_cases h1 : D.length = 1
  · obtain ⟨x, rfl⟩ : ∃ x, D = [x] := List.length_eq_one_iff.1 h1
    exact dof_one A c x w (hl x (by simp)) hT hI
  by_cases h3 : D.length = 3
  · obtain ⟨x, y, z, rfl⟩ : ∃ x y z, D = [x, y, z] := by
      match D, h3 with
      | [x, y, z], _ => exact ⟨x, y, z, rfl⟩
    have hx := hl x (by simp)
    have hy := hl y (by simp)
    have hz := hl z (by simp)
    show Calls Tryz.prog 133 #[.slice A 3 c] w fun e w' => e = .returned (ofV (dpOf [x.toList, y.toList, z.toList])) ∧ Below w.heap.size w w'
    cases h2 : (opOf y.toList).2 with
    | false => exact dof_three_a A c x y z w hx hy hz hT hI h2
    | true =>
      by_cases h0 : (opOf y.toList).1 = 0
      · exact dof_three_b A c x y z w hx hy hz hT hI h2 h0
      · cases he : evOf z.toList with
        | none => exact dof_three_c A c x y z w hx hy hz hT hI h2 h0 he
        | some e =>
          cases hm : dmayB ⟨x.toList, (opOf y.toList).1, e⟩ with
          | false => exact dof_three_d A c x y z w hx hy hz hT hI h2 h0 e he hm
          | true => exact dof_three_e A c x y z w hx hy hz hT hI h2 h0 e he hm
  · refine (dof_len A c D.length w h1 h3 hD).mono ?_
    rintro e w' ⟨rfl, h⟩
    exact ⟨by rw [dpOf_len (by simpa using h1) (by simpa using h3)]; rfl, h⟩
set_option maxRecDepth 100000 in
set_option maxHeartbeats 16000000 in
theorem rdof_len (A : Option Addr) (c n : Nat) (w : World) (h1 : n ≠ 1) (h3 : n ≠ 3) (hn : n ≤ 1000000000) : Calls Tryz.prog 92 #[.slice A n c] w fun e w' => e = .returned ZV ∧ Below w.heap.size w w' := by
  have a1 : ((n : Int) == 1) = false := by simp only [beq_eq_false_iff_ne]; omega
  have a2 : ((n : Int) != 1) = true := by simp only [bne_iff_ne, ne_eq]; omega
  have b1 : ((n : Int) == 3) = false := by simp only [beq_eq_false_iff_ne]; omega
  have b2 : ((n : Int) != 3) = true := by simp only [bne_iff_ne, ne_eq]; omega
  clear h1 h3
  go_enter Tryz.func92, Tryz.ntmps92
  go_wp2_with fail
  exact bodyPost_ret (v := ZV) (by unfold ZV; simp [results, Tryz.results92, go_sem]) rfl ⟨rfl, (Below.refl _ _).alloc (Nat.le_refl _) _⟩
theorem rdof_any (A : Option Addr) (c : Nat) (D : List ByteArray) (w : World) (hD : D.length ≤ 1000000000) (hl : ∀ s ∈ D, s.size ≤ 4000000000) (hT : TR w A D) : Calls Tryz.prog 92 #[.slice A D.length c] w fun e w' => e = .returned (ofV (dpOf (D.map (·.toList)))) ∧ Below w.heap.size w w' := by
  by_cases h1 : D.length = 1
  · obtain ⟨x, rfl⟩ : ∃ x, D = [x] := List.length_eq_one_iff.1 h1
    exact rdof_one A c x w (hl x (by simp)) hT
  by_cases h3 : D.length = 3
  · obtain ⟨x, y, z, rfl⟩ : ∃ x y z, D = [x, y, z] := by
      match D, h3 with
      | [x, y, z], _ => exact ⟨x, y, z, rfl⟩
    have hx := hl x (by simp)
    have hy := hl y (by simp)
    have hz := hl z (by simp)
    show Calls Tryz.prog 92 #[.slice A 3 c] w fun e w' => e = .returned (ofV (dpOf [x.toList, y.toList, z.toList])) ∧ Below w.heap.size w w'
    cases h2 : (opOf y.toList).2 with
    | false => exact rdof_three_a A c x y z w hx hy hz hT h2
    | true =>
      by_cases h0 : (opOf y.toList).1 = 0
      · exact rdof_three_b A c x y z w hx hy hz hT h2 h0
      · cases he : evOf z.toList with
        | none => exact rdof_three_c A c x y z w hx hy hz hT h2 h0 he
        | some e =>
          cases hm : dmayB ⟨x.toList, (opOf y.toList).1, e⟩ with
          | false => exact rdof_three_d A c x y z w hx hy hz hT h2 h0 e he hm
          | true => exact rdof_three_e A c x y z w hx hy hz hT h2 h0 e he hm
  · refine (rdof_len A c D.length w h1 h3 hD).mono ?_
    rintro e w' ⟨rfl, h⟩
    exact ⟨by rw [dpOf_len (by simpa using h1) (by simpa using h3)]; rfl, h⟩
end Go.Proofs.YtnfagaccbkeikaaGreatDoor
